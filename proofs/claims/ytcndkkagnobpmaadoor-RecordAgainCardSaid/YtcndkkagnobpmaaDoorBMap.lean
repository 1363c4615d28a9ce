/-
  A map from numbers to bools of which nothing is known but that it holds bools.
-/
import Derived.Test.YtcndkkagnobpmaaDoorLMap
import Derived.ChangeKeys
namespace Go.Proofs.YtcndkkagnobpmaaDoor
open Go.RowKit Go.Maps
set_option linter.unusedVariables false

theorem zeroB (w : World) : (zeroValue 4).run Tryd.prog w = .ok (.bool false) w := by kernel_rfl
def BMap (w : World) (M n : Nat) : Prop := ∃ D : DataW Unit, w.ownsMap Tryd.prog 3 (plainElem Tryd.prog 4) M n D
section
variable {w w' : World} {M n : Nat} {S : Nat → Prop}
theorem BMap.new (w : World) : BMap (w.alloc (.map #[] 0)) w.heap.size 0 := ⟨_, World.ownsMap_made _ _ _ _⟩
theorem BMap.lt (h : BMap w M n) : M < w.heap.size := by obtain ⟨D, h⟩ := h; exact h.lt
theorem BMap.of_block (h : BMap w M n) (hb : w'.heap[M]? = w.heap[M]?) : BMap w' M n := by
  obtain ⟨D, ⟨es, clock, h1, h2⟩⟩ := h
  exact ⟨D, ⟨es, clock, hb.trans h1, h2⟩⟩
theorem BMap.below (h : BMap w M n) (hb : Below w.heap.size w w') : BMap w' M n := h.of_block (hb.block M h.lt)
theorem BMap.fr (h : BMap w M n) (hf : Fr S w w') (hM : ¬ S M) : BMap w' M n := h.of_block (hf.block M h.lt hM)
set_option maxRecDepth 100000 in
theorem BMap.look (h : BMap w M n) {i : Int} (hi : (Lit.int .i64 i).wf = true) : ∃ b, (Instr.lookup 89 (.map (some M)) (.int .i64 i) false).run Tryd.prog w = .ok (.bool b) w := by
  obtain ⟨D, h3⟩ := h
  obtain ⟨v, ps, hrun, hv⟩ := h3.lookup keyedI Tryd.underlying89 (zeroB w) (plainElem_bool (H := Unit) Tryd.underlying4 false) (keyOf_int_mk Tryd.underlying3 hi)
  generalize DataW.atKey _ _ _ = q at hv
  unfold plainElem at hv
  rw [Tryd.underlying4] at hv
  cases v <;> simp at hv
  exact ⟨_, hrun⟩
theorem BMap.put (h : BMap w M n) {i : Int} (hi : (Lit.int .i64 i).wf = true) (hn : n < maxLen) :
    ∃ w', (Instr.mapUpdate 89 (.map (some M)) (.int .i64 i) (.bool true)).run Tryd.prog w = .ok () w' ∧ BMap w' M (n + 1) ∧ Fr (· = M) w w' := by
  obtain ⟨D, h3⟩ := h
  obtain ⟨w', hrun, hown, hg⟩ := h3.update keyedI Tryd.underlying89 hn (keyOf_int_mk Tryd.underlying3 hi) (plainElem_bool (H := Unit) Tryd.underlying4 true)
  exact ⟨w', hrun, ⟨_, hown⟩, Fr.of_grown hg (fun k e => by cases e; rfl)⟩
end
end Go.Proofs.YtcndkkagnobpmaaDoor
