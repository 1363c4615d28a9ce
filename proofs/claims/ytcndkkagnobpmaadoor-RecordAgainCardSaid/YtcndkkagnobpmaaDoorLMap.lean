/-
  A map from numbers to values of any kind, each value kept verbatim: look, put, clear, range.
-/
import Derived.Test.YtcndkkagnobpmaaDoorWords2
import Derived.Maps.Own
import Derived.Maps.OwnOps
import Derived.Maps.Views
import Derived.Maps.RangeWalk
namespace Go.Proofs.YtcndkkagnobpmaaDoor
open Go.RowKit Go.Maps
set_option linter.unusedVariables false

def R0 (v : Value) : Option (DataW Value × List MemPlace) := some (.held v, [])
theorem keyedI : Keyed Tryd.prog 3 := int_keyed Tryd.underlying3
def keyI (i : Nat) : Lit := .int .i64 (i : Int)
theorem keyI_wf (i : Nat) (h : i < 1000000) : (Lit.int .i64 (i : Int)).wf = true := by
  simp only [Lit.wf, IntKind.min, IntKind.max, IntKind.signed, IntKind.bits, Bool.and_eq_true, decide_eq_true_eq, if_true]
  omega
theorem keyI_of (i : Nat) (h : i < 1000000) : keyOf Tryd.prog 3 (.int .i64 (i : Int)) = some (keyI i) := keyOf_int_mk Tryd.underlying3 (keyI_wf i h)
theorem keyI_inj {i j : Nat} (h : keyI i = keyI j) : i = j := by
  unfold keyI at h
  injection h with _ h
  omega
theorem keyI_lit (i : Nat) : WideAt.IsKeyLit (keyI i) := trivial
theorem zeroSl (w : World) : (zeroValue 22).run Tryd.prog w = .ok (.slice none 0 0) w := by kernel_rfl

/-- block M is a map of at most n entries; at number i it holds f i -/
def LMap (w : World) (M n : Nat) (f : Nat → Option Value) : Prop :=
  ∃ D : DataW Value, w.ownsMap Tryd.prog 3 R0 M n D ∧ (∀ i, i < 1000000 → ∀ z, D.atKey (keyI i) z = match f i with | none => z | some v => .held v) ∧ (∀ kl, has D kl = true → ∃ i, i < 1000000 ∧ kl = keyI i ∧ (f i).isSome = true)
section
variable {w w' : World} {M n : Nat} {f : Nat → Option Value} {S : Nat → Prop}
theorem LMap.new (w : World) : LMap (w.alloc (.map #[] 0)) w.heap.size 0 (fun _ => none) :=
  ⟨_, World.ownsMap_made _ _ _ _, fun i _ z => rfl, fun kl h => by simp [has] at h⟩
theorem LMap.lt (h : LMap w M n f) : M < w.heap.size := by obtain ⟨D, h, _⟩ := h; exact h.lt
theorem LMap.of_block (h : LMap w M n f) (hb : w'.heap[M]? = w.heap[M]?) : LMap w' M n f := by
  obtain ⟨D, ⟨es, clock, h1, h2⟩, h3⟩ := h
  exact ⟨D, ⟨es, clock, hb.trans h1, h2⟩, h3⟩
theorem LMap.below (h : LMap w M n f) (hb : Below w.heap.size w w') : LMap w' M n f := h.of_block (hb.block M h.lt)
theorem LMap.fr (h : LMap w M n f) (hf : Fr S w w') (hM : ¬ S M) : LMap w' M n f := h.of_block (hf.block M h.lt hM)
theorem LMap.drew (h : LMap w M n f) : LMap w.drew M n f := h
theorem LMap.mono (h : LMap w M n f) {m : Nat} (hm : n ≤ m) : LMap w M m f := by
  obtain ⟨D, h1, h2⟩ := h
  exact ⟨D, h1.mono hm, h2⟩
theorem LMap.not_blk (h : LMap w M n f) {t : TypeId} {cs : Array Value} {g : Nat} (hb : Blk w g t cs) : g ≠ M := by
  rintro rfl
  obtain ⟨D, ⟨es, clock, h, _⟩, _⟩ := h
  unfold Blk at hb
  rw [h] at hb
  cases hb
theorem LMap.noCell (h : LMap w M n f) (o : Nat) : w.cell? ⟨M, o, none⟩ = none := by
  obtain ⟨D, ⟨es, clock, h, _⟩, _⟩ := h
  simp [World.cell?, h]
theorem LMap.isMap {D : DataW Value} (h : w.ownsMap Tryd.prog 3 R0 M n D) : IsMap D := by
  obtain ⟨es, clock, _, _, _, rfl⟩ := h
  exact ⟨_, rfl⟩
/-- 'v, is := m[i]' -/
theorem LMap.look (h : LMap w M n f) {i : Nat} (hi : i < 1000000) : (Instr.lookup 61 (.map (some M)) (.int .i64 (i : Int)) true).run Tryd.prog w = .ok (.tuple #[(f i).getD (.slice none 0 0), .bool (f i).isSome]) w := by
  obtain ⟨D, ⟨es, clock, hb, F, _, rfl⟩, h2, _⟩ := h
  have h2i := h2 i hi
  rcases fit_look true keyedI Tryd.underlying61 (zeroSl w) hb F (keyI_of i hi) with ⟨hrun, _, hat⟩ | ⟨e0, y, _, _, hrun, hRv, hat, _⟩
  · cases hf : f i with
    | none => rw [hrun]; rfl
    | some v =>
      exfalso
      have h3 := (hat (.map [])).symm.trans (h2i (.map []))
      rw [hf] at h3
      cases h3
  · cases hf : f i with
    | none =>
      exfalso
      have h3 := (hat (.held (.bool true))).symm.trans (h2i (.held (.bool true)))
      have h4 := (hat (.held (.bool false))).symm.trans (h2i (.held (.bool false)))
      rw [hf] at h3 h4
      simp only at h3 h4
      rw [h3] at h4
      cases h4
    | some v =>
      have h3 := (hat (.map [])).symm.trans (h2i (.map []))
      rw [hf] at h3
      unfold R0 at hRv
      cases hRv
      cases h3
      rw [hrun]; rfl
/-- 'm[i]' -/
theorem LMap.look1 (h : LMap w M n f) {i : Nat} (hi : i < 1000000) : (Instr.lookup 61 (.map (some M)) (.int .i64 (i : Int)) false).run Tryd.prog w = .ok ((f i).getD (.slice none 0 0)) w := by
  obtain ⟨D, ⟨es, clock, hb, F, _, rfl⟩, h2, _⟩ := h
  have h2i := h2 i hi
  rcases fit_look false keyedI Tryd.underlying61 (zeroSl w) hb F (keyI_of i hi) with ⟨hrun, _, hat⟩ | ⟨e0, y, _, _, hrun, hRv, hat, _⟩
  · cases hf : f i with
    | none => rw [hrun]; rfl
    | some v =>
      exfalso
      have h3 := (hat (.map [])).symm.trans (h2i (.map []))
      rw [hf] at h3
      cases h3
  · cases hf : f i with
    | none =>
      exfalso
      have h3 := (hat (.held (.bool true))).symm.trans (h2i (.held (.bool true)))
      have h4 := (hat (.held (.bool false))).symm.trans (h2i (.held (.bool false)))
      rw [hf] at h3 h4
      simp only at h3 h4
      rw [h3] at h4
      cases h4
    | some v =>
      have h3 := (hat (.map [])).symm.trans (h2i (.map []))
      rw [hf] at h3
      unfold R0 at hRv
      cases hRv
      cases h3
      rw [hrun]; rfl
/-- at a number that may be no place: nothing is there -/
theorem LMap.look_far (h : LMap w M n f) {i : Int} (hw : (Lit.int .i64 i).wf = true) (hi : i < 0 ∨ 1000000 ≤ i) (c : Bool) : (Instr.lookup 61 (.map (some M)) (.int .i64 i) c).run Tryd.prog w = .ok (if c then .tuple #[.slice none 0 0, .bool false] else .slice none 0 0) w := by
  obtain ⟨D, hD, h2, h3⟩ := h
  obtain ⟨es, clock, hb, F, _, rfl⟩ := hD
  rcases fit_look c keyedI Tryd.underlying61 (zeroSl w) hb F (keyOf_int_mk Tryd.underlying3 hw) with ⟨hrun, _, hat⟩ | ⟨e0, y, _, _, hrun, hRv, hat, _⟩
  · exact hrun
  · exfalso
    obtain ⟨j, hj, e, _⟩ := h3 _ (has_true_of_atKey hat)
    unfold keyI at e
    injection e with _ e
    omega
theorem LMap.update {D : DataW Value} {i : Nat} (hi : i < 1000000) (v : Value) (hm : IsMap D) (h2 : ∀ i, i < 1000000 → ∀ z, D.atKey (keyI i) z = match f i with | none => z | some v => .held v) (h3 : ∀ kl, has D kl = true → ∃ i, i < 1000000 ∧ kl = keyI i ∧ (f i).isSome = true) :
    (∀ j, j < 1000000 → ∀ z, (D.put (keyI i) (.held v)).atKey (keyI j) z = match (if j = i then some v else f j) with | none => z | some v => .held v) ∧ (∀ kl, has (D.put (keyI i) (.held v)) kl = true → ∃ j, j < 1000000 ∧ kl = keyI j ∧ (if j = i then some v else f j).isSome = true) := by
  constructor
  · intro j hj z
    by_cases e : j = i
    · subst e
      rw [atKey_put_same hm (keyI_lit j), if_pos rfl]
    · rw [atKey_put_other (fun x => e (keyI_inj x)), if_neg e]
      exact h2 j hj z
  · intro kl hk
    by_cases e : kl = keyI i
    · exact ⟨i, hi, e, by rw [if_pos rfl]; rfl⟩
    · rw [has_put_other e] at hk
      obtain ⟨j, hj, e2, e3⟩ := h3 kl hk
      refine ⟨j, hj, e2, ?_⟩
      by_cases ej : j = i
      · rw [if_pos ej]; rfl
      · rw [if_neg ej]; exact e3
/-- 'm[i] = v' -/
theorem LMap.put (h : LMap w M n f) {i : Nat} (hi : i < 1000000) (hn : n < maxLen) (v : Value) :
    ∃ w', (Instr.mapUpdate 61 (.map (some M)) (.int .i64 (i : Int)) v).run Tryd.prog w = .ok () w' ∧ LMap w' M (n + 1) (fun j => if j = i then some v else f j) ∧ Fr (· = M) w w' := by
  obtain ⟨D, h1, h2, h3⟩ := h
  obtain ⟨w', hrun, ho, hg⟩ := h1.update keyedI Tryd.underlying61 hn (keyI_of i hi) (show R0 v = some (.held v, []) from rfl)
  have hu := LMap.update hi v (LMap.isMap h1) h2 h3
  exact ⟨w', hrun, ⟨_, ho, hu.1, hu.2⟩, Fr.of_grown hg (fun k e => by cases e; rfl)⟩
/-- 'clear(m)' -/
theorem LMap.clear (h : LMap w M n f) (ty : TypeId) :
    ∃ w', (Builtin.clear_ #[61] ty #[.map (some M)]).run Tryd.prog w = .ok (.tuple #[]) w' ∧ LMap w' M 0 (fun _ => none) ∧ Fr (· = M) w w' := by
  obtain ⟨D, ⟨es, clock, hb, F, _, rfl⟩, h2, h3⟩ := h
  refine ⟨ChangeMaps.setBlock w M (.map #[] clock), ?_, ⟨.map [], ⟨#[], clock, ChangeMaps.heap_setBlock_same hb _, ⟨by simp, Go.MapKept.stamped_empty _, by simp⟩, Nat.le_refl _, rfl⟩, fun i _ z => rfl, fun kl h => by simp [has] at h⟩, ?_⟩
  · simp [Builtin.clear_, run_underlying Tryd.underlying61, MapKept.run_getObj_map hb, MapKept.run_setObj_map _ hb, Result.andThen, ChangeMaps.setBlock]
  · exact ⟨rfl, rfl, rfl, by simp [ChangeMaps.setBlock], fun i _ hi => ChangeMaps.heap_setBlock_other hb _ hi⟩
end
end Go.Proofs.YtcndkkagnobpmaaDoor
