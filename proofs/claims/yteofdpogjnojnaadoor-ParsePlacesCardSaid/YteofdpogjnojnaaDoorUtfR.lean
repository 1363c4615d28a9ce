/-
  The reference's characters: May, Bytes, code.
-/
import Derived.Test.YteofdpogjnojnaaDoorWords2
import Derived.Test.YteofdpogjnojnaaDoorAppend
import Derived.Test.YteofdpogjnojnaaDoorUtfPlain
import Derived.Lib.BufferRead
import Derived.Lib.ConvBytes
import Derived.LoopTactic
import Derived.Deep.RegionHeld
import Derived.Deep.RegionHeld3
import Derived.Deep.QuietTactic
import Derived.BigQuiet
import Derived.Outline
namespace Go.Proofs.YteofdpogjnojnaaDoor
open Go.RowKit Utf
set_option linter.unusedVariables false

theorem ret_int {k : IntKind} {a b : Int} (h : a = b) : Ending.returned (.int k a) = .returned (.int k b) := by rw [h]
theorem ret_bool {a b : Bool} (h : a = b) : Ending.returned (.bool a) = .returned (.bool b) := by rw [h]
theorem below3 {w w1 w2 w3 : World} (h1 : Below w.heap.size w w1) (h2 : Below w1.heap.size w1 w2) (h3 : Below w2.heap.size w2 w3) : Below w.heap.size w w3 :=
  (h1.trans (h2.mono h1.size)).trans (h3.mono (Nat.le_trans h1.size h2.size))
theorem below2 {w w1 w2 : World} (h1 : Below w.heap.size w w1) (h2 : Below w1.heap.size w1 w2) : Below w.heap.size w w2 := h1.trans (h2.mono h1.size)
theorem below_al {w w1 : World} (o : Obj) (h1 : Below w.heap.size w w1) : Below w.heap.size w (w1.alloc o) := h1.alloc h1.size _
theorem below_new (w : World) (o : Obj) : Below w.heap.size w (w.alloc o) := (Below.refl _ _).alloc (Nat.le_refl _) _
theorem dnU {B : Nat} {w w' : World} (h : Below B w w') (n : Nat) : Below B w (w'.drewN n) :=
  ⟨h.os, h.tape, h.output, h.size, h.block⟩
theorem run_string {w : World} {A : Option Addr} {l : List UInt8} (h : RB w A l) (n c : Nat) (hn : l.length = n) :
    (convert 22 9 (.slice A n c)).run Tryd.prog w = .ok (.string ⟨l.toArray⟩) w := by
  subst hn
  rcases A with _ | ad
  · have hl : l = [] := by
      rcases Nat.eq_zero_or_pos l.length with h0 | h0
      · exact List.eq_nil_of_length_eq_zero h0
      · obtain ⟨ad, h, _⟩ := h.2 h0; cases h
    subst hl
    exact Lib.run_convert_nil_bytes w _ _ _ c Tryd.underlying22 Tryd.underlying5 Tryd.underlying9
  · refine run_convert_bytes_back w _ _ _ ad c l Tryd.underlying22 Tryd.underlying5 Tryd.underlying9 (fun j hj => ?_)
    obtain ⟨a', e, _, hc⟩ := h.at_ hj
    cases e
    exact hc

theorem byteCells_two (a b : Int) (h1 : 0 ≤ a) (h2 : a < 256) (h3 : 0 ≤ b) (h4 : b < 256) : #[Value.int .u8 a, .int .u8 b] = (Lib.byteCells [a.toNat.toUInt8, b.toNat.toUInt8]).toArray := by
  simp only [Lib.byteCells, List.map_cons, List.map_nil, toNat_toUInt8 h1 h2, toNat_toUInt8 h3 h4]
/-- what Bytes hands back, in a block of its own -/
def BytesW (c : Int) (w : World) (e : Ending) (w' : World) : Prop :=
  e = .returned (.slice (some ⟨w.heap.size, 0, none⟩) (encU c).length (encU c).length) ∧ w' = w.alloc (.cells (Lib.byteCells (encU c)).toArray 5)
theorem at_g {s : ByteArray} {k : Nat} (h : k < s.size) : (s[k]).toNat = g s.data.toList k := by
  unfold g
  rw [List.getD_eq_getElem?_getD, List.getElem?_eq_getElem (by simpa using h)]
  rfl
def par (l : List UInt8) (B : Int) (i : Nat) : Int := if i = 1 then g l 0 - B else if i = 2 then 64 * (g l 0 - B) + g l 1 - 128 else if i = 3 then 64 * (64 * (g l 0 - B) + g l 1 - 128) + g l 2 - 128 else 64 * (64 * (64 * (g l 0 - B) + g l 1 - 128) + g l 2 - 128) + g l 3 - 128
theorem par1 (l : List UInt8) (B : Int) : par l B 1 = g l 0 - B := rfl
theorem par2 (l : List UInt8) (B : Int) : par l B 2 = 64 * (g l 0 - B) + g l 1 - 128 := rfl
theorem par3 (l : List UInt8) (B : Int) : par l B 3 = 64 * (64 * (g l 0 - B) + g l 1 - 128) + g l 2 - 128 := rfl
theorem par4 (l : List UInt8) (B : Int) : par l B 4 = 64 * (64 * (64 * (g l 0 - B) + g l 1 - 128) + g l 2 - 128) + g l 3 - 128 := rfl
/-- is it the first character's size -/
theorem nxt_yes {l : List UInt8} {n : Nat} (h1 : 1 ≤ n) (hn : n ≤ l.length) (h : n = (nxt l).2) : mayU (codeU l n) = true ∧ encU (codeU l n) = l.take n ∧ codeU l n = (nxt l).1 := by
  obtain ⟨a, b, c⟩ := nxt_is (l := l) (c := (nxt l).1) (n := n) (by rw [h]) (by omega)
  obtain ⟨d, e, _⟩ := nxt_enc a b c
  rw [e]
  exact ⟨a, c, rfl⟩
theorem nxt_not {l : List UInt8} {n : Nat} (hn : n ≤ l.length) (h : n ≠ (nxt l).2) : mayU (codeU l n) = false ∨ mayU (codeU l n) = true ∧ encU (codeU l n) ≠ l.take n := by
  cases hm : mayU (codeU l n)
  · exact .inl rfl
  · refine .inr ⟨rfl, fun e => h ?_⟩
    rw [(nxt_enc hm hn e).1]
theorem ext_take (s : ByteArray) (k : Nat) : (s.extract 0 k).toList = s.data.toList.take k := by
  rw [ByteArray.toList_eq]; simp
theorem mk_list (l : List UInt8) : (ByteArray.mk l.toArray).toList = l := by
  rw [ByteArray.toList_eq]
theorem bytesW_str {c : Int} {w w1 : World} {E : ByteArray} (hE : E = ByteArray.mk (encU c).toArray) (hw : w1 = w.alloc (.cells (Lib.byteCells (encU c)).toArray 5)) (n m : Nat) (hn : (encU c).length = n) :
    (convert 22 9 (.slice (some ⟨w.heap.size, 0, none⟩) n m)).run Tryd.prog w1 = .ok (.string E) w1 := by
  subst hE; subst hw
  exact run_string (lit_rb w (encU c) _ rfl) n m hn
theorem quiet_l {P : Program} {f : FuncId} {args : Array Value} {w : World} {n : Nat} {v : Value}
    (h : Calls P f args (w.drewN n) fun e w' => e = .returned v ∧ w.drewN n = w') : Calls P f args (w.drewN n) fun e w'' => e = .returned v ∧ ∃ m, w'' = w.drewN m :=
  h.mono fun _ _ ⟨he, hm⟩ => ⟨he, n, hm.symm⟩
end Go.Proofs.YteofdpogjnojnaaDoor
