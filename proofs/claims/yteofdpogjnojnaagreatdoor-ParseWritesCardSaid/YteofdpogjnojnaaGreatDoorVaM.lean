/-
  Values in memory: trees of rows.
-/
import Derived.Test.YteofdpogjnojnaaGreatDoorWords
import Derived.Test.YteofdpogjnojnaaGreatDoorBy
import Derived.Test.YteofdpogjnojnaaGreatDoorOwnR
import Derived.Handy
namespace Go.Proofs.YteofdpogjnojnaaGreatDoor
open Go.RowKit
set_option linter.unusedVariables false
set_option linter.unusedSimpArgs false

/-- a value in memory: (the key that it lies at,) its kind, number, text, and where its list and its pairs lie -/
inductive MV where
  | mk (key : ByteArray) (k n : Int) (s : ByteArray) (lA : Option Addr) (lc : Nat) (l : List MV) (mA : Option Addr) (mc : Nat) (m : List MV)
/-- a value, wherever it lies -/
inductive PV where
  | mk (k n : Int) (s : ByteArray) (l : List PV) (ks : List ByteArray) (m : List PV)
namespace MV
def key : MV → ByteArray | .mk a _ _ _ _ _ _ _ _ _ => a
def k : MV → Int | .mk _ a _ _ _ _ _ _ _ _ => a
def n : MV → Int | .mk _ _ a _ _ _ _ _ _ _ => a
def s : MV → ByteArray | .mk _ _ _ a _ _ _ _ _ _ => a
def lA : MV → Option Addr | .mk _ _ _ _ a _ _ _ _ _ => a
def lc : MV → Nat | .mk _ _ _ _ _ a _ _ _ _ => a
def l : MV → List MV | .mk _ _ _ _ _ _ a _ _ _ => a
def mA : MV → Option Addr | .mk _ _ _ _ _ _ _ a _ _ => a
def mc : MV → Nat | .mk _ _ _ _ _ _ _ _ a _ => a
def m : MV → List MV | .mk _ _ _ _ _ _ _ _ _ a => a
/-- without its key -/
def bare : MV → MV | .mk _ k n s lA lc l mA mc m => .mk ⟨#[]⟩ k n s lA lc l mA mc m
def cs (v : MV) : List Value := [.int .i64 v.k, .int .i64 v.n, .string v.s, .slice v.lA v.l.length v.lc, .slice v.mA v.m.length v.mc]
def val (v : MV) : Value := .agg #[.int .i64 v.k, .int .i64 v.n, .string v.s, .slice v.lA v.l.length v.lc, .slice v.mA v.m.length v.mc]
def pcs (v : MV) : List Value := .string v.key :: v.cs
def pval (v : MV) : Value := .agg #[.string v.key, .int .i64 v.k, .int .i64 v.n, .string v.s, .slice v.lA v.l.length v.lc, .slice v.mA v.m.length v.mc]
mutual
def pv : MV → PV
  | .mk _ k n s _ _ l _ _ m => .mk k n s (pvL l) (m.map key) (pvL m)
def pvL : List MV → List PV
  | [] => []
  | v :: r => pv v :: pvL r
end
mutual
def dep : MV → Nat
  | .mk _ _ _ _ _ _ l _ _ m => max (depL l) (depL m) + 1
def depL : List MV → Nat
  | [] => 0
  | v :: r => max (dep v) (depL r)
end
mutual
def cnt : MV → Nat
  | .mk _ _ _ _ _ _ l _ _ m => cntL l + cntL m + 1
def cntL : List MV → Nat
  | [] => 0
  | v :: r => cnt v + cntL r
end
mutual
def wt : MV → Nat
  | .mk _ _ _ s _ _ l _ _ m => wtL l + wtM m + (1 + s.size / 10)
def wtL : List MV → Nat
  | [] => 0
  | v :: r => wt v + wtL r
def wtM : List MV → Nat
  | [] => 0
  | .mk a k n s lA lc l mA mc m :: r => 1 + a.size / 10 + wt (.mk a k n s lA lc l mA mc m) + wtM r
end
end MV
theorem pvL_map (l : List MV) : MV.pvL l = l.map MV.pv := by
  induction l with
  | nil => rfl
  | cons v r ih => rw [MV.pvL, ih]; rfl
/-- a value lies in a world -/
inductive VAt (w : World) : MV → Prop
  | mk {key : ByteArray} {k n : Int} {s : ByteArray} {lA : Option Addr} {lc : Nat} {l : List MV} {mA : Option Addr} {mc : Nat} {m : List MV} :
    (Lit.int .i64 k).wf = true → (Lit.int .i64 n).wf = true → Reads w w.heap.size 5 lA l.length (l.flatMap MV.cs) → l.length ≤ lc → lc ≤ maxLen → Reads w w.heap.size 6 mA m.length (m.flatMap MV.pcs) → m.length ≤ mc → mc ≤ maxLen →
    (∀ x ∈ l, VAt w x) → (∀ x ∈ m, VAt w x) → VAt w (.mk key k n s lA lc l mA mc m)
theorem csL_len (l : List MV) : (l.flatMap MV.cs).length = l.length * 5 := by
  induction l with
  | nil => rfl
  | cons v r ih => rw [List.flatMap_cons, List.length_append, ih, List.length_cons]; simp [MV.cs]; omega
theorem csM_len (l : List MV) : (l.flatMap MV.pcs).length = l.length * 6 := by
  induction l with
  | nil => rfl
  | cons v r ih => rw [List.flatMap_cons, List.length_append, ih, List.length_cons]; simp [MV.pcs, MV.cs]; omega
theorem csL_at : ∀ (l : List MV) (i : Nat) (hi : i < l.length) (j : Nat), j < 5 → (l.flatMap MV.cs)[i * 5 + j]? = l[i].cs[j]?
  | [], i, h, _, _ => by simp at h
  | v :: r, 0, _, j, hj => by
    rw [List.flatMap_cons, List.getElem?_append_left (by simp [MV.cs]; omega), Nat.zero_mul, Nat.zero_add]
    rfl
  | v :: r, i + 1, h, j, hj => by
    rw [List.flatMap_cons, List.getElem?_append_right (by simp [MV.cs]; omega), show (i + 1) * 5 + j - v.cs.length = i * 5 + j by simp [MV.cs]; omega, csL_at r i (by simpa using h) j hj]
    rfl
theorem csM_at : ∀ (l : List MV) (i : Nat) (hi : i < l.length) (j : Nat), j < 6 → (l.flatMap MV.pcs)[i * 6 + j]? = l[i].pcs[j]?
  | [], i, h, _, _ => by simp at h
  | v :: r, 0, _, j, hj => by
    rw [List.flatMap_cons, List.getElem?_append_left (by simp [MV.pcs, MV.cs]; omega), Nat.zero_mul, Nat.zero_add]
    rfl
  | v :: r, i + 1, h, j, hj => by
    rw [List.flatMap_cons, List.getElem?_append_right (by simp [MV.pcs, MV.cs]; omega), show (i + 1) * 6 + j - v.pcs.length = i * 6 + j by simp [MV.pcs, MV.cs]; omega, csM_at r i (by simpa using h) j hj]
    rfl
section
variable {w w' : World} {v : MV}
theorem VAt.l (h : VAt w v) : ∀ x ∈ v.l, VAt w x := by cases h; assumption
theorem VAt.m (h : VAt w v) : ∀ x ∈ v.m, VAt w x := by cases h; assumption
theorem VAt.bare (h : VAt w v) : VAt w v.bare := by
  cases h with
  | mk a b c d e f g h i j => exact .mk a b c d e f g h i j
theorem VAt.wk (h : VAt w v) : (Lit.int .i64 v.k).wf = true ∧ (Lit.int .i64 v.n).wf = true := by cases h; constructor <;> assumption
theorem VAt.caps (h : VAt w v) : v.l.length ≤ v.lc ∧ v.lc ≤ maxLen ∧ v.m.length ≤ v.mc ∧ v.mc ≤ maxLen := by
  cases h with
  | mk a b c d e f g h i j => exact ⟨d, e, g, h⟩
theorem VAt.bel (h : VAt w v) (hb : Below w.heap.size w w') : VAt w' v := by
  induction h with
  | mk a b c d e f g h i j ih1 ih2 => exact .mk a b ((Reads.below c hb).more hb.size) d e ((Reads.below f hb).more hb.size) g h ih1 ih2
/-- the cells of an element of its list -/
theorem VAt.la (h : VAt w v) {i : Nat} (hi : i < v.l.length) : ∃ b o, v.lA = some ⟨b, o, none⟩ ∧ b < w.heap.size ∧ ∀ j, j < 5 → w.cell? ⟨b, o + i * 5 + j, none⟩ = (v.l[i]).cs[j]? := by
  cases h with
  | mk a b c d e f g h' i' j' =>
    rename_i key k n s lA lc l mA mc m
    obtain ⟨ad, hA, hlt, hc⟩ := c.2 (by have : i < l.length := hi; omega)
    have h0 : w.cell? (ad.add 0) = some (.int .i64 (l[0]'(by have : i < l.length := hi; omega)).k) := by
      refine hc 0 _ ?_
      have := csL_at l 0 (by have : i < l.length := hi; omega) 0 (by omega)
      rw [Nat.zero_mul, Nat.zero_add] at this
      rw [this]
      rfl
    have e1 : ad.add 0 = ad := by simp [Addr.add]
    rw [e1] at h0
    have e2 := cell_spot h0
    refine ⟨ad.block, ad.off, by rw [← e2]; exact hA, hlt, fun j hj => ?_⟩
    have h1 := csL_at l i hi j hj
    have hx : ∃ u, (l[i]'hi).cs[j]? = some u := by
      rw [List.getElem?_eq_getElem (show j < (l[i]'hi).cs.length by simp [MV.cs]; omega)]
      exact ⟨_, rfl⟩
    obtain ⟨u, hu⟩ := hx
    have h2 := hc _ u (h1.trans hu)
    rw [e2, Addr.add_lit, ← Nat.add_assoc] at h2
    exact h2.trans hu.symm
/-- the cells of an element of its pairs -/
theorem VAt.ma (h : VAt w v) {i : Nat} (hi : i < v.m.length) : ∃ b o, v.mA = some ⟨b, o, none⟩ ∧ b < w.heap.size ∧ ∀ j, j < 6 → w.cell? ⟨b, o + i * 6 + j, none⟩ = (v.m[i]).pcs[j]? := by
  cases h with
  | mk a b c d e f g h' i' j' =>
    rename_i key k n s lA lc l mA mc m
    obtain ⟨ad, hA, hlt, hc⟩ := f.2 (by have : i < m.length := hi; omega)
    have h0 : w.cell? (ad.add 0) = some (.string (m[0]'(by have : i < m.length := hi; omega)).key) := by
      refine hc 0 _ ?_
      have := csM_at m 0 (by have : i < m.length := hi; omega) 0 (by omega)
      rw [Nat.zero_mul, Nat.zero_add] at this
      rw [this]
      rfl
    have e1 : ad.add 0 = ad := by simp [Addr.add]
    rw [e1] at h0
    have e2 := cell_spot h0
    refine ⟨ad.block, ad.off, by rw [← e2]; exact hA, hlt, fun j hj => ?_⟩
    have h1 := csM_at m i hi j hj
    have hx : ∃ u, (m[i]'hi).pcs[j]? = some u := by
      rw [List.getElem?_eq_getElem (show j < (m[i]'hi).pcs.length by simp [MV.pcs, MV.cs]; omega)]
      exact ⟨_, rfl⟩
    obtain ⟨u, hu⟩ := hx
    have h2 := hc _ u (h1.trans hu)
    rw [e2, Addr.add_lit, ← Nat.add_assoc] at h2
    exact h2.trans hu.symm
end
end Go.Proofs.YteofdpogjnojnaaGreatDoor
