/-
 Values in memory: trees of rows.
 The document's Large: how much a value weighs.
 The document's Exact: have two values the same fields?
 Values in rows of their own.
 A region that draws, whose last operation waits for all others (a store into what the region has read): the others go under one condition on the world, the last one stands by itself.
 value.Clone.
 The document's kids, Depth, Count.
 The document's Depth and Count.
 The document's Depth.
-/
import Derived.Test.YtefkpphahimkgaaGreatDoorTk
import Derived.Test.YtefkpphahimkgaaGreatDoorGA
import Derived.Handy
import Derived.Deep.RegionHeld3
import Derived.Deep.DrawnRows
import Derived.Lib.Strings
import Derived.Test.YtefkpphahimkgaaGreatDoorProg
namespace Go.Proofs.YtefkpphahimkgaaGreatDoor
open Go.RowKit
set_option linter.unusedVariables false
set_option linter.unusedSimpArgs false
inductive MV where
 | mk (key : ByteArray) (k n : Int) (s : ByteArray) (lA : Option Addr) (lc : Nat) (l : List MV) (mA : Option Addr) (mc : Nat) (m : List MV)
inductive PV where
 | mk (k n : Int) (s : ByteArray) (l : List PV) (ks : List ByteArray) (m : List PV)
namespace MV
def key : MV → ByteArray | .mk a _ _ _ _ _ _ _ _ _ => a
def k : MV → Int | .mk _ a _ _ _ _ _ _ _ _ => a
def n : MV → Int | .mk _ _ a _ _ _ _ _ _ _ => a
def s : MV → ByteArray | .mk _ _ _ a _ _ _ _ _ _ => a
def lA : MV → Option Addr | .mk _ _ _ _ a _ _ _ _ _ => a
def lc : MV → Nat | .mk _ _ _ _ _ a _ _ _ _ => a
def l : MV → List MV | .mk _ _ _ _ _ _ a _ _ _ => a
def mA : MV → Option Addr | .mk _ _ _ _ _ _ _ a _ _ => a
def mc : MV → Nat | .mk _ _ _ _ _ _ _ _ a _ => a
def m : MV → List MV | .mk _ _ _ _ _ _ _ _ _ a => a
def bare : MV → MV | .mk _ k n s lA lc l mA mc m => .mk ⟨#[]⟩ k n s lA lc l mA mc m
def cs (v : MV) : List Value := [.int .i64 v.k, .int .i64 v.n, .string v.s, .slice v.lA v.l.length v.lc, .slice v.mA v.m.length v.mc]
def val (v : MV) : Value := .agg #[.int .i64 v.k, .int .i64 v.n, .string v.s, .slice v.lA v.l.length v.lc, .slice v.mA v.m.length v.mc]
def pcs (v : MV) : List Value := .string v.key :: v.cs
mutual
def pv : MV → PV
 | .mk _ k n s _ _ l _ _ m => .mk k n s (pvL l) (m.map key) (pvL m)
def pvL : List MV → List PV
 | [] => []
 | v :: r => pv v :: pvL r
end
mutual
def dep : MV → Nat
 | .mk _ _ _ _ _ _ l _ _ m => max (depL l) (depL m) + 1
def depL : List MV → Nat
 | [] => 0
 | v :: r => max (dep v) (depL r)
end
mutual
def cnt : MV → Nat
 | .mk _ _ _ _ _ _ l _ _ m => cntL l + cntL m + 1
def cntL : List MV → Nat
 | [] => 0
 | v :: r => cnt v + cntL r
end
mutual
def wt : MV → Nat
 | .mk _ _ _ s _ _ l _ _ m => wtL l + wtM m + (1 + s.size / 10)
def wtL : List MV → Nat
 | [] => 0
 | v :: r => wt v + wtL r
def wtM : List MV → Nat
 | [] => 0
 | .mk a k n s lA lc l mA mc m :: r => 1 + a.size / 10 + wt (.mk a k n s lA lc l mA mc m) + wtM r
end
end MV
theorem pvL_map (l : List MV) : MV.pvL l = l.map MV.pv := by
 induction l with
 | nil => rfl
 | cons v r ih => rw [MV.pvL, ih]; rfl
inductive VAt (w : World) : MV → Prop
 | mk {key : ByteArray} {k n : Int} {s : ByteArray} {lA : Option Addr} {lc : Nat} {l : List MV} {mA : Option Addr} {mc : Nat} {m : List MV} :
  (Lit.int .i64 k).wf = true → (Lit.int .i64 n).wf = true → Reads w w.heap.size 5 lA l.length (l.flatMap MV.cs) → l.length ≤ lc → lc ≤ maxLen → Reads w w.heap.size 6 mA m.length (m.flatMap MV.pcs) → m.length ≤ mc → mc ≤ maxLen →
  (∀ x ∈ l, VAt w x) → (∀ x ∈ m, VAt w x) → VAt w (.mk key k n s lA lc l mA mc m)
theorem csL_len (l : List MV) : (l.flatMap MV.cs).length = l.length * 5 := by
 induction l with
 | nil => rfl
 | cons v r ih => rw [List.flatMap_cons, List.length_append, ih, List.length_cons]; simp [MV.cs]; omega
theorem csM_len (l : List MV) : (l.flatMap MV.pcs).length = l.length * 6 := by
 induction l with
 | nil => rfl
 | cons v r ih => rw [List.flatMap_cons, List.length_append, ih, List.length_cons]; simp [MV.pcs, MV.cs]; omega
theorem csL_at : ∀ (l : List MV) (i : Nat) (hi : i < l.length) (j : Nat), j < 5 → (l.flatMap MV.cs)[i * 5 + j]? = l[i].cs[j]?
 | [], i, h, _, _ => by simp at h
 | v :: r, 0, _, j, hj => by
  rw [List.flatMap_cons, List.getElem?_append_left (by simp [MV.cs]; omega), Nat.zero_mul, Nat.zero_add]
  rfl
 | v :: r, i + 1, h, j, hj => by
  rw [List.flatMap_cons, List.getElem?_append_right (by simp [MV.cs]; omega), show (i + 1) * 5 + j - v.cs.length = i * 5 + j by simp [MV.cs]; omega, csL_at r i (by simpa using h) j hj]
  rfl
theorem csM_at : ∀ (l : List MV) (i : Nat) (hi : i < l.length) (j : Nat), j < 6 → (l.flatMap MV.pcs)[i * 6 + j]? = l[i].pcs[j]?
 | [], i, h, _, _ => by simp at h
 | v :: r, 0, _, j, hj => by
  rw [List.flatMap_cons, List.getElem?_append_left (by simp [MV.pcs, MV.cs]; omega), Nat.zero_mul, Nat.zero_add]
  rfl
 | v :: r, i + 1, h, j, hj => by
  rw [List.flatMap_cons, List.getElem?_append_right (by simp [MV.pcs, MV.cs]; omega), show (i + 1) * 6 + j - v.pcs.length = i * 6 + j by simp [MV.pcs, MV.cs]; omega, csM_at r i (by simpa using h) j hj]
  rfl
section
variable {w w' : World} {v : MV}
theorem VAt.l (h : VAt w v) : ∀ x ∈ v.l, VAt w x := by cases h; assumption
theorem VAt.m (h : VAt w v) : ∀ x ∈ v.m, VAt w x := by cases h; assumption
theorem VAt.bare (h : VAt w v) : VAt w v.bare := by
 cases h with
 | mk a b c d e f g h i j => exact .mk a b c d e f g h i j
theorem VAt.wk (h : VAt w v) : (Lit.int .i64 v.k).wf = true ∧ (Lit.int .i64 v.n).wf = true := by cases h; constructor <;> assumption
theorem VAt.caps (h : VAt w v) : v.l.length ≤ v.lc ∧ v.lc ≤ maxLen ∧ v.m.length ≤ v.mc ∧ v.mc ≤ maxLen := by
 cases h with
 | mk a b c d e f g h i j => exact ⟨d, e, g, h⟩
theorem VAt.bel (h : VAt w v) (hb : Below w.heap.size w w') : VAt w' v := by
 induction h with
 | mk a b c d e f g h i j ih1 ih2 => exact .mk a b ((Reads.below c hb).more hb.size) d e ((Reads.below f hb).more hb.size) g h ih1 ih2
theorem VAt.la (h : VAt w v) {i : Nat} (hi : i < v.l.length) : ∃ b o, v.lA = some ⟨b, o, none⟩ ∧ b < w.heap.size ∧ ∀ j, j < 5 → w.cell? ⟨b, o + i * 5 + j, none⟩ = (v.l[i]).cs[j]? := by
 cases h with
 | mk a b c d e f g h' i' j' =>
  rename_i key k n s lA lc l mA mc m
  obtain ⟨ad, hA, hlt, hc⟩ := c.2 (by have : i < l.length := hi; omega)
  have h0 : w.cell? (ad.add 0) = some (.int .i64 (l[0]'(by have : i < l.length := hi; omega)).k) := by
   refine hc 0 _ ?_
   have := csL_at l 0 (by have : i < l.length := hi; omega) 0 (by omega)
   rw [Nat.zero_mul, Nat.zero_add] at this
   rw [this]
   rfl
  have e1 : ad.add 0 = ad := by simp [Addr.add]
  rw [e1] at h0
  have e2 := cell_spot h0
  refine ⟨ad.block, ad.off, by rw [← e2]; exact hA, hlt, fun j hj => ?_⟩
  have h1 := csL_at l i hi j hj
  have hx : ∃ u, (l[i]'hi).cs[j]? = some u := by
   rw [List.getElem?_eq_getElem (show j < (l[i]'hi).cs.length by simp [MV.cs]; omega)]
   exact ⟨_, rfl⟩
  obtain ⟨u, hu⟩ := hx
  have h2 := hc _ u (h1.trans hu)
  rw [e2, Addr.add_lit, ← Nat.add_assoc] at h2
  exact h2.trans hu.symm
theorem VAt.ma (h : VAt w v) {i : Nat} (hi : i < v.m.length) : ∃ b o, v.mA = some ⟨b, o, none⟩ ∧ b < w.heap.size ∧ ∀ j, j < 6 → w.cell? ⟨b, o + i * 6 + j, none⟩ = (v.m[i]).pcs[j]? := by
 cases h with
 | mk a b c d e f g h' i' j' =>
  rename_i key k n s lA lc l mA mc m
  obtain ⟨ad, hA, hlt, hc⟩ := f.2 (by have : i < m.length := hi; omega)
  have h0 : w.cell? (ad.add 0) = some (.string (m[0]'(by have : i < m.length := hi; omega)).key) := by
   refine hc 0 _ ?_
   have := csM_at m 0 (by have : i < m.length := hi; omega) 0 (by omega)
   rw [Nat.zero_mul, Nat.zero_add] at this
   rw [this]
   rfl
  have e1 : ad.add 0 = ad := by simp [Addr.add]
  rw [e1] at h0
  have e2 := cell_spot h0
  refine ⟨ad.block, ad.off, by rw [← e2]; exact hA, hlt, fun j hj => ?_⟩
  have h1 := csM_at m i hi j hj
  have hx : ∃ u, (m[i]'hi).pcs[j]? = some u := by
   rw [List.getElem?_eq_getElem (show j < (m[i]'hi).pcs.length by simp [MV.pcs, MV.cs]; omega)]
   exact ⟨_, rfl⟩
  obtain ⟨u, hu⟩ := hx
  have h2 := hc _ u (h1.trans hu)
  rw [e2, Addr.add_lit, ← Nat.add_assoc] at h2
  exact h2.trans hu.symm
end
end Go.Proofs.YtefkpphahimkgaaGreatDoor
namespace Go.Proofs.YtefkpphahimkgaaGreatDoor
open Go.RowKit
attribute [local go_sem ↓] Go.wp_at_zero Go.wp_at_succ
set_option linter.unusedVariables false
set_option linter.unusedSimpArgs false
inductive SzV : MV → Prop
 | mk {key : ByteArray} {k n : Int} {s : ByteArray} {lA : Option Addr} {lc : Nat} {l : List MV} {mA : Option Addr} {mc : Nat} {m : List MV} :
  s.size ≤ 140737488351232 → l.length ≤ 140737488351232 → m.length ≤ 140737488351232 → (∀ x ∈ l, SzV x) → (∀ x ∈ m, x.key.size ≤ 140737488351232) → (∀ x ∈ m, SzV x) → SzV (.mk key k n s lA lc l mA mc m)
inductive FitV : MV → Prop
 | mk {key : ByteArray} {k n : Int} {s : ByteArray} {lA : Option Addr} {lc : Nat} {l : List MV} {mA : Option Addr} {mc : Nat} {m : List MV} :
  l.length + m.length ≤ 3001 → (∀ x ∈ l, FitV x) → (∀ x ∈ m, FitV x) → FitV (.mk key k n s lA lc l mA mc m)
structure Acc (f : List MV → Nat) (l : List MV) (i r base d : Nat) : Prop where
 ge : base ≤ r
 le : r + 100000000000000 ≤ (22 - d) * 1000000000000000
 ok : r ≤ 6000 → r = base + f (l.take i) ∧ (∀ x ∈ l.take i, x.dep + (d + 1) ≤ 21) ∧ (∀ x ∈ l.take i, FitV x)
theorem Acc.more {f : List MV → Nat} {l : List MV} {i r base d r' a : Nat} (h : Acc f l i r base d) (hi : i < l.length) (hd : d ≤ 20) (hr : r ≤ 6000) (hf : f (l.take (i + 1)) = f (l.take i) + (a + l[i].wt)) (ha : a ≤ 20000000000000) (h1 : r' ≤ (22 - (d + 1)) * 1000000000000000) (h2 : r' ≤ 6000 → r' = l[i].wt ∧ l[i].dep + (d + 1) ≤ 21 ∧ FitV l[i]) : Acc f l (i + 1) (r + a + r') base d := by
 obtain ⟨e1, e2, e3⟩ := h.ok hr
 have hg := h.ge
 refine ⟨by omega, by omega, fun h9 => ?_⟩
 obtain ⟨k1, k2, k3⟩ := h2 (by omega)
 refine ⟨by rw [hf]; omega, ?_, ?_⟩
 all_goals
  intro x hx
  rw [List.take_succ_eq_append_getElem hi] at hx
  rcases List.mem_append.1 hx with hx | hx
  ·first | exact e2 x hx | exact e3 x hx
  ·rw [List.mem_singleton] at hx
   subst hx
   assumption
def PF (P : Ending → World → Prop) (e : Ending) (w : World) : Prop := P e w
noncomputable instance : DecidableEq PV := fun _ _ => Classical.propDecidable _
theorem toList_injV {a b : ByteArray} (h : a.toList = b.toList) : a = b := by
 rw [Lib.toList_data, Lib.toList_data] at h
 cases a; cases b
 simp only [ByteArray.mk.injEq]
 exact Array.toList_inj.1 h
theorem nm_beq (a b : ByteArray) : (a.toList == b.toList) = decide (a = b) := by
 by_cases h : a = b
 ·subst h; simp
 ·rw [decide_eq_false h, beq_eq_false_iff_ne]; exact fun e => h (toList_injV e)
def ExP (a b : MV) (w : World) (e : Ending) (w' : World) : Prop := e = .returned (.bool (decide (a.pv = b.pv))) ∧ Below w.heap.size w w'
theorem pvL_ne {l l' : List MV} (i : Nat) (hi : i < l.length) (hi' : i < l'.length) (h : l[i].pv ≠ l'[i].pv) : MV.pvL l ≠ MV.pvL l' := fun e => by
 rw [pvL_map, pvL_map] at e
 have := congrArg (fun x : List PV => x[i]?) e
 simp [hi, hi'] at this
 exact h this
theorem pvL_eq {l l' : List MV} (hl : l.length = l'.length) (h : ∀ i (hi : i < l.length) (hi' : i < l'.length), l[i].pv = l'[i].pv) : MV.pvL l = MV.pvL l' := by
 rw [pvL_map, pvL_map]
 apply List.ext_getElem (by simpa using hl)
 intro i h1 h2
 simp only [List.getElem_map]
 exact h i (by simpa using h1) (by simpa using h2)
theorem key_ne {l l' : List MV} (i : Nat) (hi : i < l.length) (hi' : i < l'.length) (h : l[i].key ≠ l'[i].key) : l.map MV.key ≠ l'.map MV.key := fun e => by
 have := congrArg (fun x : List ByteArray => x[i]?) e
 simp [hi, hi'] at this
 exact h this
theorem key_eq {l l' : List MV} (hl : l.length = l'.length) (h : ∀ i (hi : i < l.length) (hi' : i < l'.length), l[i].key = l'[i].key) : l.map MV.key = l'.map MV.key := by
 apply List.ext_getElem (by simpa using hl)
 intro i h1 h2
 simp only [List.getElem_map]
 exact h i (by simpa using h1) (by simpa using h2)
set_option maxRecDepth 100000 in
set_option maxHeartbeats 16000000 in
theorem rexact_any {w0 : World} {a : MV} (h : VAt w0 a) : ∀ (a' : MV) (w : World), Below w0.heap.size w0 w → VAt w0 a' →
  Calls Tryz.prog 50 #[a.val, a'.val] w fun e w' => ExP a a' w e w' := by
 induction h with
 | mk wk wn rl cl1 cl2 rm cm1 cm2 hl hm ih1 ih2 =>
 rename_i key k n s lA lc l mA mc m
 intro a' w hb hb'
 show Calls Tryz.prog 50 #[_, _] w fun e w' => PF (ExP (.mk key k n s lA lc l mA mc m) a' w) e w'
 have HV : Hid (VAt w (.mk key k n s lA lc l mA mc m)) := Ld ((VAt.mk wk wn rl cl1 cl2 rm cm1 cm2 hl hm).bel hb)
 have HV' := Ld (hb'.bel hb)
 have HB0 := Ld hb
 have HI1 := Ld ih1
 have HI2 := Ld ih2
 have HC' : Hid ((∀ x ∈ a'.l, VAt w0 x) ∧ ∀ x ∈ a'.m, VAt w0 x) := Ld ⟨hb'.l, hb'.m⟩
 have hcap' := hb'.caps
 obtain ⟨key', k', n', s', lA', lc', l', mA', mc', m'⟩ := a'
 unfold MV.val
 simp only [MV.k, MV.n, MV.s, MV.lA, MV.lc, MV.l, MV.mA, MV.mc, MV.m] at hcap' HC' ⊢
 have HENDF : Hid (∀ w', Below w.heap.size w w' → ¬ (k = k' ∧ n = n' ∧ s = s' ∧ MV.pvL l = MV.pvL l' ∧ m.map MV.key = m'.map MV.key ∧ MV.pvL m = MV.pvL m') → PF (ExP (.mk key k n s lA lc l mA mc m) (.mk key' k' n' s' lA' lc' l' mA' mc' m') w) (.returned (.bool false)) w') := Ld (fun w' h1 h2 => ⟨by
  rw [decide_eq_false (fun e => h2 (by rw [MV.pv, MV.pv] at e; injection e with e1 e2 e3 e4 e5 e6; exact ⟨e1, e2, e3, e4, e5, e6⟩))], h1⟩)
 have HENDT : Hid (∀ w', Below w.heap.size w w' → k = k' ∧ n = n' ∧ s = s' ∧ MV.pvL l = MV.pvL l' ∧ m.map MV.key = m'.map MV.key ∧ MV.pvL m = MV.pvL m' → PF (ExP (.mk key k n s lA lc l mA mc m) (.mk key' k' n' s' lA' lc' l' mA' mc' m') w) (.returned (.bool true)) w') := Ld (fun w' h1 ⟨e1, e2, e3, e4, e5, e6⟩ => ⟨by
  rw [decide_eq_true (by rw [MV.pv, MV.pv, e1, e2, e3, e4, e5, e6])], h1⟩)
 obtain ⟨nl, hnl⟩ : ∃ nl, nl = l.length := ⟨_, rfl⟩
 obtain ⟨nm, hnm⟩ : ∃ nm, nm = m.length := ⟨_, rfl⟩
 obtain ⟨nl', hnl'⟩ : ∃ nl, nl = l'.length := ⟨_, rfl⟩
 obtain ⟨nm', hnm'⟩ : ∃ nm, nm = m'.length := ⟨_, rfl⟩
 rw [← hnl, ← hnm, ← hnl', ← hnm']
 have HNL : Hid (l.length = nl) := Ld hnl.symm
 have HNM : Hid (m.length = nm) := Ld hnm.symm
 have HNL' : Hid (l'.length = nl') := Ld hnl'.symm
 have HNM' : Hid (m'.length = nm') := Ld hnm'.symm
 have bl1 : nl ≤ 9223372036854775807 := by unfold maxLen at cl2; omega
 have bm1 : nm ≤ 9223372036854775807 := by unfold maxLen at cm2; omega
 have bl2 : nl' ≤ 9223372036854775807 := by have := hcap'.2.1; unfold maxLen at this; omega
 have bm2 : nm' ≤ 9223372036854775807 := by have := hcap'.2.2.2; unfold maxLen at this; omega
 obtain ⟨W1, hW1⟩ : ∃ W1, W1 = (w.alloc (.cells #[.int .i64 k, .int .i64 n, .string s, .slice lA nl lc, .slice mA nm mc] 30)) := ⟨_, rfl⟩
 have hbx1 : Below w.heap.size w W1 := by rw [hW1]; exact (Below.refl _ _).alloc (Nat.le_refl _) _
 have hkx1 : Blk W1 w.heap.size 30 #[.int .i64 k, .int .i64 n, .string s, .slice lA nl lc, .slice mA nm mc] := by rw [hW1]; exact Blk.new _ _ _
 have hsz1 : W1.heap.size = w.heap.size + 1 := by rw [hW1]; simp
 have hbx2 : Below W1.heap.size W1 (W1.alloc (.cells #[.int .i64 k', .int .i64 n', .string s', .slice lA' nl' lc', .slice mA' nm' mc'] 30)) := (Below.refl _ _).alloc (Nat.le_refl _) _
 have hkx2 : Blk (W1.alloc (.cells #[.int .i64 k', .int .i64 n', .string s', .slice lA' nl' lc', .slice mA' nm' mc'] 30)) W1.heap.size 30 #[.int .i64 k', .int .i64 n', .string s', .slice lA' nl' lc', .slice mA' nm' mc'] := Blk.new _ _ _
 have hkx1' := hkx1.below hbx2 hkx1.lt
 have HBX := Ld (hbx1.trans (hbx2.mono hbx1.size))
 rw [hsz1] at hkx2
 rw [hW1] at hkx1' hkx2 HBX
 have HK1 := Ld hkx1'
 have HK2 := Ld hkx2
 clear hbx1 hkx1 hsz1 hbx2 hkx2 hkx1' hW1 hb hb' ih1 ih2 hl hm rl rm wk wn hnl hnm hnl' hnm' cl1 cl2 cm1 cm2 hcap'
 have hs := nm_beq s s'
 by_cases hk : k = k'
 rotate_left
 ·have q1 : (k == k') = false := by rw [beq_eq_false_iff_ne]; exact hk
  have q2 : (k != k') = true := by rw [bne_iff_ne]; exact hk
  have HR := Ld (HENDF.out _ HBX.out (fun e => hk e.1))
  clear hk
  go_enter Tryz.func50, Tryz.ntmps50
  go_wp2
  go_ret
  exact HR.out
 have HKK := Ld hk
 have q1 : (k == k') = true := by rw [hk]; exact beq_self_eq_true _
 have q2 : (k != k') = false := by rw [hk]; simp
 clear hk
 by_cases hn : n = n'
 rotate_left
 ·have q3 : (n == n') = false := by rw [beq_eq_false_iff_ne]; exact hn
  have q4 : (n != n') = true := by rw [bne_iff_ne]; exact hn
  have HR := Ld (HENDF.out _ HBX.out (fun e => hn e.2.1))
  clear hn
  go_enter Tryz.func50, Tryz.ntmps50
  go_wp2
  go_ret
  exact HR.out
 have HNN := Ld hn
 have q3 : (n == n') = true := by rw [hn]; exact beq_self_eq_true _
 have q4 : (n != n') = false := by rw [hn]; simp
 clear hn
 by_cases hss : s = s'
 rotate_left
 ·rw [decide_eq_false hss] at hs
  have HR := Ld (HENDF.out _ HBX.out (fun e => hss e.2.2.1))
  clear hss
  go_enter Tryz.func50, Tryz.ntmps50
  go_wp2
  go_ret
  exact HR.out
 have HSS := Ld hss
 rw [decide_eq_true hss] at hs
 clear hss
 by_cases hln : nl = nl'
 rotate_left
 ·have q5 : ((nl : Int) == (nl' : Int)) = false := by rw [beq_eq_false_iff_ne]; omega
  have q6 : ((nl : Int) != (nl' : Int)) = true := by rw [bne_iff_ne]; omega
  have HR := Ld (HENDF.out _ HBX.out (fun e => hln (by have := congrArg List.length e.2.2.2.1; rw [pvL_map, pvL_map, List.length_map, List.length_map] at this; rw [← HNL.out, ← HNL'.out]; exact this)))
  clear hln
  go_enter Tryz.func50, Tryz.ntmps50
  go_wp2
  go_ret
  exact HR.out
 by_cases hmn : nm = nm'
 rotate_left
 ·subst hln
  have q5 : ((nl : Int) == (nl : Int)) = true := beq_self_eq_true _
  have q6 : ((nl : Int) != (nl : Int)) = false := by simp
  have q7 : ((nm : Int) == (nm' : Int)) = false := by rw [beq_eq_false_iff_ne]; omega
  have q8 : ((nm : Int) != (nm' : Int)) = true := by rw [bne_iff_ne]; omega
  have HR := Ld (HENDF.out _ HBX.out (fun e => hmn (by have := congrArg List.length e.2.2.2.2.2; rw [pvL_map, pvL_map, List.length_map, List.length_map] at this; rw [← HNM.out, ← HNM'.out]; exact this)))
  clear hmn
  go_enter Tryz.func50, Tryz.ntmps50
  go_wp2
  go_ret
  exact HR.out
 subst hln
 subst hmn
 go_enter Tryz.func50, Tryz.ntmps50
 go_wp2
 obtain ⟨WX, hWX⟩ : ∃ WX, WX = ((w.alloc (.cells #[.int .i64 k, .int .i64 n, .string s, .slice lA nl lc, .slice mA nm mc] 30)).alloc (.cells #[.int .i64 k', .int .i64 n', .string s', .slice lA' nl lc', .slice mA' nm mc'] 30)) := ⟨_, rfl⟩
 rw [← hWX] at HK1 HK2 HBX ⊢
 clear hWX hs
 go_loopw [5] (fun y wr => ∃ i : Nat, y = .int .i64 (i : Int) ∧ i ≤ nl ∧ Hid (∀ j (hj : j < l.length) (hj' : j < l'.length), j < i → l[j].pv = l'[j].pv) ∧ Hid (Below WX.heap.size WX wr)) (fun y _ => nl - (intOf y).toNat)
 case atStart => exact ⟨0, rfl, Nat.zero_le _, Ld (fun j _ _ h => by omega), Ld (Below.refl _ _)⟩
 case round =>
  obtain ⟨i, rfl, hi, HJ, HW⟩ := hrel
  have HWB : Hid (Below w0.heap.size w0 wr) := Ld (HB0.out.trans ((HBX.out.trans (HW.out.mono HBX.out.size)).mono HB0.out.size))
  have HWW : Hid (Below w.heap.size w wr) := Ld (HBX.out.trans (HW.out.mono HBX.out.size))
  have HKR := Ld (HK1.out.below HW.out HK1.out.lt)
  have HKS := Ld (HK2.out.below HW.out HK2.out.lt)
  have b3 := HKR.out.cell 3
  simp only [gz] at b3
  rcases (by omega : i < nl ∨ i = nl) with hlt | heq
  ·have q0 : decide ((i : Int) < (nl : Int)) = true := by rw [decide_eq_true_iff]; omega
   have q0' : decide (i < nl) = true := by rw [decide_eq_true_iff]; omega
   have hil : i < l.length := by rw [HNL.out]; exact hlt
   have hil' : i < l'.length := by rw [HNL'.out]; exact hlt
   obtain ⟨b, o, hA0, hbl, hc0⟩ := (HV.out.bel HWW.out).la (i := i) hil
   have hA : lA = some ⟨b, o, none⟩ := hA0
   have hc : ∀ j, j < 5 → wr.cell? ⟨b, o + i * 5 + j, none⟩ = l[i].cs[j]? := hc0
   obtain ⟨b', o', hA1, hbl', hc1⟩ := (HV'.out.bel HWW.out).la (i := i) hil'
   have hA' : lA' = some ⟨b', o', none⟩ := hA1
   have hc' : ∀ j, j < 5 → wr.cell? ⟨b', o' + i * 5 + j, none⟩ = l'[i].cs[j]? := hc1
   clear hA0 hc0 hA1 hc1
   subst hA
   subst hA'
   obtain ⟨x, hx⟩ : ∃ x, x = l[i] := ⟨_, rfl⟩
   obtain ⟨y, hy⟩ : ∃ y, y = l'[i] := ⟨_, rfl⟩
   have hxm : x ∈ l := by rw [hx]; exact List.getElem_mem hil
   have hym : y ∈ l' := by rw [hy]; exact List.getElem_mem hil'
   rw [← hx] at hc
   rw [← hy] at hc'
   have HSV : Hid (∀ V, Below wr.heap.size wr V → V.cell? ⟨w.heap.size, 3, none⟩ = some (.slice (some ⟨b, o, none⟩) nl lc) ∧ V.cell? ⟨w.heap.size + 1, 3, none⟩ = some (.slice (some ⟨b', o', none⟩) nl lc') ∧ (V.cell? ⟨b, o + i * 5, none⟩ = some (.int .i64 x.k) ∧ V.cell? ⟨b, o + i * 5 + 1, none⟩ = some (.int .i64 x.n) ∧ V.cell? ⟨b, o + i * 5 + 2, none⟩ = some (.string x.s) ∧ V.cell? ⟨b, o + i * 5 + 3, none⟩ = some (.slice x.lA x.l.length x.lc) ∧ V.cell? ⟨b, o + i * 5 + 4, none⟩ = some (.slice x.mA x.m.length x.mc)) ∧
     (V.cell? ⟨b', o' + i * 5, none⟩ = some (.int .i64 y.k) ∧ V.cell? ⟨b', o' + i * 5 + 1, none⟩ = some (.int .i64 y.n) ∧ V.cell? ⟨b', o' + i * 5 + 2, none⟩ = some (.string y.s) ∧ V.cell? ⟨b', o' + i * 5 + 3, none⟩ = some (.slice y.lA y.l.length y.lc) ∧ V.cell? ⟨b', o' + i * 5 + 4, none⟩ = some (.slice y.mA y.m.length y.mc))) := Ld (fun V hV => by
    have hk3 := (HKR.out.below hV HKR.out.lt).cell 3
    have hk4 := (HKS.out.below hV HKS.out.lt).cell 3
    simp only [gz] at hk3 hk4
    have h9 : ∀ j, V.cell? ⟨b, j, none⟩ = wr.cell? ⟨b, j, none⟩ := fun j => hV.cell (p := ⟨b, j, none⟩) hbl
    have h8 : ∀ j, V.cell? ⟨b', j, none⟩ = wr.cell? ⟨b', j, none⟩ := fun j => hV.cell (p := ⟨b', j, none⟩) hbl'
    simp only [h9, h8]
    exact ⟨hk3, hk4, ⟨hc 0 (by omega), hc 1 (by omega), hc 2 (by omega), hc 3 (by omega), hc 4 (by omega)⟩, ⟨hc' 0 (by omega), hc' 1 (by omega), hc' 2 (by omega), hc' 3 (by omega), hc' 4 (by omega)⟩⟩)
   have hcall := fun V (hV : Below wr.heap.size wr V) => HI1.out x hxm y V (HWB.out.trans (hV.mono HWB.out.size)) (HC'.out.1 y hym)
   unfold ExP MV.val at hcall
   obtain ⟨q, hq⟩ : ∃ q, q = decide (x.pv = y.pv) := ⟨_, rfl⟩
   rw [← hq] at hcall
   have HCC := Ld hcall
   have HQ := Ld hq
   have HXX := Ld (And.intro hx hy)
   have HIL := Ld (And.intro hil hil')
   have hii : (i : Int) < (nl : Int) := by omega
   have hi0 : (0 : Int) ≤ (i : Int) := by omega
   clear hc hc' hxm hym hcall hx hy hbl hbl' hq
   go_wp2
   refine wp_region_held_drew (S := fun V => Below wr.heap.size wr V) (by kernel_rfl) ((Below.refl _ _).drew) (fun hS1 => ?_)
   refine tk 0 (some 51) (.pointer (some ⟨w.heap.size, 3, none⟩)) rfl (fun V hS => by go_simp) hS1 ?_
   simp only [nf]
   refine tk 1 (some 52) (.slice (some ⟨b, o, none⟩) nl lc) rfl (fun V hS => by obtain ⟨h0, h1, ⟨h2, h3, h4, h5, h6⟩, ⟨k2, k3, k4, k5, k6⟩⟩ := HSV.out V hS; go_simp) hS1 ?_
   simp only [nf]
   refine tk 2 (some 53) (.int .i64 (i : Int)) rfl (fun V hS => by go_simp) hS1 ?_
   simp only [nf]
   refine tk 3 (some 54) (.pointer (some ⟨b, o + i * 5, none⟩)) rfl (fun V hS => by go_simp) hS1 ?_
   simp only [nf]
   refine tk 4 (some 55) (.agg #[.int .i64 x.k, .int .i64 x.n, .string x.s, .slice x.lA x.l.length x.lc, .slice x.mA x.m.length x.mc]) rfl (fun V hS => by obtain ⟨h0, h1, ⟨h2, h3, h4, h5, h6⟩, ⟨k2, k3, k4, k5, k6⟩⟩ := HSV.out V hS; go_simp) hS1 ?_
   simp only [nf]
   refine tk 5 (some 56) (.pointer (some ⟨w.heap.size + 1, 3, none⟩)) rfl (fun V hS => by go_simp) hS1 ?_
   simp only [nf]
   refine tk 6 (some 57) ((.slice (some ⟨b', o', none⟩) nl lc')) rfl (fun V hS => by obtain ⟨h0, h1, ⟨h2, h3, h4, h5, h6⟩, ⟨k2, k3, k4, k5, k6⟩⟩ := HSV.out V hS; go_simp) hS1 ?_
   simp only [nf]
   refine tk 7 (some 58) (.int .i64 (i : Int)) rfl (fun V hS => by go_simp) hS1 ?_
   simp only [nf]
   refine tk 8 (some 59) ((.pointer (some ⟨b', o' + i * 5, none⟩))) rfl (fun V hS => by go_simp) hS1 ?_
   simp only [nf]
   refine tk 9 (some 60) (.agg #[.int .i64 y.k, .int .i64 y.n, .string y.s, .slice y.lA y.l.length y.lc, .slice y.mA y.m.length y.mc]) rfl (fun V hS => by obtain ⟨h0, h1, ⟨h2, h3, h4, h5, h6⟩, ⟨k2, k3, k4, k5, k6⟩⟩ := HSV.out V hS; go_simp) hS1 ?_
   simp only [nf]
   refine rd1 10 rfl (fun K' hK => ?_)
   go_simp
   refine (HCC.out _ hS1).mono ?_
   rintro e w2 ⟨rfl, hb2⟩
   go_simp
   refine hK.out _ _ ((hS1).trans (hb2.mono (hS1).size)) (fun hS2 => ?_)
   clear hK K' hS1
   refine tk 11 (some 62) ((.bool (!q))) rfl (fun V hS => by go_simp) hS2 ?_
   simp only [nf]
   refine wpAnyH_done (by kernel_rfl) ?_ _
   have HFF := Ld hS2
   clear hS2
   cases q with
   | false =>
    have HR := Ld (HENDF.out w2 (HWW.out.trans (HFF.out.mono HWW.out.size)) (fun e => pvL_ne i HIL.out.1 HIL.out.2 (by rw [← HXX.out.1, ← HXX.out.2]; exact of_decide_eq_false HQ.out.symm) e.2.2.2.1))
    go_wp2
    go_ret
    exact HR.out
   | true =>
    have HJ2 : Hid (∀ j (hj : j < l.length) (hj' : j < l'.length), j < i + 1 → l[j].pv = l'[j].pv) := Ld (fun j hj hj' h => by
     rcases (by omega : j < i ∨ j = i) with h1 | h1
     ·exact HJ.out j hj hj' h1
     ·subst h1
      rw [← HXX.out.1, ← HXX.out.2]
      exact of_decide_eq_true HQ.out.symm)
    have HW2 := Ld (HW.out.trans (HFF.out.mono HW.out.size))
    go_wp2
    go_roundw
    case rel => exact ⟨i + 1, by go_num, by omega, HJ2, HW2⟩
    case measure => simp [intOf]; omega
  ·have q0 : decide ((i : Int) < (nl : Int)) = false := by rw [decide_eq_false_iff_not]; omega
   have q0' : decide (i < nl) = false := by rw [decide_eq_false_iff_not]; omega
   have HLL : Hid (MV.pvL l = MV.pvL l') := Ld (pvL_eq (by rw [HNL.out, HNL'.out]) (fun j h1 h2 => HJ.out j h1 h2 (by rw [heq, ← HNL.out]; exact h1)))
   clear heq
   go_wp2
   go_loopw [6] (fun y wr => ∃ i : Nat, y = .int .i64 (i : Int) ∧ i ≤ nm ∧ Hid (∀ j (hj : j < m.length) (hj' : j < m'.length), j < i → m[j].key = m'[j].key ∧ m[j].pv = m'[j].pv) ∧ Hid (Below WX.heap.size WX wr)) (fun y _ => nm - (intOf y).toNat)
   case atStart => exact ⟨0, rfl, Nat.zero_le _, Ld (fun j _ _ h => by omega), HW⟩
   case round =>
    clear HW HWB HWW HKR HKS HJ
    obtain ⟨i, rfl, hi, HJ, HW⟩ := hrel
    have HWB : Hid (Below w0.heap.size w0 wr) := Ld (HB0.out.trans ((HBX.out.trans (HW.out.mono HBX.out.size)).mono HB0.out.size))
    have HWW : Hid (Below w.heap.size w wr) := Ld (HBX.out.trans (HW.out.mono HBX.out.size))
    have HKR := Ld (HK1.out.below HW.out HK1.out.lt)
    have HKS := Ld (HK2.out.below HW.out HK2.out.lt)
    have b4 := HKR.out.cell 4
    simp only [gz] at b4
    rcases (by omega : i < nm ∨ i = nm) with hlt | heq
    ·have q0 : decide ((i : Int) < (nm : Int)) = true := by rw [decide_eq_true_iff]; omega
     have q0' : decide (i < nm) = true := by rw [decide_eq_true_iff]; omega
     have hil : i < m.length := by rw [HNM.out]; exact hlt
     have hil' : i < m'.length := by rw [HNM'.out]; exact hlt
     obtain ⟨b, o, hA0, hbl, hc0⟩ := (HV.out.bel HWW.out).ma (i := i) hil
     have hA : mA = some ⟨b, o, none⟩ := hA0
     have hc : ∀ j, j < 6 → wr.cell? ⟨b, o + i * 6 + j, none⟩ = m[i].pcs[j]? := hc0
     obtain ⟨b', o', hA1, hbl', hc1⟩ := (HV'.out.bel HWW.out).ma (i := i) hil'
     have hA' : mA' = some ⟨b', o', none⟩ := hA1
     have hc' : ∀ j, j < 6 → wr.cell? ⟨b', o' + i * 6 + j, none⟩ = m'[i].pcs[j]? := hc1
     clear hA0 hc0 hA1 hc1
     subst hA
     subst hA'
     obtain ⟨x, hx⟩ : ∃ x, x = m[i] := ⟨_, rfl⟩
     obtain ⟨y, hy⟩ : ∃ y, y = m'[i] := ⟨_, rfl⟩
     have hxm : x ∈ m := by rw [hx]; exact List.getElem_mem hil
     have hym : y ∈ m' := by rw [hy]; exact List.getElem_mem hil'
     rw [← hx] at hc
     rw [← hy] at hc'
     have HSV : Hid (∀ V, Below wr.heap.size wr V → V.cell? ⟨w.heap.size, 4, none⟩ = some (.slice (some ⟨b, o, none⟩) nm mc) ∧ V.cell? ⟨w.heap.size + 1, 4, none⟩ = some (.slice (some ⟨b', o', none⟩) nm mc') ∧ (V.cell? ⟨b, o + i * 6, none⟩ = some (.string x.key) ∧ V.cell? ⟨b, o + i * 6 + 1, none⟩ = some (.int .i64 x.k) ∧ V.cell? ⟨b, o + i * 6 + 1 + 1, none⟩ = some (.int .i64 x.n) ∧ V.cell? ⟨b, o + i * 6 + 1 + 2, none⟩ = some (.string x.s) ∧ V.cell? ⟨b, o + i * 6 + 1 + 3, none⟩ = some (.slice x.lA x.l.length x.lc) ∧ V.cell? ⟨b, o + i * 6 + 1 + 4, none⟩ = some (.slice x.mA x.m.length x.mc)) ∧ (V.cell? ⟨b', o' + i * 6, none⟩ = some (.string y.key) ∧ V.cell? ⟨b', o' + i * 6 + 1, none⟩ = some (.int .i64 y.k) ∧ V.cell? ⟨b', o' + i * 6 + 1 + 1, none⟩ = some (.int .i64 y.n) ∧ V.cell? ⟨b', o' + i * 6 + 1 + 2, none⟩ = some (.string y.s) ∧ V.cell? ⟨b', o' + i * 6 + 1 + 3, none⟩ = some (.slice y.lA y.l.length y.lc) ∧ V.cell? ⟨b', o' + i * 6 + 1 + 4, none⟩ = some (.slice y.mA y.m.length y.mc))) := Ld (fun V hV => by
      have hk3 := (HKR.out.below hV HKR.out.lt).cell 4
      have hk4 := (HKS.out.below hV HKS.out.lt).cell 4
      simp only [gz] at hk3 hk4
      have h9 : ∀ j, V.cell? ⟨b, j, none⟩ = wr.cell? ⟨b, j, none⟩ := fun j => hV.cell (p := ⟨b, j, none⟩) hbl
      have h8 : ∀ j, V.cell? ⟨b', j, none⟩ = wr.cell? ⟨b', j, none⟩ := fun j => hV.cell (p := ⟨b', j, none⟩) hbl'
      simp only [h9, h8]
      exact ⟨hk3, hk4, ⟨hc 0 (by omega), hc 1 (by omega), hc 2 (by omega), hc 3 (by omega), hc 4 (by omega), hc 5 (by omega)⟩, ⟨hc' 0 (by omega), hc' 1 (by omega), hc' 2 (by omega), hc' 3 (by omega), hc' 4 (by omega), hc' 5 (by omega)⟩⟩)
     have hcall := fun V (hV : Below wr.heap.size wr V) => HI2.out x hxm y V (HWB.out.trans (hV.mono HWB.out.size)) (HC'.out.2 y hym)
     unfold ExP MV.val at hcall
     obtain ⟨q, hq⟩ : ∃ q, q = decide (x.pv = y.pv) := ⟨_, rfl⟩
     rw [← hq] at hcall
     have HCC := Ld hcall
     have HQ := Ld hq
     have HXX := Ld (And.intro hx hy)
     have HIL := Ld (And.intro hil hil')
     have hii : (i : Int) < (nm : Int) := by omega
     have hi0 : (0 : Int) ≤ (i : Int) := by omega
     have hky := nm_beq x.key y.key
     clear hc hc' hxm hym hcall hx hy hbl hbl' hq
     by_cases hke : x.key = y.key
     rotate_left
     ·rw [decide_eq_false hke] at hky
      have HKE := Ld hke
      clear hke
      go_wp2
      refine wp_region_held_drew (S := fun V => Below wr.heap.size wr V) (by kernel_rfl) ((Below.refl _ _).drew) (fun hS1 => ?_)
      refine tk 0 (some 70) (.pointer (some ⟨w.heap.size, 4, none⟩)) rfl (fun V hS => by go_simp) hS1 ?_
      simp only [nf]
      refine tk 1 (some 71) (.slice (some ⟨b, o, none⟩) nm mc) rfl (fun V hS => by obtain ⟨h0, h1, ⟨h7, h2, h3, h4, h5, h6⟩, ⟨k7, k2, k3, k4, k5, k6⟩⟩ := HSV.out V hS; go_simp) hS1 ?_
      simp only [nf]
      refine tk 2 (some 72) (.int .i64 (i : Int)) rfl (fun V hS => by go_simp) hS1 ?_
      simp only [nf]
      refine tk 3 (some 73) (.pointer (some ⟨b, o + i * 6, none⟩)) rfl (fun V hS => by go_simp) hS1 ?_
      simp only [nf]
      refine tk 4 (some 74) (.pointer (some ⟨b, o + i * 6, none⟩)) rfl (fun V hS => by go_simp) hS1 ?_
      simp only [nf]
      refine tk 5 (some 75) (.string x.key) rfl (fun V hS => by obtain ⟨h0, h1, ⟨h7, h2, h3, h4, h5, h6⟩, ⟨k7, k2, k3, k4, k5, k6⟩⟩ := HSV.out V hS; go_simp) hS1 ?_
      simp only [nf]
      refine tk 6 (some 76) (.pointer (some ⟨w.heap.size + 1, 4, none⟩)) rfl (fun V hS => by go_simp) hS1 ?_
      simp only [nf]
      refine tk 7 (some 77) ((.slice (some ⟨b', o', none⟩) nm mc')) rfl (fun V hS => by obtain ⟨h0, h1, ⟨h7, h2, h3, h4, h5, h6⟩, ⟨k7, k2, k3, k4, k5, k6⟩⟩ := HSV.out V hS; go_simp) hS1 ?_
      simp only [nf]
      refine tk 8 (some 78) (.int .i64 (i : Int)) rfl (fun V hS => by go_simp) hS1 ?_
      simp only [nf]
      refine tk 9 (some 79) ((.pointer (some ⟨b', o' + i * 6, none⟩))) rfl (fun V hS => by go_simp) hS1 ?_
      simp only [nf]
      refine tk 10 (some 80) ((.pointer (some ⟨b', o' + i * 6, none⟩))) rfl (fun V hS => by go_simp) hS1 ?_
      simp only [nf]
      refine tk 11 (some 81) (.string y.key) rfl (fun V hS => by obtain ⟨h0, h1, ⟨h7, h2, h3, h4, h5, h6⟩, ⟨k7, k2, k3, k4, k5, k6⟩⟩ := HSV.out V hS; go_simp) hS1 ?_
      simp only [nf]
      refine tk 12 (some 82) (.bool true) rfl (fun V hS => by go_simp) hS1 ?_
      simp only [nf]
      refine tk 13 (some 83) (.bool true) rfl (fun V hS => by go_simp) hS1 ?_
      simp only [nf]
      refine tk0 14 (some 84) rfl hS1 ?_
      simp only [nf]
      refine tk0 15 (some 85) rfl hS1 ?_
      simp only [nf]
      refine tk0 16 (some 86) rfl hS1 ?_
      simp only [nf]
      refine tk0 17 (some 87) rfl hS1 ?_
      simp only [nf]
      refine tk0 18 (some 88) rfl hS1 ?_
      simp only [nf]
      refine tk0 19 (some 89) rfl hS1 ?_
      simp only [nf]
      refine tk0 20 (some 90) rfl hS1 ?_
      simp only [nf]
      refine tk0 21 (some 91) rfl hS1 ?_
      simp only [nf]
      refine tk0 22 (some 92) rfl hS1 ?_
      simp only [nf]
      refine tk0 23 (some 93) rfl hS1 ?_
      simp only [nf]
      refine tk0 24 (some 94) rfl hS1 ?_
      simp only [nf]
      refine tk0 25 (some 95) rfl hS1 ?_
      simp only [nf]
      refine tk0 26 (some 96) rfl hS1 ?_
      simp only [nf]
      refine tk0 27 (some 97) rfl hS1 ?_
      simp only [nf]
      refine tk 28 (some 98) (.bool true) rfl (fun V hS => by go_simp) hS1 ?_
      simp only [nf]
      refine wpAnyH_done (by kernel_rfl) ?_ _
      have HFF := Ld hS1
      clear hS1
      have HR := Ld (HENDF.out wr.drew (HWW.out.trans (HFF.out.mono HWW.out.size)) (fun e => key_ne i HIL.out.1 HIL.out.2 (by rw [← HXX.out.1, ← HXX.out.2]; exact HKE.out) e.2.2.2.2.1))
      go_wp2
      go_ret
      exact HR.out
     rw [decide_eq_true hke] at hky
     have HKE := Ld hke
     clear hke
     go_wp2
     refine wp_region_held_drew (S := fun V => Below wr.heap.size wr V) (by kernel_rfl) ((Below.refl _ _).drew) (fun hS1 => ?_)
     refine tk 0 (some 70) (.pointer (some ⟨w.heap.size, 4, none⟩)) rfl (fun V hS => by go_simp) hS1 ?_
     simp only [nf]
     refine tk 1 (some 71) (.slice (some ⟨b, o, none⟩) nm mc) rfl (fun V hS => by obtain ⟨h0, h1, ⟨h7, h2, h3, h4, h5, h6⟩, ⟨k7, k2, k3, k4, k5, k6⟩⟩ := HSV.out V hS; go_simp) hS1 ?_
     simp only [nf]
     refine tk 2 (some 72) (.int .i64 (i : Int)) rfl (fun V hS => by go_simp) hS1 ?_
     simp only [nf]
     refine tk 3 (some 73) (.pointer (some ⟨b, o + i * 6, none⟩)) rfl (fun V hS => by go_simp) hS1 ?_
     simp only [nf]
     refine tk 4 (some 74) (.pointer (some ⟨b, o + i * 6, none⟩)) rfl (fun V hS => by go_simp) hS1 ?_
     simp only [nf]
     refine tk 5 (some 75) (.string x.key) rfl (fun V hS => by obtain ⟨h0, h1, ⟨h7, h2, h3, h4, h5, h6⟩, ⟨k7, k2, k3, k4, k5, k6⟩⟩ := HSV.out V hS; go_simp) hS1 ?_
     simp only [nf]
     refine tk 6 (some 76) (.pointer (some ⟨w.heap.size + 1, 4, none⟩)) rfl (fun V hS => by go_simp) hS1 ?_
     simp only [nf]
     refine tk 7 (some 77) ((.slice (some ⟨b', o', none⟩) nm mc')) rfl (fun V hS => by obtain ⟨h0, h1, ⟨h7, h2, h3, h4, h5, h6⟩, ⟨k7, k2, k3, k4, k5, k6⟩⟩ := HSV.out V hS; go_simp) hS1 ?_
     simp only [nf]
     refine tk 8 (some 78) (.int .i64 (i : Int)) rfl (fun V hS => by go_simp) hS1 ?_
     simp only [nf]
     refine tk 9 (some 79) ((.pointer (some ⟨b', o' + i * 6, none⟩))) rfl (fun V hS => by go_simp) hS1 ?_
     simp only [nf]
     refine tk 10 (some 80) ((.pointer (some ⟨b', o' + i * 6, none⟩))) rfl (fun V hS => by go_simp) hS1 ?_
     simp only [nf]
     refine tk 11 (some 81) (.string y.key) rfl (fun V hS => by obtain ⟨h0, h1, ⟨h7, h2, h3, h4, h5, h6⟩, ⟨k7, k2, k3, k4, k5, k6⟩⟩ := HSV.out V hS; go_simp) hS1 ?_
     simp only [nf]
     refine tk 12 (some 82) (.bool false) rfl (fun V hS => by go_simp) hS1 ?_
     simp only [nf]
     refine tk 13 (some 83) (.bool false) rfl (fun V hS => by go_simp) hS1 ?_
     simp only [nf]
     refine tk 14 (some 84) (.pointer (some ⟨w.heap.size, 4, none⟩)) rfl (fun V hS => by go_simp) hS1 ?_
     simp only [nf]
     refine tk 15 (some 85) (.slice (some ⟨b, o, none⟩) nm mc) rfl (fun V hS => by obtain ⟨h0, h1, ⟨h7, h2, h3, h4, h5, h6⟩, ⟨k7, k2, k3, k4, k5, k6⟩⟩ := HSV.out V hS; go_simp) hS1 ?_
     simp only [nf]
     refine tk 16 (some 86) (.int .i64 (i : Int)) rfl (fun V hS => by go_simp) hS1 ?_
     simp only [nf]
     refine tk 17 (some 87) (.pointer (some ⟨b, o + i * 6, none⟩)) rfl (fun V hS => by go_simp) hS1 ?_
     simp only [nf]
     refine tk 18 (some 88) (.pointer (some ⟨b, o + i * 6 + 1, none⟩)) rfl (fun V hS => by go_simp) hS1 ?_
     simp only [nf]
     refine tk 19 (some 89) (.agg #[.int .i64 x.k, .int .i64 x.n, .string x.s, .slice x.lA x.l.length x.lc, .slice x.mA x.m.length x.mc]) rfl (fun V hS => by obtain ⟨h0, h1, ⟨h7, h2, h3, h4, h5, h6⟩, ⟨k7, k2, k3, k4, k5, k6⟩⟩ := HSV.out V hS; go_simp) hS1 ?_
     simp only [nf]
     refine tk 20 (some 90) (.pointer (some ⟨w.heap.size + 1, 4, none⟩)) rfl (fun V hS => by go_simp) hS1 ?_
     simp only [nf]
     refine tk 21 (some 91) ((.slice (some ⟨b', o', none⟩) nm mc')) rfl (fun V hS => by obtain ⟨h0, h1, ⟨h7, h2, h3, h4, h5, h6⟩, ⟨k7, k2, k3, k4, k5, k6⟩⟩ := HSV.out V hS; go_simp) hS1 ?_
     simp only [nf]
     refine tk 22 (some 92) (.int .i64 (i : Int)) rfl (fun V hS => by go_simp) hS1 ?_
     simp only [nf]
     refine tk 23 (some 93) ((.pointer (some ⟨b', o' + i * 6, none⟩))) rfl (fun V hS => by go_simp) hS1 ?_
     simp only [nf]
     refine tk 24 (some 94) ((.pointer (some ⟨b', o' + i * 6 + 1, none⟩))) rfl (fun V hS => by go_simp) hS1 ?_
     simp only [nf]
     refine tk 25 (some 95) (.agg #[.int .i64 y.k, .int .i64 y.n, .string y.s, .slice y.lA y.l.length y.lc, .slice y.mA y.m.length y.mc]) rfl (fun V hS => by obtain ⟨h0, h1, ⟨h7, h2, h3, h4, h5, h6⟩, ⟨k7, k2, k3, k4, k5, k6⟩⟩ := HSV.out V hS; go_simp) hS1 ?_
     simp only [nf]
     refine rd1 26 rfl (fun K' hK => ?_)
     go_simp
     refine (HCC.out _ hS1).mono ?_
     rintro e w2 ⟨rfl, hb2⟩
     go_simp
     refine hK.out _ _ ((hS1).trans (hb2.mono (hS1).size)) (fun hS2 => ?_)
     clear hK K' hS1
     refine tk 27 (some 97) ((.bool (!q))) rfl (fun V hS => by go_simp) hS2 ?_
     simp only [nf]
     refine tk 28 (some 98) ((.bool (!q))) rfl (fun V hS => by go_simp) hS2 ?_
     simp only [nf]
     refine wpAnyH_done (by kernel_rfl) ?_ _
     have HFF := Ld hS2
     clear hS2
     cases q with
     | false =>
      have HR := Ld (HENDF.out w2 (HWW.out.trans (HFF.out.mono HWW.out.size)) (fun e => pvL_ne i HIL.out.1 HIL.out.2 (by rw [← HXX.out.1, ← HXX.out.2]; exact of_decide_eq_false HQ.out.symm) e.2.2.2.2.2))
      go_wp2
      go_ret
      exact HR.out
     | true =>
      have HJ2 : Hid (∀ j (hj : j < m.length) (hj' : j < m'.length), j < i + 1 → m[j].key = m'[j].key ∧ m[j].pv = m'[j].pv) := Ld (fun j hj hj' h => by
       rcases (by omega : j < i ∨ j = i) with h1 | h1
       ·exact HJ.out j hj hj' h1
       ·subst h1
        rw [← HXX.out.1, ← HXX.out.2]
        exact ⟨HKE.out, of_decide_eq_true HQ.out.symm⟩)
      have HW2 := Ld (HW.out.trans (HFF.out.mono HW.out.size))
      go_wp2
      go_roundw
      case rel => exact ⟨i + 1, by go_num, by omega, HJ2, HW2⟩
      case measure => simp [intOf]; omega
    ·have q0 : decide ((i : Int) < (nm : Int)) = false := by rw [decide_eq_false_iff_not]; omega
     have q0' : decide (i < nm) = false := by rw [decide_eq_false_iff_not]; omega
     have hlm : m.length = m'.length := by rw [HNM.out, HNM'.out]
     have HR := Ld (HENDT.out wr HWW.out ⟨HKK.out, HNN.out, HSS.out, HLL.out, key_eq hlm (fun j h1 h2 => (HJ.out j h1 h2 (by rw [heq, ← HNM.out]; exact h1)).1), pvL_eq hlm (fun j h1 h2 => (HJ.out j h1 h2 (by rw [heq, ← HNM.out]; exact h1)).2)⟩)
     clear heq
     go_wp2
     go_ret
     exact HR.out
end Go.Proofs.YtefkpphahimkgaaGreatDoor
namespace Go.Proofs.YtefkpphahimkgaaGreatDoor
open Go.RowKit
set_option linter.unusedVariables false
set_option linter.unusedSimpArgs false
inductive BlkP (P : Nat → Prop) : MV → Prop
 | mk {key : ByteArray} {k n : Int} {s : ByteArray} {lA : Option Addr} {lc : Nat} {l : List MV} {mA : Option Addr} {mc : Nat} {m : List MV} :
  (l ≠ [] → ∀ ad, lA = some ad → P ad.block) → (m ≠ [] → ∀ ad, mA = some ad → P ad.block) → (∀ x ∈ l, BlkP P x) → (∀ x ∈ m, BlkP P x) → BlkP P (.mk key k n s lA lc l mA mc m)
section
variable {w w' : World} {v : MV} {P Q : Nat → Prop} {S : Nat → Prop}
theorem BlkP.mono (h : BlkP P v) (hPQ : ∀ b, P b → Q b) : BlkP Q v := by
 induction h with
 | mk a b c d ih1 ih2 => exact .mk (fun h ad e => hPQ _ (a h ad e)) (fun h ad e => hPQ _ (b h ad e)) ih1 ih2
theorem BlkP.and (h : BlkP P v) (h2 : BlkP Q v) : BlkP (fun b => P b ∧ Q b) v := by
 induction h with
 | mk a b c d ih1 ih2 =>
  cases h2 with
  | mk a' b' c' d' => exact .mk (fun h ad e => ⟨a h ad e, a' h ad e⟩) (fun h ad e => ⟨b h ad e, b' h ad e⟩) (fun x hx => ih1 x hx (c' x hx)) (fun x hx => ih2 x hx (d' x hx))
theorem BlkP.rekey {key : ByteArray} (h : BlkP P v) : BlkP P (.mk key v.k v.n v.s v.lA v.lc v.l v.mA v.mc v.m) := by
 cases h with
 | mk a b c d => exact .mk a b c d
theorem VAt.rekey {key : ByteArray} (h : VAt w v) : VAt w (.mk key v.k v.n v.s v.lA v.lc v.l v.mA v.mc v.m) := by
 cases h with
 | mk a b c d e f g h i j => exact .mk a b c d e f g h i j
theorem VAt.lt (h : VAt w v) : BlkP (· < w.heap.size) v := by
 induction h with
 | mk a b c d e f g h i j ih1 ih2 =>
  refine .mk (fun h0 ad e0 => ?_) (fun h0 ad e0 => ?_) ih1 ih2
  ·obtain ⟨ad', e', hlt, _⟩ := c.2 (List.length_pos_iff.2 h0)
   rw [e0] at e'; cases e'; exact hlt
  ·obtain ⟨ad', e', hlt, _⟩ := f.2 (List.length_pos_iff.2 h0)
   rw [e0] at e'; cases e'; exact hlt
theorem Reads.frS {B size n : Nat} {A : Option Addr} {xs : List Value} (h : Reads w w.heap.size size A n xs) (hf : Fr S w w') (hs : n ≠ 0 → ∀ ad, A = some ad → ¬ S ad.block) : Reads w' w'.heap.size size A n xs := by
 refine ⟨h.1, fun hn => ?_⟩
 obtain ⟨ad, e, hlt, hc⟩ := h.2 hn
 refine ⟨ad, e, Nat.lt_of_lt_of_le hlt hf.size, fun j u hu => ?_⟩
 rw [hf.cell (by rw [block_of_add]; exact hlt) (by rw [block_of_add]; exact hs (by omega) ad e)]
 exact hc j u hu
theorem VAt.fr (h : VAt w v) (hf : Fr S w w') (hs : BlkP (fun b => ¬ S b) v) : VAt w' v := by
 induction h with
 | mk a b c d e f g h i j ih1 ih2 =>
  cases hs with
  | mk a' b' c' d' =>
   exact .mk a b (Reads.frS (B := 0) c hf (fun h0 => a' (by intro e0; subst e0; exact h0 rfl))) d e (Reads.frS (B := 0) f hf (fun h0 => b' (by intro e0; subst e0; exact h0 rfl))) g h (fun x hx => ih1 x hx (c' x hx)) (fun x hx => ih2 x hx (d' x hx))
end
theorem infoValue : (Tryz.prog.info? 30).map (fun i => (i.zero, i.size, i.bytes)) = some (some (.agg #[.int .i64 0, .int .i64 0, .string ⟨#[]⟩, .slice none 0 0, .slice none 0 0]), 5, 80) := by kernel_rfl
theorem infoPair : (Tryz.prog.info? 73).map (fun i => (i.zero, i.size, i.bytes)) = some (some (.agg #[.string ⟨#[]⟩, .int .i64 0, .int .i64 0, .string ⟨#[]⟩, .slice none 0 0, .slice none 0 0]), 6, 96) := by kernel_rfl
structure ROwn (t : TypeId) (size : Nat) (cs : MV → List Value) (base : Nat) (w : World) (v : Value) (l : List MV) : Prop where
 own : w.ownsRow base t size v l.length (l.flatMap cs)
 at_ : ∀ x ∈ l, VAt w x
 fr : ∀ x ∈ l, BlkP (base ≤ ·) x
 av : ∀ x ∈ l, BlkP (fun b => ¬ v.ownBlock = some b) x
section
variable {t : TypeId} {size : Nat} {cs : MV → List Value} {base : Nat} {w w' : World} {v v' : Value} {l : List MV}
theorem ROwn.nil (base : Nat) (w : World) : ROwn t size cs base w (.slice none 0 0) [] :=
 ⟨World.ownsRow_nil _ _ _ _, (fun x hx => by cases hx), (fun x hx => by cases hx), (fun x hx => by cases hx)⟩
theorem ROwn.below (h : ROwn t size cs base w v l) (hb : Below w.heap.size w w') : ROwn t size cs base w' v l := by
 refine ⟨⟨h.own.1, ?_⟩, fun x hx => (h.at_ x hx).bel hb, h.fr, h.av⟩
 rcases h.own.2 with h0 | ⟨g, cap, cur, hv, hg, hh, hn⟩
 ·exact .inl h0
 ·exact .inr ⟨g, cap, cur, hv, hg, (hb.block g (Blk.lt (t := t) hh)).trans hh, hn⟩
theorem ROwn.frS {S : Nat → Prop} (h : ROwn t size cs base w v l) (hf : Fr S w w') (hv : ∀ g, v.ownBlock = some g → ¬ S g) (hs : ∀ x ∈ l, BlkP (fun b => ¬ S b) x) : ROwn t size cs base w' v l := by
 refine ⟨⟨h.own.1, ?_⟩, fun x hx => (h.at_ x hx).fr hf (hs x hx), h.fr, h.av⟩
 rcases h.own.2 with h0 | ⟨g, cap, cur, hv', hg, hh, hn⟩
 ·exact .inl h0
 ·exact .inr ⟨g, cap, cur, hv', hg, (hf.block g (Blk.lt (t := t) hh) (hv g (by rw [hv']; rfl))).trans hh, hn⟩
theorem ROwn.ge (h : ROwn t size cs base w v l) : ∀ k, v.ownBlock = some k → base ≤ k := fun k hk => (World.ownsRow.lt h.own k hk).1
theorem ROwn.ltS (h : ROwn t size cs base w v l) : ∀ k, v.ownBlock = some k → k < w.heap.size := fun k hk => (World.ownsRow.lt h.own k hk).2
theorem ROwn.app {x : MV} (h : ROwn t size cs base w v l) (hx : VAt w x) (hfr : BlkP (base ≤ ·) x) (hav : BlkP (fun b => ¬ v.ownBlock = some b) x) (hown : w'.ownsRow base t size v' (l.length + 1) (l.flatMap cs ++ cs x)) (hg : w.grownBy w' v.ownBlock) (hv : v'.ownBlock = v.ownBlock ∨ v'.ownBlock = some w.heap.size) : ROwn t size cs base w' v' (l ++ [x]) := by
 have hall : ∀ y ∈ l ++ [x], VAt w y ∧ BlkP (base ≤ ·) y ∧ BlkP (fun b => ¬ v.ownBlock = some b) y := fun y hy => by
  rcases List.mem_append.1 hy with hy | hy
  ·exact ⟨h.at_ y hy, h.fr y hy, h.av y hy⟩
  ·rw [List.mem_singleton] at hy
   subst hy
   exact ⟨hx, hfr, hav⟩
 refine ⟨?_, fun y hy => (hall y hy).1.fr (S := fun b => v.ownBlock = some b) (Fr.of_grown hg (fun k e => e)) (hall y hy).2.2, fun y hy => (hall y hy).2.1, fun y hy => ?_⟩
 ·rw [List.length_append, List.flatMap_append]
  simpa using hown
 ·rcases hv with hv | hv
  ·rw [hv]; exact (hall y hy).2.2
  ·rw [hv]
   exact (hall y hy).1.lt.mono (fun b hb e => by injection e with e; omega)
end
theorem oneC_cs (v : MV) : ∀ u ∈ v.cs, u.oneCell' = true := fun u hu => by
 simp only [MV.cs, List.mem_cons, List.not_mem_nil, or_false] at hu
 rcases hu with rfl | rfl | rfl | rfl | rfl <;> rfl
theorem oneC_pcs (v : MV) : ∀ u ∈ v.pcs, u.oneCell' = true := fun u hu => by
 rw [MV.pcs, List.mem_cons] at hu
 rcases hu with rfl | hu
 ·rfl
 ·exact oneC_cs v u hu
theorem step_app_row (w : World) {t tS : TypeId} {size bytes : Nat} {z : Value} {cs : MV → List Value} {ops : Array Oper} {o : Oper} {a : Act} {K : Act → World → Prop} {Q : Exit → Act → World → Prop} {E : Prop} (hinfo : (Tryz.prog.info? t).map (fun i => (i.zero, i.size, i.bytes)) = some (some z, size, bytes)) (ht : Tryz.prog.underlying tS = some (.slice t)) (hzs : z.cells.size = size) (hsz : 0 < size) (hby : bytes ≤ 100) (hcl : ∀ x, (cs x).length = size) (hc1 : ∀ x, ∀ u ∈ cs x, u.oneCell' = true)
  (hgd : o.guard = none) (d : Option Tmp) (hd : o.dst = d) (s x : Operand)
  (ho : o.op = .call { callee := .builtin .append, args := #[s, x], argTypes := #[tS, tS] })
  (base : Nat) (v : Value) (l : List MV) (hs : a.eval s = v) (hown : ROwn t size cs base w v l) (q : Nat) (hx : a.eval x = .slice (some ⟨q, 0, none⟩) 1 1) (x' : MV) (hq : Blk w q t (cs x').toArray) (hxa : VAt w x') (hfr : BlkP (base ≤ ·) x') (hav : BlkP (fun b => ¬ v.ownBlock = some b) x')
  (hlen : l.length ≤ 1000000000) (hbase : base ≤ w.heap.size)
  (h : ∀ v' w', ROwn t size cs base w' v' (l ++ [x']) → w.grownBy w' v.ownBlock → (v'.ownBlock = v.ownBlock ∨ v'.ownBlock = some w.heap.size) → K (a.put d v') w') :
  if Region.wanted o (yielded ops a.tmps) = true then Oper.wp Tryz.prog o a w K Q else E := by
 subst hd
 obtain ⟨i0, hi0, hz0, hz1, hz2⟩ := info_parts hinfo
 have hr : Reads w w.heap.size size (some ⟨q, 0, none⟩) 1 (cs x') := ⟨by rw [hcl, Nat.one_mul], fun _ => ⟨_, rfl, hq.lt, fun j u hu => by
  rw [Addr.add_lit, Nat.zero_add, hq.cell j]
  simpa using hu⟩⟩
 refine step_append_any w hgd s x tS ho base t i0 z size bytes ht hi0 hz0 hz1 hz2 hzs hsz v l.length (l.flatMap cs) hs hown.own _ _ 1 1 (cs x') hx hr (hc1 x') (by simp only [maxLen]; omega) (by
  have : (l.length + 1) * bytes ≤ (l.length + 1) * 100 := Nat.mul_le_mul_left _ hby
  omega) hbase ?_
 intro v' w' h1 h2 h3
 exact h v' w' (hown.app hxa hfr hav h1 h2 h3) h2 h3
end Go.Proofs.YtefkpphahimkgaaGreatDoor
namespace Go.Proofs.YtefkpphahimkgaaGreatDoor
set_option linter.unusedVariables false
section
variable {P : Program} {ops : Array Oper} {Q Q' : Exit → Act → World → Prop} {md : Region.Mode} {S : World → Prop}
theorem upon_weaker (hq : ∀ e a w, e ≠ .normal → Q' e a w → Q e a w) {o : Oper} {a : Act} {K : Act → World → Prop} {r : Result Next} (h : o.upon P a K Q' r) : o.upon P a K Q r := by
 cases r with
 | ok n w' =>
  cases n with
  | enter f args =>
   refine Calls.mono h (fun e w'' he => ?_)
   cases e with
   | returned v => exact he
   | panicked c => exact hq _ _ _ (by simp) he
   | outgrown => obtain ⟨a', w', h'⟩ := he; exact ⟨a', w', hq _ _ _ (by simp) h'⟩
  | _ => exact h
 | halt x w' =>
  cases x <;> first | exact h | exact hq _ _ _ (by simp) h
theorem wpOp_weaker (hq : ∀ e a w, e ≠ .normal → Q' e a w → Q e a w) {i : Nat} {a : Act} {w : World} {K : Act → World → Prop} (h : wpOp P ops Q' i K a w) : wpOp P ops Q i K a w := by
 unfold wpOp at *
 cases ho : ops[i]? with
 | none => rw [ho] at h; exact h
 | some o =>
  rw [ho] at h
  simp only at h ⊢
  split
  ·rename_i hw
   rw [if_pos hw] at h
   rcases h with h | ⟨h1, a', w', h2⟩
   ·exact .inl (upon_weaker hq h)
   ·exact .inr ⟨h1, a', w', hq _ _ _ (by simp) h2⟩
  ·rename_i hw
   rw [if_neg hw] at h
   exact h
def lastQ (P : Program) (ops : Array Oper) (Q : Exit → Act → World → Prop) (st : Nat) : Exit → Act → World → Prop := fun e a w => match e with
 | .normal => wpOp P ops Q st (fun a w => Q .normal a w) a w
 | e => Q e a w
theorem lastQ_other {st : Nat} : ∀ e a w, e ≠ .normal → lastQ P ops Q st e a w → Q e a w := fun e a w he h => by cases e <;> first | exact absurd rfl he | exact h
def waits (md : Region.Mode) (ops : Array Oper) (i j : Nat) : Bool := match ops[i]? with
 | some o => o.after.toList.any fun e => Region.binds md e && e.on == j
 | none => false
def lastOk (md : Region.Mode) (ops : Array Oper) (st : Nat) : Bool :=
 (List.range ops.size).all fun j => match ops[j]? with
  | some o => (j == st || (waits md ops st j || (List.range ops.size).any fun k => waits md ops st k && waits md ops k j)) && o.after.toList.all fun e => !Region.binds md e || (e.on != st && decide (e.on < j))
  | none => false
theorem waits_spec {i j : Nat} (h : waits md ops i j = true) : ∃ o, ops[i]? = some o ∧ ∃ e ∈ o.after, Region.binds md e = true ∧ e.on = j := by
 unfold waits at h
 cases hs : ops[i]? with
 | none => rw [hs] at h; cases h
 | some o =>
  rw [hs] at h
  simp only [List.any_eq_true, Bool.and_eq_true, beq_iff_eq, Array.mem_toList_iff] at h
  obtain ⟨e, he, hb, hon⟩ := h
  exact ⟨o, rfl, e, he, hb, hon⟩
theorem lastOk_spec {st : Nat} (h : lastOk md ops st = true) {j : Nat} {o : Oper} (ho : ops[j]? = some o) :
  (j ≠ st → waits md ops st j = true ∨ ∃ k, waits md ops st k = true ∧ waits md ops k j = true) ∧ ∀ e ∈ o.after, Region.binds md e = true → e.on ≠ st ∧ e.on < j := by
 unfold lastOk at h
 rw [List.all_eq_true] at h
 have hj := h j (List.mem_range.2 (Array.getElem?_eq_some_iff.1 ho).1)
 rw [ho] at hj
 simp only [Bool.and_eq_true, Bool.or_eq_true, beq_iff_eq, List.all_eq_true, List.any_eq_true, Array.mem_toList_iff, Bool.not_eq_true', bne_iff_ne, decide_eq_true_eq, List.mem_range] at hj
 refine ⟨fun hne => ?_, fun e he hb => ?_⟩
 ·rcases hj.1.resolve_left hne with h1 | ⟨k, _, h1, h2⟩
  ·exact .inl h1
  ·exact .inr ⟨k, h1, h2⟩
 ·rcases hj.2 e he with h2 | h2
  ·rw [hb] at h2; cases h2
  ·exact h2
def Closed (md : Region.Mode) (ops : Array Oper) (listed : Array Bool) : Prop := ∀ i j, listed.getD i false = true → waits md ops i j = true → listed.getD j false = true
theorem ready_waits {listed : Array Bool} {i j : Nat} (h : i ∈ Region.ready md ops listed) (hw : waits md ops i j = true) : listed.getD j false = true := by
 obtain ⟨o, ho, e, he, hb, hon⟩ := waits_spec hw
 rw [mem_ready] at h
 obtain ⟨_, o2, ho2, hall⟩ := h
 rw [ho] at ho2
 cases ho2
 rw [← hon]
 exact hall e he hb
theorem Closed.step {listed : Array Bool} {i : Nat} (h : Closed md ops listed) (hi : i ∈ Region.ready md ops listed) : Closed md ops (listed.setIfInBounds i true) := by
 intro k j hk hw
 by_cases e : k = i
 ·subst e
  exact getD_set_true (ready_waits hi hw)
 ·rw [getD_set_ne false (fun x => e x.symm)] at hk
  exact getD_set_true (h k j hk hw)
theorem all_listed {st : Nat} (hok : lastOk md ops st = true) {listed : Array Bool} (hz : listed.size = ops.size) (hst : st < ops.size) (hr : Region.ready md ops (listed.setIfInBounds st true) = []) :
  ∀ j, j < ops.size → j ≠ st → listed.getD j true = true := by
 intro j
 induction j using Nat.strongRecOn with
 | _ j ih =>
  intro hj hne
  cases hl : listed.getD j true with
  | true => rfl
  | false =>
   exfalso
   have hmem : j ∈ Region.ready md ops (listed.setIfInBounds st true) := by
    rw [mem_ready]
    obtain ⟨o, ho⟩ : ∃ o, ops[j]? = some o := ⟨_, Array.getElem?_eq_getElem hj⟩
    refine ⟨by rw [getD_set_ne true (fun e => hne e.symm)]; exact hl, o, ho, fun e he hb => ?_⟩
    obtain ⟨h1, h2⟩ := (lastOk_spec hok ho).2 e he hb
    have h3 := ih e.on h2 (by omega) h1
    have h4 : e.on < listed.size := by omega
    have h5 : listed[e.on]? = some listed[e.on] := Array.getElem?_eq_getElem h4
    have h6 : listed.getD e.on false = true := by
     rw [Array.getD_eq_getD_getElem?, h5] at h3 ⊢
     exact h3
    exact getD_set_true h6
   rw [hr] at hmem
   cases hmem
theorem wpAny_of_last {st : Nat} {os : Oper} (hst : ops[st]? = some os) (hok : lastOk md ops st = true) :
  ∀ (fuel : Nat) (listed : Array Bool) (a : Act) (w : World), listed.size = ops.size → Closed md ops listed → listed.getD st true = false →
   wpAnyH P md ops (lastQ P ops Q st) S fuel (listed.setIfInBounds st true) a w → wpAny P md ops Q (fuel + 1) listed a w := by
 have hlt : st < ops.size := (Array.getElem?_eq_some_iff.1 hst).1
 -- where nothing but the last one is left
 have hend : ∀ (fuel : Nat) (listed : Array Bool) (a : Act) (w : World), listed.size = ops.size → listed.getD st true = false → Region.ready md ops (listed.setIfInBounds st true) = [] → lastQ P ops Q st .normal a w → wpAny P md ops Q (fuel + 1) listed a w := by
  intro fuel listed a w hz hs hr hq
  have hall := all_listed hok hz hlt hr
  have hmem : st ∈ Region.ready md ops listed := by
   rw [mem_ready]
   refine ⟨hs, os, hst, fun e he hb => ?_⟩
   obtain ⟨h1, h2⟩ := (lastOk_spec hok hst).2 e he hb
   have h3 := hall e.on (by omega) h1
   have h4 : e.on < listed.size := by omega
   have h5 : listed[e.on]? = some listed[e.on] := Array.getElem?_eq_getElem h4
   rw [Array.getD_eq_getD_getElem?, h5] at h3 ⊢
   exact h3
  refine ⟨fun h => (by rw [h] at hmem; cases hmem), fun i hi => ?_⟩
  by_cases e : i = st
  ·subst e
   refine wpOp_mono (fun a' w' h => ?_) hq
   cases fuel with
   | zero => exact ⟨hr, h⟩
   | succ n => exact ⟨fun _ => h, fun k hk => (by rw [hr] at hk; cases hk)⟩
  ·have := ready_mono hi e
   rw [hr] at this
   cases this
 intro fuel
 induction fuel with
 | zero => intro listed a w hz hcl hs h; exact hend 0 listed a w hz hs h.1 h.2
 | succ fuel ih =>
  intro listed a w hz hcl hs h
  cases hr : Region.ready md ops (listed.setIfInBounds st true) with
  | nil => exact hend (fuel + 1) listed a w hz hs hr (h.1 hr)
  | cons k ks =>
   have hk : k ∈ Region.ready md ops (listed.setIfInBounds st true) := by rw [hr]; simp
   have hk2 := hk
   rw [mem_ready] at hk2
   obtain ⟨hk0, ok, hok', hkall⟩ := hk2
   have hkst : k ≠ st := fun e => by
    subst e
    rw [Array.getD_eq_getD_getElem?, Array.getElem?_setIfInBounds_self, if_pos (by omega)] at hk0
    cases hk0
   rw [getD_set_ne true (fun e => hkst e.symm)] at hk0
   have hkr : k ∈ Region.ready md ops listed := by
    rw [mem_ready]
    refine ⟨hk0, ok, hok', fun e he hb => ?_⟩
    have h1 := ((lastOk_spec hok hok').2 e he hb).1
    have h2 := hkall e he hb
    rw [getD_set_ne false (fun x => h1 x.symm)] at h2
    exact h2
   refine ⟨fun h0 => (by rw [h0] at hkr; cases hkr), fun i hi => ?_⟩
   have hist : i ≠ st := fun e => by
    subst e
    have hkl : listed.getD k false = true := by
     rcases (lastOk_spec hok hok').1 hkst with h1 | ⟨m, h1, h2⟩
     ·exact ready_waits hi h1
     ·exact hcl m k (ready_waits hi h1) h2
    rcases Nat.lt_or_ge k listed.size with h2 | h2
    ·rw [Array.getD_eq_getD_getElem?, Array.getElem?_eq_getElem h2] at hk0 hkl
     simp only [Option.getD_some] at hk0 hkl
     rw [hk0] at hkl
     cases hkl
    ·rw [Array.getD_eq_getD_getElem?, Array.getElem?_eq_none h2] at hkl
     cases hkl
   have h2 := wpOp_weaker (Q := Q) lastQ_other (h.2 i (ready_mono hi hist))
   refine wpOp_mono (fun a' w' h3 => ?_) h2
   refine ih (listed.setIfInBounds i true) a' w' (by simpa using hz) (hcl.step hi) (by rw [getD_set_ne true hist]; exact hs) ?_
   rw [Array.setIfInBounds_comm _ _ hist]
   exact h3.2
theorem wp_region_last {id st n : Nat} {a : Act} {w : World} {os : Oper} (hm : P.follows .mixedOrders = true) (hst : ops[st]? = some os) (hok : lastOk .any ops st = true) (hn : ops.size = n + 1) (hS : S w.drew)
  (h : S w.drew → wpAnyH P .any ops (lastQ P ops Q st) S n ((Array.replicate ops.size false).setIfInBounds st true) a w.drew) : (Code.region id ops true).wp P Q a w := by
 refine wp_region_any hm ?_
 rw [hn]
 have hlt : st < ops.size := (Array.getElem?_eq_some_iff.1 hst).1
 have h1 := h hS
 rw [hn] at h1
 exact wpAny_of_last hst hok n (Array.replicate (n + 1) false) a _ (by simp [hn]) (fun i j hi => by
  rw [Array.getD_eq_getD_getElem?, Array.getElem?_replicate] at hi
  split at hi <;> cases hi) (by rw [Array.getD_eq_getD_getElem?, Array.getElem?_replicate, if_pos (by omega)]; rfl) h1
end
end Go.Proofs.YtefkpphahimkgaaGreatDoor
namespace Go.Proofs.YtefkpphahimkgaaGreatDoor
open Go.RowKit
attribute [local go_sem ↓] Go.wp_at_zero Go.wp_at_succ
set_option linter.unusedVariables false
set_option linter.unusedSimpArgs false
theorem lastQ_normal {P : Program} {ops : Array Oper} {Q : Exit → Act → World → Prop} {st : Nat} {a : Act} {w : World} (h : wpOp P ops Q st (fun a w => Q .normal a w) a w) : lastQ P ops Q st .normal a w := h
theorem five_cells {w : World} {b : Nat} {t : TypeId} {v0 v1 v2 v3 v4 : Value} (h : Blk w b t #[v0, v1, v2, v3, v4]) : w.cell? ⟨b, 0, none⟩ = some v0 ∧ w.cell? ⟨b, 1, none⟩ = some v1 ∧ w.cell? ⟨b, 2, none⟩ = some v2 ∧ w.cell? ⟨b, 3, none⟩ = some v3 ∧ w.cell? ⟨b, 4, none⟩ = some v4 :=
 ⟨h.cell 0, h.cell 1, h.cell 2, h.cell 3, h.cell 4⟩
theorem five_fr {w : World} {b : Nat} {t : TypeId} {v0 v1 v2 v3 v4 : Value} (h : Blk w b t #[v0, v1, v2, v3, v4]) : w.frozen? ⟨b, 0, none⟩ = false ∧ w.frozen? ⟨b, 1, none⟩ = false ∧ w.frozen? ⟨b, 2, none⟩ = false ∧ w.frozen? ⟨b, 3, none⟩ = false ∧ w.frozen? ⟨b, 4, none⟩ = false :=
 ⟨h.frozen 0, h.frozen 1, h.frozen 2, h.frozen 3, h.frozen 4⟩
structure VOwn (base : Nat) (w : World) (v : MV) : Prop where
 at_ : VAt w v
 fr : BlkP (base ≤ ·) v
 l : ROwn 30 5 MV.cs base w (.slice v.lA v.l.length v.lc) v.l
 m : ROwn 73 6 MV.pcs base w (.slice v.mA v.m.length v.mc) v.m
 lm : ∀ x ∈ v.l, BlkP (fun b => ¬ (Value.slice v.mA v.m.length v.mc).ownBlock = some b) x
 ml : ∀ x ∈ v.m, BlkP (fun b => ¬ (Value.slice v.lA v.l.length v.lc).ownBlock = some b) x
theorem ROwn.base_le {t : TypeId} {size : Nat} {cs : MV → List Value} {base base' : Nat} {w : World} {v : Value} {l : List MV} (h : ROwn t size cs base w v l) (hb : base' ≤ base) : ROwn t size cs base' w v l := by
 refine ⟨⟨h.own.1, ?_⟩, h.at_, fun x hx => (h.fr x hx).mono (fun b hb' => Nat.le_trans hb hb'), h.av⟩
 rcases h.own.2 with h0 | ⟨g, cap, cur, hv, hg, hh, hn⟩
 ·exact .inl h0
 ·exact .inr ⟨g, cap, cur, hv, Nat.le_trans hb hg, hh, hn⟩
theorem ROwn.shape {t : TypeId} {size : Nat} {cs : MV → List Value} {base : Nat} {w : World} {v : Value} {l : List MV} (h : ROwn t size cs base w v l) : ∃ A c, v = .slice A l.length c ∧ l.length ≤ c ∧ c ≤ maxLen ∧ Reads w w.heap.size size A l.length (l.flatMap cs) ∧ ∀ ad, l ≠ [] → A = some ad → base ≤ ad.block := by
 rcases h.own.2 with ⟨hv, h0⟩ | ⟨g, cap, cur, hv, hg, hh, hn, hm, hcs⟩
 ·have : l = [] := List.eq_nil_of_length_eq_zero h0
  subst this
  exact ⟨none, 0, hv, by simp, by simp [maxLen], Reads.none_, fun ad h1 _ => absurd rfl h1⟩
 ·have ho := h.own
  rw [hv] at ho
  refine ⟨_, _, hv, hn, hm, Reads.of_own ho, fun ad _ e => ?_⟩
  injection e with e
  rw [← e]
  exact hg
theorem VOwn.mk' {base : Nat} {w : World} {k n : Int} {s : ByteArray} {vl vm : Value} {l m : List MV} (hk : (Lit.int .i64 k).wf = true) (hn : (Lit.int .i64 n).wf = true) (hl : ROwn 30 5 MV.cs base w vl l) (hm : ROwn 73 6 MV.pcs base w vm m) (hlm : ∀ x ∈ l, BlkP (fun b => ¬ vm.ownBlock = some b) x) (hml : ∀ x ∈ m, BlkP (fun b => ¬ vl.ownBlock = some b) x) :
  ∃ v : MV, v.k = k ∧ v.n = n ∧ v.s = s ∧ v.l = l ∧ v.m = m ∧ vl = .slice v.lA l.length v.lc ∧ vm = .slice v.mA m.length v.mc ∧ v.pv = .mk k n s (MV.pvL l) (m.map MV.key) (MV.pvL m) ∧ VOwn base w v := by
 obtain ⟨A, c, rfl, h1, h2, h3, h4⟩ := hl.shape
 obtain ⟨A2, c2, rfl, k1, k2, k3, k4⟩ := hm.shape
 refine ⟨.mk ⟨#[]⟩ k n s A c l A2 c2 m, rfl, rfl, rfl, rfl, rfl, rfl, rfl, by rw [MV.pv], ⟨.mk hk hn h3 h1 h2 k3 k1 k2 hl.at_ hm.at_, .mk (fun h ad e => h4 ad h e) (fun h ad e => k4 ad h e) hl.fr hm.fr, hl, hm, hlm, hml⟩⟩
def CloP (v : MV) (w : World) (e : Ending) (w' : World) : Prop := ∃ v' : MV, e = .returned v'.val ∧ v'.pv = v.pv ∧ VOwn w.heap.size w' v' ∧ Below w.heap.size w w'
theorem pvL_snoc (l : List MV) (x : MV) : MV.pvL (l ++ [x]) = MV.pvL l ++ [x.pv] := by
 rw [pvL_map, pvL_map, List.map_append]
 rfl
theorem pvL_next (l : List MV) (i : Nat) (hi : i < l.length) : MV.pvL (l.take (i + 1)) = MV.pvL (l.take i) ++ [l[i].pv] := by
 rw [List.take_succ_eq_append_getElem hi, pvL_snoc]
structure CL (w : World) (H base : Nat) (k n : Int) (s : ByteArray) (orig : Array Value) (l : List MV) (i : Nat) (m : List MV) (j : Nat) (vl : Value) (l' : List MV) (vm : Value) (m' : List MV) (wr : World) : Prop where
 bel : Below w.heap.size w wr
 src : Blk wr H 30 orig
 out : Blk wr (H + 1) 30 #[.int .i64 0, .int .i64 0, .string ⟨#[]⟩, .slice none 0 0, .slice none 0 0]
 box : Blk wr (H + 1 + 1) 30 #[.int .i64 k, .int .i64 n, .string s, vl, vm]
 bs : H + 3 ≤ base ∧ base ≤ wr.heap.size
 rl : ROwn 30 5 MV.cs base wr vl l'
 rm : ROwn 73 6 MV.pcs base wr vm m'
 ll : l'.length = i
 lp : MV.pvL l' = MV.pvL (l.take i)
 ml : m'.length = j
 mp : MV.pvL m' = MV.pvL (m.take j)
 my : m'.map MV.key = (m.take j).map MV.key
 xlm : ∀ x ∈ l', BlkP (fun b => ¬ vm.ownBlock = some b) x
 xml : ∀ x ∈ m', BlkP (fun b => ¬ vl.ownBlock = some b) x
 ne : ∀ g, vl.ownBlock = some g → ¬ vm.ownBlock = some g
theorem CL.below {w : World} {H base : Nat} {k n : Int} {s : ByteArray} {orig : Array Value} {l : List MV} {i : Nat} {m : List MV} {j : Nat} {vl : Value} {l' : List MV} {vm : Value} {m' : List MV} {wr w' : World} (h : CL w H base k n s orig l i m j vl l' vm m' wr) (hb : Below wr.heap.size wr w') : CL w H base k n s orig l i m j vl l' vm m' w' :=
 ⟨h.bel.trans (hb.mono h.bel.size), h.src.below hb h.src.lt, h.out.below hb h.out.lt, h.box.below hb h.box.lt, ⟨h.bs.1, Nat.le_trans h.bs.2 hb.size⟩, h.rl.below hb, h.rm.below hb, h.ll, h.lp, h.ml, h.mp, h.my, h.xlm, h.xml, h.ne⟩
theorem CL.withM {w : World} {H base : Nat} {k n : Int} {s : ByteArray} {orig : Array Value} {l : List MV} {i : Nat} {vl vm : Value} {l' : List MV} {wr : World} (m : List MV) (h : CL w H base k n s orig l i [] 0 vl l' vm [] wr) : CL w H base k n s orig l i m 0 vl l' vm [] wr :=
 ⟨h.bel, h.src, h.out, h.box, h.bs, h.rl, h.rm, h.ll, h.lp, rfl, rfl, rfl, h.xlm, h.xml, h.ne⟩
theorem CL.more {w : World} {H base : Nat} {k n : Int} {s : ByteArray} {orig : Array Value} {l : List MV} {i : Nat} {vl : Value} {l' : List MV} {w2 w4 : World} {x' : MV} {A : Option Addr} {N c : Nat} (h : CL w H base k n s orig l i [] 0 vl l' (.slice none 0 0) [] w2) (hi : i < l.length) (hpv : x'.pv = l[i].pv) (hrow : ROwn 30 5 MV.cs base w4 (.slice A N c) (l' ++ [x'])) (hg : w2.grownBy w4 vl.ownBlock) (hHb : w.heap.size ≤ H) :
  CL w H base k n s orig l (i + 1) [] 0 (.slice A N c) (l' ++ [x']) (.slice none 0 0) [] (w4.setCell ⟨H + 1 + 1, 3, none⟩ (.slice A N c)) ∧ Blk w4 (H + 1 + 1) 30 #[.int .i64 k, .int .i64 n, .string s, vl, .slice none 0 0] := by
 have hge := h.rl.ge
 have hbs := h.bs
 have hne : ∀ b, b < base → ¬ some b = vl.ownBlock := fun b hb e => by have := hge b e.symm; omega
 have hk4 := h.box.grown hg (hne _ (by omega))
 have hsz := hg.size
 have hff : Fr (· = H + 1 + 1) w4 (w4.setCell ⟨H + 1 + 1, 3, none⟩ (.slice A N c)) := (Fr.refl (· = H + 1 + 1) w4).setCell (p := ⟨H + 1 + 1, 3, none⟩) (fun _ => rfl) _
 have hfa : Fr (fun b => H ≤ b) w2 (w4.setCell ⟨H + 1 + 1, 3, none⟩ (.slice A N c)) := ((Fr.of_grown (S := fun b => H ≤ b) hg (fun b e => by have := hge b e; omega))).trans (hff.mono (fun b _ e => by rw [show b = H + 1 + 1 from e]; omega))
 have hrow' : ∀ y ∈ l' ++ [x'], BlkP (fun b => ¬ b = H + 1 + 1) y := fun y hy => (hrow.fr y hy).mono (fun b hb => by omega)
 refine ⟨⟨Fr.below_trans h.bel hfa h.bel.size (fun b hb => Nat.le_trans hHb hb), ?_, ?_, ?_, ⟨hbs.1, Nat.le_trans hbs.2 hfa.size⟩, ?_, ROwn.nil _ _, by rw [List.length_append, h.ll]; rfl, by rw [pvL_snoc, pvL_next l i hi, h.lp, hpv], rfl, rfl, rfl, fun y hy => ?_, (fun y hy => by cases hy), fun g _ e => by cases e⟩, hk4⟩
 ·exact ((h.src.grown hg (hne _ (by omega))).fr hff (by omega))
 ·exact ((h.out.grown hg (hne _ (by omega))).fr hff (by omega))
 ·exact hk4.set_ 3 _
 ·exact hrow.frS hff (fun g hg' e => by have := hrow.ge g hg'; have e' : g = H + 1 + 1 := e; omega) hrow'
 ·exact (hrow.fr y hy).mono (fun b _ e => by cases e)
theorem CL.moreM {w : World} {H base : Nat} {k n : Int} {s : ByteArray} {orig : Array Value} {l m : List MV} {i j : Nat} {vl vm : Value} {l' m' : List MV} {w2 w4 : World} {x' : MV} {A : Option Addr} {N c : Nat} (h : CL w H base k n s orig l i m j vl l' vm m' w2) (hj : j < m.length) (hpv : x'.pv = m[j].pv) (hky : x'.key = m[j].key) (hav : BlkP (fun b => ¬ vl.ownBlock = some b) x') (hrow : ROwn 73 6 MV.pcs base w4 (.slice A N c) (m' ++ [x'])) (hg : w2.grownBy w4 vm.ownBlock) (hat : (Value.slice A N c).ownBlock = vm.ownBlock ∨ (Value.slice A N c).ownBlock = some w2.heap.size) (hHb : w.heap.size ≤ H) :
  CL w H base k n s orig l i m (j + 1) vl l' (.slice A N c) (m' ++ [x']) (w4.setCell ⟨H + 1 + 1, 4, none⟩ (.slice A N c)) ∧ Blk w4 (H + 1 + 1) 30 #[.int .i64 k, .int .i64 n, .string s, vl, vm] := by
 have hge := h.rm.ge
 have hbs := h.bs
 have hne : ∀ b, b < base → ¬ some b = vm.ownBlock := fun b hb e => by have := hge b e.symm; omega
 have hk4 := h.box.grown hg (hne _ (by omega))
 have hff : Fr (· = H + 1 + 1) w4 (w4.setCell ⟨H + 1 + 1, 4, none⟩ (.slice A N c)) := (Fr.refl (· = H + 1 + 1) w4).setCell (p := ⟨H + 1 + 1, 4, none⟩) (fun _ => rfl) _
 have hfa : Fr (fun b => H ≤ b) w2 (w4.setCell ⟨H + 1 + 1, 4, none⟩ (.slice A N c)) := ((Fr.of_grown (S := fun b => H ≤ b) hg (fun b e => by have := hge b e; omega))).trans (hff.mono (fun b _ e => by rw [show b = H + 1 + 1 from e]; omega))
 have hrow' : ∀ y ∈ m' ++ [x'], BlkP (fun b => ¬ b = H + 1 + 1) y := fun y hy => (hrow.fr y hy).mono (fun b hb => by omega)
 have hl4 : ROwn 30 5 MV.cs base w4 vl l' := h.rl.frS (S := fun b => vm.ownBlock = some b) (Fr.of_grown hg (fun b e => e)) (fun g h1 h2 => h.ne g h1 h2) h.xlm
 have hlo : ∀ y ∈ l', BlkP (fun b => ¬ b = H + 1 + 1) y := fun y hy => (h.rl.fr y hy).mono (fun b hb => by omega)
 refine ⟨⟨Fr.below_trans h.bel hfa h.bel.size (fun b hb => Nat.le_trans hHb hb), ?_, ?_, ?_, ⟨hbs.1, Nat.le_trans hbs.2 hfa.size⟩, ?_, ?_, h.ll, h.lp, by rw [List.length_append, h.ml]; rfl, by rw [pvL_snoc, pvL_next m j hj, h.mp, hpv], ?_, fun y hy => ?_, fun y hy => ?_, fun g h1 => ?_⟩, hk4⟩
 ·exact ((h.src.grown hg (hne _ (by omega))).fr hff (by omega))
 ·exact ((h.out.grown hg (hne _ (by omega))).fr hff (by omega))
 ·exact hk4.set_ 4 _
 ·exact hl4.frS hff (fun g hg' e => by have := hl4.ge g hg'; have e' : g = H + 1 + 1 := e; omega) hlo
 ·exact hrow.frS hff (fun g hg' e => by have := hrow.ge g hg'; have e' : g = H + 1 + 1 := e; omega) hrow'
 ·rw [List.take_succ_eq_append_getElem hj, List.map_append, List.map_append, h.my]
  simp [hky]
 ·rcases hat with e | e
  ·rw [e]; exact h.xlm y hy
  ·rw [e]
   exact (h.rl.at_ y hy).lt.mono (fun b hb e => by injection e with e; omega)
 ·rcases List.mem_append.1 hy with hy | hy
  ·exact h.xml y hy
  ·rw [List.mem_singleton] at hy
   subst hy
   exact hav
 ·rcases hat with e | e
  ·rw [e]; exact h.ne g h1
  ·rw [e]
   intro e2
   injection e2 with e2
   have := h.rl.ltS g h1
   omega
set_option maxRecDepth 100000 in
set_option maxHeartbeats 16000000 in
theorem vclone_any {w0 : World} {v : MV} (h : VAt w0 v) : ∀ (w : World), Below w0.heap.size w0 w → FitV v →
  Calls Tryz.prog 62 #[v.val] w fun e w' => CloP v w e w' := by
 induction h with
 | mk wk wn rl cl1 cl2 rm cm1 cm2 hl hm ih1 ih2 =>
 rename_i key k n s lA lc l mA mc m
 intro w hb hfit
 show Calls Tryz.prog 62 #[_] w fun e w' => PF (CloP (.mk key k n s lA lc l mA mc m) w) e w'
 have HV : Hid (VAt w (.mk key k n s lA lc l mA mc m)) := Ld ((VAt.mk wk wn rl cl1 cl2 rm cm1 cm2 hl hm).bel hb)
 have HB0 := Ld hb
 have HWF := Ld (And.intro wk wn)
 have HI1 := Ld ih1
 have HI2 := Ld ih2
 cases hfit with
 | mk hf1 hf2 hf3 =>
 have HFL := Ld hf2
 have HFM := Ld hf3
 unfold MV.val
 simp only [MV.k, MV.n, MV.s, MV.lA, MV.lc, MV.l, MV.mA, MV.mc, MV.m]
 obtain ⟨nl, hnl⟩ : ∃ nl, nl = l.length := ⟨_, rfl⟩
 obtain ⟨nm, hnm⟩ : ∃ nm, nm = m.length := ⟨_, rfl⟩
 rw [← hnl, ← hnm] at hf1 ⊢
 have HNL : Hid (l.length = nl) := Ld hnl.symm
 have HNM : Hid (m.length = nm) := Ld hnm.symm
 have hnl3 : (nl : Int) ≤ 3001 := by omega
 have hnm3 : (nm : Int) ≤ 3001 := by omega
 obtain ⟨W3, hW3⟩ : ∃ W3, W3 = (((w.alloc (.cells #[.int .i64 k, .int .i64 n, .string s, .slice lA nl lc, .slice mA nm mc] 30)).alloc (.cells #[.int .i64 0, .int .i64 0, .string ⟨#[]⟩, .slice none 0 0, .slice none 0 0] 30)).alloc (.cells #[.int .i64 k, .int .i64 n, .string s, .slice none 0 0, .slice none 0 0] 30)) := ⟨_, rfl⟩
 have HC0 : Hid (CL w w.heap.size W3.heap.size k n s #[.int .i64 k, .int .i64 n, .string s, .slice lA nl lc, .slice mA nm mc] l 0 [] 0 (.slice none 0 0) [] (.slice none 0 0) [] W3) := by
  have hk1 : Blk (w.alloc (.cells #[.int .i64 k, .int .i64 n, .string s, .slice lA nl lc, .slice mA nm mc] 30)) w.heap.size 30 #[.int .i64 k, .int .i64 n, .string s, .slice lA nl lc, .slice mA nm mc] := Blk.new _ _ _
  have hb1 : Below w.heap.size w W3 := by rw [hW3]; exact ((((Below.refl _ _).alloc (Nat.le_refl _) _).alloc (by simp) _).alloc (by simp; omega) _)
  have hs3 : W3.heap.size = w.heap.size + 3 := by rw [hW3]; simp
  refine Ld ⟨hb1, ?_, ?_, ?_, ⟨by omega, Nat.le_refl _⟩, ROwn.nil _ _, ROwn.nil _ _, rfl, rfl, rfl, rfl, rfl, (fun y hy => by cases hy), (fun y hy => by cases hy), (fun g e => by cases e)⟩
  ·rw [hW3]; exact (hk1.alloc _).alloc _
  ·rw [hW3]
   have h2 := (Blk.new (w.alloc (.cells #[.int .i64 k, .int .i64 n, .string s, .slice lA nl lc, .slice mA nm mc] 30)) 30 #[.int .i64 0, .int .i64 0, .string ⟨#[]⟩, .slice none 0 0, .slice none 0 0]).alloc (.cells #[.int .i64 k, .int .i64 n, .string s, .slice none 0 0, .slice none 0 0] 30)
   simpa using h2
  ·rw [hW3]
   have h2 := (Blk.new ((w.alloc (.cells #[.int .i64 k, .int .i64 n, .string s, .slice lA nl lc, .slice mA nm mc] 30)).alloc (.cells #[.int .i64 0, .int .i64 0, .string ⟨#[]⟩, .slice none 0 0, .slice none 0 0] 30)) 30 #[.int .i64 k, .int .i64 n, .string s, .slice none 0 0, .slice none 0 0])
   simpa using h2
 have HFIN : Hid (∀ (vl vm : Value) (l' m' : List MV) (wr wf : World), CL w w.heap.size W3.heap.size k n s #[.int .i64 k, .int .i64 n, .string s, .slice lA nl lc, .slice mA nm mc] l nl m nm vl l' vm m' wr → Fr (· = w.heap.size + 1) wr wf → PF (CloP (.mk key k n s lA lc l mA mc m) w) (.returned (.agg #[.int .i64 k, .int .i64 n, .string s, vl, vm])) wf) := Ld (fun vl vm l' m' wr wf h hf => by
  have hav : ∀ y, BlkP (W3.heap.size ≤ ·) y → BlkP (fun b => ¬ b = w.heap.size + 1) y := fun y hy => hy.mono (fun b hb => by have := h.bs; omega)
  obtain ⟨v', e1, e2, e3, e4, e5, e6, e7, e8, e9⟩ := VOwn.mk' (base := W3.heap.size) HWF.out.1 HWF.out.2 (h.rl.frS hf (fun g hg e => by have := h.rl.ge g hg; have e' : g = w.heap.size + 1 := e; have := h.bs; omega) (fun y hy => hav y (h.rl.fr y hy))) (h.rm.frS hf (fun g hg e => by have := h.rm.ge g hg; have e' : g = w.heap.size + 1 := e; have := h.bs; omega) (fun y hy => hav y (h.rm.fr y hy))) h.xlm h.xml (s := s)
  have hle : w.heap.size ≤ W3.heap.size := by have := h.bs; omega
  refine ⟨v', ?_, ?_, ⟨e9.at_, e9.fr.mono (fun b hb => Nat.le_trans hle hb), ?_, ?_, e9.lm, e9.ml⟩, Fr.below_trans h.bel hf h.bel.size (fun b e => by rw [show b = w.heap.size + 1 from e]; omega)⟩
  ·rw [MV.val, e1, e2, e3, e4, e5, ← e6, ← e7]
  ·rw [e8, MV.pv, h.lp, h.mp, h.my, List.take_of_length_le (by rw [HNL.out]; exact Nat.le_refl _), List.take_of_length_le (l := m) (by rw [HNM.out]; exact Nat.le_refl _)]
  ·exact e9.l.base_le hle
  ·exact e9.m.base_le hle)
 clear hb ih1 ih2 hl hm rl rm wk wn hnl hnm cl1 cl2 cm1 cm2 hf2 hf3
 go_enter Tryz.func62, Tryz.ntmps62
 go_wp2_with fail
 rw [← hW3]
 clear hW3
 go_loopw [14] (fun y wr => ∃ (i : Nat) (A1 : Option Addr) (n1 c1 : Nat) (l' : List MV), y = .int .i64 (i : Int) ∧ i ≤ nl ∧ Hid (CL w w.heap.size W3.heap.size k n s #[.int .i64 k, .int .i64 n, .string s, .slice lA nl lc, .slice mA nm mc] l i [] 0 (.slice A1 n1 c1) l' (.slice none 0 0) [] wr)) (fun y _ => nl - (intOf y).toNat)
 case atStart => exact ⟨0, none, 0, 0, [], rfl, Nat.zero_le _, HC0⟩
 case round =>
  clear HC0
  obtain ⟨i, A1, n1, c1, l', rfl, hi, HC⟩ := hrel
  rcases (by omega : i < nl ∨ i = nl) with hlt | heq
  ·have q0 : decide ((i : Int) < (nl : Int)) = true := by rw [decide_eq_true_iff]; omega
   have q0' : decide (i < nl) = true := by rw [decide_eq_true_iff]; omega
   have hil : i < l.length := by rw [HNL.out]; exact hlt
   obtain ⟨b, o, hA0, hbl, hc0⟩ := (HV.out.bel HC.out.bel).la (i := i) hil
   have hA : lA = some ⟨b, o, none⟩ := hA0
   have hc : ∀ j, j < 5 → wr.cell? ⟨b, o + i * 5 + j, none⟩ = l[i].cs[j]? := hc0
   clear hA0 hc0
   subst hA
   obtain ⟨x, hx⟩ : ∃ x, x = l[i] := ⟨_, rfl⟩
   have hxm : x ∈ l := by rw [hx]; exact List.getElem_mem hil
   rw [← hx] at hc
   have d0 : wr.cell? ⟨b, o + i * 5, none⟩ = some (.int .i64 x.k) := hc 0 (by omega)
   have d1 : wr.cell? ⟨b, o + i * 5 + 1, none⟩ = some (.int .i64 x.n) := hc 1 (by omega)
   have d2 : wr.cell? ⟨b, o + i * 5 + 2, none⟩ = some (.string x.s) := hc 2 (by omega)
   have d3 : wr.cell? ⟨b, o + i * 5 + 3, none⟩ = some (.slice x.lA x.l.length x.lc) := hc 3 (by omega)
   have d4 : wr.cell? ⟨b, o + i * 5 + 4, none⟩ = some (.slice x.mA x.m.length x.mc) := hc 4 (by omega)
   obtain ⟨W5, hW5⟩ : ∃ W5, W5 = wr.alloc (.cells #[.int .i64 x.k, .int .i64 x.n, .string x.s, .slice x.lA x.l.length x.lc, .slice x.mA x.m.length x.mc] 30) := ⟨_, rfl⟩
   have hb5 : Below wr.heap.size wr W5 := by rw [hW5]; exact (Below.refl _ _).alloc (Nat.le_refl _) _
   have hk5 : Blk W5 wr.heap.size 30 #[.int .i64 x.k, .int .i64 x.n, .string x.s, .slice x.lA x.l.length x.lc, .slice x.mA x.m.length x.mc] := by rw [hW5]; exact Blk.new _ _ _
   have HC5 := Ld (HC.out.below hb5)
   have HK5 := Ld hk5
   have HLT5 : Hid (∀ g, (Value.slice A1 n1 c1).ownBlock = some g → g < wr.heap.size) := Ld HC.out.rl.ltS
   have HSV : Hid (∀ V, Fr (fun g => (Value.slice A1 n1 c1).ownBlock = some g) W5 V → V.cell? ⟨w.heap.size + 1 + 1, 3, none⟩ = some (.slice A1 n1 c1) ∧ (V.cell? ⟨wr.heap.size, 0, none⟩ = some (.int .i64 x.k) ∧ V.cell? ⟨wr.heap.size, 1, none⟩ = some (.int .i64 x.n) ∧ V.cell? ⟨wr.heap.size, 2, none⟩ = some (.string x.s) ∧ V.cell? ⟨wr.heap.size, 3, none⟩ = some (.slice x.lA x.l.length x.lc) ∧ V.cell? ⟨wr.heap.size, 4, none⟩ = some (.slice x.mA x.m.length x.mc))) := Ld (fun V hV => by
    have h1 := (HC5.out.box.fr hV (fun e => by have := HC5.out.rl.ge _ e; have := HC5.out.bs; omega)).cell 3
    have h2 := HK5.out.fr hV (fun e => by have := HLT5.out _ e; omega)
    simp only [gz] at h1
    exact ⟨h1, h2.cell 0, h2.cell 1, h2.cell 2, h2.cell 3, h2.cell 4⟩)
   have hcall := HI1.out x hxm
   unfold MV.val at hcall
   have HCC : Hid (∀ V, Fr (fun g => (Value.slice A1 n1 c1).ownBlock = some g) W5 V → Calls Tryz.prog 62 #[.agg #[.int .i64 x.k, .int .i64 x.n, .string x.s, .slice x.lA x.l.length x.lc, .slice x.mA x.m.length x.mc]] V fun e w' => CloP x V e w') := Ld (fun V hV => hcall V (HB0.out.trans ((Fr.below_trans HC5.out.bel hV HC5.out.bel.size (fun g e => by have := HC5.out.rl.ge _ e; have := HC5.out.bs; omega)).mono HB0.out.size)) (HFL.out x hxm))
   have HXX := Ld hx
   have HIL := Ld hil
   have hii : (i : Int) < (nl : Int) := by omega
   have hi0 : (0 : Int) ≤ (i : Int) := by omega
   clear hc hxm hx hcall hbl hb5 hk5
   go_wp2_with fail
   rw [← hW5]
   clear hW5 d0 d1 d2 d3 d4
   refine wp_region_last (S := fun V => Fr (fun g => (Value.slice A1 n1 c1).ownBlock = some g) W5 V) (st := 7) (n := 7) (by kernel_rfl) rfl (by kernel_rfl) rfl ((Fr.refl _ _).drew) (fun hS1 => ?_)
   refine tk 0 (some 18) (.pointer (some ⟨w.heap.size + 1 + 1, 3, none⟩)) rfl (fun V hS => by go_simp) hS1 ?_
   simp only [nf]
   refine tk 1 (some 19) (.slice A1 n1 c1) rfl (fun V hS => by obtain ⟨h0, h1, h2, h3, h4, h5⟩ := HSV.out V hS; go_simp) hS1 ?_
   simp only [nf]
   refine tk 2 (some 20) (.agg #[.int .i64 x.k, .int .i64 x.n, .string x.s, .slice x.lA x.l.length x.lc, .slice x.mA x.m.length x.mc]) rfl (fun V hS => by obtain ⟨h0, h1, h2, h3, h4, h5⟩ := HSV.out V hS; go_simp) hS1 ?_
   simp only [nf]
   refine rd1 3 rfl (fun K' hK => ?_)
   go_simp
   refine (HCC.out _ hS1).mono ?_
   rintro e w2 ⟨x', rfl, hpv, hvo, hb2⟩
   unfold MV.val
   have HPV := Ld hpv
   have HVO := Ld hvo
   have HC6 := Ld ((HC5.out.below ((Below.refl _ _).drew)).below hb2)
   clear hpv hvo
   go_simp
   refine hK.out _ _ ((hS1).below hb2) (fun hS2 => ?_)
   clear hK K' hS1
   refine rd1 4 rfl (fun K' hK => ?_)
   go_simp
   have HK7 : Hid (Blk (w2.alloc (.cells #[.int .i64 x'.k, .int .i64 x'.n, .string x'.s, .slice x'.lA x'.l.length x'.lc, .slice x'.mA x'.m.length x'.mc] 30)) w2.heap.size 30 (MV.cs x').toArray) := Ld (Blk.new _ _ _)
   have HC7 := Ld (HC6.out.below ((Below.refl _ _).alloc (Nat.le_refl _) (.cells #[.int .i64 x'.k, .int .i64 x'.n, .string x'.s, .slice x'.lA x'.l.length x'.lc, .slice x'.mA x'.m.length x'.mc] 30)))
   have HV7 := Ld (HVO.out.at_.bel ((Below.refl _ _).alloc (Nat.le_refl _) (.cells #[.int .i64 x'.k, .int .i64 x'.n, .string x'.s, .slice x'.lA x'.l.length x'.lc, .slice x'.mA x'.m.length x'.mc] 30)))
   have HG7 : Hid (wr.heap.size ≤ W5.drew.heap.size) := Ld (by have := HK5.out.lt; show wr.heap.size ≤ W5.heap.size; omega)
   refine hK.out _ _ ((hS2).alloc _) (fun hS3 => ?_)
   clear hK K' hS2
   refine rd1 5 rfl (fun K' hK => ?_)
   generalize w2.alloc (.cells #[.int .i64 x'.k, .int .i64 x'.n, .string x'.s, .slice x'.lA x'.l.length x'.lc, .slice x'.mA x'.m.length x'.mc] 30) = w3 at HK7 HC7 HV7 hS3 ⊢
   refine step_app_row w3 infoValue Tryz.underlying27 rfl (by omega) (by omega) (fun _ => rfl) oneC_cs rfl (some 23) rfl _ _ rfl W3.heap.size (.slice A1 n1 c1) l' rfl HC7.out.rl w2.heap.size rfl x' HK7.out HV7.out (HVO.out.fr.mono (fun g hg => Nat.le_trans HC5.out.bs.2 hg)) (HVO.out.fr.mono (fun g hg e => by have := HLT5.out g e; have := HG7.out; omega)) (by rw [HC7.out.ll]; omega) HC7.out.bs.2 ?_
   intro v4 w4 hrow hg hat
   have hs4 := (hS3).grown hg (fun g e _ => e)
   obtain ⟨A9, c9, rfl, _, _, _⟩ := hrow.shape
   generalize (l' ++ [x']).length = N9 at hrow hat ⊢
   refine hK.out _ _ (hs4) (fun hS4 => ?_)
   clear hK K' hS3
   simp only [nf]
   refine tk 6 (some 24) (.pointer (some ⟨w.heap.size + 1 + 1, 3, none⟩)) rfl (fun V hS => by go_simp) hS4 ?_
   simp only [nf]
   refine wpAnyH_done (by kernel_rfl) ?_ _
   refine lastQ_normal (wpOp_step rfl (fun K' hK => ?_))
   obtain ⟨hcn, hbx⟩ := HC7.out.more HIL.out (HPV.out.trans (by rw [HXX.out])) hrow hg (Nat.le_refl _)
   have hz := hbx.frozen 3
   have hd := hbx.cell 3
   simp only [gz] at hd
   go_simp
   refine hK _ _ ?_
   clear hK K' hS4 hz hd hbx hrow hg hat
   have HCN := Ld hcn
   clear hcn
   go_wp2
   go_roundw
   case rel => exact ⟨i + 1, A9, N9, c9, l' ++ [x'], by go_num, by omega, HCN⟩
   case measure => simp [intOf]; omega
  ·have q0 : decide ((i : Int) < (nl : Int)) = false := by rw [decide_eq_false_iff_not]; omega
   have q0' : decide (i < nl) = false := by rw [decide_eq_false_iff_not]; omega
   have HCM : Hid (CL w w.heap.size W3.heap.size k n s #[.int .i64 k, .int .i64 n, .string s, .slice lA nl lc, .slice mA nm mc] l nl m 0 (.slice A1 n1 c1) l' (.slice none 0 0) [] wr) := Ld (by
    have h := HC.out.withM m
    rw [heq] at h
    exact h)
   have b4 := HCM.out.src.cell 4
   simp only [gz] at b4
   clear heq HC
   go_wp2
   clear b4
   go_loopw [29] (fun y wr => ∃ (j : Nat) (A2 : Option Addr) (n2 c2 : Nat) (m' : List MV), y = .int .i64 (j : Int) ∧ j ≤ nm ∧ Hid (CL w w.heap.size W3.heap.size k n s #[.int .i64 k, .int .i64 n, .string s, .slice lA nl lc, .slice mA nm mc] l nl m j (.slice A1 n1 c1) l' (.slice A2 n2 c2) m' wr)) (fun y _ => nm - (intOf y).toNat)
   case atStart => exact ⟨0, none, 0, 0, [], rfl, Nat.zero_le _, HCM⟩
   case round =>
    clear HCM
    obtain ⟨j, A2, n2, c2, m', rfl, hj, HC⟩ := hrel
    rcases (by omega : j < nm ∨ j = nm) with hlt | heq
    ·have q5 : decide ((j : Int) < (nm : Int)) = true := by rw [decide_eq_true_iff]; omega
     have q5' : decide (j < nm) = true := by rw [decide_eq_true_iff]; omega
     have hil : j < m.length := by rw [HNM.out]; exact hlt
     obtain ⟨b, o, hA0, hbl, hc0⟩ := (HV.out.bel HC.out.bel).ma (i := j) hil
     have hA : mA = some ⟨b, o, none⟩ := hA0
     have hc : ∀ t, t < 6 → wr.cell? ⟨b, o + j * 6 + t, none⟩ = m[j].pcs[t]? := hc0
     clear hA0 hc0
     subst hA
     obtain ⟨x, hx⟩ : ∃ x, x = m[j] := ⟨_, rfl⟩
     have hxm : x ∈ m := by rw [hx]; exact List.getElem_mem hil
     rw [← hx] at hc
     have d0 : wr.cell? ⟨b, o + j * 6, none⟩ = some (.string x.key) := hc 0 (by omega)
     have d1 : wr.cell? ⟨b, o + j * 6 + 1, none⟩ = some (.int .i64 x.k) := hc 1 (by omega)
     have d2 : wr.cell? ⟨b, o + j * 6 + 2, none⟩ = some (.int .i64 x.n) := hc 2 (by omega)
     have d3 : wr.cell? ⟨b, o + j * 6 + 3, none⟩ = some (.string x.s) := hc 3 (by omega)
     have d4 : wr.cell? ⟨b, o + j * 6 + 4, none⟩ = some (.slice x.lA x.l.length x.lc) := hc 4 (by omega)
     have d5 : wr.cell? ⟨b, o + j * 6 + 5, none⟩ = some (.slice x.mA x.m.length x.mc) := hc 5 (by omega)
     obtain ⟨W5, hW5⟩ : ∃ W5, W5 = wr.alloc (.cells #[.string x.key, .int .i64 x.k, .int .i64 x.n, .string x.s, .slice x.lA x.l.length x.lc, .slice x.mA x.m.length x.mc] 73) := ⟨_, rfl⟩
     have hb5 : Below wr.heap.size wr W5 := by rw [hW5]; exact (Below.refl _ _).alloc (Nat.le_refl _) _
     have hk5 : Blk W5 wr.heap.size 73 #[.string x.key, .int .i64 x.k, .int .i64 x.n, .string x.s, .slice x.lA x.l.length x.lc, .slice x.mA x.m.length x.mc] := by rw [hW5]; exact Blk.new _ _ _
     have HC5 := Ld (HC.out.below hb5)
     have HK5 := Ld hk5
     have HLT5 : Hid (∀ g, (Value.slice A2 n2 c2).ownBlock = some g → g < wr.heap.size) := Ld HC.out.rm.ltS
     have HLT6 : Hid (∀ g, (Value.slice A1 n1 c1).ownBlock = some g → g < wr.heap.size) := Ld HC.out.rl.ltS
     have HSV : Hid (∀ V, Fr (fun g => (Value.slice A2 n2 c2).ownBlock = some g) W5 V → V.cell? ⟨w.heap.size + 1 + 1, 4, none⟩ = some (.slice A2 n2 c2) ∧ V.cell? ⟨wr.heap.size, 0, none⟩ = some (.string x.key) ∧ (V.cell? ⟨wr.heap.size, 1, none⟩ = some (.int .i64 x.k) ∧ V.cell? ⟨wr.heap.size, 1 + 1, none⟩ = some (.int .i64 x.n) ∧ V.cell? ⟨wr.heap.size, 1 + 2, none⟩ = some (.string x.s) ∧ V.cell? ⟨wr.heap.size, 1 + 3, none⟩ = some (.slice x.lA x.l.length x.lc) ∧ V.cell? ⟨wr.heap.size, 1 + 4, none⟩ = some (.slice x.mA x.m.length x.mc))) := Ld (fun V hV => by
      have h1 := (HC5.out.box.fr hV (fun e => by have := HC5.out.rm.ge _ e; have := HC5.out.bs; omega)).cell 4
      have h2 := HK5.out.fr hV (fun e => by have := HLT5.out _ e; omega)
      simp only [gz] at h1
      exact ⟨h1, h2.cell 0, h2.cell 1, h2.cell 2, h2.cell 3, h2.cell 4, h2.cell 5⟩)
     have hcall := HI2.out x hxm
     unfold MV.val at hcall
     have HCC : Hid (∀ V, Fr (fun g => (Value.slice A2 n2 c2).ownBlock = some g) W5 V → Calls Tryz.prog 62 #[.agg #[.int .i64 x.k, .int .i64 x.n, .string x.s, .slice x.lA x.l.length x.lc, .slice x.mA x.m.length x.mc]] V fun e w' => CloP x V e w') := Ld (fun V hV => hcall V (HB0.out.trans ((Fr.below_trans HC5.out.bel hV HC5.out.bel.size (fun g e => by have := HC5.out.rm.ge _ e; have := HC5.out.bs; omega)).mono HB0.out.size)) (HFM.out x hxm))
     have HXX := Ld hx
     have HIL := Ld hil
     have hii : (j : Int) < (nm : Int) := by omega
     have hi0 : (0 : Int) ≤ (j : Int) := by omega
     clear hc hxm hx hcall hbl hb5 hk5
     go_wp2_with fail
     rw [← hW5]
     clear hW5 d0 d1 d2 d3 d4 d5
     refine wp_region_last (S := fun V => Fr (fun g => (Value.slice A2 n2 c2).ownBlock = some g) W5 V) (st := 11) (n := 11) (by kernel_rfl) rfl (by kernel_rfl) rfl ((Fr.refl _ _).drew) (fun hS1 => ?_)
     refine tk 0 (some 33) (.pointer (some ⟨w.heap.size + 1 + 1, 4, none⟩)) rfl (fun V hS => by go_simp) hS1 ?_
     simp only [nf]
     refine tk 1 (some 34) (.slice A2 n2 c2) rfl (fun V hS => by obtain ⟨h0, h1, h2, h3, h4, h5, h6⟩ := HSV.out V hS; go_simp) hS1 ?_
     simp only [nf]
     refine tk 2 (some 35) (.pointer (some ⟨wr.heap.size, 0, none⟩)) rfl (fun V hS => by go_simp) hS1 ?_
     simp only [nf]
     refine tk 3 (some 36) (.string x.key) rfl (fun V hS => by obtain ⟨h0, h1, h2, h3, h4, h5, h6⟩ := HSV.out V hS; go_simp) hS1 ?_
     simp only [nf]
     refine tk 4 (some 37) (.pointer (some ⟨wr.heap.size, 1, none⟩)) rfl (fun V hS => by go_simp) hS1 ?_
     simp only [nf]
     refine tk 5 (some 38) (.agg #[.int .i64 x.k, .int .i64 x.n, .string x.s, .slice x.lA x.l.length x.lc, .slice x.mA x.m.length x.mc]) rfl (fun V hS => by obtain ⟨h0, h1, h2, h3, h4, h5, h6⟩ := HSV.out V hS; go_simp) hS1 ?_
     simp only [nf]
     refine rd1 6 rfl (fun K' hK => ?_)
     go_simp
     refine (HCC.out _ hS1).mono ?_
     rintro e w2 ⟨x', rfl, hpv, hvo, hb2⟩
     unfold MV.val
     have HPV := Ld hpv
     have HVO := Ld hvo
     have HC6 := Ld ((HC5.out.below ((Below.refl _ _).drew)).below hb2)
     clear hpv hvo
     go_simp
     refine hK.out _ _ ((hS1).below hb2) (fun hS2 => ?_)
     clear hK K' hS1
     refine tk 7 (some 40) ((.agg #[.string x.key, .int .i64 x'.k, .int .i64 x'.n, .string x'.s, .slice x'.lA x'.l.length x'.lc, .slice x'.mA x'.m.length x'.mc])) rfl (fun V hS => by go_simp) hS2 ?_
     simp only [nf]
     refine rd1 8 rfl (fun K' hK => ?_)
     go_simp
     obtain ⟨x'', hx''⟩ : ∃ x'' : MV, x'' = .mk x.key x'.k x'.n x'.s x'.lA x'.lc x'.l x'.mA x'.mc x'.m := ⟨_, rfl⟩
     have HX2 : Hid (x''.key = x.key ∧ x''.pv = x'.pv ∧ (MV.pcs x'').toArray = #[.string x.key, .int .i64 x'.k, .int .i64 x'.n, .string x'.s, .slice x'.lA x'.l.length x'.lc, .slice x'.mA x'.m.length x'.mc] ∧ VAt w2 x'' ∧ BlkP (W5.drew.heap.size ≤ ·) x'') := Ld (by rw [hx'']; exact ⟨rfl, by cases x'; rfl, rfl, HVO.out.at_.rekey, HVO.out.fr.rekey⟩)
     clear hx''
     have HK7 : Hid (Blk (w2.alloc (.cells #[.string x.key, .int .i64 x'.k, .int .i64 x'.n, .string x'.s, .slice x'.lA x'.l.length x'.lc, .slice x'.mA x'.m.length x'.mc] 73)) w2.heap.size 73 (MV.pcs x'').toArray) := Ld (by rw [HX2.out.2.2.1]; exact Blk.new _ _ _)
     have HC7 := Ld (HC6.out.below ((Below.refl _ _).alloc (Nat.le_refl _) (.cells #[.string x.key, .int .i64 x'.k, .int .i64 x'.n, .string x'.s, .slice x'.lA x'.l.length x'.lc, .slice x'.mA x'.m.length x'.mc] 73)))
     have HV7 := Ld (HX2.out.2.2.2.1.bel ((Below.refl _ _).alloc (Nat.le_refl _) (.cells #[.string x.key, .int .i64 x'.k, .int .i64 x'.n, .string x'.s, .slice x'.lA x'.l.length x'.lc, .slice x'.mA x'.m.length x'.mc] 73)))
     have HG7 : Hid (wr.heap.size ≤ W5.drew.heap.size) := Ld (by have := HK5.out.lt; show wr.heap.size ≤ W5.heap.size; omega)
     refine hK.out _ _ ((hS2).alloc _) (fun hS3 => ?_)
     clear hK K' hS2
     refine rd1 9 rfl (fun K' hK => ?_)
     generalize w2.alloc (.cells #[.string x.key, .int .i64 x'.k, .int .i64 x'.n, .string x'.s, .slice x'.lA x'.l.length x'.lc, .slice x'.mA x'.m.length x'.mc] 73) = w3 at HK7 HC7 HV7 hS3 ⊢
     refine step_app_row w3 infoPair Tryz.underlying28 rfl (by omega) (by omega) (fun _ => rfl) oneC_pcs rfl (some 42) rfl _ _ rfl W3.heap.size (.slice A2 n2 c2) m' rfl HC7.out.rm w2.heap.size rfl x'' HK7.out HV7.out (HX2.out.2.2.2.2.mono (fun g hg => Nat.le_trans HC5.out.bs.2 hg)) (HX2.out.2.2.2.2.mono (fun g hg e => by have := HLT5.out g e; have := HG7.out; omega)) (by rw [HC7.out.ml]; omega) HC7.out.bs.2 ?_
     intro v4 w4 hrow hg hat
     have hs4 := (hS3).grown hg (fun g e _ => e)
     obtain ⟨A9, c9, rfl, _, _, _⟩ := hrow.shape
     generalize (m' ++ [x'']).length = N9 at hrow hat ⊢
     refine hK.out _ _ (hs4) (fun hS4 => ?_)
     clear hK K' hS3
     simp only [nf]
     refine tk 10 (some 43) (.pointer (some ⟨w.heap.size + 1 + 1, 4, none⟩)) rfl (fun V hS => by go_simp) hS4 ?_
     simp only [nf]
     refine wpAnyH_done (by kernel_rfl) ?_ _
     refine lastQ_normal (wpOp_step rfl (fun K' hK => ?_))
     obtain ⟨hcn, hbx⟩ := HC7.out.moreM HIL.out (HX2.out.2.1.trans (HPV.out.trans (by rw [HXX.out]))) (HX2.out.1.trans (by rw [HXX.out])) (HX2.out.2.2.2.2.mono (fun g hg e => by have := HLT6.out g e; have := HG7.out; omega)) hrow hg hat (Nat.le_refl _)
     have hz := hbx.frozen 4
     have hd := hbx.cell 4
     simp only [gz] at hd
     go_simp
     refine hK _ _ ?_
     clear hK K' hS4 hz hd hbx hrow hg hat
     have HCN := Ld hcn
     clear hcn
     go_wp2
     go_roundw
     case rel => exact ⟨j + 1, A9, N9, c9, m' ++ [x''], by go_num, by omega, HCN⟩
     case measure => simp [intOf]; omega
    ·have q5 : decide ((j : Int) < (nm : Int)) = false := by rw [decide_eq_false_iff_not]; omega
     have q5' : decide (j < nm) = false := by rw [decide_eq_false_iff_not]; omega
     have HCE : Hid (CL w w.heap.size W3.heap.size k n s #[.int .i64 k, .int .i64 n, .string s, .slice lA nl lc, .slice mA nm mc] l nl m nm (.slice A1 n1 c1) l' (.slice A2 n2 c2) m' wr) := Ld (by
      have h := HC.out
      rw [heq] at h
      exact h)
     obtain ⟨s0, s1, s2, s3, s4⟩ := five_cells HCE.out.box
     obtain ⟨t0, t1, t2, t3, t4⟩ := five_cells HCE.out.out
     obtain ⟨z0, z1, z2, z3, z4⟩ := five_fr HCE.out.out
     clear heq HC
     have HR := Ld (HFIN.out _ _ l' m' wr (((((wr.setCell ⟨w.heap.size + 1, 0, none⟩ (.int .i64 k)).setCell ⟨w.heap.size + 1, 1, none⟩ (.int .i64 n)).setCell ⟨w.heap.size + 1, 2, none⟩ (.string s)).setCell ⟨w.heap.size + 1, 3, none⟩ (.slice A1 n1 c1)).setCell ⟨w.heap.size + 1, 4, none⟩ (.slice A2 n2 c2)) HCE.out ((((((Fr.refl (· = w.heap.size + 1) wr).setCell (p := ⟨w.heap.size + 1, 0, none⟩) (fun _ => rfl) _).setCell (p := ⟨w.heap.size + 1, 1, none⟩) (fun _ => rfl) _).setCell (p := ⟨w.heap.size + 1, 2, none⟩) (fun _ => rfl) _).setCell (p := ⟨w.heap.size + 1, 3, none⟩) (fun _ => rfl) _).setCell (p := ⟨w.heap.size + 1, 4, none⟩) (fun _ => rfl) _))
     have HKF : Hid (Blk (((((wr.setCell ⟨w.heap.size + 1, 0, none⟩ (.int .i64 k)).setCell ⟨w.heap.size + 1, 1, none⟩ (.int .i64 n)).setCell ⟨w.heap.size + 1, 2, none⟩ (.string s)).setCell ⟨w.heap.size + 1, 3, none⟩ (.slice A1 n1 c1)).setCell ⟨w.heap.size + 1, 4, none⟩ (.slice A2 n2 c2)) (w.heap.size + 1) 30 #[.int .i64 k, .int .i64 n, .string s, .slice A1 n1 c1, .slice A2 n2 c2]) := Ld (((((HCE.out.out.set_ 0 _).set_ 1 _).set_ 2 _).set_ 3 _).set_ 4 _)
     go_wp2
     generalize (((((wr.setCell ⟨w.heap.size + 1, 0, none⟩ (.int .i64 k)).setCell ⟨w.heap.size + 1, 1, none⟩ (.int .i64 n)).setCell ⟨w.heap.size + 1, 2, none⟩ (.string s)).setCell ⟨w.heap.size + 1, 3, none⟩ (.slice A1 n1 c1)).setCell ⟨w.heap.size + 1, 4, none⟩ (.slice A2 n2 c2)) = Wf at HKF HR ⊢
     obtain ⟨k0, k1, k2, k3, k4⟩ := five_cells HKF.out
     refine bodyPost_ret (v := .agg #[.int .i64 k, .int .i64 n, .string s, .slice A1 n1 c1, .slice A2 n2 c2]) (by simp [results, Tryz.results62, go_sem, k0, k1, k2, k3, k4]) rfl ?_
     exact HR.out
def KidP (v : MV) (w : World) (e : Ending) (w' : World) : Prop :=
 ∃ (A : Option Addr) (n c : Nat), e = .returned (.slice A n c) ∧ n = (v.l ++ v.m).length ∧ Reads w' w'.heap.size 5 A n ((v.l ++ v.m).flatMap MV.cs) ∧ Below w.heap.size w w'
theorem VAt.rl {w : World} {v : MV} (h : VAt w v) : Reads w w.heap.size 5 v.lA v.l.length (v.l.flatMap MV.cs) := by cases h; assumption
theorem oneC_csL (l : List MV) : ∀ u ∈ l.flatMap MV.cs, u.oneCell' = true := fun u hu => by
 rw [List.mem_flatMap] at hu
 obtain ⟨x, _, hu⟩ := hu
 exact oneC_cs x u hu
set_option maxRecDepth 100000 in
set_option maxHeartbeats 1000000 in
theorem rkids_any (v : MV) (w : World) (h : VAt w v) (hf : FitV v) : Calls Tryz.prog 129 #[v.val] w fun e w' => KidP v w e w' := by
 show Calls Tryz.prog 129 #[v.val] w fun e w' => PF (KidP v w) e w'
 have hsm : v.l.length + v.m.length ≤ 3001 := by cases hf; assumption
 have HV := Ld h
 unfold MV.val
 obtain ⟨i0, hi0, hz0, hz1, hz2⟩ := info_parts infoValue
 have HINF := Ld (And.intro hi0 (And.intro hz0 (And.intro hz1 hz2)))
 obtain ⟨nl, hnl⟩ : ∃ nl, nl = v.l.length := ⟨_, rfl⟩
 obtain ⟨nm, hnm⟩ : ∃ nm, nm = v.m.length := ⟨_, rfl⟩
 rw [← hnl, ← hnm] at hsm ⊢
 have HNL : Hid (v.l.length = nl) := Ld hnl.symm
 have HNM : Hid (v.m.length = nm) := Ld hnm.symm
 have hnl3 : (nl : Int) ≤ 3001 := by omega
 have hnm3 : (nm : Int) ≤ 3001 := by omega
 obtain ⟨W1, hW1⟩ : ∃ W1, W1 = w.alloc (.cells #[.int .i64 v.k, .int .i64 v.n, .string v.s, .slice v.lA nl v.lc, .slice v.mA nm v.mc] 30) := ⟨_, rfl⟩
 have hb1 : Below w.heap.size w W1 := by rw [hW1]; exact (Below.refl _ _).alloc (Nat.le_refl _) _
 have hk1 : Blk W1 w.heap.size 30 #[.int .i64 v.k, .int .i64 v.n, .string v.s, .slice v.lA nl v.lc, .slice v.mA nm v.mc] := by rw [hW1]; exact Blk.new _ _ _
 obtain ⟨W2, hW2⟩ : ∃ W2, W2 = W1.alloc (.cells #[] 30) := ⟨_, rfl⟩
 have hb2 : Below W1.heap.size W1 W2 := by rw [hW2]; exact (Below.refl _ _).alloc (Nat.le_refl _) _
 have hsz1 : W1.heap.size = w.heap.size + 1 := by rw [hW1]; simp
 have HO0 : Hid (W2.ownsRow (w.heap.size + 1) 30 5 (.slice (some ⟨w.heap.size + 1, 0, none⟩) 0 0) 0 []) := Ld (by
  rw [hW2, ← hsz1]
  exact ⟨rfl, .inr ⟨W1.heap.size, 0, #[], rfl, Nat.le_refl _, heap_alloc_new W1 _, Nat.le_refl _, by simp [maxLen], rfl, rfl⟩⟩)
 have HB2 := Ld (hb1.trans (hb2.mono hb1.size))
 have HK2 := Ld (hk1.below hb2 hk1.lt)
 have HSZ : Hid (w.heap.size + 1 ≤ W2.heap.size) := Ld (by rw [← hsz1]; exact hb2.size)
 have HRL : Hid (Reads W2 W2.heap.size 5 v.lA nl (v.l.flatMap MV.cs)) := Ld (by rw [hnl]; exact (h.bel HB2.out).rl)
 have b3 := hk1.cell 3
 simp only [gz] at b3
 have b3' := HK2.out.cell 3
 simp only [gz] at b3'
 clear h hf hnl hnm hi0 hz0 hz1 hz2 hb1 hk1 hb2 hsz1
 subst hW2
 subst hW1
 go_enter Tryz.func129, Tryz.ntmps129
 go_wp2_with (at_builtin; refine wpList_append_any _ rfl _ _ 27 rfl _ 30 i0 _ 5 80 Tryz.underlying27 HINF.out.1 HINF.out.2.1 HINF.out.2.2.1 HINF.out.2.2.2 rfl (by omega) _ 0 [] rfl HO0.out _ _ nl v.lc (v.l.flatMap MV.cs) rfl HRL.out (oneC_csL _) (by simp only [maxLen]; omega) (by omega) HSZ.out ?_; intro v1 w1 hown1 hg1 hat1)
 have HB3 : Hid (Below w.heap.size w w1) := Ld (HB2.out.grown hg1 HB2.out.size (by intro k hk; cases hk; exact Nat.le_succ _))
 have HK3 := Ld (HK2.out.grown hg1 (fun e => by injection e with e; exact absurd (show w.heap.size = w.heap.size + 1 from e) (by omega)))
 have HO3 := Ld hown1
 have hgs := hg1.size
 clear hown1 hg1 hat1 b3 b3' HO0 HRL
 go_wp2
 go_loopw [3, 4] (fun x y wr => ∃ i : Nat, y = .int .i64 (i : Int) ∧ i ≤ nm ∧ Hid (wr.ownsRow (w.heap.size + 1) 30 5 x (nl + i) ((v.l ++ v.m.take i).flatMap MV.cs)) ∧ Hid (Below w.heap.size w wr) ∧ Hid (Blk wr w.heap.size 30 #[.int .i64 v.k, .int .i64 v.n, .string v.s, .slice v.lA nl v.lc, .slice v.mA nm v.mc] ∧ w.heap.size + 1 ≤ wr.heap.size)) (fun _ y _ => nm - (intOf y).toNat)
 case atStart => exact ⟨0, rfl, Nat.zero_le _, Ld (by simpa using HO3.out), HB3, Ld ⟨HK3.out, Nat.le_trans HSZ.out hgs⟩⟩
 case round =>
  clear HO3 HB3 HK3 HK2 HB2
  obtain ⟨i, rfl, hi, HO, HW, HKB⟩ := hrel
  have b4 := HKB.out.1.cell 4
  simp only [gz] at b4
  rcases (by omega : i < nm ∨ i = nm) with hlt | heq
  ·have q0 : decide ((i : Int) < (nm : Int)) = true := by rw [decide_eq_true_iff]; omega
   have q0' : decide (i < nm) = true := by rw [decide_eq_true_iff]; omega
   have hil : i < v.m.length := by rw [HNM.out]; exact hlt
   obtain ⟨b, o, hA, hbl, hc⟩ := (HV.out.bel HW.out).ma (i := i) hil
   obtain ⟨x, hx⟩ : ∃ x, x = v.m[i] := ⟨_, rfl⟩
   rw [← hx] at hc
   rw [hA] at b4
   have d1 : wr.cell? ⟨b, o + i * 6 + 1, none⟩ = some (.int .i64 x.k) := hc 1 (by omega)
   have d2 : wr.cell? ⟨b, o + i * 6 + 1 + 1, none⟩ = some (.int .i64 x.n) := hc 2 (by omega)
   have d3 : wr.cell? ⟨b, o + i * 6 + 1 + 2, none⟩ = some (.string x.s) := hc 3 (by omega)
   have d4 : wr.cell? ⟨b, o + i * 6 + 1 + 3, none⟩ = some (.slice x.lA x.l.length x.lc) := hc 4 (by omega)
   have d5 : wr.cell? ⟨b, o + i * 6 + 1 + 4, none⟩ = some (.slice x.mA x.m.length x.mc) := hc 5 (by omega)
   have hbb : Below wr.heap.size wr (wr.alloc (.cells #[.int .i64 x.k, .int .i64 x.n, .string x.s, .slice x.lA x.l.length x.lc, .slice x.mA x.m.length x.mc] 30)) := (Below.refl _ _).alloc (Nat.le_refl _) _
   have HXB : Hid (Reads (wr.alloc (.cells #[.int .i64 x.k, .int .i64 x.n, .string x.s, .slice x.lA x.l.length x.lc, .slice x.mA x.m.length x.mc] 30)) (wr.alloc (.cells #[.int .i64 x.k, .int .i64 x.n, .string x.s, .slice x.lA x.l.length x.lc, .slice x.mA x.m.length x.mc] 30)).heap.size 5 (some ⟨wr.heap.size, 0, none⟩) 1 x.cs) := by
    have hk := Blk.new wr 30 #[.int .i64 x.k, .int .i64 x.n, .string x.s, .slice x.lA x.l.length x.lc, .slice x.mA x.m.length x.mc]
    exact Ld ⟨rfl, fun _ => ⟨_, rfl, hk.lt, fun j u hu => by
     rw [Addr.add_lit, Nat.zero_add, hk.cell j]
     simpa [MV.cs] using hu⟩⟩
   have HOB : Hid ((wr.alloc (.cells #[.int .i64 x.k, .int .i64 x.n, .string x.s, .slice x.lA x.l.length x.lc, .slice x.mA x.m.length x.mc] 30)).ownsRow (w.heap.size + 1) 30 5 _ (nl + i) ((v.l ++ v.m.take i).flatMap MV.cs)) := Ld (by
    refine ⟨HO.out.1, ?_⟩
    rcases HO.out.2 with h0 | ⟨g, cap, cur, hv, hg, hh, hn⟩
    ·exact .inl h0
    ·exact .inr ⟨g, cap, cur, hv, hg, (hbb.block g (Blk.lt (t := 30) hh)).trans hh, hn⟩)
   have HGE : Hid (∀ j, Value.ownBlock _ = some j → w.heap.size + 1 ≤ j) := Ld (fun j e => (World.ownsRow.lt HO.out j e).1)
   have HBB := Ld hbb
   have HXX := Ld hx
   have HIL := Ld hil
   have hii : (i : Int) < (nm : Int) := by omega
   have hi0 : (0 : Int) ≤ (i : Int) := by omega
   have hbs := Nat.le_trans HKB.out.2 hbb.size
   clear hc hx hbl hbb hA
   go_wp2_with (at_builtin; refine wpList_append_any _ rfl _ _ 27 rfl (w.heap.size + 1) 30 i0 _ 5 80 Tryz.underlying27 HINF.out.1 HINF.out.2.1 HINF.out.2.2.1 HINF.out.2.2.2 rfl (by omega) _ (nl + i) _ rfl HOB.out _ _ 1 1 x.cs rfl HXB.out (oneC_cs x) (by simp only [maxLen]; omega) (by omega) hbs ?_; intro v1 w1 hown1 hg1 hat1)
   have HW2 : Hid (Below w.heap.size w w1) := Ld ((HW.out.trans (HBB.out.mono HW.out.size)).grown hg1 (Nat.le_trans HW.out.size HBB.out.size) (fun j e => Nat.le_of_lt (HGE.out j e)))
   have HKB2 : Hid (Blk w1 w.heap.size 30 #[.int .i64 v.k, .int .i64 v.n, .string v.s, .slice v.lA nl v.lc, .slice v.mA nm v.mc] ∧ w.heap.size + 1 ≤ w1.heap.size) := Ld ⟨(HKB.out.1.below HBB.out HKB.out.1.lt).grown hg1 (fun e => by have := HGE.out _ e.symm; omega), Nat.le_trans hbs hg1.size⟩
   have HO2 : Hid (w1.ownsRow (w.heap.size + 1) 30 5 v1 (nl + (i + 1)) ((v.l ++ v.m.take (i + 1)).flatMap MV.cs)) := Ld (by
    rw [List.take_succ_eq_append_getElem HIL.out, ← HXX.out, ← List.append_assoc, List.flatMap_append, List.flatMap_singleton]
    exact hown1)
   clear hown1 hg1 hat1
   go_wp2
   go_roundw
   case rel => exact ⟨i + 1, by go_num, by omega, HO2, HW2, HKB2⟩
   case measure => simp [intOf]; omega
  ·have q0 : decide ((i : Int) < (nm : Int)) = false := by rw [decide_eq_false_iff_not]; omega
   have q0' : decide (i < nm) = false := by rw [decide_eq_false_iff_not]; omega
   rw [heq, List.take_of_length_le (by rw [HNM.out]; exact Nat.le_refl _)] at HO
   have HE := Ld HO.out
   clear heq
   go_wp2
   go_ret
   rcases HE.out.2 with ⟨hv, h0⟩ | ⟨g, cap, cur, hv, hg, hh, hn, hm, hcs, ht⟩
   ·refine ⟨none, 0, 0, by rw [hv]; rfl, by rw [List.length_append, HNL.out, HNM.out]; omega, ?_, HW.out⟩
    have : v.l ++ v.m = [] := List.eq_nil_of_length_eq_zero (by rw [List.length_append, HNL.out, HNM.out]; omega)
    rw [this]
    exact Reads.none_
   ·have ho := HE.out
    rw [hv] at ho
    exact ⟨_, nl + nm, cap, by rw [hv]; rfl, by rw [List.length_append, HNL.out, HNM.out], Reads.of_own ho, HW.out⟩
theorem depL_app (a b : List MV) : MV.depL (a ++ b) = max (MV.depL a) (MV.depL b) := by
 induction a with
 | nil => simp [MV.depL]
 | cons v r ih => rw [List.cons_append, MV.depL, MV.depL, ih]; omega
theorem depL_snoc (l : List MV) (i : Nat) (hi : i < l.length) : MV.depL (l.take (i + 1)) = max (MV.depL (l.take i)) l[i].dep := by
 rw [List.take_succ_eq_append_getElem hi, depL_app]
 simp [MV.depL]
theorem cntL_app (a b : List MV) : MV.cntL (a ++ b) = MV.cntL a + MV.cntL b := by
 induction a with
 | nil => simp [MV.cntL]
 | cons v r ih => rw [List.cons_append, MV.cntL, MV.cntL, ih]; omega
theorem cntL_snoc (l : List MV) (i : Nat) (hi : i < l.length) : MV.cntL (l.take (i + 1)) = MV.cntL (l.take i) + l[i].cnt := by
 rw [List.take_succ_eq_append_getElem hi, cntL_app]
 simp [MV.cntL]
theorem cntL_take_le (l : List MV) (i : Nat) : MV.cntL (l.take i) ≤ MV.cntL l := by
 have h : MV.cntL l = MV.cntL (l.take i) + MV.cntL (l.drop i) := by rw [← cntL_app, List.take_append_drop]
 omega
theorem depL_take_le (l : List MV) (i : Nat) : MV.depL (l.take i) ≤ MV.depL l := by
 have h : MV.depL l = max (MV.depL (l.take i)) (MV.depL (l.drop i)) := by rw [← depL_app, List.take_append_drop]
 omega
theorem dep_eq (v : MV) : v.dep = MV.depL (v.l ++ v.m) + 1 := by
 cases v
 rw [MV.dep, depL_app]
 rfl
theorem cnt_eq (v : MV) : v.cnt = MV.cntL (v.l ++ v.m) + 1 := by
 cases v
 rw [MV.cnt, cntL_app]
 rfl
theorem csL_cells {w : World} {A : Option Addr} {n : Nat} {l : List MV} (h : Reads w w.heap.size 5 A n (l.flatMap MV.cs)) (hn : n = l.length) {i : Nat} (hi : i < l.length) : ∃ b o, A = some ⟨b, o, none⟩ ∧ ∀ j, j < 5 → w.cell? ⟨b, o + i * 5 + j, none⟩ = (l[i]).cs[j]? := by
 obtain ⟨ad, hA, hlt, hc⟩ := h.2 (by omega)
 have h0 : w.cell? (ad.add 0) = some (.int .i64 (l[0]'(by omega)).k) := by
  refine hc 0 _ ?_
  have := csL_at l 0 (by omega) 0 (by omega)
  rw [Nat.zero_mul, Nat.zero_add] at this
  rw [this]
  rfl
 have e1 : ad.add 0 = ad := by simp [Addr.add]
 rw [e1] at h0
 have e2 := cell_spot h0
 refine ⟨ad.block, ad.off, by rw [← e2]; exact hA, fun j hj => ?_⟩
 have h1 := csL_at l i hi j hj
 obtain ⟨u, hu⟩ : ∃ u, (l[i]'hi).cs[j]? = some u := by
  rw [List.getElem?_eq_getElem (show j < (l[i]'hi).cs.length by simp [MV.cs]; omega)]
  exact ⟨_, rfl⟩
 have h2 := hc _ u (h1.trans hu)
 rw [e2, Addr.add_lit, ← Nat.add_assoc] at h2
 exact h2.trans hu.symm
set_option maxRecDepth 100000 in
set_option maxHeartbeats 2000000 in
theorem rcount_any {w0 : World} {v : MV} (h : VAt w0 v) : ∀ (w : World), Below w0.heap.size w0 w → FitV v → v.cnt ≤ 1000000 →
  Calls Tryz.prog 94 #[v.val] w fun e w' => e = .returned (.int .i64 (v.cnt : Int)) ∧ Below w.heap.size w w' := by
 have hgo : ∀ (v : MV), VAt w0 v → (∀ x ∈ v.l ++ v.m, ∀ (w : World), Below w0.heap.size w0 w → FitV x → x.cnt ≤ 1000000 → Calls Tryz.prog 94 #[x.val] w fun e w' => e = .returned (.int .i64 (x.cnt : Int)) ∧ Below w.heap.size w w') → ∀ (w : World), Below w0.heap.size w0 w → FitV v → v.cnt ≤ 1000000 →
   Calls Tryz.prog 94 #[v.val] w fun e w' => e = .returned (.int .i64 (v.cnt : Int)) ∧ Below w.heap.size w w' := by
  intro v hv ih w hb hf hcn
  have hce := cnt_eq v
  obtain ⟨L, hL⟩ : ∃ L, L = v.l ++ v.m := ⟨_, rfl⟩
  have hfx : ∀ x ∈ L, FitV x := by
   rw [hL]
   cases hf with
   | mk _ h1 h2 => exact fun x hx => (List.mem_append.1 hx).elim (h1 x) (h2 x)
  have hb1 : Below w.heap.size w (w.alloc (.cells #[.int .i64 v.k, .int .i64 v.n, .string v.s, .slice v.lA v.l.length v.lc, .slice v.mA v.m.length v.mc] 30)) := (Below.refl _ _).alloc (Nat.le_refl _) _
  have HKD := rkids_any v (w.alloc (.cells #[.int .i64 v.k, .int .i64 v.n, .string v.s, .slice v.lA v.l.length v.lc, .slice v.mA v.m.length v.mc] 30)) (hv.bel (hb.trans (hb1.mono hb.size))) hf
  unfold KidP MV.val at HKD
  rw [← hL] at HKD ih hce
  have HKD := Ld HKD
  have HB1 := Ld hb1
  have HB0 := Ld hb
  have HIH := Ld ih
  have HFX := Ld hfx
  have HCE := Ld hce
  unfold MV.val
  obtain ⟨C, hC⟩ : ∃ C, C = v.cnt := ⟨_, rfl⟩
  rw [← hC] at hcn ⊢
  have HCC : Hid (C = MV.cntL L + 1) := Ld (hC.trans hce)
  clear hb1 hb ih hfx hce hf hv hC
  go_enter Tryz.func94, Tryz.ntmps94
  go_wp2_with fail
  refine HKD.out.mono ?_
  rintro e w1 ⟨A, n, c, rfl, hn, hr, hb1⟩
  have HN := Ld hn
  have HRD := Ld hr
  have HB2 : Hid (Below w.heap.size w w1) := Ld (HB1.out.trans (hb1.mono HB1.out.size))
  have hn3 : n ≤ 1000000 := by
   have : ∀ l : List MV, l.length ≤ MV.cntL l := fun l => by
    induction l with
    | nil => simp
    | cons v r ih => rw [MV.cntL, List.length_cons, cnt_eq v]; omega
   have := this L
   rw [hn]
   have := HCC.out
   omega
  clear hn hr hb1 HKD
  go_wp2
  go_loopw [3, 5] (fun x y wr => ∃ i t : Nat, x = .int .i64 (t : Int) ∧ y = .int .i64 (i : Int) ∧ i ≤ n ∧ t ≤ 1000000 ∧ Hid (t = MV.cntL (L.take i) + 1) ∧ Hid (Below w1.heap.size w1 wr)) (fun _ y _ => n - (intOf y).toNat)
  case atStart => exact ⟨0, 1, rfl, rfl, Nat.zero_le _, by omega, Ld (by simp [MV.cntL]), Ld (Below.refl _ _)⟩
  case round =>
   obtain ⟨i, t, rfl, rfl, hi, ht, HT, HW⟩ := hrel
   rcases (by omega : i < n ∨ i = n) with hlt | heq
   ·have q0 : decide ((i : Int) < (n : Int)) = true := by rw [decide_eq_true_iff]; omega
    have q0' : decide (i < n) = true := by rw [decide_eq_true_iff]; omega
    have hil : i < L.length := by rw [← HN.out]; exact hlt
    have HRW := Ld ((Reads.below HRD.out HW.out).more HW.out.size)
    obtain ⟨b, o, hA, hc⟩ := csL_cells HRW.out HN.out hil
    subst hA
    obtain ⟨x, hx⟩ : ∃ x, x = L[i] := ⟨_, rfl⟩
    have hxm : x ∈ L := by rw [hx]; exact List.getElem_mem hil
    have hsn := cntL_snoc L i hil
    have htk := cntL_take_le L (i + 1)
    rw [← hx] at hc hsn
    have d0 : wr.cell? ⟨b, o + i * 5, none⟩ = some (.int .i64 x.k) := hc 0 (by omega)
    have d1 : wr.cell? ⟨b, o + i * 5 + 1, none⟩ = some (.int .i64 x.n) := hc 1 (by omega)
    have d2 : wr.cell? ⟨b, o + i * 5 + 2, none⟩ = some (.string x.s) := hc 2 (by omega)
    have d3 : wr.cell? ⟨b, o + i * 5 + 3, none⟩ = some (.slice x.lA x.l.length x.lc) := hc 3 (by omega)
    have d4 : wr.cell? ⟨b, o + i * 5 + 4, none⟩ = some (.slice x.mA x.m.length x.mc) := hc 4 (by omega)
    have hct : MV.cntL (L.take (i + 1)) ≤ MV.cntL L := htk
    have hxc : x.cnt ≤ 1000000 := by have := HCC.out; omega
    obtain ⟨cx, hcx⟩ : ∃ cx, cx = x.cnt := ⟨_, rfl⟩
    have hcall := HIH.out x hxm wr (HB0.out.trans ((HB2.out.trans (HW.out.mono HB2.out.size)).mono HB0.out.size)) (HFX.out x hxm) hxc
    unfold MV.val at hcall
    rw [← hcx] at hcall hxc hsn
    have HCL := Ld hcall
    have HT2 : Hid (t + cx = MV.cntL (L.take (i + 1)) + 1) := Ld (by rw [hsn]; have := HT.out; omega)
    have htc : t + cx ≤ 1000000 := by rw [HT2.out]; have := HCC.out; omega
    have hii : (i : Int) < (n : Int) := by omega
    have hi0 : (0 : Int) ≤ (i : Int) := by omega
    clear hc hx hxm hsn htk hct hcx hcall
    go_wp2_with fail
    refine HCL.out.mono ?_
    rintro e w2 ⟨rfl, hb2⟩
    have HW2 := Ld (HW.out.trans (hb2.mono HW.out.size))
    clear hb2 d0 d1 d2 d3 d4
    go_wp2
    go_roundw
    case rel => exact ⟨i + 1, t + cx, by go_num, by go_num, by omega, htc, HT2, HW2⟩
    case measure => simp [intOf]; omega
   ·have q0 : decide ((i : Int) < (n : Int)) = false := by rw [decide_eq_false_iff_not]; omega
    have q0' : decide (i < n) = false := by rw [decide_eq_false_iff_not]; omega
    have HTC : Hid (t = C) := Ld (by rw [HT.out, HCC.out, heq, HN.out, List.take_length])
    have HWE := Ld (HB2.out.trans (HW.out.mono HB2.out.size))
    clear heq
    go_wp2
    go_ret
    exact ⟨by rw [← HTC.out]; rfl, HWE.out⟩
 induction h with
 | mk a b c d e f g h i j ih1 ih2 => exact hgo _ (.mk a b c d e f g h i j) (fun x hx => (List.mem_append.1 hx).elim (ih1 x) (ih2 x))
set_option maxRecDepth 100000 in
set_option maxHeartbeats 2000000 in
theorem rdepth_any {w0 : World} {v : MV} (h : VAt w0 v) : ∀ (w : World), Below w0.heap.size w0 w → FitV v → v.dep ≤ 1000000 →
  Calls Tryz.prog 93 #[v.val] w fun e w' => e = .returned (.int .i64 (v.dep : Int)) ∧ Below w.heap.size w w' := by
 have hgo : ∀ (v : MV), VAt w0 v → (∀ x ∈ v.l ++ v.m, ∀ (w : World), Below w0.heap.size w0 w → FitV x → x.dep ≤ 1000000 → Calls Tryz.prog 93 #[x.val] w fun e w' => e = .returned (.int .i64 (x.dep : Int)) ∧ Below w.heap.size w w') → ∀ (w : World), Below w0.heap.size w0 w → FitV v → v.dep ≤ 1000000 →
   Calls Tryz.prog 93 #[v.val] w fun e w' => e = .returned (.int .i64 (v.dep : Int)) ∧ Below w.heap.size w w' := by
  intro v hv ih w hb hf hcn
  have hce := dep_eq v
  have HNL : Hid ((v.l ++ v.m).length ≤ 1000000) := Ld (by rw [List.length_append]; cases hf with | mk h0 _ _ => exact Nat.le_trans h0 (by omega))
  obtain ⟨L, hL⟩ : ∃ L, L = v.l ++ v.m := ⟨_, rfl⟩
  have hfx : ∀ x ∈ L, FitV x := by
   rw [hL]
   cases hf with
   | mk _ h1 h2 => exact fun x hx => (List.mem_append.1 hx).elim (h1 x) (h2 x)
  have hb1 : Below w.heap.size w (w.alloc (.cells #[.int .i64 v.k, .int .i64 v.n, .string v.s, .slice v.lA v.l.length v.lc, .slice v.mA v.m.length v.mc] 30)) := (Below.refl _ _).alloc (Nat.le_refl _) _
  have HKD := rkids_any v (w.alloc (.cells #[.int .i64 v.k, .int .i64 v.n, .string v.s, .slice v.lA v.l.length v.lc, .slice v.mA v.m.length v.mc] 30)) (hv.bel (hb.trans (hb1.mono hb.size))) hf
  unfold KidP MV.val at HKD
  rw [← hL] at HKD ih hce HNL
  have HKD := Ld HKD
  have HB1 := Ld hb1
  have HB0 := Ld hb
  have HIH := Ld ih
  have HFX := Ld hfx
  have HCE := Ld hce
  unfold MV.val
  obtain ⟨C, hC⟩ : ∃ C, C = v.dep := ⟨_, rfl⟩
  rw [← hC] at hcn ⊢
  have HCC : Hid (C = MV.depL L + 1) := Ld (hC.trans hce)
  clear hb1 hb ih hfx hce hf hv hC
  go_enter Tryz.func93, Tryz.ntmps93
  go_wp2_with fail
  refine HKD.out.mono ?_
  rintro e w1 ⟨A, n, c, rfl, hn, hr, hb1⟩
  have HN := Ld hn
  have HRD := Ld hr
  have HB2 : Hid (Below w.heap.size w w1) := Ld (HB1.out.trans (hb1.mono HB1.out.size))
  have hn3 : n ≤ 1000000 := by rw [hn]; exact HNL.out
  clear hn hr hb1 HKD
  go_wp2
  go_loopw [3, 5, 6] (fun x y z wr => ∃ (i t : Nat) (z0 : Value), z = z0 ∧ x = .int .i64 (t : Int) ∧ y = .int .i64 (i : Int) ∧ i ≤ n ∧ t ≤ 1000000 ∧ Hid (t = MV.depL (L.take i)) ∧ Hid (Below w1.heap.size w1 wr)) (fun _ y _ _ => n - (intOf y).toNat)
  case atStart => exact ⟨0, 0, _, rfl, rfl, rfl, Nat.zero_le _, by omega, Ld (by simp [MV.depL]), Ld (Below.refl _ _)⟩
  case round =>
   obtain ⟨i, t, z0, rfl, rfl, rfl, hi, ht, HT, HW⟩ := hrel
   rcases (by omega : i < n ∨ i = n) with hlt | heq
   ·have q0 : decide ((i : Int) < (n : Int)) = true := by rw [decide_eq_true_iff]; omega
    have q0' : decide (i < n) = true := by rw [decide_eq_true_iff]; omega
    have hil : i < L.length := by rw [← HN.out]; exact hlt
    have HRW := Ld ((Reads.below HRD.out HW.out).more HW.out.size)
    obtain ⟨b, o, hA, hc⟩ := csL_cells HRW.out HN.out hil
    subst hA
    obtain ⟨x, hx⟩ : ∃ x, x = L[i] := ⟨_, rfl⟩
    have hxm : x ∈ L := by rw [hx]; exact List.getElem_mem hil
    have hsn := depL_snoc L i hil
    have htk := depL_take_le L (i + 1)
    rw [← hx] at hc hsn
    have d0 : wr.cell? ⟨b, o + i * 5, none⟩ = some (.int .i64 x.k) := hc 0 (by omega)
    have d1 : wr.cell? ⟨b, o + i * 5 + 1, none⟩ = some (.int .i64 x.n) := hc 1 (by omega)
    have d2 : wr.cell? ⟨b, o + i * 5 + 2, none⟩ = some (.string x.s) := hc 2 (by omega)
    have d3 : wr.cell? ⟨b, o + i * 5 + 3, none⟩ = some (.slice x.lA x.l.length x.lc) := hc 3 (by omega)
    have d4 : wr.cell? ⟨b, o + i * 5 + 4, none⟩ = some (.slice x.mA x.m.length x.mc) := hc 4 (by omega)
    have hct : MV.depL (L.take (i + 1)) ≤ MV.depL L := htk
    have hxc : x.dep ≤ 1000000 := by have := HCC.out; omega
    obtain ⟨cx, hcx⟩ : ∃ cx, cx = x.dep := ⟨_, rfl⟩
    have hcall := HIH.out x hxm wr (HB0.out.trans ((HB2.out.trans (HW.out.mono HB2.out.size)).mono HB0.out.size)) (HFX.out x hxm) hxc
    unfold MV.val at hcall
    rw [← hcx] at hcall hxc hsn
    have HCL := Ld hcall
    have HT2 : Hid (max t cx = MV.depL (L.take (i + 1))) := Ld (by rw [hsn, HT.out])
    have htc : max t cx ≤ 1000000 := by omega
    have hii : (i : Int) < (n : Int) := by omega
    have hi0 : (0 : Int) ≤ (i : Int) := by omega
    clear hc hx hxm hsn htk hct hcx hcall
    go_wp2_with fail
    refine HCL.out.mono ?_
    rintro e w2 ⟨rfl, hb2⟩
    have HW2 := Ld (HW.out.trans (hb2.mono HW.out.size))
    clear hb2 d0 d1 d2 d3 d4
    rcases (by omega : t < cx ∨ cx ≤ t) with hgt | hgt
    ·have q1 : decide ((t : Int) < (cx : Int)) = true := by rw [decide_eq_true_iff]; omega
     have q1' : decide (t < cx) = true := by rw [decide_eq_true_iff]; omega
     rw [Nat.max_eq_right (Nat.le_of_lt hgt)] at HT2
     clear hgt htc
     go_wp2
     go_roundw
     case rel => exact ⟨i + 1, cx, _, rfl, rfl, by go_num, by omega, by omega, HT2, HW2⟩
     case measure => simp [intOf]; omega
    ·have q1 : decide ((t : Int) < (cx : Int)) = false := by rw [decide_eq_false_iff_not]; omega
     have q1' : decide (t < cx) = false := by rw [decide_eq_false_iff_not]; omega
     rw [Nat.max_eq_left hgt] at HT2
     clear hgt htc
     go_wp2
     go_roundw
     case rel => exact ⟨i + 1, t, _, rfl, rfl, by go_num, by omega, by omega, HT2, HW2⟩
     case measure => simp [intOf]; omega
   ·have q0 : decide ((i : Int) < (n : Int)) = false := by rw [decide_eq_false_iff_not]; omega
    have q0' : decide (i < n) = false := by rw [decide_eq_false_iff_not]; omega
    have HTC : Hid (t + 1 = C) := Ld (by rw [HT.out, HCC.out, heq, HN.out, List.take_length])
    have HWE := Ld (HB2.out.trans (HW.out.mono HB2.out.size))
    clear heq
    go_wp2
    go_ret
    exact ⟨by rw [← HTC.out]; rfl, HWE.out⟩
 induction h with
 | mk a b c d e f g h i j ih1 ih2 => exact hgo _ (.mk a b c d e f g h i j) (fun x hx => (List.mem_append.1 hx).elim (ih1 x) (ih2 x))
end Go.Proofs.YtefkpphahimkgaaGreatDoor
