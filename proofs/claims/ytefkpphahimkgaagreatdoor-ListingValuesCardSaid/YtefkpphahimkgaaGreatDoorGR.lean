/-
 Values in rows: an element is written anew.
 Values, plainly: how deep, how many, whether right; what is sorted.
 Values, plainly: what is right, what is sorted.
 The document's right.
 The document's right: what a list and what a map has.
 The document's right.
 Values: what the texts on them share, in a seat that has no value.Sorted.
 The document's Sort: what its loops keep.
-/
import Derived.Test.YtefkpphahimkgaaGreatDoorTk
import Derived.Test.YtefkpphahimkgaaGreatDoorGV
import Derived.Test.YtefkpphahimkgaaGreatDoorGP
import Derived.Test.YtefkpphahimkgaaGreatDoorGU
import Derived.Deep.RegionHeld3
import Derived.Deep.QuietTactic
import Derived.BigQuiet
namespace Go.Proofs.YtefkpphahimkgaaGreatDoor
open Go.RowKit
set_option linter.unusedVariables false
set_option linter.unusedSimpArgs false
def puts (w : World) (g : Nat) : Nat → List Value → World
 | _, [] => w
 | o, v :: r => puts (w.setCell ⟨g, o, none⟩ v) g (o + 1) r
theorem puts_spec {g : Nat} {t : TypeId} : ∀ (vs : List Value) (o : Nat) (w : World) (cs : Array Value), Blk w g t cs → o + vs.length ≤ cs.size →
  ∃ cs', Blk (puts w g o vs) g t cs' ∧ cs'.size = cs.size ∧ cs'.toList = cs.toList.take o ++ (vs ++ cs.toList.drop (o + vs.length)) ∧ Fr (· = g) w (puts w g o vs)
 | [], o, w, cs, h, _ => ⟨cs, h, rfl, by simp, Fr.refl _ _⟩
 | v :: r, o, w, cs, h, hs => by
  rw [List.length_cons] at hs
  obtain ⟨cs', h1, h2, h3, h4⟩ := puts_spec r (o + 1) (w.setCell ⟨g, o, none⟩ v) (cs.setIfInBounds o v) (h.set_ o v) (by simp; omega)
  refine ⟨cs', h1, by simpa using h2, ?_, ((Fr.refl (· = g) w).setCell (p := ⟨g, o, none⟩) (fun _ => rfl) v).trans h4⟩
  have ho : o < cs.toList.length := by simp; omega
  rw [h3, Array.toList_setIfInBounds, List.take_set, List.take_succ_eq_append_getElem ho, List.length_cons, show o + 1 + r.length = o + (r.length + 1) from by omega]
  have hmin : (cs.toList.take o).length = o := by rw [List.length_take]; omega
  rw [List.drop_set_of_lt (by omega), List.set_append_right _ _ (by omega), hmin, Nat.sub_self]
  simp
section
variable {t : TypeId} {size : Nat} {cs : MV → List Value} {base : Nat} {w w' : World} {l1 r : List MV} {x x' : MV}
theorem flat_cs_len {size : Nat} {cs : MV → List Value} (hcl : ∀ x, (cs x).length = size) (l : List MV) : (l.flatMap cs).length = l.length * size := by
 induction l with
 | nil => simp
 | cons v r ih => rw [List.flatMap_cons, List.length_append, ih, hcl, List.length_cons, Nat.succ_mul]; omega
theorem ROwn.set {g n c d i : Nat} {vs : List Value} (h : ROwn t size cs base w (.slice (some ⟨g, 0, none⟩) n c) (l1 ++ x :: r)) (hcl : ∀ x, (cs x).length = size) (hi : l1.length = i) (hv : cs x' = (cs x).take d ++ vs) (hd : d + vs.length = size) (hx : VAt w x') (hfr : BlkP (base ≤ ·) x') (hav : BlkP (fun b => ¬ b = g) x') :
  ROwn t size cs base (puts w g (i * size + d) vs) (.slice (some ⟨g, 0, none⟩) n c) (l1 ++ x' :: r) ∧ Fr (· = g) w (puts w g (i * size + d) vs) := by
 rcases h.own.2 with ⟨h0, _⟩ | ⟨g', cap, cur, hv', hg, hh, hn, hm, hcs, htk⟩
 ·cases h0
 injection hv' with e1 e2 e3
 injection e1 with e1
 injection e1 with e1 _ _
 subst e1
 subst e3
 have hll : (l1 ++ x :: r).length = i + (r.length + 1) := by rw [List.length_append, List.length_cons, hi]
 have hll' : (l1 ++ x' :: r).length = i + (r.length + 1) := by rw [List.length_append, List.length_cons, hi]
 rw [hll] at hn htk e2
 have hbig : (i + (r.length + 1)) * size ≤ cur.size := by rw [hcs]; exact Nat.mul_le_mul_right _ hn
 have hexp : (i + (r.length + 1)) * size = i * size + size + r.length * size := by rw [Nat.add_mul, Nat.succ_mul]; omega
 obtain ⟨cs', k1, k2, k3, k4⟩ := puts_spec vs (i * size + d) w cur hh (by omega)
 have hav' : ∀ y ∈ l1 ++ x :: r, BlkP (fun b => ¬ b = g) y := fun y hy => (h.av y hy).mono (fun b hb e => hb (by rw [e]; rfl))
 have hmem : ∀ y ∈ l1 ++ x' :: r, VAt w y ∧ BlkP (base ≤ ·) y ∧ BlkP (fun b => ¬ b = g) y := fun y hy => by
  rw [List.mem_append, List.mem_cons] at hy
  rcases hy with hy | hy | hy
  ·have : y ∈ l1 ++ x :: r := List.mem_append_left _ hy
   exact ⟨h.at_ y this, h.fr y this, hav' y this⟩
  ·subst hy; exact ⟨hx, hfr, hav⟩
  ·have : y ∈ l1 ++ x :: r := List.mem_append_right _ (List.mem_cons_of_mem _ hy)
   exact ⟨h.at_ y this, h.fr y this, hav' y this⟩
 refine ⟨⟨⟨by rw [flat_cs_len hcl], .inr ⟨g, c, cs', by rw [e2, hll'], hg, k1, by rw [hll']; exact hn, hm, by rw [k2, hcs], ?_⟩⟩, fun y hy => (hmem y hy).1.fr k4 (hmem y hy).2.2, fun y hy => (hmem y hy).2.1, fun y hy => (hmem y hy).2.2.mono (fun b hb e => hb (by injection e with e; exact e.symm))⟩, k4⟩
 rw [hll', k3]
 have hcur : cur.toList = (l1 ++ x :: r).flatMap cs ++ cur.toList.drop ((i + (r.length + 1)) * size) := by
  rw [← htk, List.take_append_drop]
 generalize cur.toList.drop ((i + (r.length + 1)) * size) = tl at hcur
 have hx5 := hcl x
 have hl1 : (l1.flatMap cs).length = i * size := by rw [flat_cs_len hcl, hi]
 have hr1 : (r.flatMap cs).length = r.length * size := flat_cs_len hcl r
 have hc2 : cur.toList = l1.flatMap cs ++ (cs x ++ (r.flatMap cs ++ tl)) := by rw [hcur, List.flatMap_append, List.flatMap_cons]; simp
 have ht : cur.toList.take (i * size + d) = l1.flatMap cs ++ (cs x).take d := by
  rw [hc2, List.take_append, hl1, List.take_of_length_le (by omega), show i * size + d - i * size = d from by omega, List.take_append_of_le_length (by omega)]
 have hdr : cur.toList.drop (i * size + d + vs.length) = r.flatMap cs ++ tl := by
  rw [hc2, List.drop_append, hl1, List.drop_of_length_le (by omega), List.nil_append, show i * size + d + vs.length - i * size = size from by omega, List.drop_append, hx5, List.drop_of_length_le (by omega), List.nil_append, Nat.sub_self, List.drop_zero]
 rw [ht, hdr, List.flatMap_append, List.flatMap_cons, hv, hexp]
 have : l1.flatMap cs ++ (cs x).take d ++ (vs ++ (r.flatMap cs ++ tl)) = (l1.flatMap cs ++ ((cs x).take d ++ vs ++ r.flatMap cs)) ++ tl := by simp
 have hL : (l1.flatMap cs ++ ((cs x).take d ++ vs ++ r.flatMap cs)).length = i * size + size + r.length * size := by
  simp only [List.length_append, List.length_take, hl1, hr1, hx5]
  omega
 rw [this, List.take_append_of_le_length (by rw [hL]; exact Nat.le_refl _), List.take_of_length_le (by rw [hL]; exact Nat.le_refl _)]
end
end Go.Proofs.YtefkpphahimkgaaGreatDoor
namespace Go.Proofs.YtefkpphahimkgaaGreatDoor
open Go.RowKit
set_option linter.unusedVariables false
set_option linter.unusedSimpArgs false
abbrev PP := ByteArray × PV
def ownF (k n : Int) (s : ByteArray) (nl nm : Nat) : Bool :=
 if k = 1 then decide (n = 0) && (decide (s.size = 0) && (decide (nl = 0) && decide (nm = 0)))
 else if k = 2 then decide (n = 0 ∨ n = 1) && (decide (s.size = 0) && (decide (nl = 0) && decide (nm = 0)))
 else if k = 3 then decide (-9007199254740991 ≤ n ∧ n ≤ 9007199254740991) && (decide (s.size = 0) && (decide (nl = 0) && decide (nm = 0)))
 else if k = 4 then Lib.validD s.data.toList && (decide (n = 0) && (decide (nl = 0) && decide (nm = 0)))
 else if k = 5 then decide (n = 0) && (decide (s.size = 0) && decide (nm = 0))
 else if k = 6 then decide (n = 0) && (decide (s.size = 0) && decide (nl = 0))
 else false
def keysB (ks : List ByteArray) : Bool := ks.all (fun k => Lib.validD k.data.toList) && decide ks.Nodup
def insP (p : PP) : List PP → List PP
 | [] => [p]
 | q :: r => if bl p.1 q.1 then p :: q :: r else q :: insP p r
def isortP : List PP → List PP
 | [] => []
 | p :: r => insP p (isortP r)
namespace PV
mutual
def dep : PV → Nat
 | .mk _ _ _ l _ m => max (depL l) (depL m) + 1
def depL : List PV → Nat
 | [] => 0
 | v :: r => max (dep v) (depL r)
end
mutual
def cnt : PV → Nat
 | .mk _ _ _ l _ m => cntL l + cntL m + 1
def cntL : List PV → Nat
 | [] => 0
 | v :: r => cnt v + cntL r
end
mutual
def right : PV → Bool
 | .mk k n s l ks m => ownF k n s l.length m.length && (keysB ks && (decide (ks.length = m.length) && (rightL l && rightL m)))
def rightL : List PV → Bool
 | [] => true
 | v :: r => right v && rightL r
end
mutual
def sort : PV → PV
 | .mk k n s l ks m => .mk k n s (sortL l) ((isortP (ks.zip (sortL m))).map (·.1)) ((isortP (ks.zip (sortL m))).map (·.2))
def sortL : List PV → List PV
 | [] => []
 | v :: r => sort v :: sortL r
end
def chk (p : PV) : Int := if 12 < p.dep then 41 else if 4096 < p.cnt then 42 else if p.right then 0 else 40
end PV
mutual
theorem dep_pv : ∀ v : MV, v.dep = v.pv.dep
 | .mk _ _ _ _ _ _ l _ _ m => by rw [MV.dep, MV.pv, PV.dep, depL_pv l, depL_pv m]
theorem depL_pv : ∀ l : List MV, MV.depL l = PV.depL (MV.pvL l)
 | [] => by rw [MV.depL, MV.pvL, PV.depL]
 | v :: r => by rw [MV.depL, MV.pvL, PV.depL, dep_pv v, depL_pv r]
end
mutual
theorem cnt_pv : ∀ v : MV, v.cnt = v.pv.cnt
 | .mk _ _ _ _ _ _ l _ _ m => by rw [MV.cnt, MV.pv, PV.cnt, cntL_pv l, cntL_pv m]
theorem cntL_pv : ∀ l : List MV, MV.cntL l = PV.cntL (MV.pvL l)
 | [] => by rw [MV.cntL, MV.pvL, PV.cntL]
 | v :: r => by rw [MV.cntL, MV.pvL, PV.cntL, cnt_pv v, cntL_pv r]
end
mutual
theorem dep_le_cntP : ∀ v : PV, v.dep ≤ v.cnt
 | .mk _ _ _ l _ m => by
  have h1 := depL_le_cntP l
  have h2 := depL_le_cntP m
  rw [PV.dep, PV.cnt]; omega
theorem depL_le_cntP : ∀ l : List PV, PV.depL l ≤ PV.cntL l
 | [] => by rw [PV.depL, PV.cntL]; exact Nat.le_refl _
 | v :: r => by
  have h1 := dep_le_cntP v
  have h2 := depL_le_cntP r
  rw [PV.depL, PV.cntL]; omega
end
theorem dep_le_cnt (v : MV) : v.dep ≤ v.cnt := by rw [dep_pv, cnt_pv]; exact dep_le_cntP _
inductive OkP : PV → Prop
 | mk {k n : Int} {s : ByteArray} {l : List PV} {ks : List ByteArray} {m : List PV} :
  s.size ≤ 140737488351232 → l.length + m.length ≤ 3001 → ks.length = m.length → (∀ x ∈ ks, x.size ≤ 140737488351232) → (∀ x ∈ l, OkP x) → (∀ x ∈ m, OkP x) → OkP (.mk k n s l ks m)
theorem pvL_mem {l : List MV} {p : PV} : p ∈ MV.pvL l ↔ ∃ x ∈ l, x.pv = p := by rw [pvL_map, List.mem_map]
theorem pvL_len (l : List MV) : (MV.pvL l).length = l.length := by rw [pvL_map, List.length_map]
section
variable {v : MV}
theorem OkP.s (h : OkP v.pv) : v.s.size ≤ 140737488351232 := by
 cases v
 rw [MV.pv] at h
 cases h; assumption
theorem OkP.len (h : OkP v.pv) : v.l.length + v.m.length ≤ 3001 := by
 cases v
 rw [MV.pv] at h
 cases h with
 | mk a b c d e f => rw [pvL_len, pvL_len] at b; exact b
theorem OkP.l (h : OkP v.pv) : ∀ x ∈ v.l, OkP x.pv := by
 cases v
 rw [MV.pv] at h
 cases h with
 | mk a b c d e f => exact fun x hx => e _ (pvL_mem.2 ⟨x, hx, rfl⟩)
theorem OkP.m (h : OkP v.pv) : ∀ x ∈ v.m, OkP x.pv := by
 cases v
 rw [MV.pv] at h
 cases h with
 | mk a b c d e f => exact fun x hx => f _ (pvL_mem.2 ⟨x, hx, rfl⟩)
theorem OkP.key (h : OkP v.pv) : ∀ x ∈ v.m, x.key.size ≤ 140737488351232 := by
 cases v
 rw [MV.pv] at h
 cases h with
 | mk a b c d e f => exact fun x hx => d _ (List.mem_map.2 ⟨x, hx, rfl⟩)
end
theorem OkP.fit {w : World} {v : MV} (hv : VAt w v) (h : OkP v.pv) : FitV v := by
 induction hv with
 | mk a b c d e f g h' i j ih1 ih2 => exact .mk h.len (fun x hx => ih1 x hx (h.l x hx)) (fun x hx => ih2 x hx (h.m x hx))
theorem right_eq (v : MV) : v.pv.right = (ownF v.k v.n v.s v.l.length v.m.length && (keysB (v.m.map MV.key) && (PV.rightL (MV.pvL v.l) && PV.rightL (MV.pvL v.m)))) := by
 cases v
 rw [MV.pv, PV.right, pvL_len, pvL_len, List.length_map, decide_eq_true rfl, Bool.true_and]
 rfl
theorem rightL_app (a b : List PV) : PV.rightL (a ++ b) = (PV.rightL a && PV.rightL b) := by
 induction a with
 | nil => simp [PV.rightL]
 | cons v r ih => rw [List.cons_append, PV.rightL, PV.rightL, ih, Bool.and_assoc]
theorem rightL_all (l : List PV) : PV.rightL l = l.all PV.right := by
 induction l with
 | nil => rfl
 | cons v r ih => rw [PV.rightL, ih]; rfl
theorem rightL_next (l : List MV) (i : Nat) (hi : i < l.length) : PV.rightL (MV.pvL (l.take (i + 1))) = (PV.rightL (MV.pvL (l.take i)) && l[i].pv.right) := by
 rw [pvL_next l i hi, rightL_app]
 simp [PV.rightL]
end Go.Proofs.YtefkpphahimkgaaGreatDoor
namespace Go.Proofs.YtefkpphahimkgaaGreatDoor
open Go.RowKit
set_option linter.unusedVariables false
set_option linter.unusedSimpArgs false
def RiP (r : Bool) (w : World) (e : Ending) (w' : World) : Prop := e = .returned (.bool r) ∧ Below w.heap.size w w'
def rightM (l : List MV) : Bool := keysB (l.map MV.key) && PV.rightL (MV.pvL l)
theorem keysB_snoc (l : List ByteArray) (x : ByteArray) : keysB (l ++ [x]) = (keysB l && (Lib.validD x.data.toList && !l.any (fun y => decide (y = x)))) := by
 unfold keysB
 rw [List.all_append, Bool.eq_iff_iff]
 simp only [Bool.and_eq_true, decide_eq_true_eq, List.nodup_append, List.all_cons, List.all_nil, Bool.and_true, Bool.not_eq_true', List.any_eq_false]
 constructor
 ·rintro ⟨⟨a, b⟩, c, _, d⟩
  exact ⟨⟨a, c⟩, b, fun y hy e => d y hy x (by simp) e⟩
 ·rintro ⟨⟨a, c⟩, b, d⟩
  exact ⟨⟨a, b⟩, c, by simp, fun y hy z hz e => d y hy (by rw [List.mem_singleton] at hz; subst hz; exact e)⟩
theorem keysB_take (l : List ByteArray) (i : Nat) (h : keysB l = true) : keysB (l.take i) = true := by
 unfold keysB at *
 simp only [Bool.and_eq_true, decide_eq_true_eq, List.all_eq_true] at *
 exact ⟨fun x hx => h.1 x (List.mem_of_mem_take hx), h.2.sublist (List.take_sublist _ _)⟩
theorem rightM_next (l : List MV) (i : Nat) (hi : i < l.length) : rightM (l.take (i + 1)) = (rightM (l.take i) && (Lib.validD l[i].key.data.toList && (l[i].pv.right && !((l.take i).map MV.key).any (fun y => decide (y = l[i].key))))) := by
 unfold rightM
 rw [rightL_next l i hi, List.take_succ_eq_append_getElem hi, List.map_append, List.map_singleton, keysB_snoc, Bool.eq_iff_iff]
 simp only [Bool.and_eq_true]
 constructor
 ·rintro ⟨⟨a, b, c⟩, d, e⟩; exact ⟨⟨a, d⟩, b, e, c⟩
 ·rintro ⟨⟨a, d⟩, b, e, c⟩; exact ⟨⟨a, b, c⟩, d, e⟩
theorem rightM_take (l : List MV) (i : Nat) (h : rightM l = true) : rightM (l.take i) = true := by
 unfold rightM at *
 rw [Bool.and_eq_true] at h ⊢
 rw [List.map_take]
 refine ⟨keysB_take _ _ h.1, ?_⟩
 have h2 := h.2
 rw [rightL_all, List.all_eq_true] at h2 ⊢
 exact fun x hx => h2 x (by
  obtain ⟨y, hy, rfl⟩ := pvL_mem.1 hx
  exact pvL_mem.2 ⟨y, List.mem_of_mem_take hy, rfl⟩)
theorem rightM_no (l : List MV) (i : Nat) (h : rightM (l.take i) = false) : rightM l = false := by
 cases e : rightM l
 ·rfl
 ·rw [rightM_take l i e] at h; cases h
theorem rightL_no (l : List MV) (i : Nat) (h : PV.rightL (MV.pvL (l.take i)) = false) : PV.rightL (MV.pvL l) = false := by
 cases e : PV.rightL (MV.pvL l)
 ·rfl
 ·rw [rightL_all, List.all_eq_true] at e
  have : PV.rightL (MV.pvL (l.take i)) = true := by
   rw [rightL_all, List.all_eq_true]
   exact fun x hx => e x (by
    obtain ⟨y, hy, rfl⟩ := pvL_mem.1 hx
    exact pvL_mem.2 ⟨y, List.mem_of_mem_take hy, rfl⟩)
  rw [this] at h; cases h
theorem sz_nil {s : ByteArray} (h : s.size = 0) : s = ⟨#[]⟩ := by
 cases s
 simp [ByteArray.size] at h
 rw [h]
theorem sz_ne {s : ByteArray} (h : ¬ s.size = 0) : ¬ s.toList = [] := fun e => h (by
 rw [show s = ⟨#[]⟩ from toList_inj (by rw [e]; exact (mk_list []).symm)]
 rfl)
def KS (l : List PP) : Prop := l.Pairwise (fun a b => bl b.1 a.1 = false)
theorem insP_perm (p : PP) (l : List PP) : (insP p l).Perm (p :: l) := by
 induction l with
 | nil => exact List.Perm.refl _
 | cons q r ih =>
  rw [insP]
  split
  ·exact List.Perm.refl _
  ·exact (List.Perm.cons q ih).trans (List.Perm.swap p q r)
theorem isortP_perm (l : List PP) : (isortP l).Perm l := by
 induction l with
 | nil => exact List.Perm.refl _
 | cons p r ih => exact (insP_perm p _).trans (List.Perm.cons p ih)
theorem bl_asym {a b : ByteArray} (h : bl a b = true) : bl b a = false := bytesLess_asym _ _ h
theorem bl_ntr {a b c : ByteArray} (h1 : bl a b = false) (h2 : bl b c = false) : bl a c = false := bytesLess_ntr _ _ _ h1 h2
theorem bl_tri {a b : ByteArray} (h1 : bl a b = false) (h2 : bl b a = false) : a = b := toList_inj (bytesLess_tri _ _ h1 h2)
theorem insP_sorted (p : PP) (l : List PP) (h : KS l) : KS (insP p l) := by
 induction l with
 | nil => exact List.pairwise_singleton _ _
 | cons q r ih =>
  obtain ⟨h1, h2⟩ := List.pairwise_cons.1 h
  rw [insP]
  split
  ·rename_i hb
   refine List.pairwise_cons.2 ⟨fun x hx => ?_, h⟩
   rcases List.mem_cons.1 hx with rfl | hx
   ·exact bl_asym hb
   ·exact bl_ntr (h1 x hx) (bl_asym hb)
  ·rename_i hb
   refine List.pairwise_cons.2 ⟨fun x hx => ?_, ih h2⟩
   rcases List.mem_cons.1 ((insP_perm p r).mem_iff.1 hx) with rfl | hx
   ·simpa using hb
   ·exact h1 x hx
theorem isortP_sorted (l : List PP) : KS (isortP l) := by
 induction l with
 | nil => exact List.Pairwise.nil
 | cons p r ih => exact insP_sorted p _ ih
theorem ks_uniq {A B : List PP} (hA : KS A) (hB : KS B) (hp : A.Perm B) (hn : (B.map (·.1)).Nodup) : A = B := by
 have key : ∀ a ∈ B, ∀ b ∈ B, a.1 = b.1 → a = b := by
  intro a ha b hb e
  clear hp hB hA
  induction B with
  | nil => cases ha
  | cons q r ih =>
   rw [List.map_cons, List.nodup_cons] at hn
   rcases List.mem_cons.1 ha with h1 | h1 <;> rcases List.mem_cons.1 hb with h2 | h2
   ·rw [h1, h2]
   ·exact absurd (show q.1 ∈ r.map (·.1) from List.mem_map.2 ⟨b, h2, by rw [← e, h1]⟩) hn.1
   ·exact absurd (show q.1 ∈ r.map (·.1) from List.mem_map.2 ⟨a, h1, by rw [e, h2]⟩) hn.1
   ·exact ih hn.2 h1 h2
 exact List.Perm.eq_of_pairwise (le := fun (a b : PP) => bl b.1 a.1 = false) (fun a b ha hb (h1 : bl b.1 a.1 = false) (h2 : bl a.1 b.1 = false) => key a (hp.mem_iff.1 ha) b hb (bl_tri h2 h1)) hA hB hp
theorem sortL_map (l : List PV) : PV.sortL l = l.map PV.sort := by
 induction l with
 | nil => rfl
 | cons v r ih => rw [PV.sortL, ih]; rfl
theorem rightP {k n : Int} {s : ByteArray} {l : List PV} {ks : List ByteArray} {m : List PV} (h : (PV.mk k n s l ks m).right = true) : ownF k n s l.length m.length = true ∧ keysB ks = true ∧ ks.length = m.length ∧ PV.rightL l = true ∧ PV.rightL m = true := by
 rw [PV.right] at h
 simp only [Bool.and_eq_true, decide_eq_true_eq] at h
 exact ⟨h.1, h.2.1, h.2.2.1, h.2.2.2.1, h.2.2.2.2⟩
theorem keysB_nodup {ks : List ByteArray} (h : keysB ks = true) : ks.Nodup := by
 unfold keysB at h
 simp only [Bool.and_eq_true, decide_eq_true_eq] at h
 exact h.2
end Go.Proofs.YtefkpphahimkgaaGreatDoor
namespace Go.Proofs.YtefkpphahimkgaaGreatDoor
open Go.RowKit
attribute [local go_sem ↓] Go.wp_at_zero Go.wp_at_succ
set_option linter.unusedVariables false
set_option linter.unusedSimpArgs false
set_option maxRecDepth 100000 in
set_option maxHeartbeats 1000000 in
theorem right1_n (n : Int) (s : ByteArray) (lA : Option Addr) (nl lc : Nat) (mA : Option Addr) (nm mc : Nat) (w : World) (hn : ¬ n = 0) : Calls Tryz.prog 95 #[.agg #[.int .i64 1, .int .i64 n, .string s, .slice lA nl lc, .slice mA nm mc]] w fun e w' => PF (RiP false w) e w' := by
 have q1 : (n == 0) = false := by rw [beq_eq_false_iff_ne]; exact hn
 have q2 : (n != 0) = true := by rw [bne_iff_ne]; exact hn
 clear hn
 go_enter Tryz.func95, Tryz.ntmps95
 go_wp2
 go_ret
 exact ⟨rfl, below_al _ (below_new _ _)⟩
set_option maxRecDepth 100000 in
set_option maxHeartbeats 1000000 in
theorem right1_s (s : ByteArray) (lA : Option Addr) (nl lc : Nat) (mA : Option Addr) (nm mc : Nat) (w : World) (hs : ¬ s.size = 0) : Calls Tryz.prog 95 #[.agg #[.int .i64 1, .int .i64 0, .string s, .slice lA nl lc, .slice mA nm mc]] w fun e w' => PF (RiP false w) e w' := by
 have hs1 := sz_ne hs
 have hs2 : (s.toList == []) = false := by rw [beq_eq_false_iff_ne]; exact hs1
 clear hs
 go_enter Tryz.func95, Tryz.ntmps95
 go_wp2
 go_ret
 exact ⟨rfl, below_al _ (below_new _ _)⟩
set_option maxRecDepth 100000 in
set_option maxHeartbeats 1000000 in
theorem right1_l (lA : Option Addr) (nl lc : Nat) (mA : Option Addr) (nm mc : Nat) (w : World) (hl : ¬ nl = 0) : Calls Tryz.prog 95 #[.agg #[.int .i64 1, .int .i64 0, .string ⟨#[]⟩, .slice lA nl lc, .slice mA nm mc]] w fun e w' => PF (RiP false w) e w' := by
 have q3 : ((nl : Int) == 0) = false := by rw [beq_eq_false_iff_ne]; omega
 have q4 : ((nl : Int) != 0) = true := by rw [bne_iff_ne]; omega
 go_enter Tryz.func95, Tryz.ntmps95
 go_wp2
 go_ret
 exact ⟨rfl, below_al _ (below_new _ _)⟩
set_option maxRecDepth 100000 in
set_option maxHeartbeats 1000000 in
theorem right1_m (lA : Option Addr) (lc : Nat) (mA : Option Addr) (nm mc : Nat) (w : World) (hm : ¬ nm = 0) : Calls Tryz.prog 95 #[.agg #[.int .i64 1, .int .i64 0, .string ⟨#[]⟩, .slice lA 0 lc, .slice mA nm mc]] w fun e w' => PF (RiP false w) e w' := by
 have q3 : ((nm : Int) == 0) = false := by rw [beq_eq_false_iff_ne]; omega
 have q4 : ((nm : Int) != 0) = true := by rw [bne_iff_ne]; omega
 go_enter Tryz.func95, Tryz.ntmps95
 go_wp2
 go_ret
 exact ⟨rfl, below_al _ (below_new _ _)⟩
set_option maxRecDepth 100000 in
set_option maxHeartbeats 1000000 in
theorem right5_n (n : Int) (s : ByteArray) (lA : Option Addr) (nl lc : Nat) (mA : Option Addr) (nm mc : Nat) (w : World) (hn : ¬ n = 0) : Calls Tryz.prog 95 #[.agg #[.int .i64 5, .int .i64 n, .string s, .slice lA nl lc, .slice mA nm mc]] w fun e w' => PF (RiP false w) e w' := by
 have q1 : (n == 0) = false := by rw [beq_eq_false_iff_ne]; exact hn
 have q2 : (n != 0) = true := by rw [bne_iff_ne]; exact hn
 clear hn
 go_enter Tryz.func95, Tryz.ntmps95
 go_wp2
 go_ret
 exact ⟨rfl, below_al _ (below_new _ _)⟩
set_option maxRecDepth 100000 in
set_option maxHeartbeats 1000000 in
theorem right5_s (s : ByteArray) (lA : Option Addr) (nl lc : Nat) (mA : Option Addr) (nm mc : Nat) (w : World) (hs : ¬ s.size = 0) : Calls Tryz.prog 95 #[.agg #[.int .i64 5, .int .i64 0, .string s, .slice lA nl lc, .slice mA nm mc]] w fun e w' => PF (RiP false w) e w' := by
 have hs1 := sz_ne hs
 have hs2 : (s.toList == []) = false := by rw [beq_eq_false_iff_ne]; exact hs1
 clear hs
 go_enter Tryz.func95, Tryz.ntmps95
 go_wp2
 go_ret
 exact ⟨rfl, below_al _ (below_new _ _)⟩
set_option maxRecDepth 100000 in
set_option maxHeartbeats 1000000 in
theorem right5_m (lA : Option Addr) (nl lc : Nat) (mA : Option Addr) (nm mc : Nat) (w : World) (hm : ¬ nm = 0) : Calls Tryz.prog 95 #[.agg #[.int .i64 5, .int .i64 0, .string ⟨#[]⟩, .slice lA nl lc, .slice mA nm mc]] w fun e w' => PF (RiP false w) e w' := by
 have q3 : ((nm : Int) == 0) = false := by rw [beq_eq_false_iff_ne]; omega
 have q4 : ((nm : Int) != 0) = true := by rw [bne_iff_ne]; omega
 go_enter Tryz.func95, Tryz.ntmps95
 go_wp2
 go_ret
 exact ⟨rfl, below_al _ (below_new _ _)⟩
set_option maxRecDepth 100000 in
set_option maxHeartbeats 1000000 in
theorem right6_n (n : Int) (s : ByteArray) (lA : Option Addr) (nl lc : Nat) (mA : Option Addr) (nm mc : Nat) (w : World) (hn : ¬ n = 0) : Calls Tryz.prog 95 #[.agg #[.int .i64 6, .int .i64 n, .string s, .slice lA nl lc, .slice mA nm mc]] w fun e w' => PF (RiP false w) e w' := by
 have q1 : (n == 0) = false := by rw [beq_eq_false_iff_ne]; exact hn
 have q2 : (n != 0) = true := by rw [bne_iff_ne]; exact hn
 clear hn
 go_enter Tryz.func95, Tryz.ntmps95
 go_wp2
 go_ret
 exact ⟨rfl, below_al _ (below_new _ _)⟩
set_option maxRecDepth 100000 in
set_option maxHeartbeats 1000000 in
theorem right6_s (s : ByteArray) (lA : Option Addr) (nl lc : Nat) (mA : Option Addr) (nm mc : Nat) (w : World) (hs : ¬ s.size = 0) : Calls Tryz.prog 95 #[.agg #[.int .i64 6, .int .i64 0, .string s, .slice lA nl lc, .slice mA nm mc]] w fun e w' => PF (RiP false w) e w' := by
 have hs1 := sz_ne hs
 have hs2 : (s.toList == []) = false := by rw [beq_eq_false_iff_ne]; exact hs1
 clear hs
 go_enter Tryz.func95, Tryz.ntmps95
 go_wp2
 go_ret
 exact ⟨rfl, below_al _ (below_new _ _)⟩
set_option maxRecDepth 100000 in
set_option maxHeartbeats 1000000 in
theorem right6_l (lA : Option Addr) (nl lc : Nat) (mA : Option Addr) (nm mc : Nat) (w : World) (hl : ¬ nl = 0) : Calls Tryz.prog 95 #[.agg #[.int .i64 6, .int .i64 0, .string ⟨#[]⟩, .slice lA nl lc, .slice mA nm mc]] w fun e w' => PF (RiP false w) e w' := by
 have q3 : ((nl : Int) == 0) = false := by rw [beq_eq_false_iff_ne]; omega
 have q4 : ((nl : Int) != 0) = true := by rw [bne_iff_ne]; omega
 go_enter Tryz.func95, Tryz.ntmps95
 go_wp2
 go_ret
 exact ⟨rfl, below_al _ (below_new _ _)⟩
set_option maxRecDepth 100000 in
set_option maxHeartbeats 1000000 in
theorem right1_ok (lA : Option Addr) (lc : Nat) (mA : Option Addr) (mc : Nat) (w : World) : Calls Tryz.prog 95 #[.agg #[.int .i64 1, .int .i64 0, .string ⟨#[]⟩, .slice lA 0 lc, .slice mA 0 mc]] w fun e w' => PF (RiP true w) e w' := by
 go_enter Tryz.func95, Tryz.ntmps95
 go_wp2
 refine wp_loop_rounds 1 ?_
 rw [rounds_succ]
 go_wp2
 refine wp_loop_rounds 1 ?_
 rw [rounds_succ]
 go_wp2
 go_ret
 exact ⟨rfl, below_al _ (below_new _ _)⟩
set_option maxRecDepth 100000 in
set_option maxHeartbeats 1000000 in
theorem right2_n (n : Int) (s : ByteArray) (lA : Option Addr) (nl lc : Nat) (mA : Option Addr) (nm mc : Nat) (w : World) (hn : ¬ (n = 0 ∨ n = 1)) : Calls Tryz.prog 95 #[.agg #[.int .i64 2, .int .i64 n, .string s, .slice lA nl lc, .slice mA nm mc]] w fun e w' => PF (RiP false w) e w' := by
 have q1 : (n == 0) = false := by rw [beq_eq_false_iff_ne]; omega
 have q2 : (n != 0) = true := by rw [bne_iff_ne]; omega
 have q5 : (n == 1) = false := by rw [beq_eq_false_iff_ne]; omega
 have q6 : (n != 1) = true := by rw [bne_iff_ne]; omega
 clear hn
 go_enter Tryz.func95, Tryz.ntmps95
 go_wp2
 go_ret
 exact ⟨rfl, below_al _ (below_new _ _)⟩
set_option maxRecDepth 100000 in
set_option maxHeartbeats 1000000 in
theorem right2_s (n : Int) (s : ByteArray) (lA : Option Addr) (nl lc : Nat) (mA : Option Addr) (nm mc : Nat) (w : World) (hn : n = 0 ∨ n = 1) (hs : ¬ s.size = 0) : Calls Tryz.prog 95 #[.agg #[.int .i64 2, .int .i64 n, .string s, .slice lA nl lc, .slice mA nm mc]] w fun e w' => PF (RiP false w) e w' := by
 have hs1 := sz_ne hs
 have hs2 : (s.toList == []) = false := by rw [beq_eq_false_iff_ne]; exact hs1
 clear hs
 rcases hn with rfl | rfl
 all_goals
  go_enter Tryz.func95, Tryz.ntmps95
  go_wp2
  go_ret
  exact ⟨rfl, below_al _ (below_new _ _)⟩
set_option maxRecDepth 100000 in
set_option maxHeartbeats 1000000 in
theorem right2_l (n : Int) (lA : Option Addr) (nl lc : Nat) (mA : Option Addr) (nm mc : Nat) (w : World) (hn : n = 0 ∨ n = 1) (hl : ¬ nl = 0) : Calls Tryz.prog 95 #[.agg #[.int .i64 2, .int .i64 n, .string ⟨#[]⟩, .slice lA nl lc, .slice mA nm mc]] w fun e w' => PF (RiP false w) e w' := by
 have q3 : ((nl : Int) == 0) = false := by rw [beq_eq_false_iff_ne]; omega
 have q4 : ((nl : Int) != 0) = true := by rw [bne_iff_ne]; omega
 rcases hn with rfl | rfl
 all_goals
  go_enter Tryz.func95, Tryz.ntmps95
  go_wp2
  go_ret
  exact ⟨rfl, below_al _ (below_new _ _)⟩
set_option maxRecDepth 100000 in
set_option maxHeartbeats 1000000 in
theorem right2_m (n : Int) (lA : Option Addr) (lc : Nat) (mA : Option Addr) (nm mc : Nat) (w : World) (hn : n = 0 ∨ n = 1) (hm : ¬ nm = 0) : Calls Tryz.prog 95 #[.agg #[.int .i64 2, .int .i64 n, .string ⟨#[]⟩, .slice lA 0 lc, .slice mA nm mc]] w fun e w' => PF (RiP false w) e w' := by
 have q3 : ((nm : Int) == 0) = false := by rw [beq_eq_false_iff_ne]; omega
 have q4 : ((nm : Int) != 0) = true := by rw [bne_iff_ne]; omega
 rcases hn with rfl | rfl
 all_goals
  go_enter Tryz.func95, Tryz.ntmps95
  go_wp2
  go_ret
  exact ⟨rfl, below_al _ (below_new _ _)⟩
set_option maxRecDepth 100000 in
set_option maxHeartbeats 1000000 in
theorem right2_ok (n : Int) (lA : Option Addr) (lc : Nat) (mA : Option Addr) (mc : Nat) (w : World) (hn : n = 0 ∨ n = 1) : Calls Tryz.prog 95 #[.agg #[.int .i64 2, .int .i64 n, .string ⟨#[]⟩, .slice lA 0 lc, .slice mA 0 mc]] w fun e w' => PF (RiP true w) e w' := by
 rcases hn with rfl | rfl
 all_goals
  go_enter Tryz.func95, Tryz.ntmps95
  go_wp2
  refine wp_loop_rounds 1 ?_
  rw [rounds_succ]
  go_wp2
  refine wp_loop_rounds 1 ?_
  rw [rounds_succ]
  go_wp2
  go_ret
  exact ⟨rfl, below_al _ (below_new _ _)⟩
set_option maxRecDepth 100000 in
set_option maxHeartbeats 1000000 in
theorem right3_lo (n : Int) (s : ByteArray) (lA : Option Addr) (nl lc : Nat) (mA : Option Addr) (nm mc : Nat) (w : World) (hn : n < -9007199254740991) : Calls Tryz.prog 95 #[.agg #[.int .i64 3, .int .i64 n, .string s, .slice lA nl lc, .slice mA nm mc]] w fun e w' => PF (RiP false w) e w' := by
 have q1 : decide (n < -9007199254740991) = true := by rw [decide_eq_true_iff]; exact hn
 go_enter Tryz.func95, Tryz.ntmps95
 go_wp2
 go_ret
 exact ⟨rfl, below_al _ (below_new _ _)⟩
set_option maxRecDepth 100000 in
set_option maxHeartbeats 1000000 in
theorem right3_hi (n : Int) (s : ByteArray) (lA : Option Addr) (nl lc : Nat) (mA : Option Addr) (nm mc : Nat) (w : World) (hn : 9007199254740991 < n) : Calls Tryz.prog 95 #[.agg #[.int .i64 3, .int .i64 n, .string s, .slice lA nl lc, .slice mA nm mc]] w fun e w' => PF (RiP false w) e w' := by
 have q1 : decide (n < -9007199254740991) = false := by rw [decide_eq_false_iff_not]; omega
 have q2 : decide (9007199254740991 < n) = true := by rw [decide_eq_true_iff]; exact hn
 go_enter Tryz.func95, Tryz.ntmps95
 go_wp2
 go_ret
 exact ⟨rfl, below_al _ (below_new _ _)⟩
set_option maxRecDepth 100000 in
set_option maxHeartbeats 1000000 in
theorem right3_s (n : Int) (s : ByteArray) (lA : Option Addr) (nl lc : Nat) (mA : Option Addr) (nm mc : Nat) (w : World) (hn : -9007199254740991 ≤ n ∧ n ≤ 9007199254740991) (hs : ¬ s.size = 0) : Calls Tryz.prog 95 #[.agg #[.int .i64 3, .int .i64 n, .string s, .slice lA nl lc, .slice mA nm mc]] w fun e w' => PF (RiP false w) e w' := by
 have q1 : decide (n < -9007199254740991) = false := by rw [decide_eq_false_iff_not]; omega
 have q2 : decide (9007199254740991 < n) = false := by rw [decide_eq_false_iff_not]; omega
 clear hn
 have hs1 := sz_ne hs
 have hs2 : (s.toList == []) = false := by rw [beq_eq_false_iff_ne]; exact hs1
 clear hs
 go_enter Tryz.func95, Tryz.ntmps95
 go_wp2
 go_ret
 exact ⟨rfl, below_al _ (below_new _ _)⟩
set_option maxRecDepth 100000 in
set_option maxHeartbeats 1000000 in
theorem right3_l (n : Int) (lA : Option Addr) (nl lc : Nat) (mA : Option Addr) (nm mc : Nat) (w : World) (hn : -9007199254740991 ≤ n ∧ n ≤ 9007199254740991) (hl : ¬ nl = 0) : Calls Tryz.prog 95 #[.agg #[.int .i64 3, .int .i64 n, .string ⟨#[]⟩, .slice lA nl lc, .slice mA nm mc]] w fun e w' => PF (RiP false w) e w' := by
 have q1 : decide (n < -9007199254740991) = false := by rw [decide_eq_false_iff_not]; omega
 have q2 : decide (9007199254740991 < n) = false := by rw [decide_eq_false_iff_not]; omega
 clear hn
 have q3 : ((nl : Int) == 0) = false := by rw [beq_eq_false_iff_ne]; omega
 have q4 : ((nl : Int) != 0) = true := by rw [bne_iff_ne]; omega
 go_enter Tryz.func95, Tryz.ntmps95
 go_wp2
 go_ret
 exact ⟨rfl, below_al _ (below_new _ _)⟩
set_option maxRecDepth 100000 in
set_option maxHeartbeats 1000000 in
theorem right3_m (n : Int) (lA : Option Addr) (lc : Nat) (mA : Option Addr) (nm mc : Nat) (w : World) (hn : -9007199254740991 ≤ n ∧ n ≤ 9007199254740991) (hm : ¬ nm = 0) : Calls Tryz.prog 95 #[.agg #[.int .i64 3, .int .i64 n, .string ⟨#[]⟩, .slice lA 0 lc, .slice mA nm mc]] w fun e w' => PF (RiP false w) e w' := by
 have q1 : decide (n < -9007199254740991) = false := by rw [decide_eq_false_iff_not]; omega
 have q2 : decide (9007199254740991 < n) = false := by rw [decide_eq_false_iff_not]; omega
 clear hn
 have q3 : ((nm : Int) == 0) = false := by rw [beq_eq_false_iff_ne]; omega
 have q4 : ((nm : Int) != 0) = true := by rw [bne_iff_ne]; omega
 go_enter Tryz.func95, Tryz.ntmps95
 go_wp2
 go_ret
 exact ⟨rfl, below_al _ (below_new _ _)⟩
set_option maxRecDepth 100000 in
set_option maxHeartbeats 1000000 in
theorem right3_ok (n : Int) (lA : Option Addr) (lc : Nat) (mA : Option Addr) (mc : Nat) (w : World) (hn : -9007199254740991 ≤ n ∧ n ≤ 9007199254740991) : Calls Tryz.prog 95 #[.agg #[.int .i64 3, .int .i64 n, .string ⟨#[]⟩, .slice lA 0 lc, .slice mA 0 mc]] w fun e w' => PF (RiP true w) e w' := by
 have q1 : decide (n < -9007199254740991) = false := by rw [decide_eq_false_iff_not]; omega
 have q2 : decide (9007199254740991 < n) = false := by rw [decide_eq_false_iff_not]; omega
 clear hn
 go_enter Tryz.func95, Tryz.ntmps95
 go_wp2
 refine wp_loop_rounds 1 ?_
 rw [rounds_succ]
 go_wp2
 refine wp_loop_rounds 1 ?_
 rw [rounds_succ]
 go_wp2
 go_ret
 exact ⟨rfl, below_al _ (below_new _ _)⟩
set_option maxRecDepth 100000 in
set_option maxHeartbeats 1000000 in
theorem right4_v (n : Int) (s : ByteArray) (lA : Option Addr) (nl lc : Nat) (mA : Option Addr) (nm mc : Nat) (w : World) (hz : s.size ≤ 9223372036854775807) (hv : Lib.validD s.data.toList = false) : Calls Tryz.prog 95 #[.agg #[.int .i64 4, .int .i64 n, .string s, .slice lA nl lc, .slice mA nm mc]] w fun e w' => PF (RiP false w) e w' := by
 have HV := Ld (fun w => rvalid_any s w hz)
 rw [hv] at HV
 clear hv
 go_enter Tryz.func95, Tryz.ntmps95
 go_wp2_with fail
 refine (HV.out _).mono ?_
 rintro e w1 ⟨rfl, hb1⟩
 have HB : Hid (Below w.heap.size w w1) := Ld ((below_al _ (below_new w _)).trans (hb1.mono (below_al _ (below_new w _)).size))
 have k1 := ((Blk.new w 30 #[.int .i64 4, .int .i64 n, .string s, .slice lA nl lc, .slice mA nm mc]).alloc (.cells #[.int .i64 4, .int .i64 0, .string s, .slice none 0 0, .slice none 0 0] 30)).below hb1 (by simp; omega)
 have k2 : Blk w1 (w.heap.size + 1) 30 #[.int .i64 4, .int .i64 0, .string s, .slice none 0 0, .slice none 0 0] := by
  have := (Blk.new (w.alloc (.cells #[.int .i64 4, .int .i64 n, .string s, .slice lA nl lc, .slice mA nm mc] 30)) 30 #[.int .i64 4, .int .i64 0, .string s, .slice none 0 0, .slice none 0 0]).below hb1 (by simp)
  simpa using this
 obtain ⟨a0, a1, a2, a3, a4⟩ := five_cells k1
 obtain ⟨c0, c1, c2, c3, c4⟩ := five_cells k2
 clear k1 k2 hb1
 go_wp2
 go_ret
 exact ⟨rfl, HB.out⟩
set_option maxRecDepth 100000 in
set_option maxHeartbeats 1000000 in
theorem right4_n (n : Int) (s : ByteArray) (lA : Option Addr) (nl lc : Nat) (mA : Option Addr) (nm mc : Nat) (w : World) (hz : s.size ≤ 9223372036854775807) (hn : ¬ n = 0) (hv : Lib.validD s.data.toList = true) : Calls Tryz.prog 95 #[.agg #[.int .i64 4, .int .i64 n, .string s, .slice lA nl lc, .slice mA nm mc]] w fun e w' => PF (RiP false w) e w' := by
 have HV := Ld (fun w => rvalid_any s w hz)
 rw [hv] at HV
 clear hv
 have q1 : (n == 0) = false := by rw [beq_eq_false_iff_ne]; exact hn
 have q2 : (n != 0) = true := by rw [bne_iff_ne]; exact hn
 clear hn
 go_enter Tryz.func95, Tryz.ntmps95
 go_wp2_with fail
 refine (HV.out _).mono ?_
 rintro e w1 ⟨rfl, hb1⟩
 have HB : Hid (Below w.heap.size w w1) := Ld ((below_al _ (below_new w _)).trans (hb1.mono (below_al _ (below_new w _)).size))
 have k1 := ((Blk.new w 30 #[.int .i64 4, .int .i64 n, .string s, .slice lA nl lc, .slice mA nm mc]).alloc (.cells #[.int .i64 4, .int .i64 0, .string s, .slice none 0 0, .slice none 0 0] 30)).below hb1 (by simp; omega)
 have k2 : Blk w1 (w.heap.size + 1) 30 #[.int .i64 4, .int .i64 0, .string s, .slice none 0 0, .slice none 0 0] := by
  have := (Blk.new (w.alloc (.cells #[.int .i64 4, .int .i64 n, .string s, .slice lA nl lc, .slice mA nm mc] 30)) 30 #[.int .i64 4, .int .i64 0, .string s, .slice none 0 0, .slice none 0 0]).below hb1 (by simp)
  simpa using this
 obtain ⟨a0, a1, a2, a3, a4⟩ := five_cells k1
 obtain ⟨c0, c1, c2, c3, c4⟩ := five_cells k2
 clear k1 k2 hb1
 go_wp2
 go_ret
 exact ⟨rfl, HB.out⟩
set_option maxRecDepth 100000 in
set_option maxHeartbeats 1000000 in
theorem right4_l (s : ByteArray) (lA : Option Addr) (nl lc : Nat) (mA : Option Addr) (nm mc : Nat) (w : World) (hz : s.size ≤ 9223372036854775807) (hl : ¬ nl = 0) (hv : Lib.validD s.data.toList = true) : Calls Tryz.prog 95 #[.agg #[.int .i64 4, .int .i64 0, .string s, .slice lA nl lc, .slice mA nm mc]] w fun e w' => PF (RiP false w) e w' := by
 have HV := Ld (fun w => rvalid_any s w hz)
 rw [hv] at HV
 clear hv
 have q3 : ((nl : Int) == 0) = false := by rw [beq_eq_false_iff_ne]; omega
 have q4 : ((nl : Int) != 0) = true := by rw [bne_iff_ne]; omega
 go_enter Tryz.func95, Tryz.ntmps95
 go_wp2_with fail
 refine (HV.out _).mono ?_
 rintro e w1 ⟨rfl, hb1⟩
 have HB : Hid (Below w.heap.size w w1) := Ld ((below_al _ (below_new w _)).trans (hb1.mono (below_al _ (below_new w _)).size))
 have k1 := ((Blk.new w 30 #[.int .i64 4, .int .i64 0, .string s, .slice lA nl lc, .slice mA nm mc]).alloc (.cells #[.int .i64 4, .int .i64 0, .string s, .slice none 0 0, .slice none 0 0] 30)).below hb1 (by simp; omega)
 have k2 : Blk w1 (w.heap.size + 1) 30 #[.int .i64 4, .int .i64 0, .string s, .slice none 0 0, .slice none 0 0] := by
  have := (Blk.new (w.alloc (.cells #[.int .i64 4, .int .i64 0, .string s, .slice lA nl lc, .slice mA nm mc] 30)) 30 #[.int .i64 4, .int .i64 0, .string s, .slice none 0 0, .slice none 0 0]).below hb1 (by simp)
  simpa using this
 obtain ⟨a0, a1, a2, a3, a4⟩ := five_cells k1
 obtain ⟨c0, c1, c2, c3, c4⟩ := five_cells k2
 clear k1 k2 hb1
 go_wp2
 go_ret
 exact ⟨rfl, HB.out⟩
set_option maxRecDepth 100000 in
set_option maxHeartbeats 1000000 in
theorem right4_m (s : ByteArray) (lA : Option Addr) (lc : Nat) (mA : Option Addr) (nm mc : Nat) (w : World) (hz : s.size ≤ 9223372036854775807) (hm : ¬ nm = 0) (hv : Lib.validD s.data.toList = true) : Calls Tryz.prog 95 #[.agg #[.int .i64 4, .int .i64 0, .string s, .slice lA 0 lc, .slice mA nm mc]] w fun e w' => PF (RiP false w) e w' := by
 have HV := Ld (fun w => rvalid_any s w hz)
 rw [hv] at HV
 clear hv
 have q3 : ((nm : Int) == 0) = false := by rw [beq_eq_false_iff_ne]; omega
 have q4 : ((nm : Int) != 0) = true := by rw [bne_iff_ne]; omega
 go_enter Tryz.func95, Tryz.ntmps95
 go_wp2_with fail
 refine (HV.out _).mono ?_
 rintro e w1 ⟨rfl, hb1⟩
 have HB : Hid (Below w.heap.size w w1) := Ld ((below_al _ (below_new w _)).trans (hb1.mono (below_al _ (below_new w _)).size))
 have k1 := ((Blk.new w 30 #[.int .i64 4, .int .i64 0, .string s, .slice lA 0 lc, .slice mA nm mc]).alloc (.cells #[.int .i64 4, .int .i64 0, .string s, .slice none 0 0, .slice none 0 0] 30)).below hb1 (by simp; omega)
 have k2 : Blk w1 (w.heap.size + 1) 30 #[.int .i64 4, .int .i64 0, .string s, .slice none 0 0, .slice none 0 0] := by
  have := (Blk.new (w.alloc (.cells #[.int .i64 4, .int .i64 0, .string s, .slice lA 0 lc, .slice mA nm mc] 30)) 30 #[.int .i64 4, .int .i64 0, .string s, .slice none 0 0, .slice none 0 0]).below hb1 (by simp)
  simpa using this
 obtain ⟨a0, a1, a2, a3, a4⟩ := five_cells k1
 obtain ⟨c0, c1, c2, c3, c4⟩ := five_cells k2
 clear k1 k2 hb1
 go_wp2
 go_ret
 exact ⟨rfl, HB.out⟩
set_option maxRecDepth 100000 in
set_option maxHeartbeats 1000000 in
theorem right4_ok (s : ByteArray) (lA : Option Addr) (lc : Nat) (mA : Option Addr) (mc : Nat) (w : World) (hz : s.size ≤ 9223372036854775807) (hv : Lib.validD s.data.toList = true) : Calls Tryz.prog 95 #[.agg #[.int .i64 4, .int .i64 0, .string s, .slice lA 0 lc, .slice mA 0 mc]] w fun e w' => PF (RiP true w) e w' := by
 have HV := Ld (fun w => rvalid_any s w hz)
 rw [hv] at HV
 clear hv
 go_enter Tryz.func95, Tryz.ntmps95
 go_wp2_with fail
 refine (HV.out _).mono ?_
 rintro e w1 ⟨rfl, hb1⟩
 have HB : Hid (Below w.heap.size w w1) := Ld ((below_al _ (below_new w _)).trans (hb1.mono (below_al _ (below_new w _)).size))
 have k1 := ((Blk.new w 30 #[.int .i64 4, .int .i64 0, .string s, .slice lA 0 lc, .slice mA 0 mc]).alloc (.cells #[.int .i64 4, .int .i64 0, .string s, .slice none 0 0, .slice none 0 0] 30)).below hb1 (by simp; omega)
 have k2 : Blk w1 (w.heap.size + 1) 30 #[.int .i64 4, .int .i64 0, .string s, .slice none 0 0, .slice none 0 0] := by
  have := (Blk.new (w.alloc (.cells #[.int .i64 4, .int .i64 0, .string s, .slice lA 0 lc, .slice mA 0 mc] 30)) 30 #[.int .i64 4, .int .i64 0, .string s, .slice none 0 0, .slice none 0 0]).below hb1 (by simp)
  simpa using this
 obtain ⟨a0, a1, a2, a3, a4⟩ := five_cells k1
 obtain ⟨c0, c1, c2, c3, c4⟩ := five_cells k2
 clear k1 k2 hb1
 go_wp2
 refine wp_loop_rounds 1 ?_
 rw [rounds_succ]
 go_wp2
 refine wp_loop_rounds 1 ?_
 rw [rounds_succ]
 go_wp2
 go_ret
 exact ⟨rfl, HB.out⟩
set_option maxRecDepth 100000 in
set_option maxHeartbeats 1000000 in
theorem right0 (k n : Int) (s : ByteArray) (lA : Option Addr) (nl lc : Nat) (mA : Option Addr) (nm mc : Nat) (w : World) (hk : k < 1 ∨ 6 < k) : Calls Tryz.prog 95 #[.agg #[.int .i64 k, .int .i64 n, .string s, .slice lA nl lc, .slice mA nm mc]] w fun e w' => PF (RiP false w) e w' := by
 have p1 : (k == 1) = false := by rw [beq_eq_false_iff_ne]; omega
 have p2 : (k == 2) = false := by rw [beq_eq_false_iff_ne]; omega
 have p3 : (k == 3) = false := by rw [beq_eq_false_iff_ne]; omega
 have p4 : (k == 4) = false := by rw [beq_eq_false_iff_ne]; omega
 have p5 : (k == 5) = false := by rw [beq_eq_false_iff_ne]; omega
 have p6 : (k == 6) = false := by rw [beq_eq_false_iff_ne]; omega
 clear hk
 go_enter Tryz.func95, Tryz.ntmps95
 go_wp2
 go_ret
 exact ⟨rfl, below_al _ (below_new _ _)⟩
def RIH (w0 : World) (l : List MV) : Prop := ∀ x ∈ l, ∀ (w : World), Below w0.heap.size w0 w → Calls Tryz.prog 95 #[x.val] w fun e w' => PF (RiP x.pv.right w) e w'
theorem blk_al2 {w : World} {t t' : TypeId} {a c : Array Value} : Blk ((w.alloc (.cells a t)).alloc (.cells c t')) w.heap.size t a := (Blk.new w t a).alloc _
set_option maxRecDepth 100000 in
set_option maxHeartbeats 1000000 in
theorem right5_ok {w0 : World} {v : MV} (hv : VAt w0 v) (hih : RIH w0 v.l) (lA : Option Addr) (nl lc : Nat) (mA : Option Addr) (mc : Nat) (hA : lA = v.lA) (hn : nl = v.l.length) (hm : nl ≤ 3001) (w : World) (hb : Below w0.heap.size w0 w) :
  Calls Tryz.prog 95 #[.agg #[.int .i64 5, .int .i64 0, .string ⟨#[]⟩, .slice lA nl lc, .slice mA 0 mc]] w fun e w' => PF (RiP (PV.rightL (MV.pvL v.l)) w) e w' := by
 have HV := Ld hv
 have HIH := Ld hih
 have HA := Ld hA
 have HN := Ld hn
 have HB0 := Ld hb
 clear hv hih hA hn hb
 go_enter Tryz.func95, Tryz.ntmps95
 go_wp2
 go_loopw [4, 102] (fun y z wr => ∃ (i : Nat) (z0 : Value), z = z0 ∧ y = .int .i64 (i : Int) ∧ i ≤ nl ∧ Hid (PV.rightL (MV.pvL (v.l.take i)) = true) ∧ Hid (Blk wr w.heap.size 30 #[.int .i64 5, .int .i64 0, .string ⟨#[]⟩, .slice lA nl lc, .slice mA 0 mc]) ∧ Hid (Below w.heap.size w wr)) (fun y _ _ => nl - (intOf y).toNat)
 case atStart => exact ⟨0, _, rfl, rfl, Nat.zero_le _, Ld rfl, Ld (blk_al2), Ld (below_al _ (below_new _ _))⟩
 case round =>
  obtain ⟨i, z0, rfl, rfl, hi, HR, HBX, HW⟩ := hrel
  obtain ⟨a0, a1, a2, a3, a4⟩ := five_cells HBX.out
  rcases (by omega : i < nl ∨ i = nl) with hlt | heq
  ·have q0 : decide ((i : Int) < (nl : Int)) = true := by rw [decide_eq_true_iff]; omega
   have q0' : decide (i < nl) = true := by rw [decide_eq_true_iff]; omega
   have hil : i < v.l.length := by rw [← HN.out]; exact hlt
   have HBW : Hid (Below w0.heap.size w0 wr) := Ld (HB0.out.trans (HW.out.mono HB0.out.size))
   obtain ⟨b, o, hA, hbl, hc⟩ := (HV.out.bel HBW.out).la hil
   rw [← HA.out] at hA
   obtain ⟨x, hx⟩ : ∃ x, x = v.l[i]'hil := ⟨_, rfl⟩
   rw [← hx] at hc
   have d0 : wr.cell? ⟨b, o + i * 5, none⟩ = some (.int .i64 x.k) := hc 0 (by omega)
   have d1 : wr.cell? ⟨b, o + i * 5 + 1, none⟩ = some (.int .i64 x.n) := hc 1 (by omega)
   have d2 : wr.cell? ⟨b, o + i * 5 + 2, none⟩ = some (.string x.s) := hc 2 (by omega)
   have d3 : wr.cell? ⟨b, o + i * 5 + 3, none⟩ = some (.slice x.lA x.l.length x.lc) := hc 3 (by omega)
   have d4 : wr.cell? ⟨b, o + i * 5 + 4, none⟩ = some (.slice x.mA x.m.length x.mc) := hc 4 (by omega)
   have hxm : x ∈ v.l := by rw [hx]; exact List.getElem_mem hil
   have HCL := HIH.out x hxm wr HBW.out
   unfold MV.val at HCL
   obtain ⟨r, hr⟩ : ∃ r, r = x.pv.right := ⟨_, rfl⟩
   rw [← hr] at HCL
   have HNX : Hid (PV.rightL (MV.pvL (v.l.take (i + 1))) = r) := Ld (by rw [rightL_next v.l i hil, HR.out, ← hx, ← hr, Bool.true_and])
   have HCL := Ld HCL
   have HLW : Hid (w.heap.size < wr.heap.size) := Ld HBX.out.lt
   have hii : (i : Int) < (nl : Int) := by omega
   have hi0 : (0 : Int) ≤ (i : Int) := by omega
   subst hA
   clear hc hx hbl hxm hr
   go_wp2_with fail
   refine HCL.out.mono ?_
   rintro e w2 ⟨rfl, hb2⟩
   have HW2 : Hid (Below w.heap.size w w2) := Ld (HW.out.trans (hb2.mono HW.out.size))
   have HBX2 := Ld (HBX.out.below hb2 HBX.out.lt)
   clear hb2 d0 d1 d2 d3 d4 a0 a1 a2 a3 a4
   cases r with
   | false =>
    go_wp2
    go_ret
    exact ⟨by rw [rightL_no v.l (i + 1) HNX.out]; rfl, HW2.out⟩
   | true =>
    go_wp2
    go_roundw
    case rel => exact ⟨i + 1, _, rfl, by go_num, by omega, HNX, HBX2, HW2⟩
    case measure => simp [intOf]; omega
  ·have q0 : decide ((i : Int) < (nl : Int)) = false := by rw [decide_eq_false_iff_not]; omega
   have q0' : decide (i < nl) = false := by rw [decide_eq_false_iff_not]; omega
   have HE : Hid (PV.rightL (MV.pvL v.l) = true) := Ld (by have := HR.out; rwa [heq, HN.out, List.take_length] at this)
   clear heq
   go_wp2
   refine wp_loop_rounds 1 ?_
   rw [rounds_succ]
   go_wp2
   go_ret
   exact ⟨by rw [HE.out]; rfl, HW.out⟩
set_option maxRecDepth 100000 in
set_option maxHeartbeats 1000000 in
theorem right6_ok {w0 : World} {v : MV} (hv : VAt w0 v) (hih : RIH w0 v.m) (hz : ∀ x ∈ v.m, x.key.size ≤ 140737488351232) (lA : Option Addr) (lc : Nat) (mA : Option Addr) (nm mc : Nat) (hA : mA = v.mA) (hn : nm = v.m.length) (hm : nm ≤ 3001) (w : World) (hb : Below w0.heap.size w0 w) :
  Calls Tryz.prog 95 #[.agg #[.int .i64 6, .int .i64 0, .string ⟨#[]⟩, .slice lA 0 lc, .slice mA nm mc]] w fun e w' => PF (RiP (rightM v.m) w) e w' := by
 have HV := Ld hv
 have HIH := Ld hih
 have HZ := Ld hz
 have HA := Ld hA
 have HN := Ld hn
 have HB0 := Ld hb
 clear hv hih hz hA hn hb
 go_enter Tryz.func95, Tryz.ntmps95
 go_wp2
 refine wp_loop_rounds 1 ?_
 rw [rounds_succ]
 go_wp2
 go_loopw [5, 6] (fun y z wr => ∃ (i : Nat) (z0 : Value), z = z0 ∧ y = .int .i64 (i : Int) ∧ i ≤ nm ∧ Hid (rightM (v.m.take i) = true) ∧ Hid (Blk wr w.heap.size 30 #[.int .i64 6, .int .i64 0, .string ⟨#[]⟩, .slice lA 0 lc, .slice mA nm mc]) ∧ Hid (Below w.heap.size w wr)) (fun y _ _ => nm - (intOf y).toNat)
 case atStart => exact ⟨0, _, rfl, rfl, Nat.zero_le _, Ld rfl, Ld (blk_al2), Ld (below_al _ (below_new _ _))⟩
 case round =>
  obtain ⟨i, z0, rfl, rfl, hi, HR, HBX, HW⟩ := hrel
  obtain ⟨a0, a1, a2, a3, a4⟩ := five_cells HBX.out
  rcases (by omega : i < nm ∨ i = nm) with hlt | heq
  ·have q0 : decide ((i : Int) < (nm : Int)) = true := by rw [decide_eq_true_iff]; omega
   have q0' : decide (i < nm) = true := by rw [decide_eq_true_iff]; omega
   have hil : i < v.m.length := by rw [← HN.out]; exact hlt
   have HBW : Hid (Below w0.heap.size w0 wr) := Ld (HB0.out.trans (HW.out.mono HB0.out.size))
   obtain ⟨b, o, hA, hbl, hc⟩ := (HV.out.bel HBW.out).ma hil
   rw [← HA.out] at hA
   obtain ⟨x, hx⟩ : ∃ x, x = v.m[i]'hil := ⟨_, rfl⟩
   rw [← hx] at hc
   have d0 : wr.cell? ⟨b, o + i * 6, none⟩ = some (.string x.key) := hc 0 (by omega)
   have hxm : x ∈ v.m := by rw [hx]; exact List.getElem_mem hil
   have hxs : x.key.size ≤ 9223372036854775807 := by have := HZ.out x hxm; omega
   have HVA := rvalid_any x.key wr hxs
   obtain ⟨rv, hrv⟩ : ∃ r, r = Lib.validD x.key.data.toList := ⟨_, rfl⟩
   rw [← hrv] at HVA
   obtain ⟨r, hr⟩ : ∃ r, r = x.pv.right := ⟨_, rfl⟩
   have HNX : Hid (rightM (v.m.take (i + 1)) = (rv && (r && !((v.m.take i).map MV.key).any (fun y => decide (y = x.key))))) := Ld (by rw [rightM_next v.m i hil, HR.out, ← hx, ← hr, ← hrv, Bool.true_and])
   have HRR := Ld hr
   have HX := Ld hx
   have HXM := Ld hxm
   have HVA := Ld HVA
   have HLW : Hid (w.heap.size < wr.heap.size) := Ld HBX.out.lt
   have hii : (i : Int) < (nm : Int) := by omega
   have hi0 : (0 : Int) ≤ (i : Int) := by omega
   subst hA
   clear hx hbl hxm hr hrv hxs
   have HCC := Ld hc
   clear hc
   go_wp2_with fail
   refine HVA.out.mono ?_
   rintro e w2 ⟨rfl, hb2⟩
   have HW2 : Hid (Below w.heap.size w w2) := Ld (HW.out.trans (hb2.mono HW.out.size))
   have HBX2 := Ld (HBX.out.below hb2 HBX.out.lt)
   have HBW2 : Hid (Below w0.heap.size w0 w2) := Ld (HB0.out.trans (HW2.out.mono HB0.out.size))
   clear hb2 d0 a0 a1 a2 a3 a4
   obtain ⟨a0, a1, a2, a3, a4⟩ := five_cells HBX2.out
   cases rv with
   | false =>
    go_wp2
    go_ret
    exact ⟨by rw [rightM_no v.m (i + 1) (by rw [HNX.out]; rfl)]; rfl, HW2.out⟩
   | true =>
    have HCD : Hid (∀ V, Below w0.heap.size w0 V → ∀ (k : Nat) (hk : k < v.m.length), ∀ j, j < 6 → V.cell? ⟨b, o + k * 6 + j, none⟩ = (v.m[k]'hk).pcs[j]?) := Ld (fun V hV k hk j hj => by
     obtain ⟨b', o', hA', _, hc'⟩ := (HV.out.bel hV).ma hk
     rw [← HA.out] at hA'
     cases hA'
     exact hc' j hj)
    have d1 : w2.cell? ⟨b, o + i * 6 + 1, none⟩ = some (.int .i64 x.k) := by have := HCD.out w2 HBW2.out i hil 1 (by omega); rw [← HX.out] at this; exact this
    have d2 : w2.cell? ⟨b, o + i * 6 + 1 + 1, none⟩ = some (.int .i64 x.n) := by have := HCD.out w2 HBW2.out i hil 2 (by omega); rw [← HX.out] at this; exact this
    have d3 : w2.cell? ⟨b, o + i * 6 + 1 + 2, none⟩ = some (.string x.s) := by have := HCD.out w2 HBW2.out i hil 3 (by omega); rw [← HX.out] at this; exact this
    have d4 : w2.cell? ⟨b, o + i * 6 + 1 + 3, none⟩ = some (.slice x.lA x.l.length x.lc) := by have := HCD.out w2 HBW2.out i hil 4 (by omega); rw [← HX.out] at this; exact this
    have d5 : w2.cell? ⟨b, o + i * 6 + 1 + 4, none⟩ = some (.slice x.mA x.m.length x.mc) := by have := HCD.out w2 HBW2.out i hil 5 (by omega); rw [← HX.out] at this; exact this
    have HCL := HIH.out x HXM.out w2 HBW2.out
    unfold MV.val at HCL
    rw [← HRR.out] at HCL
    have HCL := Ld HCL
    go_wp2_with fail
    refine HCL.out.mono ?_
    rintro e w3 ⟨rfl, hb3⟩
    have HW3 : Hid (Below w.heap.size w w3) := Ld (HW2.out.trans (hb3.mono HW2.out.size))
    have HBX3 := Ld (HBX2.out.below hb3 HBX2.out.lt)
    clear hb3 d1 d2 d3 d4 d5 a0 a1 a2 a3 a4
    cases r with
    | false =>
     go_wp2
     go_ret
     exact ⟨by rw [rightM_no v.m (i + 1) (by rw [HNX.out]; rfl)]; rfl, HW3.out⟩
    | true =>
     go_wp2
     go_loopw [6] (fun u wr => ∃ (k : Nat), u = .int .i64 (k : Int) ∧ k ≤ i ∧ Hid (((v.m.take k).map MV.key).any (fun y => decide (y = x.key)) = false) ∧ Hid (Blk wr w.heap.size 30 #[.int .i64 6, .int .i64 0, .string ⟨#[]⟩, .slice lA 0 lc, .slice (some ⟨b, o, none⟩) nm mc]) ∧ Hid (Below w.heap.size w wr)) (fun u _ => i - (intOf u).toNat)
     case atStart => exact ⟨0, rfl, Nat.zero_le _, Ld rfl, HBX3, HW3⟩
     case round =>
      obtain ⟨k, rfl, hk, HS, HBX4, HW4⟩ := hrel
      obtain ⟨a0, a1, a2, a3, a4⟩ := five_cells HBX4.out
      rcases (by omega : k < i ∨ k = i) with hki | hke
      ·have q2 : decide ((k : Int) < (i : Int)) = true := by rw [decide_eq_true_iff]; omega
       have q2' : decide (k < i) = true := by rw [decide_eq_true_iff]; omega
       have hkl : k < v.m.length := by omega
       have HBW4 : Hid (Below w0.heap.size w0 wr) := Ld (HB0.out.trans (HW4.out.mono HB0.out.size))
       obtain ⟨y, hy⟩ : ∃ y, y = v.m[k]'hkl := ⟨_, rfl⟩
       have d0 : wr.cell? ⟨b, o + k * 6, none⟩ = some (.string y.key) := by have := HCD.out wr HBW4.out k hkl 0 (by omega); rw [← hy] at this; exact this
       have e0 : wr.cell? ⟨b, o + i * 6, none⟩ = some (.string x.key) := by have := HCD.out wr HBW4.out i hil 0 (by omega); rw [← HX.out] at this; exact this
       have HYN : Hid (((v.m.take (k + 1)).map MV.key).any (fun y => decide (y = x.key)) = decide (y.key = x.key)) := Ld (by
        rw [List.take_succ_eq_append_getElem hkl, ← hy, List.map_append, List.any_append, HS.out, Bool.false_or]
        simp)
       have hk1 : (k : Int) < (nm : Int) := by omega
       have hk0 : (0 : Int) ≤ (k : Int) := by omega
       clear hy
       obtain ⟨yk, hyk⟩ : ∃ yk, yk = y.key := ⟨_, rfl⟩
       obtain ⟨xk, hxk⟩ : ∃ xk, xk = x.key := ⟨_, rfl⟩
       rw [← hyk] at d0 HYN
       rw [← hxk] at e0 HYN
       have HXK := Ld hxk
       clear hyk hxk
       rcases Classical.em (yk = xk) with heq2 | hne2
       ·have HNO : Hid (rightM (v.m.take (i + 1)) = false) := Ld (by
         rw [HNX.out]
         have h2 : ((v.m.take i).map MV.key).any (fun y => decide (y = x.key)) = true := by
          rw [List.any_eq_true]
          refine ⟨yk, ?_, by rw [decide_eq_true_iff, heq2]; exact HXK.out⟩
          have h3 := HYN.out
          rw [decide_eq_true heq2, List.any_eq_true] at h3
          obtain ⟨z, hz1, hz2⟩ := h3
          rw [decide_eq_true_iff] at hz2
          rw [heq2, ← hz2]
          rw [List.mem_map] at hz1 ⊢
          obtain ⟨u, hu, rfl⟩ := hz1
          exact ⟨u, (List.take_subset_take_left _ (by omega : k + 1 ≤ i)) hu, rfl⟩
         rw [h2]; rfl)
        subst heq2
        go_wp2
        go_region
        go_wp2
        go_ret
        exact ⟨by rw [rightM_no v.m (i + 1) HNO.out]; rfl, dnU HW4.out _⟩
       ·have HN2 : Hid (decide (yk = xk) = false) := Ld (decide_eq_false hne2)
        have hq1 := nm_beq yk xk
        rw [decide_eq_false hne2] at hq1
        have hq2 : ¬ yk.toList = xk.toList := fun e => hne2 (toList_injV e)
        clear hne2
        go_wp2
        go_region
        go_wp2
        go_roundw
        case rel => exact ⟨k + 1, by go_num, by omega, Ld (by rw [← HXK.out, HYN.out, HN2.out]), Ld (HBX4.out.drewN _), Ld (dnU HW4.out _)⟩
        case measure => simp [intOf]; omega
      ·have q2 : decide ((k : Int) < (i : Int)) = false := by rw [decide_eq_false_iff_not]; omega
       have q2' : decide (k < i) = false := by rw [decide_eq_false_iff_not]; omega
       have HQ2 : Hid (rightM (v.m.take (i + 1)) = true) := Ld (by rw [HNX.out]; have := HS.out; rw [hke] at this; rw [this]; rfl)
       clear hke
       go_wp2
       go_roundw
       case rel => exact ⟨i + 1, _, rfl, by go_num, by omega, HQ2, HBX4, HW4⟩
       case measure => simp [intOf]; omega
  ·have q0 : decide ((i : Int) < (nm : Int)) = false := by rw [decide_eq_false_iff_not]; omega
   have q0' : decide (i < nm) = false := by rw [decide_eq_false_iff_not]; omega
   have HE : Hid (rightM v.m = true) := Ld (by have := HR.out; rwa [heq, HN.out, List.take_length] at this)
   clear heq
   go_wp2
   go_ret
   exact ⟨by rw [HE.out]; rfl, HW.out⟩
end Go.Proofs.YtefkpphahimkgaaGreatDoor
namespace Go.Proofs.YtefkpphahimkgaaGreatDoor
open Go.RowKit
set_option linter.unusedVariables false
set_option linter.unusedSimpArgs false
theorem rright_any {w0 : World} {v : MV} (h : VAt w0 v) : OkP v.pv → ∀ (w : World), Below w0.heap.size w0 w → Calls Tryz.prog 95 #[v.val] w fun e w' => PF (RiP v.pv.right w) e w' := by
 have hgo : ∀ (v : MV), VAt w0 v → OkP v.pv → (∀ x ∈ v.l ++ v.m, ∀ (w : World), Below w0.heap.size w0 w → Calls Tryz.prog 95 #[x.val] w fun e w' => PF (RiP x.pv.right w) e w') → ∀ (w : World), Below w0.heap.size w0 w → Calls Tryz.prog 95 #[v.val] w fun e w' => PF (RiP v.pv.right w) e w' := by
  intro v hv hok ih w hb
  have hz : v.s.size ≤ 9223372036854775807 := by have := hok.s; omega
  rw [right_eq]
  obtain ⟨key, k, n, s, lA, lc, l, mA, mc, m⟩ := v
  unfold MV.val
  simp only [MV.k, MV.n, MV.s, MV.lA, MV.lc, MV.l, MV.mA, MV.mc, MV.m] at hz ih ⊢
  rcases (by omega : k = 1 ∨ k = 2 ∨ k = 3 ∨ k = 4 ∨ k = 5 ∨ k = 6 ∨ (k < 1 ∨ 6 < k)) with rfl | rfl | rfl | rfl | rfl | rfl | hk
  ·skip
   by_cases hn : n = 0
   rotate_left
   ·skip
    rw [show (ownF _ _ _ _ _ && (keysB _ && (PV.rightL _ && PV.rightL _))) = false from by simp [ownF, hn]]
    exact right1_n n s lA l.length lc mA m.length mc w hn
   subst hn
   by_cases hs : s.size = 0
   rotate_left
   ·skip
    rw [show (ownF _ _ _ _ _ && (keysB _ && (PV.rightL _ && PV.rightL _))) = false from by simp [ownF, hs]]
    exact right1_s s lA l.length lc mA m.length mc w hs
   obtain rfl := sz_nil hs
   clear hs
   by_cases hl : l.length = 0
   rotate_left
   ·skip
    rw [show (ownF _ _ _ _ _ && (keysB _ && (PV.rightL _ && PV.rightL _))) = false from by simp [ownF, hl]]
    exact right1_l lA l.length lc mA m.length mc w hl
   obtain rfl := List.eq_nil_of_length_eq_zero hl
   clear hl
   by_cases hm : m.length = 0
   rotate_left
   ·skip
    rw [show (ownF _ _ _ _ _ && (keysB _ && (PV.rightL _ && PV.rightL _))) = false from by simp [ownF, hm]]
    exact right1_m lA lc mA m.length mc w hm
   obtain rfl := List.eq_nil_of_length_eq_zero hm
   clear hm
   rw [show (ownF 1 0 ⟨#[]⟩ ([] : List MV).length ([] : List MV).length && (keysB (([] : List MV).map MV.key) && (PV.rightL (MV.pvL []) && PV.rightL (MV.pvL [])))) = true from by rfl]
   exact right1_ok lA lc mA mc w 
  ·skip
   by_cases hn : n = 0 ∨ n = 1
   rotate_left
   ·skip
    rw [show (ownF _ _ _ _ _ && (keysB _ && (PV.rightL _ && PV.rightL _))) = false from by simp [ownF, hn]]
    exact right2_n n s lA l.length lc mA m.length mc w hn
   by_cases hs : s.size = 0
   rotate_left
   ·skip
    rw [show (ownF _ _ _ _ _ && (keysB _ && (PV.rightL _ && PV.rightL _))) = false from by simp [ownF, hs]]
    exact right2_s n s lA l.length lc mA m.length mc w hn hs
   obtain rfl := sz_nil hs
   clear hs
   by_cases hl : l.length = 0
   rotate_left
   ·skip
    rw [show (ownF _ _ _ _ _ && (keysB _ && (PV.rightL _ && PV.rightL _))) = false from by simp [ownF, hl]]
    exact right2_l n lA l.length lc mA m.length mc w hn hl
   obtain rfl := List.eq_nil_of_length_eq_zero hl
   clear hl
   by_cases hm : m.length = 0
   rotate_left
   ·skip
    rw [show (ownF _ _ _ _ _ && (keysB _ && (PV.rightL _ && PV.rightL _))) = false from by simp [ownF, hm]]
    exact right2_m n lA lc mA m.length mc w hn hm
   obtain rfl := List.eq_nil_of_length_eq_zero hm
   clear hm
   rw [show (ownF 2 n ⟨#[]⟩ ([] : List MV).length ([] : List MV).length && (keysB (([] : List MV).map MV.key) && (PV.rightL (MV.pvL []) && PV.rightL (MV.pvL [])))) = true from by rcases hn with rfl | rfl <;> rfl]
   exact right2_ok n lA lc mA mc w hn 
  ·skip
   by_cases hn : -9007199254740991 ≤ n ∧ n ≤ 9007199254740991
   rotate_left
   ·skip
    rcases (by omega : n < -9007199254740991 ∨ 9007199254740991 < n) with h3 | h3
    ·skip
     rw [show (ownF _ _ _ _ _ && (keysB _ && (PV.rightL _ && PV.rightL _))) = false from by simp only [ownF]; simp [hn]]
     exact right3_lo n s lA l.length lc mA m.length mc w h3
    ·skip
     rw [show (ownF _ _ _ _ _ && (keysB _ && (PV.rightL _ && PV.rightL _))) = false from by simp only [ownF]; simp [hn]]
     exact right3_hi n s lA l.length lc mA m.length mc w h3
   by_cases hs : s.size = 0
   rotate_left
   ·skip
    rw [show (ownF _ _ _ _ _ && (keysB _ && (PV.rightL _ && PV.rightL _))) = false from by simp [ownF, hs]]
    exact right3_s n s lA l.length lc mA m.length mc w hn hs
   obtain rfl := sz_nil hs
   clear hs
   by_cases hl : l.length = 0
   rotate_left
   ·skip
    rw [show (ownF _ _ _ _ _ && (keysB _ && (PV.rightL _ && PV.rightL _))) = false from by simp [ownF, hl]]
    exact right3_l n lA l.length lc mA m.length mc w hn hl
   obtain rfl := List.eq_nil_of_length_eq_zero hl
   clear hl
   by_cases hm : m.length = 0
   rotate_left
   ·skip
    rw [show (ownF _ _ _ _ _ && (keysB _ && (PV.rightL _ && PV.rightL _))) = false from by simp [ownF, hm]]
    exact right3_m n lA lc mA m.length mc w hn hm
   obtain rfl := List.eq_nil_of_length_eq_zero hm
   clear hm
   rw [show (ownF 3 n ⟨#[]⟩ ([] : List MV).length ([] : List MV).length && (keysB (([] : List MV).map MV.key) && (PV.rightL (MV.pvL []) && PV.rightL (MV.pvL [])))) = true from by unfold ownF keysB; rw [if_neg (by omega), if_neg (by omega), if_pos rfl, decide_eq_true hn]; rfl]
   exact right3_ok n lA lc mA mc w hn 
  ·skip
   cases hvd : Lib.validD s.data.toList
   ·skip
    rw [show (ownF _ _ _ _ _ && (keysB _ && (PV.rightL _ && PV.rightL _))) = false from by simp [ownF, hvd]]
    exact right4_v n s lA l.length lc mA m.length mc w hz hvd
   by_cases hn : n = 0
   rotate_left
   ·skip
    rw [show (ownF _ _ _ _ _ && (keysB _ && (PV.rightL _ && PV.rightL _))) = false from by simp [ownF, hn]]
    exact right4_n n s lA l.length lc mA m.length mc w hz hn hvd
   subst hn
   by_cases hl : l.length = 0
   rotate_left
   ·skip
    rw [show (ownF _ _ _ _ _ && (keysB _ && (PV.rightL _ && PV.rightL _))) = false from by simp [ownF, hl]]
    exact right4_l s lA l.length lc mA m.length mc w hz hl hvd
   obtain rfl := List.eq_nil_of_length_eq_zero hl
   clear hl
   by_cases hm : m.length = 0
   rotate_left
   ·skip
    rw [show (ownF _ _ _ _ _ && (keysB _ && (PV.rightL _ && PV.rightL _))) = false from by simp [ownF, hm]]
    exact right4_m s lA lc mA m.length mc w hz hm hvd
   obtain rfl := List.eq_nil_of_length_eq_zero hm
   clear hm
   rw [show (ownF 4 0 s ([] : List MV).length ([] : List MV).length && (keysB (([] : List MV).map MV.key) && (PV.rightL (MV.pvL []) && PV.rightL (MV.pvL [])))) = true from by unfold ownF keysB; rw [if_neg (by omega), if_neg (by omega), if_neg (by omega), if_pos rfl, hvd]; rfl]
   exact right4_ok s lA lc mA mc w hz  hvd
  ·skip
   by_cases hn : n = 0
   rotate_left
   ·skip
    rw [show (ownF _ _ _ _ _ && (keysB _ && (PV.rightL _ && PV.rightL _))) = false from by simp [ownF, hn]]
    exact right5_n n s lA l.length lc mA m.length mc w hn
   subst hn
   by_cases hs : s.size = 0
   rotate_left
   ·skip
    rw [show (ownF _ _ _ _ _ && (keysB _ && (PV.rightL _ && PV.rightL _))) = false from by simp [ownF, hs]]
    exact right5_s s lA l.length lc mA m.length mc w hs
   obtain rfl := sz_nil hs
   clear hs
   by_cases hm : m.length = 0
   rotate_left
   ·skip
    rw [show (ownF _ _ _ _ _ && (keysB _ && (PV.rightL _ && PV.rightL _))) = false from by simp [ownF, hm]]
    exact right5_m lA l.length lc mA m.length mc w hm
   obtain rfl := List.eq_nil_of_length_eq_zero hm
   clear hm
   rw [show (ownF 5 0 ⟨#[]⟩ l.length ([] : List MV).length && (keysB (([] : List MV).map MV.key) && (PV.rightL (MV.pvL l) && PV.rightL (MV.pvL [])))) = PV.rightL (MV.pvL l) from by unfold ownF keysB; rw [if_neg (by omega), if_neg (by omega), if_neg (by omega), if_neg (by omega), if_pos rfl, show decide ((⟨#[]⟩ : ByteArray).size = 0) = true from rfl]; simp [MV.pvL, PV.rightL]]
   exact right5_ok hv (fun x hx => ih x (List.mem_append_left _ hx)) lA l.length lc mA mc rfl rfl (Nat.le_trans (Nat.le_add_right _ _) hok.len) w hb
  ·skip
   by_cases hn : n = 0
   rotate_left
   ·skip
    rw [show (ownF _ _ _ _ _ && (keysB _ && (PV.rightL _ && PV.rightL _))) = false from by simp [ownF, hn]]
    exact right6_n n s lA l.length lc mA m.length mc w hn
   subst hn
   by_cases hs : s.size = 0
   rotate_left
   ·skip
    rw [show (ownF _ _ _ _ _ && (keysB _ && (PV.rightL _ && PV.rightL _))) = false from by simp [ownF, hs]]
    exact right6_s s lA l.length lc mA m.length mc w hs
   obtain rfl := sz_nil hs
   clear hs
   by_cases hl : l.length = 0
   rotate_left
   ·skip
    rw [show (ownF _ _ _ _ _ && (keysB _ && (PV.rightL _ && PV.rightL _))) = false from by simp [ownF, hl]]
    exact right6_l lA l.length lc mA m.length mc w hl
   obtain rfl := List.eq_nil_of_length_eq_zero hl
   clear hl
   rw [show (ownF 6 0 ⟨#[]⟩ ([] : List MV).length m.length && (keysB (m.map MV.key) && (PV.rightL (MV.pvL []) && PV.rightL (MV.pvL m)))) = rightM m from by unfold ownF rightM; rw [if_neg (by omega), if_neg (by omega), if_neg (by omega), if_neg (by omega), if_neg (by omega), if_pos rfl, show decide ((⟨#[]⟩ : ByteArray).size = 0) = true from rfl]; simp [MV.pvL, PV.rightL]]
   exact right6_ok hv (fun x hx => ih x (List.mem_append_right _ hx)) hok.key lA lc mA m.length mc rfl rfl (Nat.le_trans (Nat.le_add_left _ _) hok.len) w hb
  ·skip
   rw [show (ownF _ _ _ _ _ && (keysB _ && (PV.rightL _ && PV.rightL _))) = false from by unfold ownF; rw [if_neg (by omega), if_neg (by omega), if_neg (by omega), if_neg (by omega), if_neg (by omega), if_neg (by omega)]; rfl]
   exact right0 k n s lA l.length lc mA m.length mc w hk
 induction h with
 | mk a b c d e f g h i j ih1 ih2 => exact fun hok => hgo _ (.mk a b c d e f g h i j) hok (fun x hx => (List.mem_append.1 hx).elim (fun h => ih1 x h (hok.l x h)) (fun h => ih2 x h (hok.m x h)))
end Go.Proofs.YtefkpphahimkgaaGreatDoor
namespace Go.Proofs.YtefkpphahimkgaaGreatDoor
open Go.RowKit
attribute [local go_sem ↓] Go.wp_at_zero Go.wp_at_succ
set_option linter.unusedVariables false
set_option linter.unusedSimpArgs false
instance : Inhabited MV := ⟨.mk ⟨#[]⟩ 0 0 ⟨#[]⟩ none 0 [] none 0 []⟩
structure Fine (w : World) (v : MV) : Prop where
 at_ : VAt w v
 ok : OkP v.pv
 few : v.cnt ≤ 100000
theorem Fine.bel {w w' : World} {v : MV} (h : Fine w v) (hb : Below w.heap.size w w') : Fine w' v := ⟨h.at_.bel hb, h.ok, h.few⟩
theorem Fine.dep {w : World} {v : MV} (h : Fine w v) : v.dep ≤ 100000 := Nat.le_trans (dep_le_cnt v) h.few
def IntP (n : Int) (w : World) (e : Ending) (w' : World) : Prop := e = .returned (.int .i64 n) ∧ Below w.heap.size w w'
set_option maxRecDepth 100000 in
set_option maxHeartbeats 1000000 in
theorem rcheck_any {v : MV} {w : World} (h : Fine w v) : Calls Tryz.prog 49 #[v.val] w fun e w' => PF (IntP v.pv.chk w) e w' := by
 have hfit := h.ok.fit h.at_
 obtain ⟨W1, hW1⟩ : ∃ W1, W1 = w.alloc (.cells #[.int .i64 v.k, .int .i64 v.n, .string v.s, .slice v.lA v.l.length v.lc, .slice v.mA v.m.length v.mc] 30) := ⟨_, rfl⟩
 have hb1 : Below w.heap.size w W1 := by rw [hW1]; exact below_new _ _
 have hk1 : Blk W1 w.heap.size 30 #[.int .i64 v.k, .int .i64 v.n, .string v.s, .slice v.lA v.l.length v.lc, .slice v.mA v.m.length v.mc] := by rw [hW1]; exact Blk.new _ _ _
 have hdp := h.dep
 have hcp := h.few
 have h1 := fun V (hV : Below w.heap.size w V) => rdepth_any h.at_ V hV hfit (by omega)
 have h2 := fun V (hV : Below w.heap.size w V) => rcount_any h.at_ V hV hfit (by omega)
 have h3 := fun V (hV : Below w.heap.size w V) => rright_any h.at_ h.ok V hV
 obtain ⟨C, hC⟩ : ∃ C, C = v.pv.chk := ⟨_, rfl⟩
 have HC : Hid (C = if 12 < v.dep then 41 else if 4096 < v.cnt then 42 else if v.pv.right then 0 else 40) := Ld (by rw [hC, PV.chk, dep_pv, cnt_pv])
 rw [← hC]
 unfold MV.val at h1 h2 h3 ⊢
 have H1 := Ld h1
 have H2 := Ld h2
 have H3 := Ld h3
 have HB1 := Ld hb1
 have HK1 := Ld hk1
 have HW1 := Ld hW1
 clear h1 h2 h3 h hfit hC hb1 hk1 hW1
 generalize v.dep = dep at *
 generalize v.cnt = cnt at *
 generalize v.pv.right = ri at *
 go_enter Tryz.func49, Tryz.ntmps49
 go_wp2_with fail
 rw [← HW1.out]
 refine (H1.out _ HB1.out).mono ?_
 rintro e w2 ⟨rfl, hb2⟩
 have HB2 : Hid (Below w.heap.size w w2) := Ld (HB1.out.trans (hb2.mono HB1.out.size))
 have hk2 := HK1.out.below hb2 HK1.out.lt
 obtain ⟨a0, a1, a2, a3, a4⟩ := five_cells hk2
 have HK2 := Ld hk2
 clear hb2 hk2
 by_cases h1 : 12 < dep
 ·have q1 : decide ((12 : Int) < (dep : Int)) = true := by rw [decide_eq_true_iff]; omega
  have q1' : decide (12 < dep) = true := by rw [decide_eq_true_iff]; omega
  have HE : Hid (C = 41) := Ld (by rw [HC.out, if_pos h1])
  clear h1
  go_wp2
  go_ret
  exact ⟨by rw [HE.out]; rfl, HB2.out⟩
 have q1 : decide ((12 : Int) < (dep : Int)) = false := by rw [decide_eq_false_iff_not]; omega
 have q1' : decide (12 < dep) = false := by rw [decide_eq_false_iff_not]; omega
 go_wp2_with fail
 refine (H2.out _ HB2.out).mono ?_
 rintro e w3 ⟨rfl, hb3⟩
 have HB3 : Hid (Below w.heap.size w w3) := Ld (HB2.out.trans (hb3.mono HB2.out.size))
 have hk3 := HK2.out.below hb3 HK2.out.lt
 clear a0 a1 a2 a3 a4
 obtain ⟨a0, a1, a2, a3, a4⟩ := five_cells hk3
 clear hb3 hk3
 by_cases h2 : 4096 < cnt
 ·have q2 : decide ((4096 : Int) < (cnt : Int)) = true := by rw [decide_eq_true_iff]; omega
  have q2' : decide (4096 < cnt) = true := by rw [decide_eq_true_iff]; omega
  have HE : Hid (C = 42) := Ld (by rw [HC.out, if_neg h1, if_pos h2])
  clear h1 h2
  go_wp2
  go_ret
  exact ⟨by rw [HE.out]; rfl, HB3.out⟩
 have q2 : decide ((4096 : Int) < (cnt : Int)) = false := by rw [decide_eq_false_iff_not]; omega
 have q2' : decide (4096 < cnt) = false := by rw [decide_eq_false_iff_not]; omega
 go_wp2_with fail
 refine (H3.out _ HB3.out).mono ?_
 rintro e w4 ⟨rfl, hb4⟩
 have HB4 : Hid (Below w.heap.size w w4) := Ld (HB3.out.trans (hb4.mono HB3.out.size))
 clear hb4 a0 a1 a2 a3 a4
 cases ri with
 | true =>
  have HE : Hid (C = 0) := Ld (by rw [HC.out, if_neg h1, if_neg h2]; rfl)
  clear h1 h2
  go_wp2
  go_ret
  exact ⟨by rw [HE.out]; rfl, HB4.out⟩
 | false =>
  have HE : Hid (C = 40) := Ld (by rw [HC.out, if_neg h1, if_neg h2]; rfl)
  clear h1 h2
  go_wp2
  go_ret
  exact ⟨by rw [HE.out]; rfl, HB4.out⟩
def PV.none_ : PV := .mk 0 0 ⟨#[]⟩ [] [] []
def MV.none_ : MV := .mk ⟨#[]⟩ 0 0 ⟨#[]⟩ none 0 [] none 0 []
theorem VOwn.none_ (base : Nat) (w : World) : VOwn base w MV.none_ :=
 ⟨.mk rfl rfl Reads.none_ (Nat.le_refl _) (by simp [maxLen]) Reads.none_ (Nat.le_refl _) (by simp [maxLen]) (fun x hx => by cases hx) (fun x hx => by cases hx), .mk (fun h => absurd rfl h) (fun h => absurd rfl h) (fun x hx => by cases hx) (fun x hx => by cases hx), ROwn.nil _ _, ROwn.nil _ _, (fun x hx => by cases hx), (fun x hx => by cases hx)⟩
def OwP (p : PV) (w : World) (e : Ending) (w' : World) : Prop := ∃ v' : MV, e = .returned v'.val ∧ v'.pv = p ∧ VOwn w.heap.size w' v' ∧ Below w.heap.size w w'
theorem chk_zero {p : PV} : p.chk = 0 ↔ p.dep ≤ 12 ∧ p.cnt ≤ 4096 ∧ p.right = true := by
 unfold PV.chk
 by_cases h1 : 12 < p.dep
 ·rw [if_pos h1]; exact ⟨fun h => by omega, fun h => by omega⟩
 rw [if_neg h1]
 by_cases h2 : 4096 < p.cnt
 ·rw [if_pos h2]; exact ⟨fun h => by omega, fun h => by omega⟩
 rw [if_neg h2]
 cases h3 : p.right
 ·simp
 ·simp; omega
theorem VOwn.base_le {base base' : Nat} {w : World} {v : MV} (h : VOwn base w v) (hb : base' ≤ base) : VOwn base' w v := ⟨h.at_, h.fr.mono (fun b hb' => Nat.le_trans hb hb'), h.l.base_le hb, h.m.base_le hb, h.lm, h.ml⟩
theorem VOwn.below {base : Nat} {w w' : World} {v : MV} (h : VOwn base w v) (hb : Below w.heap.size w w') : VOwn base w' v := ⟨h.at_.bel hb, h.fr, h.l.below hb, h.m.below hb, h.lm, h.ml⟩
theorem VOwn.fr_low {base : Nat} {w w' : World} {v : MV} {S : Nat → Prop} (h : VOwn base w v) (hf : Fr S w w') (hS : ∀ k, S k → k < base) : VOwn base w' v := by
 have hn : ∀ y, BlkP (base ≤ ·) y → BlkP (fun b => ¬ S b) y := fun y hy => hy.mono (fun b hb e => by have := hS b e; omega)
 exact ⟨h.at_.fr hf (hn _ h.fr), h.fr, h.l.frS hf (fun g hg e => by have := hS g e; have := h.l.ge g hg; omega) (fun y hy => hn y (h.l.fr y hy)), h.m.frS hf (fun g hg e => by have := hS g e; have := h.m.ge g hg; omega) (fun y hy => hn y (h.m.fr y hy)), h.lm, h.ml⟩
theorem fr_five {w : World} {g : Nat} {a b c d e : Value} : Fr (· = g) w (((((w.setCell ⟨g, 0, none⟩ a).setCell ⟨g, 1, none⟩ b).setCell ⟨g, 2, none⟩ c).setCell ⟨g, 3, none⟩ d).setCell ⟨g, 4, none⟩ e) :=
 (((((Fr.refl (· = g) w).setCell (p := ⟨g, 0, none⟩) (fun _ => rfl) _).setCell (p := ⟨g, 1, none⟩) (fun _ => rfl) _).setCell (p := ⟨g, 2, none⟩) (fun _ => rfl) _).setCell (p := ⟨g, 3, none⟩) (fun _ => rfl) _).setCell (p := ⟨g, 4, none⟩) (fun _ => rfl) _
theorem blk_five {w : World} {g : Nat} {t : TypeId} {a b c d e v0 v1 v2 v3 v4 : Value} (h : Blk w g t #[v0, v1, v2, v3, v4]) : Blk (((((w.setCell ⟨g, 0, none⟩ a).setCell ⟨g, 1, none⟩ b).setCell ⟨g, 2, none⟩ c).setCell ⟨g, 3, none⟩ d).setCell ⟨g, 4, none⟩ e) g t #[a, b, c, d, e] :=
 ((((h.set_ 0 _).set_ 1 _).set_ 2 _).set_ 3 _).set_ 4 _
theorem map_pair {m : List MV} : m.map (fun x => (x.key, x.pv)) = (m.map MV.key).zip (MV.pvL m) := by
 rw [pvL_map]
 induction m with
 | nil => rfl
 | cons x r ih => rw [List.map_cons, List.map_cons, List.map_cons, List.zip_cons_cons, ih]
structure SoS (w : World) (B base : Nat) (k n : Int) (s : ByteArray) (orig : Array Value) (vl vm : Value) (l m : List MV) (wr : World) : Prop where
 bel : Below w.heap.size w wr
 res : Blk wr (w.heap.size + 1) 30 #[.int .i64 0, .int .i64 0, .string ⟨#[]⟩, .slice none 0 0, .slice none 0 0]
 box : Blk wr B 30 #[.int .i64 k, .int .i64 n, .string s, vl, vm]
 bs : w.heap.size + 2 ≤ base ∧ base ≤ B
 rl : ROwn 30 5 MV.cs base wr vl l
 rm : ROwn 73 6 MV.pcs base wr vm m
 lm : ∀ x ∈ l, BlkP (fun b => ¬ vm.ownBlock = some b) x
 ml : ∀ x ∈ m, BlkP (fun b => ¬ vl.ownBlock = some b) x
 nl : ¬ vl.ownBlock = some B
 nm : ¬ vm.ownBlock = some B
theorem own_blk {t : TypeId} {size : Nat} {cs : MV → List Value} {base : Nat} {w : World} {v : Value} {l : List MV} (h : ROwn t size cs base w v l) {g : Nat} (hg : v.ownBlock = some g) : ∃ cur, Blk w g t cur := by
 rcases h.own.2 with ⟨h0, _⟩ | ⟨g', cap, cur, hv, _, hh, _⟩
 ·rw [h0] at hg; cases hg
 ·rw [hv] at hg
  injection hg with hg
  subst hg
  exact ⟨cur, hh⟩
section
variable {w : World} {B base : Nat} {k n : Int} {s : ByteArray} {orig : Array Value} {vl vm : Value} {l m : List MV} {wr w' : World}
theorem SoS.ne (h : SoS w B base k n s orig vl vm l m wr) {g : Nat} (h1 : vl.ownBlock = some g) : ¬ vm.ownBlock = some g := fun h2 => by
 obtain ⟨c1, k1⟩ := own_blk h.rl h1
 obtain ⟨c2, k2⟩ := own_blk h.rm h2
 exact Blk.ne_ k1 k2 (by decide) rfl
theorem SoS.below (h : SoS w B base k n s orig vl vm l m wr) (hb : Below wr.heap.size wr w') : SoS w B base k n s orig vl vm l m w' :=
 ⟨h.bel.trans (hb.mono h.bel.size), h.res.below hb h.res.lt, h.box.below hb h.box.lt, h.bs, h.rl.below hb, h.rm.below hb, h.lm, h.ml, h.nl, h.nm⟩
end
theorem ROwn.cellL {base : Nat} {w : World} {v : Value} {l : List MV} (h : ROwn 30 5 MV.cs base w v l) {i : Nat} (hi : i < l.length) : ∃ g c, v = .slice (some ⟨g, 0, none⟩) l.length c ∧ g < w.heap.size ∧ ∀ j, j < 5 → w.cell? ⟨g, i * 5 + j, none⟩ = l[i].cs[j]? := by
 obtain ⟨g, cap, hv, _, hlt⟩ := h.own.form (by omega)
 refine ⟨g, cap, hv, hlt, fun j hj => ?_⟩
 have ho := h.own
 rw [hv] at ho
 have h1 := csL_at l i hi j hj
 have hx : ∃ u, (l[i]'hi).cs[j]? = some u := by
  rw [List.getElem?_eq_getElem (show j < (l[i]'hi).cs.length by simp [MV.cs]; omega)]
  exact ⟨_, rfl⟩
 obtain ⟨u, hu⟩ := hx
 have h2 := ho.cells (g := g) rfl _ u (h1.trans hu)
 rw [Addr.add_lit, Nat.zero_add] at h2
 exact h2.trans hu.symm
theorem ROwn.cellM {base : Nat} {w : World} {v : Value} {l : List MV} (h : ROwn 73 6 MV.pcs base w v l) {i : Nat} (hi : i < l.length) : ∃ g c, v = .slice (some ⟨g, 0, none⟩) l.length c ∧ g < w.heap.size ∧ ∀ j, j < 6 → w.cell? ⟨g, i * 6 + j, none⟩ = l[i].pcs[j]? := by
 obtain ⟨g, cap, hv, _, hlt⟩ := h.own.form (by omega)
 refine ⟨g, cap, hv, hlt, fun j hj => ?_⟩
 have ho := h.own
 rw [hv] at ho
 have h1 := csM_at l i hi j hj
 have hx : ∃ u, (l[i]'hi).pcs[j]? = some u := by
  rw [List.getElem?_eq_getElem (show j < (l[i]'hi).pcs.length by simp [MV.pcs, MV.cs]; omega)]
  exact ⟨_, rfl⟩
 obtain ⟨u, hu⟩ := hx
 have h2 := ho.cells (g := g) rfl _ u (h1.trans hu)
 rw [Addr.add_lit, Nat.zero_add] at h2
 exact h2.trans hu.symm
theorem split_at_ {A : Type} (l : List A) (i : Nat) (hi : i < l.length) : l = l.take i ++ l[i] :: l.drop (i + 1) := by
 rw [← List.drop_eq_getElem_cons hi, List.take_append_drop]
theorem SoS.fin {w w' wf : World} {B base : Nat} {k n : Int} {s : ByteArray} {vl vm : Value} {l m : List MV} {p : PV} (h : SoS w B base k n s #[] vl vm l m w') (hf : Fr (· = w.heap.size + 1) w' wf) (hk : (Lit.int .i64 k).wf = true) (hn : (Lit.int .i64 n).wf = true) (hp : PV.mk k n s (MV.pvL l) (m.map MV.key) (MV.pvL m) = p) : ∃ v' : MV, (.agg #[.int .i64 k, .int .i64 n, .string s, vl, vm]) = v'.val ∧ v'.pv = p ∧ VOwn w.heap.size wf v' ∧ Below w.heap.size w wf := by
 have hbs := h.bs
 have hav : ∀ y, BlkP (base ≤ ·) y → BlkP (fun b => ¬ b = w.heap.size + 1) y := fun y hy => hy.mono (fun b hb => by omega)
 obtain ⟨v', e1, e2, e3, e4, e5, e6, e7, e8, e9⟩ := VOwn.mk' (base := base) hk hn (h.rl.frS hf (fun g hg e => by have := h.rl.ge g hg; have e' : g = w.heap.size + 1 := e; omega) (fun y hy => hav y (h.rl.fr y hy))) (h.rm.frS hf (fun g hg e => by have := h.rm.ge g hg; have e' : g = w.heap.size + 1 := e; omega) (fun y hy => hav y (h.rm.fr y hy))) h.lm h.ml (s := s)
 have hle : w.heap.size ≤ base := by omega
 refine ⟨v', ?_, e8.trans hp, ⟨e9.at_, e9.fr.mono (fun b hb => Nat.le_trans hle hb), e9.l.base_le hle, e9.m.base_le hle, e9.lm, e9.ml⟩, Fr.below_trans h.bel hf h.bel.size (fun b e => by rw [show b = w.heap.size + 1 from e]; omega)⟩
 rw [MV.val, e1, e2, e3, e4, e5, ← e6, ← e7]
theorem SoS.new {w w1 w2 : World} {v : MV} (hb : Below w.heap.size w w1) (hs : w1.heap.size = w.heap.size + 2) (hr : Blk w1 (w.heap.size + 1) 30 #[.int .i64 0, .int .i64 0, .string ⟨#[]⟩, .slice none 0 0, .slice none 0 0]) (hb2 : Below w1.heap.size w1 w2) (hv : VOwn w1.heap.size w2 v) :
  SoS w w2.heap.size w1.heap.size v.k v.n v.s #[] (.slice v.lA v.l.length v.lc) (.slice v.mA v.m.length v.mc) v.l v.m (w2.alloc (.cells #[.int .i64 v.k, .int .i64 v.n, .string v.s, .slice v.lA v.l.length v.lc, .slice v.mA v.m.length v.mc] 30)) := by
 have hb3 := below_new w2 (.cells #[.int .i64 v.k, .int .i64 v.n, .string v.s, .slice v.lA v.l.length v.lc, .slice v.mA v.m.length v.mc] 30)
 have hs2 := hb2.size
 exact ⟨hb.trans ((hb2.trans (hb3.mono hb2.size)).mono (by omega)), (hr.below hb2 hr.lt).alloc _, Blk.new _ _ _, ⟨by omega, hs2⟩, hv.l.below hb3, hv.m.below hb3, hv.lm, hv.ml, fun e => Nat.lt_irrefl _ (hv.l.ltS _ e), fun e => Nat.lt_irrefl _ (hv.m.ltS _ e)⟩
end Go.Proofs.YtefkpphahimkgaaGreatDoor
namespace Go.Proofs.YtefkpphahimkgaaGreatDoor
open Go.RowKit
set_option linter.unusedVariables false
set_option linter.unusedSimpArgs false
structure RSt (w : World) (H base : Nat) (k n : Int) (s : ByteArray) (orig : Array Value) (vl vm : Value) (l m : List MV) (wr : World) : Prop where
 bel : Below w.heap.size w wr
 src : Blk wr H 30 orig
 out : Blk wr (H + 1) 30 #[.int .i64 0, .int .i64 0, .string ⟨#[]⟩, .slice none 0 0, .slice none 0 0]
 box : Blk wr (H + 1 + 1) 30 #[.int .i64 k, .int .i64 n, .string s, vl, vm]
 bs : H + 3 ≤ base ∧ base ≤ wr.heap.size
 rl : ROwn 30 5 MV.cs base wr vl l
 rm : ROwn 73 6 MV.pcs base wr vm m
 lm : ∀ x ∈ l, BlkP (fun b => ¬ vm.ownBlock = some b) x
 ml : ∀ x ∈ m, BlkP (fun b => ¬ vl.ownBlock = some b) x
 ne : ∀ g, vl.ownBlock = some g → ¬ vm.ownBlock = some g
section
variable {w w2 w4 : World} {H base : Nat} {k n : Int} {s : ByteArray} {orig : Array Value} {vl vm : Value} {l m : List MV} {wr w' : World}
theorem RSt.below (h : RSt w H base k n s orig vl vm l m wr) (hb : Below wr.heap.size wr w') : RSt w H base k n s orig vl vm l m w' :=
 ⟨h.bel.trans (hb.mono h.bel.size), h.src.below hb h.src.lt, h.out.below hb h.out.lt, h.box.below hb h.box.lt, ⟨h.bs.1, Nat.le_trans h.bs.2 hb.size⟩, h.rl.below hb, h.rm.below hb, h.lm, h.ml, h.ne⟩
theorem RSt.more {x' : MV} {A : Option Addr} {N c : Nat} (h : RSt w H base k n s orig vl (.slice none 0 0) l [] w2) (hrow : ROwn 30 5 MV.cs base w4 (.slice A N c) (l ++ [x'])) (hg : w2.grownBy w4 vl.ownBlock) (hHb : w.heap.size ≤ H) :
  RSt w H base k n s orig (.slice A N c) (.slice none 0 0) (l ++ [x']) [] (w4.setCell ⟨H + 1 + 1, 3, none⟩ (.slice A N c)) ∧ Blk w4 (H + 1 + 1) 30 #[.int .i64 k, .int .i64 n, .string s, vl, .slice none 0 0] := by
 have hge := h.rl.ge
 have hbs := h.bs
 have hne : ∀ b, b < base → ¬ some b = vl.ownBlock := fun b hb e => by have := hge b e.symm; omega
 have hk4 := h.box.grown hg (hne _ (by omega))
 have hff : Fr (· = H + 1 + 1) w4 (w4.setCell ⟨H + 1 + 1, 3, none⟩ (.slice A N c)) := (Fr.refl (· = H + 1 + 1) w4).setCell (p := ⟨H + 1 + 1, 3, none⟩) (fun _ => rfl) _
 have hfa : Fr (fun b => H ≤ b) w2 (w4.setCell ⟨H + 1 + 1, 3, none⟩ (.slice A N c)) := ((Fr.of_grown (S := fun b => H ≤ b) hg (fun b e => by have := hge b e; omega))).trans (hff.mono (fun b _ e => by rw [show b = H + 1 + 1 from e]; omega))
 have hrow' : ∀ y ∈ l ++ [x'], BlkP (fun b => ¬ b = H + 1 + 1) y := fun y hy => (hrow.fr y hy).mono (fun b hb => by omega)
 refine ⟨⟨Fr.below_trans h.bel hfa h.bel.size (fun b hb => Nat.le_trans hHb hb), ?_, ?_, ?_, ⟨hbs.1, Nat.le_trans hbs.2 hfa.size⟩, ?_, ROwn.nil _ _, fun y hy => ?_, (fun y hy => by cases hy), fun g _ e => by cases e⟩, hk4⟩
 ·exact ((h.src.grown hg (hne _ (by omega))).fr hff (by omega))
 ·exact ((h.out.grown hg (hne _ (by omega))).fr hff (by omega))
 ·exact hk4.set_ 3 _
 ·exact hrow.frS hff (fun g hg' e => by have := hrow.ge g hg'; have e' : g = H + 1 + 1 := e; omega) hrow'
 ·exact (hrow.fr y hy).mono (fun b _ e => by cases e)
theorem RSt.newM {m' : List MV} {A : Option Addr} {N c : Nat} (h : RSt w H base k n s orig vl vm l m w2) (hb : Below w2.heap.size w2 w4) (hrow : w4.ownsRow w2.heap.size 73 6 (.slice A N c) m'.length (m'.flatMap MV.pcs)) (hm : ∀ x ∈ m', VAt w2 x ∧ BlkP (base ≤ ·) x ∧ BlkP (fun b => ¬ vl.ownBlock = some b) x) (hHb : w.heap.size ≤ H) :
  RSt w H base k n s orig vl (.slice A N c) l m' (w4.setCell ⟨H + 1 + 1, 4, none⟩ (.slice A N c)) ∧ Blk w4 (H + 1 + 1) 30 #[.int .i64 k, .int .i64 n, .string s, vl, vm] := by
 have hbs := h.bs
 have h4 := h.below hb
 have hff : Fr (· = H + 1 + 1) w4 (w4.setCell ⟨H + 1 + 1, 4, none⟩ (.slice A N c)) := (Fr.refl (· = H + 1 + 1) w4).setCell (p := ⟨H + 1 + 1, 4, none⟩) (fun _ => rfl) _
 have hge : ∀ b, (Value.slice A N c).ownBlock = some b → w2.heap.size ≤ b := fun b e => (World.ownsRow.lt hrow b e).1
 have hav : ∀ y, BlkP (base ≤ ·) y → BlkP (fun b => ¬ b = H + 1 + 1) y := fun y hy => hy.mono (fun b hb => by omega)
 have hr4 : ROwn 73 6 MV.pcs base w4 (.slice A N c) m' := by
  refine ⟨⟨hrow.1, ?_⟩, fun x hx => (hm x hx).1.bel hb, fun x hx => (hm x hx).2.1, fun x hx => (hm x hx).1.lt.mono (fun b hb e => by have := hge b e; omega)⟩
  rcases hrow.2 with h0 | ⟨g, cap, cur, hv, hg, hh, hn⟩
  ·exact .inl h0
  ·exact .inr ⟨g, cap, cur, hv, Nat.le_trans hbs.2 hg, hh, hn⟩
 refine ⟨⟨Fr.below_trans h4.bel hff h4.bel.size (fun b e => by rw [show b = H + 1 + 1 from e]; omega), h4.src.fr hff (by omega), h4.out.fr hff (by omega), h4.box.set_ 4 _, ⟨hbs.1, Nat.le_trans h4.bs.2 hff.size⟩, ?_, ?_, fun y hy => ?_, fun y hy => (hm y hy).2.2, fun g h1 e => ?_⟩, h4.box⟩
 ·exact h4.rl.frS hff (fun g hg' e => by have := h4.rl.ge g hg'; have e' : g = H + 1 + 1 := e; omega) (fun y hy => hav y (h4.rl.fr y hy))
 ·exact hr4.frS hff (fun g hg' e => by have := hge g hg'; have e' : g = H + 1 + 1 := e; omega) (fun y hy => hav y (hr4.fr y hy))
 ·exact (h.rl.at_ y hy).lt.mono (fun b hb e => by have := hge b e; omega)
 ·have := hge g e
  have := h.rl.ltS g h1
  omega
theorem RSt.fin {wf : World} {p : PV} (h : RSt w w.heap.size base k n s orig vl vm l m w') (hf : Fr (· = w.heap.size + 1) w' wf) (hk : (Lit.int .i64 k).wf = true) (hn : (Lit.int .i64 n).wf = true) (hp : PV.mk k n s (MV.pvL l) (m.map MV.key) (MV.pvL m) = p) : ∃ v' : MV, (.agg #[.int .i64 k, .int .i64 n, .string s, vl, vm]) = v'.val ∧ v'.pv = p ∧ VOwn w.heap.size wf v' ∧ Below w.heap.size w wf := by
 have hbs := h.bs
 have hav : ∀ y, BlkP (base ≤ ·) y → BlkP (fun b => ¬ b = w.heap.size + 1) y := fun y hy => hy.mono (fun b hb => by omega)
 obtain ⟨v', e1, e2, e3, e4, e5, e6, e7, e8, e9⟩ := VOwn.mk' (base := base) hk hn (h.rl.frS hf (fun g hg e => by have := h.rl.ge g hg; have e' : g = w.heap.size + 1 := e; omega) (fun y hy => hav y (h.rl.fr y hy))) (h.rm.frS hf (fun g hg e => by have := h.rm.ge g hg; have e' : g = w.heap.size + 1 := e; omega) (fun y hy => hav y (h.rm.fr y hy))) h.lm h.ml (s := s)
 have hle : w.heap.size ≤ base := by omega
 refine ⟨v', ?_, e8.trans hp, ⟨e9.at_, e9.fr.mono (fun b hb => Nat.le_trans hle hb), e9.l.base_le hle, e9.m.base_le hle, e9.lm, e9.ml⟩, Fr.below_trans h.bel hf h.bel.size (fun b e => by rw [show b = w.heap.size + 1 from e]; omega)⟩
 rw [MV.val, e1, e2, e3, e4, e5, ← e6, ← e7]
end
theorem ins_rising {t d : List MV} {x : MV} (h : (t ++ d).Pairwise (fun a b => bl b.key a.key = false)) (hd : ∀ b ∈ d, bl x.key b.key = true) (ht : ∀ a ∈ t, bl x.key a.key = false) : (t ++ [x] ++ d).Pairwise (fun a b => bl b.key a.key = false) := by
 rw [List.pairwise_append] at h ⊢
 refine ⟨?_, h.2.1, fun a ha b hb => ?_⟩
 ·rw [List.pairwise_append]
  exact ⟨h.1, List.pairwise_singleton _ _, fun a ha b hb => by rw [List.mem_singleton] at hb; subst hb; exact ht a ha⟩
 ·rcases List.mem_append.1 ha with ha | ha
  ·exact h.2.2 a ha b hb
  ·rw [List.mem_singleton] at ha
   subst ha
   exact bl_asym (hd b hb)
theorem rising_take {l : List MV} {i : Nat} {x : ByteArray} (h : l.Pairwise (fun a b => bl b.key a.key = false)) (hi : i < l.length) (hx : bl x l[i].key = false) : ∀ a ∈ l.take (i + 1), bl x a.key = false := by
 intro a ha
 obtain ⟨j, hj, rfl⟩ := List.mem_iff_getElem.1 ha
 rw [List.length_take] at hj
 rw [List.getElem_take]
 rcases (by omega : j < i ∨ j = i) with h1 | h1
 ·exact bl_ntr hx ((List.pairwise_iff_getElem.1 h) j i (by omega) hi h1)
 ·subst h1; exact hx
theorem perm_ins {t d : List MV} {x : MV} : (t ++ [x] ++ d).Perm ((t ++ d) ++ [x]) := by
 rw [List.append_assoc]
 refine (List.perm_append_left_iff t).2 ?_ |>.trans (by rw [List.append_assoc])
 exact List.perm_append_comm
theorem flat_take {size : Nat} {cs : MV → List Value} (hcl : ∀ x, (cs x).length = size) (l : List MV) (i : Nat) : (l.flatMap cs).take (i * size) = (l.take i).flatMap cs := by
 induction l generalizing i with
 | nil => simp
 | cons x r ih =>
  cases i with
  | zero => simp
  | succ i => rw [List.flatMap_cons, List.take_succ_cons, List.flatMap_cons, List.take_append, hcl, List.take_of_length_le (by rw [hcl, Nat.succ_mul]; omega), show (i + 1) * size - size = i * size from by rw [Nat.succ_mul]; omega, ih]
theorem flat_drop {size : Nat} {cs : MV → List Value} (hcl : ∀ x, (cs x).length = size) (l : List MV) (i : Nat) : (l.flatMap cs).drop (i * size) = (l.drop i).flatMap cs := by
 induction l generalizing i with
 | nil => simp
 | cons x r ih =>
  cases i with
  | zero => simp
  | succ i => rw [List.flatMap_cons, List.drop_succ_cons, List.drop_append, hcl, List.drop_of_length_le (by rw [hcl, Nat.succ_mul]; omega), List.nil_append, show (i + 1) * size - size = i * size from by rw [Nat.succ_mul]; omega, ih]
theorem Reads.head {w : World} {B size n i : Nat} {A : Option Addr} {xs : List Value} (h : Reads w B size A n xs) (hi : i ≤ n) : Reads w B size A i (xs.take (i * size)) := by
 refine ⟨?_, fun hn => ?_⟩
 ·rw [List.length_take, h.1]
  exact Nat.min_eq_left (Nat.mul_le_mul_right _ hi)
 ·obtain ⟨ad, e, hb, hc⟩ := h.2 (by omega)
  refine ⟨ad, e, hb, fun j u hu => hc j u ?_⟩
  rcases Nat.lt_or_ge j (i * size) with h1 | h1
  ·rwa [List.getElem?_take_of_lt h1] at hu
  ·rw [List.getElem?_eq_none (by rw [List.length_take]; omega)] at hu
   cases hu
theorem oneC_pcsL (l : List MV) : ∀ u ∈ l.flatMap MV.pcs, u.oneCell' = true := fun u hu => by
 rw [List.mem_flatMap] at hu
 obtain ⟨x, _, hu⟩ := hu
 exact oneC_pcs x u hu
theorem ROwn.reads {t : TypeId} {size : Nat} {cs : MV → List Value} {base n c : Nat} {A : Option Addr} {w : World} {l : List MV} (h : ROwn t size cs base w (.slice A n c) l) (hn : l.length = n) : Reads w w.heap.size size A n (l.flatMap cs) := by
 subst hn
 have ho := h.own
 exact Reads.of_own ho
theorem step_app_pairs (W : World) {ops : Array Oper} {o : Oper} {a : Act} {K : Act → World → Prop} {Q : Exit → Act → World → Prop} {E : Prop} (hgd : o.guard = none) (d : Option Tmp) (hd : o.dst = d) (s x : Operand)
  (ho : o.op = .call { callee := .builtin .append, args := #[s, x], argTypes := #[28, 28] })
  (B : Nat) (v : Value) (l : List MV) (hs : a.eval s = v) (hown : W.ownsRow B 73 6 v l.length (l.flatMap MV.pcs)) (A : Option Addr) (m c : Nat) (l2 : List MV) (hx : a.eval x = .slice A m c) (hr : Reads W W.heap.size 6 A m (l2.flatMap MV.pcs)) (hm : l2.length = m) (hlen : l.length + m ≤ 1000000) (hB : B ≤ W.heap.size)
  (h : ∀ v' W', W'.ownsRow B 73 6 v' (l ++ l2).length ((l ++ l2).flatMap MV.pcs) → W.grownBy W' v.ownBlock → K (a.put d v') W') :
  if Region.wanted o (yielded ops a.tmps) = true then Oper.wp Tryz.prog o a W K Q else E := by
 subst hd
 obtain ⟨i0, hi0, hz0, hz1, hz2⟩ := info_parts infoPair
 refine step_append_any W hgd s x 28 ho B 73 i0 _ 6 96 Tryz.underlying28 hi0 hz0 hz1 hz2 rfl (by omega) v l.length (l.flatMap MV.pcs) hs hown _ A m c (l2.flatMap MV.pcs) hx hr (oneC_pcsL l2) (by simp only [maxLen]; omega) (by omega) hB ?_
 intro v' w' h1 h2 h3
 refine h v' w' ?_ h2
 rw [List.length_append, hm, List.flatMap_append]
 exact h1
theorem own_above {w w' : World} {B : Nat} {v : Value} {n : Nat} {xs : List Value} (h : w.ownsRow B 73 6 v n xs) (hb : Below w.heap.size w w') : w'.ownsRow B 73 6 v n xs := by
 refine ⟨h.1, ?_⟩
 rcases h.2 with h0 | ⟨g, cap, cur, hv, hg, hh, hn⟩
 ·exact .inl h0
 ·exact .inr ⟨g, cap, cur, hv, hg, (hb.block g (Blk.lt (t := 73) hh)).trans hh, hn⟩
theorem own_empty (W : World) (B : Nat) (hB : B ≤ W.heap.size) : (W.alloc (.cells #[] 73)).ownsRow B 73 6 (.slice (some ⟨W.heap.size, 0, none⟩) 0 0) ([] : List MV).length (([] : List MV).flatMap MV.pcs) :=
 ⟨rfl, .inr ⟨W.heap.size, 0, #[], rfl, hB, heap_alloc_new W _, Nat.le_refl _, by simp [maxLen], rfl, rfl⟩⟩
end Go.Proofs.YtefkpphahimkgaaGreatDoor
