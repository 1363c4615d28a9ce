/-
  Values in rows: an element is written anew.
  Values, plainly: how deep, how many, whether right; what is sorted.
  Values, plainly: what is right, what is sorted.
  The document's right.
  The document's right: what a list and what a map has.
  The document's right.
  Values: what the texts on them share, in a seat that has no value.Sorted.
  The document's Sort: what its loops keep.
-/
import Derived.Test.YtefkpphahimkgaaGreatDoorGV
import Derived.Test.YtefkpphahimkgaaGreatDoorGP
import Derived.Test.YtefkpphahimkgaaGreatDoorGU
import Derived.Deep.RegionHeld3
import Derived.Deep.QuietTactic
import Derived.BigQuiet
namespace Go.Proofs.YtefkpphahimkgaaGreatDoor
open Go.RowKit
set_option linter.unusedVariables false
set_option linter.unusedSimpArgs false

/-- cells written one behind the other -/
def puts (w : World) (g : Nat) : Nat → List Value → World
  | _, [] => w
  | o, v :: r => puts (w.setCell ⟨g, o, none⟩ v) g (o + 1) r
theorem puts_spec {g : Nat} {t : TypeId} : ∀ (vs : List Value) (o : Nat) (w : World) (cs : Array Value), Blk w g t cs → o + vs.length ≤ cs.size →
    ∃ cs', Blk (puts w g o vs) g t cs' ∧ cs'.size = cs.size ∧ cs'.toList = cs.toList.take o ++ (vs ++ cs.toList.drop (o + vs.length)) ∧ Fr (· = g) w (puts w g o vs)
  | [], o, w, cs, h, _ => ⟨cs, h, rfl, by simp, Fr.refl _ _⟩
  | v :: r, o, w, cs, h, hs => by
    rw [List.length_cons] at hs
    obtain ⟨cs', h1, h2, h3, h4⟩ := puts_spec r (o + 1) (w.setCell ⟨g, o, none⟩ v) (cs.setIfInBounds o v) (h.set_ o v) (by simp; omega)
    refine ⟨cs', h1, by simpa using h2, ?_, ((Fr.refl (· = g) w).setCell (p := ⟨g, o, none⟩) (fun _ => rfl) v).trans h4⟩
    have ho : o < cs.toList.length := by simp; omega
    rw [h3, Array.toList_setIfInBounds, List.take_set, List.take_succ_eq_append_getElem ho, List.length_cons, show o + 1 + r.length = o + (r.length + 1) from by omega]
    have hmin : (cs.toList.take o).length = o := by rw [List.length_take]; omega
    rw [List.drop_set_of_lt (by omega), List.set_append_right _ _ (by omega), hmin, Nat.sub_self]
    simp
section
variable {t : TypeId} {size : Nat} {cs : MV → List Value} {base : Nat} {w w' : World} {l1 r : List MV} {x x' : MV}
theorem flat_cs_len {size : Nat} {cs : MV → List Value} (hcl : ∀ x, (cs x).length = size) (l : List MV) : (l.flatMap cs).length = l.length * size := by
  induction l with
  | nil => simp
  | cons v r ih => rw [List.flatMap_cons, List.length_append, ih, hcl, List.length_cons, Nat.succ_mul]; omega
/-- an element, or the end of one, is written anew -/
theorem ROwn.set {g n c d i : Nat} {vs : List Value} (h : ROwn t size cs base w (.slice (some ⟨g, 0, none⟩) n c) (l1 ++ x :: r)) (hcl : ∀ x, (cs x).length = size) (hi : l1.length = i) (hv : cs x' = (cs x).take d ++ vs) (hd : d + vs.length = size) (hx : VAt w x') (hfr : BlkP (base ≤ ·) x') (hav : BlkP (fun b => ¬ b = g) x') :
    ROwn t size cs base (puts w g (i * size + d) vs) (.slice (some ⟨g, 0, none⟩) n c) (l1 ++ x' :: r) ∧ Fr (· = g) w (puts w g (i * size + d) vs) := by
  rcases h.own.2 with ⟨h0, _⟩ | ⟨g', cap, cur, hv', hg, hh, hn, hm, hcs, htk⟩
  · cases h0
  injection hv' with e1 e2 e3
  injection e1 with e1
  injection e1 with e1 _ _
  subst e1
  subst e3
  have hll : (l1 ++ x :: r).length = i + (r.length + 1) := by rw [List.length_append, List.length_cons, hi]
  have hll' : (l1 ++ x' :: r).length = i + (r.length + 1) := by rw [List.length_append, List.length_cons, hi]
  rw [hll] at hn htk e2
  have hbig : (i + (r.length + 1)) * size ≤ cur.size := by rw [hcs]; exact Nat.mul_le_mul_right _ hn
  have hexp : (i + (r.length + 1)) * size = i * size + size + r.length * size := by rw [Nat.add_mul, Nat.succ_mul]; omega
  obtain ⟨cs', k1, k2, k3, k4⟩ := puts_spec vs (i * size + d) w cur hh (by omega)
  have hav' : ∀ y ∈ l1 ++ x :: r, BlkP (fun b => ¬ b = g) y := fun y hy => (h.av y hy).mono (fun b hb e => hb (by rw [e]; rfl))
  have hmem : ∀ y ∈ l1 ++ x' :: r, VAt w y ∧ BlkP (base ≤ ·) y ∧ BlkP (fun b => ¬ b = g) y := fun y hy => by
    rw [List.mem_append, List.mem_cons] at hy
    rcases hy with hy | hy | hy
    · have : y ∈ l1 ++ x :: r := List.mem_append_left _ hy
      exact ⟨h.at_ y this, h.fr y this, hav' y this⟩
    · subst hy; exact ⟨hx, hfr, hav⟩
    · have : y ∈ l1 ++ x :: r := List.mem_append_right _ (List.mem_cons_of_mem _ hy)
      exact ⟨h.at_ y this, h.fr y this, hav' y this⟩
  refine ⟨⟨⟨by rw [flat_cs_len hcl], .inr ⟨g, c, cs', by rw [e2, hll'], hg, k1, by rw [hll']; exact hn, hm, by rw [k2, hcs], ?_⟩⟩, fun y hy => (hmem y hy).1.fr k4 (hmem y hy).2.2, fun y hy => (hmem y hy).2.1, fun y hy => (hmem y hy).2.2.mono (fun b hb e => hb (by injection e with e; exact e.symm))⟩, k4⟩
  rw [hll', k3]
  have hcur : cur.toList = (l1 ++ x :: r).flatMap cs ++ cur.toList.drop ((i + (r.length + 1)) * size) := by
    rw [← htk, List.take_append_drop]
  generalize cur.toList.drop ((i + (r.length + 1)) * size) = tl at hcur
  have hx5 := hcl x
  have hl1 : (l1.flatMap cs).length = i * size := by rw [flat_cs_len hcl, hi]
  have hr1 : (r.flatMap cs).length = r.length * size := flat_cs_len hcl r
  have hc2 : cur.toList = l1.flatMap cs ++ (cs x ++ (r.flatMap cs ++ tl)) := by rw [hcur, List.flatMap_append, List.flatMap_cons]; simp
  have ht : cur.toList.take (i * size + d) = l1.flatMap cs ++ (cs x).take d := by
    rw [hc2, List.take_append, hl1, List.take_of_length_le (by omega), show i * size + d - i * size = d from by omega, List.take_append_of_le_length (by omega)]
  have hdr : cur.toList.drop (i * size + d + vs.length) = r.flatMap cs ++ tl := by
    rw [hc2, List.drop_append, hl1, List.drop_of_length_le (by omega), List.nil_append, show i * size + d + vs.length - i * size = size from by omega, List.drop_append, hx5, List.drop_of_length_le (by omega), List.nil_append, Nat.sub_self, List.drop_zero]
  rw [ht, hdr, List.flatMap_append, List.flatMap_cons, hv, hexp]
  have : l1.flatMap cs ++ (cs x).take d ++ (vs ++ (r.flatMap cs ++ tl)) = (l1.flatMap cs ++ ((cs x).take d ++ vs ++ r.flatMap cs)) ++ tl := by simp
  have hL : (l1.flatMap cs ++ ((cs x).take d ++ vs ++ r.flatMap cs)).length = i * size + size + r.length * size := by
    simp only [List.length_append, List.length_take, hl1, hr1, hx5]
    omega
  rw [this, List.take_append_of_le_length (by rw [hL]; exact Nat.le_refl _), List.take_of_length_le (by rw [hL]; exact Nat.le_refl _)]
end
end Go.Proofs.YtefkpphahimkgaaGreatDoor

namespace Go.Proofs.YtefkpphahimkgaaGreatDoor
open Go.RowKit
set_option linter.unusedVariables false
set_option linter.unusedSimpArgs false

abbrev PP := ByteArray × PV
def ownF (k n : Int) (s : ByteArray) (nl nm : Nat) : Bool :=
  if k = 1 then decide (n = 0) && (decide (s.size = 0) && (decide (nl = 0) && decide (nm = 0)))
  else if k = 2 then decide (n = 0 ∨ n = 1) && (decide (s.size = 0) && (decide (nl = 0) && decide (nm = 0)))
  else if k = 3 then decide (-9007199254740991 ≤ n ∧ n ≤ 9007199254740991) && (decide (s.size = 0) && (decide (nl = 0) && decide (nm = 0)))
  else if k = 4 then Lib.validD s.data.toList && (decide (n = 0) && (decide (nl = 0) && decide (nm = 0)))
  else if k = 5 then decide (n = 0) && (decide (s.size = 0) && decide (nm = 0))
  else if k = 6 then decide (n = 0) && (decide (s.size = 0) && decide (nl = 0))
  else false
def keysB (ks : List ByteArray) : Bool := ks.all (fun k => Lib.validD k.data.toList) && decide ks.Nodup
def insP (p : PP) : List PP → List PP
  | [] => [p]
  | q :: r => if bl p.1 q.1 then p :: q :: r else q :: insP p r
def isortP : List PP → List PP
  | [] => []
  | p :: r => insP p (isortP r)
namespace PV
mutual
def dep : PV → Nat
  | .mk _ _ _ l _ m => max (depL l) (depL m) + 1
def depL : List PV → Nat
  | [] => 0
  | v :: r => max (dep v) (depL r)
end
mutual
def cnt : PV → Nat
  | .mk _ _ _ l _ m => cntL l + cntL m + 1
def cntL : List PV → Nat
  | [] => 0
  | v :: r => cnt v + cntL r
end
mutual
def right : PV → Bool
  | .mk k n s l ks m => ownF k n s l.length m.length && (keysB ks && (decide (ks.length = m.length) && (rightL l && rightL m)))
def rightL : List PV → Bool
  | [] => true
  | v :: r => right v && rightL r
end
mutual
def sort : PV → PV
  | .mk k n s l ks m => .mk k n s (sortL l) ((isortP (ks.zip (sortL m))).map (·.1)) ((isortP (ks.zip (sortL m))).map (·.2))
def sortL : List PV → List PV
  | [] => []
  | v :: r => sort v :: sortL r
end
end PV
mutual
theorem dep_pv : ∀ v : MV, v.dep = v.pv.dep
  | .mk _ _ _ _ _ _ l _ _ m => by rw [MV.dep, MV.pv, PV.dep, depL_pv l, depL_pv m]
theorem depL_pv : ∀ l : List MV, MV.depL l = PV.depL (MV.pvL l)
  | [] => by rw [MV.depL, MV.pvL, PV.depL]
  | v :: r => by rw [MV.depL, MV.pvL, PV.depL, dep_pv v, depL_pv r]
end
mutual
theorem cnt_pv : ∀ v : MV, v.cnt = v.pv.cnt
  | .mk _ _ _ _ _ _ l _ _ m => by rw [MV.cnt, MV.pv, PV.cnt, cntL_pv l, cntL_pv m]
theorem cntL_pv : ∀ l : List MV, MV.cntL l = PV.cntL (MV.pvL l)
  | [] => by rw [MV.cntL, MV.pvL, PV.cntL]
  | v :: r => by rw [MV.cntL, MV.pvL, PV.cntL, cnt_pv v, cntL_pv r]
end
mutual
theorem dep_le_cntP : ∀ v : PV, v.dep ≤ v.cnt
  | .mk _ _ _ l _ m => by
    have h1 := depL_le_cntP l
    have h2 := depL_le_cntP m
    rw [PV.dep, PV.cnt]; omega
theorem depL_le_cntP : ∀ l : List PV, PV.depL l ≤ PV.cntL l
  | [] => by rw [PV.depL, PV.cntL]; exact Nat.le_refl _
  | v :: r => by
    have h1 := dep_le_cntP v
    have h2 := depL_le_cntP r
    rw [PV.depL, PV.cntL]; omega
end
theorem dep_le_cnt (v : MV) : v.dep ≤ v.cnt := by rw [dep_pv, cnt_pv]; exact dep_le_cntP _
/-- what a value's sizes are -/
inductive OkP : PV → Prop
  | mk {k n : Int} {s : ByteArray} {l : List PV} {ks : List ByteArray} {m : List PV} :
    s.size ≤ 140737488351232 → l.length + m.length ≤ 3001 → ks.length = m.length → (∀ x ∈ ks, x.size ≤ 140737488351232) → (∀ x ∈ l, OkP x) → (∀ x ∈ m, OkP x) → OkP (.mk k n s l ks m)
theorem pvL_mem {l : List MV} {p : PV} : p ∈ MV.pvL l ↔ ∃ x ∈ l, x.pv = p := by rw [pvL_map, List.mem_map]
theorem pvL_len (l : List MV) : (MV.pvL l).length = l.length := by rw [pvL_map, List.length_map]
section
variable {v : MV}
theorem OkP.s (h : OkP v.pv) : v.s.size ≤ 140737488351232 := by
  cases v
  rw [MV.pv] at h
  cases h; assumption
theorem OkP.len (h : OkP v.pv) : v.l.length + v.m.length ≤ 3001 := by
  cases v
  rw [MV.pv] at h
  cases h with
  | mk a b c d e f => rw [pvL_len, pvL_len] at b; exact b
theorem OkP.l (h : OkP v.pv) : ∀ x ∈ v.l, OkP x.pv := by
  cases v
  rw [MV.pv] at h
  cases h with
  | mk a b c d e f => exact fun x hx => e _ (pvL_mem.2 ⟨x, hx, rfl⟩)
theorem OkP.m (h : OkP v.pv) : ∀ x ∈ v.m, OkP x.pv := by
  cases v
  rw [MV.pv] at h
  cases h with
  | mk a b c d e f => exact fun x hx => f _ (pvL_mem.2 ⟨x, hx, rfl⟩)
theorem OkP.key (h : OkP v.pv) : ∀ x ∈ v.m, x.key.size ≤ 140737488351232 := by
  cases v
  rw [MV.pv] at h
  cases h with
  | mk a b c d e f => exact fun x hx => d _ (List.mem_map.2 ⟨x, hx, rfl⟩)
end
end Go.Proofs.YtefkpphahimkgaaGreatDoor

namespace Go.Proofs.YtefkpphahimkgaaGreatDoor
open Go.RowKit
set_option linter.unusedVariables false
set_option linter.unusedSimpArgs false

end Go.Proofs.YtefkpphahimkgaaGreatDoor

namespace Go.Proofs.YtefkpphahimkgaaGreatDoor
open Go.RowKit
attribute [local go_sem ↓] Go.wp_at_zero Go.wp_at_succ
set_option linter.unusedVariables false
set_option linter.unusedSimpArgs false

end Go.Proofs.YtefkpphahimkgaaGreatDoor

namespace Go.Proofs.YtefkpphahimkgaaGreatDoor
open Go.RowKit
attribute [local go_sem ↓] Go.wp_at_zero Go.wp_at_succ
set_option linter.unusedVariables false
set_option linter.unusedSimpArgs false

end Go.Proofs.YtefkpphahimkgaaGreatDoor

namespace Go.Proofs.YtefkpphahimkgaaGreatDoor
open Go.RowKit
set_option linter.unusedVariables false
set_option linter.unusedSimpArgs false

end Go.Proofs.YtefkpphahimkgaaGreatDoor

namespace Go.Proofs.YtefkpphahimkgaaGreatDoor
open Go.RowKit
attribute [local go_sem ↓] Go.wp_at_zero Go.wp_at_succ
set_option linter.unusedVariables false
set_option linter.unusedSimpArgs false

instance : Inhabited MV := ⟨.mk ⟨#[]⟩ 0 0 ⟨#[]⟩ none 0 [] none 0 []⟩
/-- a value that is not great -/
structure Fine (w : World) (v : MV) : Prop where
  at_ : VAt w v
  ok : OkP v.pv
  few : v.cnt ≤ 100000
theorem Fine.bel {w w' : World} {v : MV} (h : Fine w v) (hb : Below w.heap.size w w') : Fine w' v := ⟨h.at_.bel hb, h.ok, h.few⟩
theorem Fine.dep {w : World} {v : MV} (h : Fine w v) : v.dep ≤ 100000 := Nat.le_trans (dep_le_cnt v) h.few
def IntP (n : Int) (w : World) (e : Ending) (w' : World) : Prop := e = .returned (.int .i64 n) ∧ Below w.heap.size w w'
def PV.none_ : PV := .mk 0 0 ⟨#[]⟩ [] [] []
def MV.none_ : MV := .mk ⟨#[]⟩ 0 0 ⟨#[]⟩ none 0 [] none 0 []
theorem VOwn.none_ (base : Nat) (w : World) : VOwn base w MV.none_ :=
  ⟨.mk rfl rfl Reads.none_ (Nat.le_refl _) (by simp [maxLen]) Reads.none_ (Nat.le_refl _) (by simp [maxLen]) (fun x hx => by cases hx) (fun x hx => by cases hx), .mk (fun h => absurd rfl h) (fun h => absurd rfl h) (fun x hx => by cases hx) (fun x hx => by cases hx), ROwn.nil _ _, ROwn.nil _ _, (fun x hx => by cases hx), (fun x hx => by cases hx)⟩
/-- a value of one's own comes -/
def OwP (p : PV) (w : World) (e : Ending) (w' : World) : Prop := ∃ v' : MV, e = .returned v'.val ∧ v'.pv = p ∧ VOwn w.heap.size w' v' ∧ Below w.heap.size w w'
theorem VOwn.base_le {base base' : Nat} {w : World} {v : MV} (h : VOwn base w v) (hb : base' ≤ base) : VOwn base' w v := ⟨h.at_, h.fr.mono (fun b hb' => Nat.le_trans hb hb'), h.l.base_le hb, h.m.base_le hb, h.lm, h.ml⟩
theorem VOwn.below {base : Nat} {w w' : World} {v : MV} (h : VOwn base w v) (hb : Below w.heap.size w w') : VOwn base w' v := ⟨h.at_.bel hb, h.fr, h.l.below hb, h.m.below hb, h.lm, h.ml⟩
/-- a write to a block that lies lower -/
theorem VOwn.fr_low {base : Nat} {w w' : World} {v : MV} {S : Nat → Prop} (h : VOwn base w v) (hf : Fr S w w') (hS : ∀ k, S k → k < base) : VOwn base w' v := by
  have hn : ∀ y, BlkP (base ≤ ·) y → BlkP (fun b => ¬ S b) y := fun y hy => hy.mono (fun b hb e => by have := hS b e; omega)
  exact ⟨h.at_.fr hf (hn _ h.fr), h.fr, h.l.frS hf (fun g hg e => by have := hS g e; have := h.l.ge g hg; omega) (fun y hy => hn y (h.l.fr y hy)), h.m.frS hf (fun g hg e => by have := hS g e; have := h.m.ge g hg; omega) (fun y hy => hn y (h.m.fr y hy)), h.lm, h.ml⟩
theorem fr_five {w : World} {g : Nat} {a b c d e : Value} : Fr (· = g) w (((((w.setCell ⟨g, 0, none⟩ a).setCell ⟨g, 1, none⟩ b).setCell ⟨g, 2, none⟩ c).setCell ⟨g, 3, none⟩ d).setCell ⟨g, 4, none⟩ e) :=
  (((((Fr.refl (· = g) w).setCell (p := ⟨g, 0, none⟩) (fun _ => rfl) _).setCell (p := ⟨g, 1, none⟩) (fun _ => rfl) _).setCell (p := ⟨g, 2, none⟩) (fun _ => rfl) _).setCell (p := ⟨g, 3, none⟩) (fun _ => rfl) _).setCell (p := ⟨g, 4, none⟩) (fun _ => rfl) _
theorem blk_five {w : World} {g : Nat} {t : TypeId} {a b c d e v0 v1 v2 v3 v4 : Value} (h : Blk w g t #[v0, v1, v2, v3, v4]) : Blk (((((w.setCell ⟨g, 0, none⟩ a).setCell ⟨g, 1, none⟩ b).setCell ⟨g, 2, none⟩ c).setCell ⟨g, 3, none⟩ d).setCell ⟨g, 4, none⟩ e) g t #[a, b, c, d, e] :=
  ((((h.set_ 0 _).set_ 1 _).set_ 2 _).set_ 3 _).set_ 4 _
theorem map_pair {m : List MV} : m.map (fun x => (x.key, x.pv)) = (m.map MV.key).zip (MV.pvL m) := by
  rw [pvL_map]
  induction m with
  | nil => rfl
  | cons x r ih => rw [List.map_cons, List.map_cons, List.map_cons, List.zip_cons_cons, ih]
/-- the state: the box of a copy, whose rows are one's own -/
structure SoS (w : World) (B base : Nat) (k n : Int) (s : ByteArray) (orig : Array Value) (vl vm : Value) (l m : List MV) (wr : World) : Prop where
  bel : Below w.heap.size w wr
  res : Blk wr (w.heap.size + 1) 30 #[.int .i64 0, .int .i64 0, .string ⟨#[]⟩, .slice none 0 0, .slice none 0 0]
  box : Blk wr B 30 #[.int .i64 k, .int .i64 n, .string s, vl, vm]
  bs : w.heap.size + 2 ≤ base ∧ base ≤ B
  rl : ROwn 30 5 MV.cs base wr vl l
  rm : ROwn 73 6 MV.pcs base wr vm m
  lm : ∀ x ∈ l, BlkP (fun b => ¬ vm.ownBlock = some b) x
  ml : ∀ x ∈ m, BlkP (fun b => ¬ vl.ownBlock = some b) x
  nl : ¬ vl.ownBlock = some B
  nm : ¬ vm.ownBlock = some B
theorem own_blk {t : TypeId} {size : Nat} {cs : MV → List Value} {base : Nat} {w : World} {v : Value} {l : List MV} (h : ROwn t size cs base w v l) {g : Nat} (hg : v.ownBlock = some g) : ∃ cur, Blk w g t cur := by
  rcases h.own.2 with ⟨h0, _⟩ | ⟨g', cap, cur, hv, _, hh, _⟩
  · rw [h0] at hg; cases hg
  · rw [hv] at hg
    injection hg with hg
    subst hg
    exact ⟨cur, hh⟩
section
variable {w : World} {B base : Nat} {k n : Int} {s : ByteArray} {orig : Array Value} {vl vm : Value} {l m : List MV} {wr w' : World}
theorem SoS.ne (h : SoS w B base k n s orig vl vm l m wr) {g : Nat} (h1 : vl.ownBlock = some g) : ¬ vm.ownBlock = some g := fun h2 => by
  obtain ⟨c1, k1⟩ := own_blk h.rl h1
  obtain ⟨c2, k2⟩ := own_blk h.rm h2
  exact Blk.ne_ k1 k2 (by decide) rfl
theorem SoS.below (h : SoS w B base k n s orig vl vm l m wr) (hb : Below wr.heap.size wr w') : SoS w B base k n s orig vl vm l m w' :=
  ⟨h.bel.trans (hb.mono h.bel.size), h.res.below hb h.res.lt, h.box.below hb h.box.lt, h.bs, h.rl.below hb, h.rm.below hb, h.lm, h.ml, h.nl, h.nm⟩
end
theorem ROwn.cellL {base : Nat} {w : World} {v : Value} {l : List MV} (h : ROwn 30 5 MV.cs base w v l) {i : Nat} (hi : i < l.length) : ∃ g c, v = .slice (some ⟨g, 0, none⟩) l.length c ∧ g < w.heap.size ∧ ∀ j, j < 5 → w.cell? ⟨g, i * 5 + j, none⟩ = l[i].cs[j]? := by
  obtain ⟨g, cap, hv, _, hlt⟩ := h.own.form (by omega)
  refine ⟨g, cap, hv, hlt, fun j hj => ?_⟩
  have ho := h.own
  rw [hv] at ho
  have h1 := csL_at l i hi j hj
  have hx : ∃ u, (l[i]'hi).cs[j]? = some u := by
    rw [List.getElem?_eq_getElem (show j < (l[i]'hi).cs.length by simp [MV.cs]; omega)]
    exact ⟨_, rfl⟩
  obtain ⟨u, hu⟩ := hx
  have h2 := ho.cells (g := g) rfl _ u (h1.trans hu)
  rw [Addr.add_lit, Nat.zero_add] at h2
  exact h2.trans hu.symm
theorem ROwn.cellM {base : Nat} {w : World} {v : Value} {l : List MV} (h : ROwn 73 6 MV.pcs base w v l) {i : Nat} (hi : i < l.length) : ∃ g c, v = .slice (some ⟨g, 0, none⟩) l.length c ∧ g < w.heap.size ∧ ∀ j, j < 6 → w.cell? ⟨g, i * 6 + j, none⟩ = l[i].pcs[j]? := by
  obtain ⟨g, cap, hv, _, hlt⟩ := h.own.form (by omega)
  refine ⟨g, cap, hv, hlt, fun j hj => ?_⟩
  have ho := h.own
  rw [hv] at ho
  have h1 := csM_at l i hi j hj
  have hx : ∃ u, (l[i]'hi).pcs[j]? = some u := by
    rw [List.getElem?_eq_getElem (show j < (l[i]'hi).pcs.length by simp [MV.pcs, MV.cs]; omega)]
    exact ⟨_, rfl⟩
  obtain ⟨u, hu⟩ := hx
  have h2 := ho.cells (g := g) rfl _ u (h1.trans hu)
  rw [Addr.add_lit, Nat.zero_add] at h2
  exact h2.trans hu.symm
theorem split_at_ {A : Type} (l : List A) (i : Nat) (hi : i < l.length) : l = l.take i ++ l[i] :: l.drop (i + 1) := by
  rw [← List.drop_eq_getElem_cons hi, List.take_append_drop]
/-- what lies behind a sort's loops -/
theorem SoS.fin {w w' wf : World} {B base : Nat} {k n : Int} {s : ByteArray} {vl vm : Value} {l m : List MV} {p : PV} (h : SoS w B base k n s #[] vl vm l m w') (hf : Fr (· = w.heap.size + 1) w' wf) (hk : (Lit.int .i64 k).wf = true) (hn : (Lit.int .i64 n).wf = true) (hp : PV.mk k n s (MV.pvL l) (m.map MV.key) (MV.pvL m) = p) : ∃ v' : MV, (.agg #[.int .i64 k, .int .i64 n, .string s, vl, vm]) = v'.val ∧ v'.pv = p ∧ VOwn w.heap.size wf v' ∧ Below w.heap.size w wf := by
  have hbs := h.bs
  have hav : ∀ y, BlkP (base ≤ ·) y → BlkP (fun b => ¬ b = w.heap.size + 1) y := fun y hy => hy.mono (fun b hb => by omega)
  obtain ⟨v', e1, e2, e3, e4, e5, e6, e7, e8, e9⟩ := VOwn.mk' (base := base) hk hn (h.rl.frS hf (fun g hg e => by have := h.rl.ge g hg; have e' : g = w.heap.size + 1 := e; omega) (fun y hy => hav y (h.rl.fr y hy))) (h.rm.frS hf (fun g hg e => by have := h.rm.ge g hg; have e' : g = w.heap.size + 1 := e; omega) (fun y hy => hav y (h.rm.fr y hy))) h.lm h.ml (s := s)
  have hle : w.heap.size ≤ base := by omega
  refine ⟨v', ?_, e8.trans hp, ⟨e9.at_, e9.fr.mono (fun b hb => Nat.le_trans hle hb), e9.l.base_le hle, e9.m.base_le hle, e9.lm, e9.ml⟩, Fr.below_trans h.bel hf h.bel.size (fun b e => by rw [show b = w.heap.size + 1 from e]; omega)⟩
  rw [MV.val, e1, e2, e3, e4, e5, ← e6, ← e7]
/-- the box of a copy -/
theorem SoS.new {w w1 w2 : World} {v : MV} (hb : Below w.heap.size w w1) (hs : w1.heap.size = w.heap.size + 2) (hr : Blk w1 (w.heap.size + 1) 30 #[.int .i64 0, .int .i64 0, .string ⟨#[]⟩, .slice none 0 0, .slice none 0 0]) (hb2 : Below w1.heap.size w1 w2) (hv : VOwn w1.heap.size w2 v) :
    SoS w w2.heap.size w1.heap.size v.k v.n v.s #[] (.slice v.lA v.l.length v.lc) (.slice v.mA v.m.length v.mc) v.l v.m (w2.alloc (.cells #[.int .i64 v.k, .int .i64 v.n, .string v.s, .slice v.lA v.l.length v.lc, .slice v.mA v.m.length v.mc] 30)) := by
  have hb3 := below_new w2 (.cells #[.int .i64 v.k, .int .i64 v.n, .string v.s, .slice v.lA v.l.length v.lc, .slice v.mA v.m.length v.mc] 30)
  have hs2 := hb2.size
  exact ⟨hb.trans ((hb2.trans (hb3.mono hb2.size)).mono (by omega)), (hr.below hb2 hr.lt).alloc _, Blk.new _ _ _, ⟨by omega, hs2⟩, hv.l.below hb3, hv.m.below hb3, hv.lm, hv.ml, fun e => Nat.lt_irrefl _ (hv.l.ltS _ e), fun e => Nat.lt_irrefl _ (hv.m.ltS _ e)⟩
end Go.Proofs.YtefkpphahimkgaaGreatDoor

namespace Go.Proofs.YtefkpphahimkgaaGreatDoor
open Go.RowKit
set_option linter.unusedVariables false
set_option linter.unusedSimpArgs false

/-- the box of what is made, and its two rows -/
structure RSt (w : World) (H base : Nat) (k n : Int) (s : ByteArray) (orig : Array Value) (vl vm : Value) (l m : List MV) (wr : World) : Prop where
  bel : Below w.heap.size w wr
  src : Blk wr H 30 orig
  out : Blk wr (H + 1) 30 #[.int .i64 0, .int .i64 0, .string ⟨#[]⟩, .slice none 0 0, .slice none 0 0]
  box : Blk wr (H + 1 + 1) 30 #[.int .i64 k, .int .i64 n, .string s, vl, vm]
  bs : H + 3 ≤ base ∧ base ≤ wr.heap.size
  rl : ROwn 30 5 MV.cs base wr vl l
  rm : ROwn 73 6 MV.pcs base wr vm m
  lm : ∀ x ∈ l, BlkP (fun b => ¬ vm.ownBlock = some b) x
  ml : ∀ x ∈ m, BlkP (fun b => ¬ vl.ownBlock = some b) x
  ne : ∀ g, vl.ownBlock = some g → ¬ vm.ownBlock = some g
section
variable {w w2 w4 : World} {H base : Nat} {k n : Int} {s : ByteArray} {orig : Array Value} {vl vm : Value} {l m : List MV} {wr w' : World}
theorem RSt.below (h : RSt w H base k n s orig vl vm l m wr) (hb : Below wr.heap.size wr w') : RSt w H base k n s orig vl vm l m w' :=
  ⟨h.bel.trans (hb.mono h.bel.size), h.src.below hb h.src.lt, h.out.below hb h.out.lt, h.box.below hb h.box.lt, ⟨h.bs.1, Nat.le_trans h.bs.2 hb.size⟩, h.rl.below hb, h.rm.below hb, h.lm, h.ml, h.ne⟩
/-- one more in its list -/
theorem RSt.more {x' : MV} {A : Option Addr} {N c : Nat} (h : RSt w H base k n s orig vl (.slice none 0 0) l [] w2) (hrow : ROwn 30 5 MV.cs base w4 (.slice A N c) (l ++ [x'])) (hg : w2.grownBy w4 vl.ownBlock) (hHb : w.heap.size ≤ H) :
    RSt w H base k n s orig (.slice A N c) (.slice none 0 0) (l ++ [x']) [] (w4.setCell ⟨H + 1 + 1, 3, none⟩ (.slice A N c)) ∧ Blk w4 (H + 1 + 1) 30 #[.int .i64 k, .int .i64 n, .string s, vl, .slice none 0 0] := by
  have hge := h.rl.ge
  have hbs := h.bs
  have hne : ∀ b, b < base → ¬ some b = vl.ownBlock := fun b hb e => by have := hge b e.symm; omega
  have hk4 := h.box.grown hg (hne _ (by omega))
  have hff : Fr (· = H + 1 + 1) w4 (w4.setCell ⟨H + 1 + 1, 3, none⟩ (.slice A N c)) := (Fr.refl (· = H + 1 + 1) w4).setCell (p := ⟨H + 1 + 1, 3, none⟩) (fun _ => rfl) _
  have hfa : Fr (fun b => H ≤ b) w2 (w4.setCell ⟨H + 1 + 1, 3, none⟩ (.slice A N c)) := ((Fr.of_grown (S := fun b => H ≤ b) hg (fun b e => by have := hge b e; omega))).trans (hff.mono (fun b _ e => by rw [show b = H + 1 + 1 from e]; omega))
  have hrow' : ∀ y ∈ l ++ [x'], BlkP (fun b => ¬ b = H + 1 + 1) y := fun y hy => (hrow.fr y hy).mono (fun b hb => by omega)
  refine ⟨⟨Fr.below_trans h.bel hfa h.bel.size (fun b hb => Nat.le_trans hHb hb), ?_, ?_, ?_, ⟨hbs.1, Nat.le_trans hbs.2 hfa.size⟩, ?_, ROwn.nil _ _, fun y hy => ?_, (fun y hy => by cases hy), fun g _ e => by cases e⟩, hk4⟩
  · exact ((h.src.grown hg (hne _ (by omega))).fr hff (by omega))
  · exact ((h.out.grown hg (hne _ (by omega))).fr hff (by omega))
  · exact hk4.set_ 3 _
  · exact hrow.frS hff (fun g hg' e => by have := hrow.ge g hg'; have e' : g = H + 1 + 1 := e; omega) hrow'
  · exact (hrow.fr y hy).mono (fun b _ e => by cases e)
/-- what is returned -/
theorem RSt.fin {wf : World} {p : PV} (h : RSt w w.heap.size base k n s orig vl vm l m w') (hf : Fr (· = w.heap.size + 1) w' wf) (hk : (Lit.int .i64 k).wf = true) (hn : (Lit.int .i64 n).wf = true) (hp : PV.mk k n s (MV.pvL l) (m.map MV.key) (MV.pvL m) = p) : ∃ v' : MV, (.agg #[.int .i64 k, .int .i64 n, .string s, vl, vm]) = v'.val ∧ v'.pv = p ∧ VOwn w.heap.size wf v' ∧ Below w.heap.size w wf := by
  have hbs := h.bs
  have hav : ∀ y, BlkP (base ≤ ·) y → BlkP (fun b => ¬ b = w.heap.size + 1) y := fun y hy => hy.mono (fun b hb => by omega)
  obtain ⟨v', e1, e2, e3, e4, e5, e6, e7, e8, e9⟩ := VOwn.mk' (base := base) hk hn (h.rl.frS hf (fun g hg e => by have := h.rl.ge g hg; have e' : g = w.heap.size + 1 := e; omega) (fun y hy => hav y (h.rl.fr y hy))) (h.rm.frS hf (fun g hg e => by have := h.rm.ge g hg; have e' : g = w.heap.size + 1 := e; omega) (fun y hy => hav y (h.rm.fr y hy))) h.lm h.ml (s := s)
  have hle : w.heap.size ≤ base := by omega
  refine ⟨v', ?_, e8.trans hp, ⟨e9.at_, e9.fr.mono (fun b hb => Nat.le_trans hle hb), e9.l.base_le hle, e9.m.base_le hle, e9.lm, e9.ml⟩, Fr.below_trans h.bel hf h.bel.size (fun b e => by rw [show b = w.heap.size + 1 from e]; omega)⟩
  rw [MV.val, e1, e2, e3, e4, e5, ← e6, ← e7]
end
theorem Reads.head {w : World} {B size n i : Nat} {A : Option Addr} {xs : List Value} (h : Reads w B size A n xs) (hi : i ≤ n) : Reads w B size A i (xs.take (i * size)) := by
  refine ⟨?_, fun hn => ?_⟩
  · rw [List.length_take, h.1]
    exact Nat.min_eq_left (Nat.mul_le_mul_right _ hi)
  · obtain ⟨ad, e, hb, hc⟩ := h.2 (by omega)
    refine ⟨ad, e, hb, fun j u hu => hc j u ?_⟩
    rcases Nat.lt_or_ge j (i * size) with h1 | h1
    · rwa [List.getElem?_take_of_lt h1] at hu
    · rw [List.getElem?_eq_none (by rw [List.length_take]; omega)] at hu
      cases hu
theorem ROwn.reads {t : TypeId} {size : Nat} {cs : MV → List Value} {base n c : Nat} {A : Option Addr} {w : World} {l : List MV} (h : ROwn t size cs base w (.slice A n c) l) (hn : l.length = n) : Reads w w.heap.size size A n (l.flatMap cs) := by
  subst hn
  have ho := h.own
  exact Reads.of_own ho
end Go.Proofs.YtefkpphahimkgaaGreatDoor
