/-
  Values, plainly: how deep, how many, whether right; what is sorted.
-/
import Derived.Test.YteofdpogjnojnaaGreatDoorVa7
import Derived.Test.YteofdpogjnojnaaGreatDoorDuePlain
import Derived.Test.YteofdpogjnojnaaGreatDoorUtfN
namespace Go.Proofs.YteofdpogjnojnaaGreatDoor
open Go.RowKit
set_option linter.unusedVariables false
set_option linter.unusedSimpArgs false

abbrev PP := ByteArray × PV
def ownF (k n : Int) (s : ByteArray) (nl nm : Nat) : Bool :=
  if k = 1 then decide (n = 0) && (decide (s.size = 0) && (decide (nl = 0) && decide (nm = 0)))
  else if k = 2 then decide (n = 0 ∨ n = 1) && (decide (s.size = 0) && (decide (nl = 0) && decide (nm = 0)))
  else if k = 3 then decide (-9007199254740991 ≤ n ∧ n ≤ 9007199254740991) && (decide (s.size = 0) && (decide (nl = 0) && decide (nm = 0)))
  else if k = 4 then Lib.validD s.data.toList && (decide (n = 0) && (decide (nl = 0) && decide (nm = 0)))
  else if k = 5 then decide (n = 0) && (decide (s.size = 0) && decide (nm = 0))
  else if k = 6 then decide (n = 0) && (decide (s.size = 0) && decide (nl = 0))
  else false
def keysB (ks : List ByteArray) : Bool := ks.all (fun k => Lib.validD k.data.toList) && decide ks.Nodup
def insP (p : PP) : List PP → List PP
  | [] => [p]
  | q :: r => if bl p.1 q.1 then p :: q :: r else q :: insP p r
def isortP : List PP → List PP
  | [] => []
  | p :: r => insP p (isortP r)
namespace PV
mutual
def dep : PV → Nat
  | .mk _ _ _ l _ m => max (depL l) (depL m) + 1
def depL : List PV → Nat
  | [] => 0
  | v :: r => max (dep v) (depL r)
end
mutual
def cnt : PV → Nat
  | .mk _ _ _ l _ m => cntL l + cntL m + 1
def cntL : List PV → Nat
  | [] => 0
  | v :: r => cnt v + cntL r
end
mutual
def right : PV → Bool
  | .mk k n s l ks m => ownF k n s l.length m.length && (keysB ks && (decide (ks.length = m.length) && (rightL l && rightL m)))
def rightL : List PV → Bool
  | [] => true
  | v :: r => right v && rightL r
end
mutual
def sort : PV → PV
  | .mk k n s l ks m => .mk k n s (sortL l) ((isortP (ks.zip (sortL m))).map (·.1)) ((isortP (ks.zip (sortL m))).map (·.2))
def sortL : List PV → List PV
  | [] => []
  | v :: r => sort v :: sortL r
end
def chk (p : PV) : Int := if 12 < p.dep then 41 else if 4096 < p.cnt then 42 else if p.right then 0 else 40
end PV
mutual
theorem dep_pv : ∀ v : MV, v.dep = v.pv.dep
  | .mk _ _ _ _ _ _ l _ _ m => by rw [MV.dep, MV.pv, PV.dep, depL_pv l, depL_pv m]
theorem depL_pv : ∀ l : List MV, MV.depL l = PV.depL (MV.pvL l)
  | [] => by rw [MV.depL, MV.pvL, PV.depL]
  | v :: r => by rw [MV.depL, MV.pvL, PV.depL, dep_pv v, depL_pv r]
end
mutual
theorem cnt_pv : ∀ v : MV, v.cnt = v.pv.cnt
  | .mk _ _ _ _ _ _ l _ _ m => by rw [MV.cnt, MV.pv, PV.cnt, cntL_pv l, cntL_pv m]
theorem cntL_pv : ∀ l : List MV, MV.cntL l = PV.cntL (MV.pvL l)
  | [] => by rw [MV.cntL, MV.pvL, PV.cntL]
  | v :: r => by rw [MV.cntL, MV.pvL, PV.cntL, cnt_pv v, cntL_pv r]
end
mutual
theorem dep_le_cntP : ∀ v : PV, v.dep ≤ v.cnt
  | .mk _ _ _ l _ m => by
    have h1 := depL_le_cntP l
    have h2 := depL_le_cntP m
    rw [PV.dep, PV.cnt]; omega
theorem depL_le_cntP : ∀ l : List PV, PV.depL l ≤ PV.cntL l
  | [] => by rw [PV.depL, PV.cntL]; exact Nat.le_refl _
  | v :: r => by
    have h1 := dep_le_cntP v
    have h2 := depL_le_cntP r
    rw [PV.depL, PV.cntL]; omega
end
theorem dep_le_cnt (v : MV) : v.dep ≤ v.cnt := by rw [dep_pv, cnt_pv]; exact dep_le_cntP _
mutual
theorem cnt_le_wt : ∀ v : MV, v.cnt ≤ v.wt
  | .mk _ _ _ _ _ _ l _ _ m => by
    have h1 := cntL_le_wt l
    have h2 := cntL_le_wtM m
    rw [MV.cnt, MV.wt]; omega
theorem cntL_le_wt : ∀ l : List MV, MV.cntL l ≤ MV.wtL l
  | [] => by rw [MV.cntL, MV.wtL]; exact Nat.le_refl _
  | v :: r => by
    have h1 := cnt_le_wt v
    have h2 := cntL_le_wt r
    rw [MV.cntL, MV.wtL]; omega
theorem cntL_le_wtM : ∀ l : List MV, MV.cntL l ≤ MV.wtM l
  | [] => by rw [MV.cntL, MV.wtM]; exact Nat.le_refl _
  | .mk a k n s lA lc l mA mc m :: r => by
    have h1 := cnt_le_wt (.mk a k n s lA lc l mA mc m)
    have h2 := cntL_le_wtM r
    rw [MV.cntL, MV.wtM]; omega
end
/-- what a value's sizes are -/
inductive OkP : PV → Prop
  | mk {k n : Int} {s : ByteArray} {l : List PV} {ks : List ByteArray} {m : List PV} :
    s.size ≤ 140737488351232 → l.length + m.length ≤ 3001 → ks.length = m.length → (∀ x ∈ ks, x.size ≤ 140737488351232) → (∀ x ∈ l, OkP x) → (∀ x ∈ m, OkP x) → OkP (.mk k n s l ks m)
theorem pvL_mem {l : List MV} {p : PV} : p ∈ MV.pvL l ↔ ∃ x ∈ l, x.pv = p := by rw [pvL_map, List.mem_map]
theorem pvL_len (l : List MV) : (MV.pvL l).length = l.length := by rw [pvL_map, List.length_map]
section
variable {v : MV}
theorem okP_of (hs : SzV v) (hf : FitV v) : OkP v.pv := by
  induction hs with
  | mk a b c d e f ih1 ih2 =>
    cases hf with
    | mk g h i =>
      rw [MV.pv]
      refine .mk a (by rw [pvL_len, pvL_len]; exact g) (by rw [pvL_len, List.length_map]) (fun x hx => ?_) (fun x hx => ?_) (fun x hx => ?_)
      · obtain ⟨y, hy, rfl⟩ := List.mem_map.1 hx
        exact e y hy
      · obtain ⟨y, hy, rfl⟩ := pvL_mem.1 hx
        exact ih1 y hy (h y hy)
      · obtain ⟨y, hy, rfl⟩ := pvL_mem.1 hx
        exact ih2 y hy (i y hy)
theorem OkP.s (h : OkP v.pv) : v.s.size ≤ 140737488351232 := by
  cases v
  rw [MV.pv] at h
  cases h; assumption
theorem OkP.len (h : OkP v.pv) : v.l.length + v.m.length ≤ 3001 := by
  cases v
  rw [MV.pv] at h
  cases h with
  | mk a b c d e f => rw [pvL_len, pvL_len] at b; exact b
theorem OkP.l (h : OkP v.pv) : ∀ x ∈ v.l, OkP x.pv := by
  cases v
  rw [MV.pv] at h
  cases h with
  | mk a b c d e f => exact fun x hx => e _ (pvL_mem.2 ⟨x, hx, rfl⟩)
theorem OkP.m (h : OkP v.pv) : ∀ x ∈ v.m, OkP x.pv := by
  cases v
  rw [MV.pv] at h
  cases h with
  | mk a b c d e f => exact fun x hx => f _ (pvL_mem.2 ⟨x, hx, rfl⟩)
theorem OkP.key (h : OkP v.pv) : ∀ x ∈ v.m, x.key.size ≤ 140737488351232 := by
  cases v
  rw [MV.pv] at h
  cases h with
  | mk a b c d e f => exact fun x hx => d _ (List.mem_map.2 ⟨x, hx, rfl⟩)
end
theorem OkP.fit {w : World} {v : MV} (hv : VAt w v) (h : OkP v.pv) : FitV v := by
  induction hv with
  | mk a b c d e f g h' i j ih1 ih2 => exact .mk h.len (fun x hx => ih1 x hx (h.l x hx)) (fun x hx => ih2 x hx (h.m x hx))
theorem right_eq (v : MV) : v.pv.right = (ownF v.k v.n v.s v.l.length v.m.length && (keysB (v.m.map MV.key) && (PV.rightL (MV.pvL v.l) && PV.rightL (MV.pvL v.m)))) := by
  cases v
  rw [MV.pv, PV.right, pvL_len, pvL_len, List.length_map, decide_eq_true rfl, Bool.true_and]
  rfl
theorem rightL_app (a b : List PV) : PV.rightL (a ++ b) = (PV.rightL a && PV.rightL b) := by
  induction a with
  | nil => simp [PV.rightL]
  | cons v r ih => rw [List.cons_append, PV.rightL, PV.rightL, ih, Bool.and_assoc]
theorem rightL_all (l : List PV) : PV.rightL l = l.all PV.right := by
  induction l with
  | nil => rfl
  | cons v r ih => rw [PV.rightL, ih]; rfl
theorem rightL_next (l : List MV) (i : Nat) (hi : i < l.length) : PV.rightL (MV.pvL (l.take (i + 1))) = (PV.rightL (MV.pvL (l.take i)) && l[i].pv.right) := by
  rw [pvL_next l i hi, rightL_app]
  simp [PV.rightL]
end Go.Proofs.YteofdpogjnojnaaGreatDoor
