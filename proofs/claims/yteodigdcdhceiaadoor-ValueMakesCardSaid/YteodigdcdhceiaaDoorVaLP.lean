/-
  The values of the law's lives, plainly.
-/
import Derived.Test.YteodigdcdhceiaaDoorVaG3
import Derived.Test.YteodigdcdhceiaaDoorVaRi
namespace Go.Proofs.YteodigdcdhceiaaDoor
open Go.RowKit
set_option linter.unusedVariables false
set_option linter.unusedSimpArgs false

def bA : ByteArray := ⟨#[97]⟩
def bB : ByteArray := ⟨#[98]⟩
def bC : ByteArray := ⟨#[99]⟩
def bX : ByteArray := ⟨#[120]⟩
def bE : ByteArray := ⟨#[]⟩
/-- the list [null, true, "x"] -/
def pvL3 : PV := .mk 5 0 bE [.one 1 0 bE, .one 2 1 bE, .one 4 0 bX] [] []
def pvA : PV := .mk 6 0 bE [] [bB, bA] [.one 3 1 bE, pvL3]
def pvB : PV := .mk 6 0 bE [] [bA, bB] [pvL3, .one 3 1 bE]
def pvC : PV := .mk 6 0 bE [] [bB, bA] [.one 3 2 bE, pvL3]
def pvD : PV := .mk 6 0 bE [] [bA, bB] [pvL3, .one 3 2 bE]
theorem bl_ab : bl bA bB = true := by decide +kernel
theorem bl_ba : bl bB bA = false := by decide +kernel
theorem one_dep (k n : Int) (s : ByteArray) : (PV.one k n s).dep = 1 := by simp [PV.one, PV.dep, PV.depL]
theorem one_cnt (k n : Int) (s : ByteArray) : (PV.one k n s).cnt = 1 := by simp [PV.one, PV.cnt, PV.cntL]
theorem l3_dep : pvL3.dep = 2 := by simp [pvL3, PV.dep, PV.depL, one_dep]
theorem l3_cnt : pvL3.cnt = 4 := by simp [pvL3, PV.cnt, PV.cntL, one_cnt]
theorem A_dep : pvA.dep = 3 := by simp [pvA, PV.dep, PV.depL, one_dep, l3_dep]
theorem A_cnt : pvA.cnt = 6 := by simp [pvA, PV.cnt, PV.cntL, one_cnt, l3_cnt]
theorem C_dep : pvC.dep = 3 := by simp [pvC, PV.dep, PV.depL, one_dep, l3_dep]
theorem C_cnt : pvC.cnt = 6 := by simp [pvC, PV.cnt, PV.cntL, one_cnt, l3_cnt]
theorem one_right {k n : Int} {s : ByteArray} (h : ownF k n s 0 0 = true) : (PV.one k n s).right = true := by
  rw [PV.one, PV.right]
  simp only [List.length_nil, h, PV.rightL]
  rfl
theorem l3_right : pvL3.right = true := by
  have h1 : (PV.one 1 0 bE).right = true := one_right rfl
  have h2 : (PV.one 2 1 bE).right = true := one_right rfl
  have h3 : (PV.one 4 0 bX).right = true := one_right (by decide)
  rw [pvL3, PV.right, PV.rightL, PV.rightL, PV.rightL, PV.rightL, h1, h2, h3]
  rfl
theorem A_right : pvA.right = true := by
  have h1 : (PV.one 3 1 bE).right = true := one_right (by decide)
  have h2 : keysB [bB, bA] = true := by decide
  rw [pvA, PV.right, PV.rightL, PV.rightL, PV.rightL, h1, l3_right, h2]
  rfl
theorem C_right : pvC.right = true := by
  have h1 : (PV.one 3 2 bE).right = true := one_right (by decide)
  have h2 : keysB [bB, bA] = true := by decide
  rw [pvC, PV.right, PV.rightL, PV.rightL, PV.rightL, h1, l3_right, h2]
  rfl
theorem A_chk : pvA.chk = 0 := chk_zero.2 ⟨by rw [A_dep]; omega, by rw [A_cnt]; omega, A_right⟩
theorem C_chk : pvC.chk = 0 := chk_zero.2 ⟨by rw [C_dep]; omega, by rw [C_cnt]; omega, C_right⟩
theorem one_sort (k n : Int) (s : ByteArray) : (PV.one k n s).sort = .one k n s := by rw [PV.one, PV.sort, PV.sortL]; rfl
theorem l3_sort : pvL3.sort = pvL3 := by
  rw [pvL3, PV.sort, PV.sortL, PV.sortL, PV.sortL, PV.sortL, one_sort, one_sort, one_sort]
  rfl
theorem ins_two {x y : PV} : isortP [(bB, x), (bA, y)] = [(bA, y), (bB, x)] := by
  simp only [isortP, insP]
  rw [show bl bB bA = false from bl_ba]
  rfl
theorem A_sort : pvA.sort = pvB := by
  rw [pvA, PV.sort, PV.sortL, PV.sortL, PV.sortL, PV.sortL, one_sort, l3_sort]
  simp only [List.zip_cons_cons, List.zip_nil_right, ins_two]
  rfl
theorem C_sort : pvC.sort = pvD := by
  rw [pvC, PV.sort, PV.sortL, PV.sortL, PV.sortL, PV.sortL, one_sort, l3_sort]
  simp only [List.zip_cons_cons, List.zip_nil_right, ins_two]
  rfl
theorem B_right : pvB.right = true := by rw [← A_sort]; exact right_sort _ A_right
theorem B_dep : pvB.dep = 3 := by rw [← A_sort, dep_sort _ A_right, A_dep]
theorem B_cnt : pvB.cnt = 6 := by rw [← A_sort, cnt_sort _ A_right, A_cnt]
theorem B_chk : pvB.chk = 0 := chk_zero.2 ⟨by rw [B_dep]; omega, by rw [B_cnt]; omega, B_right⟩
theorem B_sort : pvB.sort = pvB := by rw [← A_sort, sort_sort _ A_right]
theorem BD_ne : pvB ≠ pvD := fun e => by
  unfold pvB pvD at e
  injection e with _ _ _ _ _ e
  injection e with _ e
  injection e with e _
  unfold PV.one at e
  injection e with _ e
  cases e
theorem A_B : sameP pvA pvB = true := by
  unfold sameP
  rw [A_chk, B_chk, A_sort, B_sort]
  simp
theorem A_C : sameP pvA pvC = false := by
  unfold sameP
  rw [A_chk, C_chk, A_sort, C_sort, decide_eq_false BD_ne]
  simp
theorem A_with : pvA.withP bB (.one 3 2 bE) = pvC := by
  unfold pvA PV.withP pvC
  simp [withM]
theorem A_wo : pvA.woP bB = .mk 6 0 bE [] [bA] [pvL3] := by
  unfold pvA PV.woP
  have h : ¬ bA = bB := by decide
  simp [dropM, h]
theorem none_chk : PV.none_.chk = 40 := by
  unfold PV.chk PV.none_
  simp [PV.dep, PV.depL, PV.cnt, PV.cntL, PV.right, ownF]
theorem one_ok (k n : Int) {s : ByteArray} (hs : s.size ≤ 140737488351232) : OkP (.one k n s) := .mk hs (by simp) rfl (fun x hx => by cases hx) (fun x hx => by cases hx) (fun x hx => by cases hx)
theorem none_ok : OkP PV.none_ := .mk (by simp [ByteArray.size]) (by simp) rfl (fun x hx => by cases hx) (fun x hx => by cases hx) (fun x hx => by cases hx)
theorem l3_ok : OkP pvL3 := by
  refine .mk (by decide) (by simp) rfl (fun x hx => by cases hx) (fun x hx => ?_) (fun x hx => by cases hx)
  simp only [List.mem_cons, List.not_mem_nil, or_false] at hx
  rcases hx with rfl | rfl | rfl
  · exact one_ok _ _ (by decide)
  · exact one_ok _ _ (by decide)
  · exact one_ok _ _ (by decide)
theorem A_ok : OkP pvA := by
  refine .mk (by decide) (by simp) rfl (fun x hx => ?_) (fun x hx => by cases hx) (fun x hx => ?_)
  · simp only [List.mem_cons, List.not_mem_nil, or_false] at hx
    rcases hx with rfl | rfl <;> decide
  · simp only [List.mem_cons, List.not_mem_nil, or_false] at hx
    rcases hx with rfl | rfl
    · exact one_ok _ _ (by decide)
    · exact l3_ok
theorem C_ok : OkP pvC := by
  refine .mk (by decide) (by simp) rfl (fun x hx => ?_) (fun x hx => by cases hx) (fun x hx => ?_)
  · simp only [List.mem_cons, List.not_mem_nil, or_false] at hx
    rcases hx with rfl | rfl <;> decide
  · simp only [List.mem_cons, List.not_mem_nil, or_false] at hx
    rcases hx with rfl | rfl
    · exact one_ok _ _ (by decide)
    · exact l3_ok
theorem B_ok : OkP pvB := by rw [← A_sort]; exact ok_sort A_ok
theorem fine_of {w : World} {v : MV} {p : PV} (h : VAt w v) (hp : v.pv = p) (hok : OkP p) (hc : p.cnt ≤ 100000) : Fine w v := ⟨h, by rw [hp]; exact hok, by rw [cnt_pv, hp]; exact hc⟩
theorem len_two {α : Type} {l : List α} (h : l.length = 2) : ∃ x y, l = [x, y] := by
  match l, h with
  | [x, y], _ => exact ⟨x, y, rfl⟩
theorem len_three {α : Type} {l : List α} (h : l.length = 3) : ∃ x y z, l = [x, y, z] := by
  match l, h with
  | [x, y, z], _ => exact ⟨x, y, z, rfl⟩
/-- what is at hand of the value a -/
theorem A_parts {v : MV} (h : v.pv = pvA) : v.k = 6 ∧ ∃ x y, v.m = [x, y] ∧ x.key = bB ∧ y.key = bA ∧ x.pv = .one 3 1 bE ∧ y.pv = pvL3 := by
  obtain ⟨key, k, n, s, lA, lc, l, mA, mc, m⟩ := v
  rw [MV.pv, pvA] at h
  injection h with e1 e2 e3 e4 e5 e6
  refine ⟨e1, ?_⟩
  obtain ⟨x, y, rfl⟩ := len_two (show m.length = 2 by have := congrArg List.length e5; simpa using this)
  simp only [List.map_cons, List.map_nil, List.cons.injEq, and_true] at e5
  simp only [MV.pvL, List.cons.injEq, and_true] at e6
  exact ⟨x, y, rfl, e5.1, e5.2, e6.1, e6.2⟩
theorem B_parts {v : MV} (h : v.pv = pvB) : ∃ x y, v.m = [x, y] ∧ x.key = bA ∧ ∃ p q r, x.l = [p, q, r] ∧ q.n = 1 := by
  obtain ⟨key, k, n, s, lA, lc, l, mA, mc, m⟩ := v
  rw [MV.pv, pvB] at h
  injection h with e1 e2 e3 e4 e5 e6
  obtain ⟨x, y, rfl⟩ := len_two (show m.length = 2 by have := congrArg List.length e5; simpa using this)
  simp only [List.map_cons, List.map_nil, List.cons.injEq, and_true] at e5
  simp only [MV.pvL, List.cons.injEq, and_true] at e6
  refine ⟨x, y, rfl, e5.1, ?_⟩
  have h2 := e6.1
  obtain ⟨key', k', n', s', lA', lc', l', mA', mc', m'⟩ := x
  rw [MV.pv, pvL3] at h2
  injection h2 with g1 g2 g3 g4 g5 g6
  obtain ⟨p, q, r, rfl⟩ := len_three (show l'.length = 3 by have := congrArg List.length g4; rw [pvL_len] at this; exact this)
  simp only [MV.pvL, List.cons.injEq, and_true] at g4
  refine ⟨p, q, r, rfl, ?_⟩
  have h3 := g4.2.1
  obtain ⟨key', k', n', s', lA', lc', l', mA', mc', m'⟩ := q
  rw [MV.pv, PV.one] at h3
  injection h3 with _ h3
theorem one_parts {v : MV} {k n : Int} {s : ByteArray} (h : v.pv = .one k n s) : v.n = n := by
  obtain ⟨key', k', n', s', lA', lc', l', mA', mc', m'⟩ := v
  rw [MV.pv, PV.one] at h
  injection h
theorem len_m {v : MV} {k n : Int} {s : ByteArray} {l : List PV} {ks : List ByteArray} {m : List PV} (h : v.pv = .mk k n s l ks m) : v.m.length = m.length := by
  obtain ⟨key', k', n', s', lA', lc', l', mA', mc', m'⟩ := v
  rw [MV.pv] at h
  injection h with e1 e2 e3 e4 e5 e6
  rw [← e6, pvL_len]
  rfl
theorem at_b {v : MV} (h : v.pv = pvA) : atV v bB = 0 := by
  obtain ⟨h6, x, y, hm, hx, hy, _⟩ := A_parts h
  unfold atV
  rw [if_pos h6, hm]
  exact idxG_hit _ _ 0 (by simp) (by simpa using hx) (fun j hj h => by omega)
theorem at_c {v : MV} (h : v.pv = pvA) : atV v bC = -1 := by
  obtain ⟨h6, x, y, hm, hx, hy, _⟩ := A_parts h
  unfold atV
  rw [if_pos h6, hm]
  refine idxG_miss _ _ (fun j hj => ?_)
  have hne : ¬ bB = bC := by decide
  have hne2 : ¬ bA = bC := by decide
  match j, hj with
  | 0, _ => simp [hx, hne]
  | 1, _ => simp [hy, hne2]
end Go.Proofs.YteodigdcdhceiaaDoor
