/-
  value: look, Check, Depth, Count; the document's Check.
-/
import Derived.Test.YteodigdcdhceiaaDoorVaD
import Derived.Test.YteodigdcdhceiaaDoorVaR3
namespace Go.Proofs.YteodigdcdhceiaaDoor
open Go.RowKit
attribute [local go_sem ↓] Go.wp_at_zero Go.wp_at_succ
set_option linter.unusedVariables false
set_option linter.unusedSimpArgs false

/-- a value that is not great -/
structure Fine (w : World) (v : MV) : Prop where
  at_ : VAt w v
  ok : OkP v.pv
  few : v.cnt ≤ 100000
theorem Fine.bel {w w' : World} {v : MV} (h : Fine w v) (hb : Below w.heap.size w w') : Fine w' v := ⟨h.at_.bel hb, h.ok, h.few⟩
theorem Fine.dep {w : World} {v : MV} (h : Fine w v) : v.dep ≤ 100000 := Nat.le_trans (dep_le_cnt v) h.few
def LookP (v : MV) (w : World) (e : Ending) (w' : World) : Prop := ∃ g, e = .returned (.pointer (some ⟨g, 0, none⟩)) ∧ w.heap.size ≤ g ∧ WkA w' g v.dep v.cnt (!v.pv.right) ∧ Below w.heap.size w w'
set_option maxRecDepth 100000 in
set_option maxHeartbeats 1000000 in
theorem look_any {v : MV} {w : World} (h : Fine w v) (ht : tabU w) : Calls Tryd.prog 37 #[v.val] w fun e w' => PF (LookP v w) e w' := by
  have hfw := h.few
  have hdw := h.dep
  obtain ⟨W2, hW2⟩ : ∃ W2, W2 = ((w.alloc (.cells #[.int .i64 v.k, .int .i64 v.n, .string v.s, .slice v.lA v.l.length v.lc, .slice v.mA v.m.length v.mc] 25)).alloc (.cells #[.int .i64 0, .int .i64 0, .bool false] 52)) := ⟨_, rfl⟩
  have hb2 : Below w.heap.size w W2 := by rw [hW2]; exact below_al _ (below_new _ _)
  have hk2 : WkA W2 (w.heap.size + 1) 0 0 false := by
    rw [hW2]
    have h2 := Blk.new (w.alloc (.cells #[.int .i64 v.k, .int .i64 v.n, .string v.s, .slice v.lA v.l.length v.lc, .slice v.mA v.m.length v.mc] 25)) 52 #[.int .i64 0, .int .i64 0, .bool false]
    simpa [WkA] using h2
  have hkx : Blk W2 w.heap.size 25 #[.int .i64 v.k, .int .i64 v.n, .string v.s, .slice v.lA v.l.length v.lc, .slice v.mA v.m.length v.mc] := by rw [hW2]; exact (Blk.new _ _ _).alloc _
  have hd := down_any h.at_ ht (w.heap.size + 1) 0 0 1 false W2 (by omega) hb2 hk2 h.ok (by omega) (by omega) (by omega) (by omega)
  rw [show max 0 (1 + v.dep - 1) = v.dep from by omega, Nat.zero_add, Bool.false_or] at hd
  rw [hW2] at hd
  have HD := Lib.hid hd
  have HB2 := Lib.hid hb2
  have HW2 := Lib.hid hW2
  clear hd hk2 hb2 hW2 h ht hfw hdw hkx
  unfold MV.val at HD ⊢
  go_enter Tryd.func37, Tryd.ntmps37
  go_wp2_with fail
  refine HD.out.mono ?_
  rintro e w3 ⟨rfl, hk3, hf3⟩
  have HR : Hid (LookP v w (.returned (.pointer (some ⟨w.heap.size + 1, 0, none⟩))) w3) := Lib.hid ⟨_, rfl, by omega, hk3, Fr.below_trans HB2.out (by rw [HW2.out]; exact hf3) HB2.out.size (fun k e => by rw [e]; omega)⟩
  clear hk3 hf3
  go_wp2
  go_ret
  exact HR.out
def IntP (n : Int) (w : World) (e : Ending) (w' : World) : Prop := e = .returned (.int .i64 n) ∧ Below w.heap.size w w'
set_option maxRecDepth 100000 in
set_option maxHeartbeats 1000000 in
theorem depth_any {v : MV} {w : World} (h : Fine w v) (ht : tabU w) : Calls Tryd.prog 23 #[v.val] w fun e w' => PF (IntP (v.pv.dep : Int) w) e w' := by
  have hd := look_any (h.bel (below_new w (.cells #[.int .i64 v.k, .int .i64 v.n, .string v.s, .slice v.lA v.l.length v.lc, .slice v.mA v.m.length v.mc] 25))) (ht.below (below_new _ _))
  rw [← dep_pv]
  unfold MV.val at hd ⊢
  have HD := Lib.hid hd
  clear hd h ht
  go_enter Tryd.func23, Tryd.ntmps23
  go_wp2_with fail
  refine HD.out.mono ?_
  rintro e w3 ⟨g, rfl, hg, hk3, hb3⟩
  have hB := (below_new w (.cells #[.int .i64 v.k, .int .i64 v.n, .string v.s, .slice v.lA v.l.length v.lc, .slice v.mA v.m.length v.mc] 25)).trans (hb3.mono (below_new w (.cells #[.int .i64 v.k, .int .i64 v.n, .string v.s, .slice v.lA v.l.length v.lc, .slice v.mA v.m.length v.mc] 25)).size)
  obtain ⟨a0, a1, a2⟩ := three_cells hk3
  have HB := Lib.hid hB
  clear hg hk3 hb3 hB
  go_wp2
  go_ret
  exact ⟨rfl, HB.out⟩
set_option maxRecDepth 100000 in
set_option maxHeartbeats 1000000 in
theorem count_any {v : MV} {w : World} (h : Fine w v) (ht : tabU w) : Calls Tryd.prog 24 #[v.val] w fun e w' => PF (IntP (v.pv.cnt : Int) w) e w' := by
  have hd := look_any (h.bel (below_new w (.cells #[.int .i64 v.k, .int .i64 v.n, .string v.s, .slice v.lA v.l.length v.lc, .slice v.mA v.m.length v.mc] 25))) (ht.below (below_new _ _))
  rw [← cnt_pv]
  unfold MV.val at hd ⊢
  have HD := Lib.hid hd
  clear hd h ht
  go_enter Tryd.func24, Tryd.ntmps24
  go_wp2_with fail
  refine HD.out.mono ?_
  rintro e w3 ⟨g, rfl, hg, hk3, hb3⟩
  have hB := (below_new w (.cells #[.int .i64 v.k, .int .i64 v.n, .string v.s, .slice v.lA v.l.length v.lc, .slice v.mA v.m.length v.mc] 25)).trans (hb3.mono (below_new w (.cells #[.int .i64 v.k, .int .i64 v.n, .string v.s, .slice v.lA v.l.length v.lc, .slice v.mA v.m.length v.mc] 25)).size)
  obtain ⟨a0, a1, a2⟩ := three_cells hk3
  have HB := Lib.hid hB
  clear hg hk3 hb3 hB
  go_wp2
  go_ret
  exact ⟨rfl, HB.out⟩
set_option maxRecDepth 100000 in
set_option maxHeartbeats 1000000 in
theorem check_any {v : MV} {w : World} (h : Fine w v) (ht : tabU w) : Calls Tryd.prog 25 #[v.val] w fun e w' => PF (IntP v.pv.chk w) e w' := by
  have hd := look_any (h.bel (below_new w (.cells #[.int .i64 v.k, .int .i64 v.n, .string v.s, .slice v.lA v.l.length v.lc, .slice v.mA v.m.length v.mc] 25))) (ht.below (below_new _ _))
  have hdp := h.dep
  have hcp := h.few
  obtain ⟨C, hC⟩ : ∃ C, C = v.pv.chk := ⟨_, rfl⟩
  have HC : Hid (C = if 12 < v.dep then 41 else if 4096 < v.cnt then 42 else if v.pv.right then 0 else 40) := Lib.hid (by rw [hC, PV.chk, dep_pv, cnt_pv])
  rw [← hC]
  unfold MV.val at hd ⊢
  have HD := Lib.hid hd
  clear hd h ht hC
  go_enter Tryd.func25, Tryd.ntmps25
  go_wp2_with fail
  refine HD.out.mono ?_
  rintro e w3 ⟨g, rfl, hg, hk3, hb3⟩
  have hB := (below_new w (.cells #[.int .i64 v.k, .int .i64 v.n, .string v.s, .slice v.lA v.l.length v.lc, .slice v.mA v.m.length v.mc] 25)).trans (hb3.mono (below_new w (.cells #[.int .i64 v.k, .int .i64 v.n, .string v.s, .slice v.lA v.l.length v.lc, .slice v.mA v.m.length v.mc] 25)).size)
  have HK := Lib.hid hk3
  have HB := Lib.hid hB
  clear hg hk3 hb3 hB
  generalize v.dep = dep at *
  generalize v.cnt = cnt at *
  generalize v.pv.right = ri at *
  obtain ⟨a0, a1, a2⟩ := three_cells HK.out
  by_cases h1 : 12 < dep
  · have q1 : decide ((12 : Int) < (dep : Int)) = true := by rw [decide_eq_true_iff]; omega
    have q1' : decide (12 < dep) = true := by rw [decide_eq_true_iff]; omega
    have HE : Hid (C = 41) := Lib.hid (by rw [HC.out, if_pos h1])
    clear h1
    go_wp2
    go_ret
    exact ⟨by rw [HE.out]; rfl, HB.out⟩
  have q1 : decide ((12 : Int) < (dep : Int)) = false := by rw [decide_eq_false_iff_not]; omega
  have q1' : decide (12 < dep) = false := by rw [decide_eq_false_iff_not]; omega
  by_cases h2 : 4096 < cnt
  · have q2 : decide ((4096 : Int) < (cnt : Int)) = true := by rw [decide_eq_true_iff]; omega
    have q2' : decide (4096 < cnt) = true := by rw [decide_eq_true_iff]; omega
    have HE : Hid (C = 42) := Lib.hid (by rw [HC.out, if_neg h1, if_pos h2])
    clear h1 h2
    go_wp2
    go_ret
    exact ⟨by rw [HE.out]; rfl, HB.out⟩
  have q2 : decide ((4096 : Int) < (cnt : Int)) = false := by rw [decide_eq_false_iff_not]; omega
  have q2' : decide (4096 < cnt) = false := by rw [decide_eq_false_iff_not]; omega
  cases ri with
  | true =>
    have HE : Hid (C = 0) := Lib.hid (by rw [HC.out, if_neg h1, if_neg h2]; rfl)
    clear h1 h2
    go_wp2
    go_ret
    exact ⟨by rw [HE.out]; rfl, HB.out⟩
  | false =>
    have HE : Hid (C = 40) := Lib.hid (by rw [HC.out, if_neg h1, if_neg h2]; rfl)
    clear h1 h2
    go_wp2
    go_ret
    exact ⟨by rw [HE.out]; rfl, HB.out⟩
set_option maxRecDepth 100000 in
set_option maxHeartbeats 1000000 in
theorem rcheck_any {v : MV} {w : World} (h : Fine w v) : Calls Tryd.prog 11 #[v.val] w fun e w' => PF (IntP v.pv.chk w) e w' := by
  have hfit := h.ok.fit h.at_
  obtain ⟨W1, hW1⟩ : ∃ W1, W1 = w.alloc (.cells #[.int .i64 v.k, .int .i64 v.n, .string v.s, .slice v.lA v.l.length v.lc, .slice v.mA v.m.length v.mc] 25) := ⟨_, rfl⟩
  have hb1 : Below w.heap.size w W1 := by rw [hW1]; exact below_new _ _
  have hk1 : Blk W1 w.heap.size 25 #[.int .i64 v.k, .int .i64 v.n, .string v.s, .slice v.lA v.l.length v.lc, .slice v.mA v.m.length v.mc] := by rw [hW1]; exact Blk.new _ _ _
  have hdp := h.dep
  have hcp := h.few
  have h1 := fun V (hV : Below w.heap.size w V) => rdepth_any h.at_ V hV hfit (by omega)
  have h2 := fun V (hV : Below w.heap.size w V) => rcount_any h.at_ V hV hfit (by omega)
  have h3 := fun V (hV : Below w.heap.size w V) => rright_any h.at_ h.ok V hV
  obtain ⟨C, hC⟩ : ∃ C, C = v.pv.chk := ⟨_, rfl⟩
  have HC : Hid (C = if 12 < v.dep then 41 else if 4096 < v.cnt then 42 else if v.pv.right then 0 else 40) := Lib.hid (by rw [hC, PV.chk, dep_pv, cnt_pv])
  rw [← hC]
  unfold MV.val at h1 h2 h3 ⊢
  have H1 := Lib.hid h1
  have H2 := Lib.hid h2
  have H3 := Lib.hid h3
  have HB1 := Lib.hid hb1
  have HK1 := Lib.hid hk1
  have HW1 := Lib.hid hW1
  clear h1 h2 h3 h hfit hC hb1 hk1 hW1
  generalize v.dep = dep at *
  generalize v.cnt = cnt at *
  generalize v.pv.right = ri at *
  go_enter Tryd.func11, Tryd.ntmps11
  go_wp2_with fail
  rw [← HW1.out]
  refine (H1.out _ HB1.out).mono ?_
  rintro e w2 ⟨rfl, hb2⟩
  have HB2 : Hid (Below w.heap.size w w2) := Lib.hid (HB1.out.trans (hb2.mono HB1.out.size))
  have hk2 := HK1.out.below hb2 HK1.out.lt
  obtain ⟨a0, a1, a2, a3, a4⟩ := five_cells hk2
  have HK2 := Lib.hid hk2
  clear hb2 hk2
  by_cases h1 : 12 < dep
  · have q1 : decide ((12 : Int) < (dep : Int)) = true := by rw [decide_eq_true_iff]; omega
    have q1' : decide (12 < dep) = true := by rw [decide_eq_true_iff]; omega
    have HE : Hid (C = 41) := Lib.hid (by rw [HC.out, if_pos h1])
    clear h1
    go_wp2
    go_ret
    exact ⟨by rw [HE.out]; rfl, HB2.out⟩
  have q1 : decide ((12 : Int) < (dep : Int)) = false := by rw [decide_eq_false_iff_not]; omega
  have q1' : decide (12 < dep) = false := by rw [decide_eq_false_iff_not]; omega
  go_wp2_with fail
  refine (H2.out _ HB2.out).mono ?_
  rintro e w3 ⟨rfl, hb3⟩
  have HB3 : Hid (Below w.heap.size w w3) := Lib.hid (HB2.out.trans (hb3.mono HB2.out.size))
  have hk3 := HK2.out.below hb3 HK2.out.lt
  clear a0 a1 a2 a3 a4
  obtain ⟨a0, a1, a2, a3, a4⟩ := five_cells hk3
  clear hb3 hk3
  by_cases h2 : 4096 < cnt
  · have q2 : decide ((4096 : Int) < (cnt : Int)) = true := by rw [decide_eq_true_iff]; omega
    have q2' : decide (4096 < cnt) = true := by rw [decide_eq_true_iff]; omega
    have HE : Hid (C = 42) := Lib.hid (by rw [HC.out, if_neg h1, if_pos h2])
    clear h1 h2
    go_wp2
    go_ret
    exact ⟨by rw [HE.out]; rfl, HB3.out⟩
  have q2 : decide ((4096 : Int) < (cnt : Int)) = false := by rw [decide_eq_false_iff_not]; omega
  have q2' : decide (4096 < cnt) = false := by rw [decide_eq_false_iff_not]; omega
  go_wp2_with fail
  refine (H3.out _ HB3.out).mono ?_
  rintro e w4 ⟨rfl, hb4⟩
  have HB4 : Hid (Below w.heap.size w w4) := Lib.hid (HB3.out.trans (hb4.mono HB3.out.size))
  clear hb4 a0 a1 a2 a3 a4
  cases ri with
  | true =>
    have HE : Hid (C = 0) := Lib.hid (by rw [HC.out, if_neg h1, if_neg h2]; rfl)
    clear h1 h2
    go_wp2
    go_ret
    exact ⟨by rw [HE.out]; rfl, HB4.out⟩
  | false =>
    have HE : Hid (C = 40) := Lib.hid (by rw [HC.out, if_neg h1, if_neg h2]; rfl)
    clear h1 h2
    go_wp2
    go_ret
    exact ⟨by rw [HE.out]; rfl, HB4.out⟩
end Go.Proofs.YteodigdcdhceiaaDoor
