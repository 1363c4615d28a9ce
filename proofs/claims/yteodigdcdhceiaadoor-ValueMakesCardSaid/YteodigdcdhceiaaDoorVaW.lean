/-
  value: Sorted, Same.
-/
import Derived.Test.YteodigdcdhceiaaDoorVaC
import Derived.Test.YteodigdcdhceiaaDoorVaS5
import Derived.Test.YteodigdcdhceiaaDoorVaE1
import Derived.Deep.RegionHeld3
namespace Go.Proofs.YteodigdcdhceiaaDoor
open Go.RowKit
attribute [local go_sem ↓] Go.wp_at_zero Go.wp_at_succ
set_option linter.unusedVariables false
set_option linter.unusedSimpArgs false

def PV.none_ : PV := .mk 0 0 ⟨#[]⟩ [] [] []
def MV.none_ : MV := .mk ⟨#[]⟩ 0 0 ⟨#[]⟩ none 0 [] none 0 []
theorem VOwn.none_ (base : Nat) (w : World) : VOwn base w MV.none_ :=
  ⟨.mk rfl rfl Reads.none_ (Nat.le_refl _) (by simp [maxLen]) Reads.none_ (Nat.le_refl _) (by simp [maxLen]) (fun x hx => by cases hx) (fun x hx => by cases hx), .mk (fun h => absurd rfl h) (fun h => absurd rfl h) (fun x hx => by cases hx) (fun x hx => by cases hx), ROwn.nil _ _, ROwn.nil _ _, (fun x hx => by cases hx), (fun x hx => by cases hx)⟩
/-- a value of one's own comes -/
def OwP (p : PV) (w : World) (e : Ending) (w' : World) : Prop := ∃ v' : MV, e = .returned v'.val ∧ v'.pv = p ∧ VOwn w.heap.size w' v' ∧ Below w.heap.size w w'
theorem chk_zero {p : PV} : p.chk = 0 ↔ p.dep ≤ 12 ∧ p.cnt ≤ 4096 ∧ p.right = true := by
  unfold PV.chk
  by_cases h1 : 12 < p.dep
  · rw [if_pos h1]; exact ⟨fun h => by omega, fun h => by omega⟩
  rw [if_neg h1]
  by_cases h2 : 4096 < p.cnt
  · rw [if_pos h2]; exact ⟨fun h => by omega, fun h => by omega⟩
  rw [if_neg h2]
  cases h3 : p.right
  · simp
  · simp; omega
theorem VOwn.base_le {base base' : Nat} {w : World} {v : MV} (h : VOwn base w v) (hb : base' ≤ base) : VOwn base' w v := ⟨h.at_, h.fr.mono (fun b hb' => Nat.le_trans hb hb'), h.l.base_le hb, h.m.base_le hb, h.lm, h.ml⟩
theorem VOwn.below {base : Nat} {w w' : World} {v : MV} (h : VOwn base w v) (hb : Below w.heap.size w w') : VOwn base w' v := ⟨h.at_.bel hb, h.fr, h.l.below hb, h.m.below hb, h.lm, h.ml⟩
/-- a write to a block that lies lower -/
theorem VOwn.fr_low {base : Nat} {w w' : World} {v : MV} {S : Nat → Prop} (h : VOwn base w v) (hf : Fr S w w') (hS : ∀ k, S k → k < base) : VOwn base w' v := by
  have hn : ∀ y, BlkP (base ≤ ·) y → BlkP (fun b => ¬ S b) y := fun y hy => hy.mono (fun b hb e => by have := hS b e; omega)
  exact ⟨h.at_.fr hf (hn _ h.fr), h.fr, h.l.frS hf (fun g hg e => by have := hS g e; have := h.l.ge g hg; omega) (fun y hy => hn y (h.l.fr y hy)), h.m.frS hf (fun g hg e => by have := hS g e; have := h.m.ge g hg; omega) (fun y hy => hn y (h.m.fr y hy)), h.lm, h.ml⟩
theorem fr_five {w : World} {g : Nat} {a b c d e : Value} : Fr (· = g) w (((((w.setCell ⟨g, 0, none⟩ a).setCell ⟨g, 1, none⟩ b).setCell ⟨g, 2, none⟩ c).setCell ⟨g, 3, none⟩ d).setCell ⟨g, 4, none⟩ e) :=
  (((((Fr.refl (· = g) w).setCell (p := ⟨g, 0, none⟩) (fun _ => rfl) _).setCell (p := ⟨g, 1, none⟩) (fun _ => rfl) _).setCell (p := ⟨g, 2, none⟩) (fun _ => rfl) _).setCell (p := ⟨g, 3, none⟩) (fun _ => rfl) _).setCell (p := ⟨g, 4, none⟩) (fun _ => rfl) _
theorem blk_five {w : World} {g : Nat} {t : TypeId} {a b c d e v0 v1 v2 v3 v4 : Value} (h : Blk w g t #[v0, v1, v2, v3, v4]) : Blk (((((w.setCell ⟨g, 0, none⟩ a).setCell ⟨g, 1, none⟩ b).setCell ⟨g, 2, none⟩ c).setCell ⟨g, 3, none⟩ d).setCell ⟨g, 4, none⟩ e) g t #[a, b, c, d, e] :=
  ((((h.set_ 0 _).set_ 1 _).set_ 2 _).set_ 3 _).set_ 4 _
set_option maxRecDepth 100000 in
set_option maxHeartbeats 1000000 in
theorem srtd_any {v : MV} {w : World} (h : Fine w v) (ht : tabU w) : Calls Tryd.prog 8 #[v.val] w fun e w' => PF (OwP (if v.pv.chk = 0 then v.pv.sort else PV.none_) w) e w' := by
  obtain ⟨W2, hW2⟩ : ∃ W2, W2 = ((w.alloc (.cells #[.int .i64 v.k, .int .i64 v.n, .string v.s, .slice v.lA v.l.length v.lc, .slice v.mA v.m.length v.mc] 25)).alloc (.cells #[.int .i64 0, .int .i64 0, .string ⟨#[]⟩, .slice none 0 0, .slice none 0 0] 25)) := ⟨_, rfl⟩
  have hb2 : Below w.heap.size w W2 := by rw [hW2]; exact below_al _ (below_new _ _)
  have hkx : Blk W2 w.heap.size 25 #[.int .i64 v.k, .int .i64 v.n, .string v.s, .slice v.lA v.l.length v.lc, .slice v.mA v.m.length v.mc] := by rw [hW2]; exact (Blk.new _ _ _).alloc _
  have hky : Blk W2 (w.heap.size + 1) 25 #[.int .i64 0, .int .i64 0, .string ⟨#[]⟩, .slice none 0 0, .slice none 0 0] := by
    rw [hW2]
    have h2 := Blk.new (w.alloc (.cells #[.int .i64 v.k, .int .i64 v.n, .string v.s, .slice v.lA v.l.length v.lc, .slice v.mA v.m.length v.mc] 25)) 25 #[.int .i64 0, .int .i64 0, .string ⟨#[]⟩, .slice none 0 0, .slice none 0 0]
    simpa using h2
  have hc := fun V (hV : Below w.heap.size w V) => check_any (h.bel hV) (ht.below hV)
  obtain ⟨C, hC⟩ : ∃ C, C = v.pv.chk := ⟨_, rfl⟩
  rw [← hC] at hc ⊢
  have hs : C = 0 → ∀ V (hV : Below w.heap.size w V), Calls Tryd.prog 28 #[v.val] V fun e w' => PF (SrtP v V) e w' := fun e V hV => sorted_any (v.pv.dep + 1) v V (Nat.lt_succ_self _) (h.at_.bel hV) h.ok (chk_zero.1 (hC.symm.trans e)).2.2
  unfold MV.val at hc hs ⊢
  have HC := Lib.hid hc
  have HS := Lib.hid hs
  have HB2 := Lib.hid hb2
  have HW2 := Lib.hid hW2
  have HKX := Lib.hid hkx
  have HKY := Lib.hid hky
  obtain ⟨P, hP⟩ : ∃ P, P = (if C = 0 then v.pv.sort else PV.none_) := ⟨_, rfl⟩
  rw [← hP]
  have HP := Lib.hid hP
  clear hc hs h ht hC hb2 hW2 hkx hky hP
  go_enter Tryd.func8, Tryd.ntmps8
  go_wp2_with fail
  rw [← HW2.out]
  refine (HC.out _ HB2.out).mono ?_
  rintro e w3 ⟨rfl, hb3⟩
  have HB3 : Hid (Below w.heap.size w w3) := Lib.hid (HB2.out.trans (hb3.mono HB2.out.size))
  have hx3 := HKX.out.below hb3 HKX.out.lt
  have hy3 := HKY.out.below hb3 HKY.out.lt
  obtain ⟨a0, a1, a2, a3, a4⟩ := five_cells hx3
  have HX3 := Lib.hid hx3
  have HY3 := Lib.hid hy3
  clear hb3 hx3 hy3
  by_cases h0 : C = 0
  · have HPP : Hid (v.pv.sort = P) := Lib.hid (by rw [HP.out, if_pos h0])
    have HS3 := Lib.hid (HS.out h0 w3 HB3.out)
    have q1 : (C == 0) = true := by rw [h0]; rfl
    have q2 : (C != 0) = false := by rw [h0]; rfl
    clear h0
    go_wp2_with fail
    refine HS3.out.mono ?_
    rintro e w4 ⟨v', rfl, hpv, hvo, hb4⟩
    unfold MV.val
    have hy4 := HY3.out.below hb4 HY3.out.lt
    have HVO := Lib.hid (hvo.base_le HB3.out.size)
    have HB4 : Hid (Below w.heap.size w w4) := Lib.hid (HB3.out.trans (hb4.mono HB3.out.size))
    have HPV := Lib.hid hpv
    have HV4 : Hid (VOwn w3.heap.size w4 v') := Lib.hid hvo
    have HY4 := Lib.hid hy4
    have HLT : Hid (w.heap.size + 1 < w3.heap.size) := Lib.hid HY3.out.lt
    obtain ⟨t0, t1, t2, t3, t4⟩ := five_cells hy4
    obtain ⟨z0, z1, z2, z3, z4⟩ := five_fr hy4
    clear hpv hvo hb4 hy4 a0 a1 a2 a3 a4
    go_wp2
    have HKF := Lib.hid (blk_five (a := .int .i64 v'.k) (b := .int .i64 v'.n) (c := .string v'.s) (d := .slice v'.lA v'.l.length v'.lc) (e := .slice v'.mA v'.m.length v'.mc) HY4.out)
    have HFF := Lib.hid (fr_five (w := w4) (g := w.heap.size + 1) (a := .int .i64 v'.k) (b := .int .i64 v'.n) (c := .string v'.s) (d := .slice v'.lA v'.l.length v'.lc) (e := .slice v'.mA v'.m.length v'.mc))
    generalize (((((w4.setCell ⟨w.heap.size + 1, 0, none⟩ (.int .i64 v'.k)).setCell ⟨w.heap.size + 1, 1, none⟩ (.int .i64 v'.n)).setCell ⟨w.heap.size + 1, 2, none⟩ (.string v'.s)).setCell ⟨w.heap.size + 1, 3, none⟩ (.slice v'.lA v'.l.length v'.lc)).setCell ⟨w.heap.size + 1, 4, none⟩ (.slice v'.mA v'.m.length v'.mc)) = Wf at HKF HFF ⊢
    obtain ⟨k0, k1, k2, k3, k4⟩ := five_cells HKF.out
    refine bodyPost_ret (v := v'.val) (by simp [results, Tryd.results8, go_sem, k0, k1, k2, k3, k4, MV.val]) rfl ?_
    exact ⟨v', rfl, HPV.out.trans HPP.out, (HV4.out.fr_low HFF.out (fun k e => by have := HLT.out; rw [show k = w.heap.size + 1 from e]; exact this)).base_le HB3.out.size, Fr.below_trans HB4.out HFF.out HB4.out.size (fun b e => by rw [show b = w.heap.size + 1 from e]; omega)⟩
  · have HPP : Hid (PV.none_ = P) := Lib.hid (by rw [HP.out, if_neg h0])
    have q1 : (C == 0) = false := by rw [beq_eq_false_iff_ne]; exact h0
    have q2 : (C != 0) = true := by rw [bne_iff_ne]; exact h0
    obtain ⟨t0, t1, t2, t3, t4⟩ := five_cells HY3.out
    obtain ⟨z0, z1, z2, z3, z4⟩ := five_fr HY3.out
    clear h0 a0 a1 a2 a3 a4
    go_wp2
    have HKF := Lib.hid (blk_five (a := .int .i64 0) (b := .int .i64 0) (c := .string ⟨#[]⟩) (d := .slice none 0 0) (e := .slice none 0 0) HY3.out)
    have HFF := Lib.hid (fr_five (w := w3) (g := w.heap.size + 1) (a := .int .i64 0) (b := .int .i64 0) (c := .string ⟨#[]⟩) (d := .slice none 0 0) (e := .slice none 0 0))
    generalize (((((w3.setCell ⟨w.heap.size + 1, 0, none⟩ (.int .i64 0)).setCell ⟨w.heap.size + 1, 1, none⟩ (.int .i64 0)).setCell ⟨w.heap.size + 1, 2, none⟩ (.string ⟨#[]⟩)).setCell ⟨w.heap.size + 1, 3, none⟩ (.slice none 0 0)).setCell ⟨w.heap.size + 1, 4, none⟩ (.slice none 0 0)) = Wf at HKF HFF ⊢
    obtain ⟨k0, k1, k2, k3, k4⟩ := five_cells HKF.out
    refine bodyPost_ret (v := MV.none_.val) (by simp [results, Tryd.results8, go_sem, k0, k1, k2, k3, k4, MV.val, MV.none_, MV.k, MV.n, MV.s, MV.lA, MV.lc, MV.l, MV.mA, MV.mc, MV.m]) rfl ?_
    exact ⟨MV.none_, rfl, (show MV.none_.pv = PV.none_ from rfl).trans HPP.out, VOwn.none_ _ _, Fr.below_trans HB3.out HFF.out HB3.out.size (fun b e => by rw [show b = w.heap.size + 1 from e]; omega)⟩
noncomputable def sameP (a b : PV) : Bool := decide (a.chk = 0) && (decide (b.chk = 0) && decide (a.sort = b.sort))
set_option maxRecDepth 100000 in
set_option maxHeartbeats 2000000 in
theorem same_any {a b : MV} {w : World} (h : Fine w a) (h' : Fine w b) (ht : tabU w) : Calls Tryd.prog 9 #[a.val, b.val] w fun e w' => PF (RiP (sameP a.pv b.pv) w) e w' := by
  obtain ⟨W2, hW2⟩ : ∃ W2, W2 = ((w.alloc (.cells #[.int .i64 a.k, .int .i64 a.n, .string a.s, .slice a.lA a.l.length a.lc, .slice a.mA a.m.length a.mc] 25)).alloc (.cells #[.int .i64 b.k, .int .i64 b.n, .string b.s, .slice b.lA b.l.length b.lc, .slice b.mA b.m.length b.mc] 25)) := ⟨_, rfl⟩
  have hb2 : Below w.heap.size w W2 := by rw [hW2]; exact below_al _ (below_new _ _)
  have hkx : Blk W2 w.heap.size 25 #[.int .i64 a.k, .int .i64 a.n, .string a.s, .slice a.lA a.l.length a.lc, .slice a.mA a.m.length a.mc] := by rw [hW2]; exact (Blk.new _ _ _).alloc _
  have hky : Blk W2 (w.heap.size + 1) 25 #[.int .i64 b.k, .int .i64 b.n, .string b.s, .slice b.lA b.l.length b.lc, .slice b.mA b.m.length b.mc] := by
    rw [hW2]
    have h2 := Blk.new (w.alloc (.cells #[.int .i64 a.k, .int .i64 a.n, .string a.s, .slice a.lA a.l.length a.lc, .slice a.mA a.m.length a.mc] 25)) 25 #[.int .i64 b.k, .int .i64 b.n, .string b.s, .slice b.lA b.l.length b.lc, .slice b.mA b.m.length b.mc]
    simpa using h2
  have hc := fun V (hV : Below w.heap.size w V) => check_any (h.bel hV) (ht.below hV)
  have hc' := fun V (hV : Below w.heap.size w V) => check_any (h'.bel hV) (ht.below hV)
  obtain ⟨C, hC⟩ : ∃ C, C = a.pv.chk := ⟨_, rfl⟩
  obtain ⟨D, hD⟩ : ∃ D, D = b.pv.chk := ⟨_, rfl⟩
  have hs : C = 0 → ∀ V (hV : Below w.heap.size w V), Calls Tryd.prog 28 #[a.val] V fun e w' => PF (SrtP a V) e w' := fun e V hV => sorted_any (a.pv.dep + 1) a V (Nat.lt_succ_self _) (h.at_.bel hV) h.ok (chk_zero.1 (hC.symm.trans e)).2.2
  have hs' : D = 0 → ∀ V (hV : Below w.heap.size w V), Calls Tryd.prog 28 #[b.val] V fun e w' => PF (SrtP b V) e w' := fun e V hV => sorted_any (b.pv.dep + 1) b V (Nat.lt_succ_self _) (h'.at_.bel hV) h'.ok (chk_zero.1 (hD.symm.trans e)).2.2
  obtain ⟨R, hR⟩ : ∃ R, R = sameP a.pv b.pv := ⟨_, rfl⟩
  rw [← hC] at hc
  rw [← hD] at hc'
  rw [← hR]
  have HR : Hid (R = (decide (C = 0) && (decide (D = 0) && decide (a.pv.sort = b.pv.sort)))) := Lib.hid (by rw [hR, hC, hD]; rfl)
  unfold MV.val at hc hc' hs hs' ⊢
  have HC := Lib.hid hc
  have HC' := Lib.hid hc'
  have HS := Lib.hid hs
  have HS' := Lib.hid hs'
  have HB2 := Lib.hid hb2
  have HW2 := Lib.hid hW2
  have HKX := Lib.hid hkx
  have HKY := Lib.hid hky
  clear hc hc' hs hs' h h' ht hC hD hR hb2 hW2 hkx hky
  by_cases h0 : C = 0
  rotate_left
  · have q1 : (C == 0) = false := by rw [beq_eq_false_iff_ne]; exact h0
    have q2 : (C != 0) = true := by rw [bne_iff_ne]; exact h0
    have HF : Hid (R = false) := Lib.hid (by rw [HR.out, decide_eq_false h0]; rfl)
    clear h0
    go_enter Tryd.func9, Tryd.ntmps9
    go_wp2_with fail
    rw [← HW2.out]
    refine (HC.out _ HB2.out).mono ?_
    rintro e w3 ⟨rfl, hb3⟩
    have HB3 : Hid (Below w.heap.size w w3) := Lib.hid (HB2.out.trans (hb3.mono HB2.out.size))
    clear hb3
    go_wp2
    go_ret
    exact ⟨by rw [HF.out]; rfl, HB3.out⟩
  have q1 : (C == 0) = true := by rw [h0]; rfl
  have q2 : (C != 0) = false := by rw [h0]; rfl
  have H0 := Lib.hid h0
  clear h0
  go_enter Tryd.func9, Tryd.ntmps9
  go_wp2_with fail
  rw [← HW2.out]
  refine (HC.out _ HB2.out).mono ?_
  rintro e w3 ⟨rfl, hb3⟩
  have HB3 : Hid (Below w.heap.size w w3) := Lib.hid (HB2.out.trans (hb3.mono HB2.out.size))
  have hx3 := HKX.out.below hb3 HKX.out.lt
  have hy3 := HKY.out.below hb3 HKY.out.lt
  obtain ⟨a0, a1, a2, a3, a4⟩ := five_cells hy3
  have HX3 := Lib.hid hx3
  have HY3 := Lib.hid hy3
  clear hb3 hx3 hy3
  go_wp2_with fail
  refine (HC'.out _ HB3.out).mono ?_
  rintro e w4 ⟨rfl, hb4⟩
  have HB4 : Hid (Below w.heap.size w w4) := Lib.hid (HB3.out.trans (hb4.mono HB3.out.size))
  have HX4 := Lib.hid (HX3.out.below hb4 HX3.out.lt)
  have HY4 := Lib.hid (HY3.out.below hb4 HY3.out.lt)
  clear hb4 a0 a1 a2 a3 a4
  by_cases h1 : D = 0
  rotate_left
  · have q3 : (D == 0) = false := by rw [beq_eq_false_iff_ne]; exact h1
    have q4 : (D != 0) = true := by rw [bne_iff_ne]; exact h1
    have HF : Hid (R = false) := Lib.hid (by rw [HR.out, decide_eq_false h1]; simp)
    clear h1
    go_wp2
    go_ret
    exact ⟨by rw [HF.out]; rfl, HB4.out⟩
  have q3 : (D == 0) = true := by rw [h1]; rfl
  have q4 : (D != 0) = false := by rw [h1]; rfl
  have HSA := Lib.hid (HS.out H0.out)
  have HSB := Lib.hid (HS'.out h1)
  have HRR : Hid (R = decide (a.pv.sort = b.pv.sort)) := Lib.hid (by rw [HR.out, decide_eq_true H0.out, decide_eq_true h1]; rfl)
  clear h1
  go_wp2
  clear q1 q2 q3 q4
  have HSV : Hid (∀ V, Below w4.heap.size w4 V → (V.cell? ⟨w.heap.size, 0, none⟩ = some (.int .i64 a.k) ∧ V.cell? ⟨w.heap.size, 1, none⟩ = some (.int .i64 a.n) ∧ V.cell? ⟨w.heap.size, 2, none⟩ = some (.string a.s) ∧ V.cell? ⟨w.heap.size, 3, none⟩ = some (.slice a.lA a.l.length a.lc) ∧ V.cell? ⟨w.heap.size, 4, none⟩ = some (.slice a.mA a.m.length a.mc)) ∧ (V.cell? ⟨w.heap.size + 1, 0, none⟩ = some (.int .i64 b.k) ∧ V.cell? ⟨w.heap.size + 1, 1, none⟩ = some (.int .i64 b.n) ∧ V.cell? ⟨w.heap.size + 1, 2, none⟩ = some (.string b.s) ∧ V.cell? ⟨w.heap.size + 1, 3, none⟩ = some (.slice b.lA b.l.length b.lc) ∧ V.cell? ⟨w.heap.size + 1, 4, none⟩ = some (.slice b.mA b.m.length b.mc))) := Lib.hid (fun V hV => ⟨five_cells (HX4.out.below hV HX4.out.lt), five_cells (HY4.out.below hV HY4.out.lt)⟩)
  refine wp_region_held_drew (S := fun V => Below w4.heap.size w4 V) (by kernel_rfl) ((Below.refl _ _).drew) (fun hS1 => ?_)
  refine wpAnyH_take (i := 0) (oi := ⟨some 13, _, _, _, _, _⟩) (v := .agg #[.int .i64 a.k, .int .i64 a.n, .string a.s, .slice a.lA a.l.length a.lc, .slice a.mA a.m.length a.mc]) rfl (by kernel_rfl) (by kernel_rfl) (by kernel_rfl) (fun _ _ _ h => h) (.inl ⟨by kernel_rfl, fun V hS => by obtain ⟨⟨h0, h1, h2, h3, h4⟩, _⟩ := HSV.out V hS; go_simp⟩) hS1 ?_
  simp only [Act.put, List.setIfInBounds_toArray, List.set_cons_zero, List.set_cons_succ]
  refine wpAnyH_take (i := 2) (oi := ⟨some 15, _, _, _, _, _⟩) (v := .agg #[.int .i64 b.k, .int .i64 b.n, .string b.s, .slice b.lA b.l.length b.lc, .slice b.mA b.m.length b.mc]) rfl (by kernel_rfl) (by kernel_rfl) (by kernel_rfl) (fun _ _ _ h => h) (.inl ⟨by kernel_rfl, fun V hS => by obtain ⟨_, ⟨h0, h1, h2, h3, h4⟩⟩ := HSV.out V hS; go_simp⟩) hS1 ?_
  simp only [Act.put, List.setIfInBounds_toArray, List.set_cons_zero, List.set_cons_succ]
  refine wpAnyH_ready (rs := [1]) (by kernel_rfl) (by simp) ?_
  refine AllReadyH.cons rfl (fun K' hK => ?_) AllReadyH.nil
  go_simp
  refine (HSA.out _ (HB4.out.trans ((hS1).mono HB4.out.size))).mono ?_
  rintro e w5 ⟨a', rfl, hpa, hva, hb5⟩
  unfold MV.val
  have HPA := Lib.hid hpa
  have HVA := Lib.hid hva
  clear hpa hva
  go_simp
  refine hK.out _ _ ((hS1).trans (hb5.mono (hS1).size)) (fun hS2 => ?_)
  clear hK K' hS1
  refine wpAnyH_ready (rs := [3]) (by kernel_rfl) (by simp) ?_
  refine AllReadyH.cons rfl (fun K' hK => ?_) AllReadyH.nil
  go_simp
  refine (HSB.out _ (HB4.out.trans ((hS2).mono HB4.out.size))).mono ?_
  rintro e w6 ⟨b', rfl, hpb, hvb, hb6⟩
  unfold MV.val
  have HPB := Lib.hid hpb
  have HVB := Lib.hid hvb
  have HVA6 := Lib.hid (HVA.out.at_.bel hb6)
  clear hpb hvb
  go_simp
  refine hK.out _ _ ((hS2).trans (hb6.mono (hS2).size)) (fun hS3 => ?_)
  clear hK K' hS2
  refine wpAnyH_ready (rs := [4]) (by kernel_rfl) (by simp) ?_
  refine AllReadyH.cons rfl (fun K' hK => ?_) AllReadyH.nil
  go_simp
  have hcall := equal_any (a'.dep + 1) a' b' w6 (Nat.lt_succ_self _) HVA6.out HVB.out.at_
  unfold MV.val at hcall
  obtain ⟨r9, hr9⟩ : ∃ r9, r9 = decide (a'.pv = b'.pv) := ⟨_, rfl⟩
  rw [← hr9] at hcall
  have HR9 := Lib.hid hr9
  clear hr9
  refine hcall.mono ?_
  clear hcall
  rintro e w7 ⟨rfl, hb7⟩
  go_simp
  refine hK.out _ _ ((hS3).trans (hb7.mono (hS3).size)) (fun hS4 => ?_)
  clear hK K' hS3
  refine wpAnyH_take (i := 5) (oi := ⟨some 4, _, _, _, _, _⟩) (v := (.bool r9)) rfl (by kernel_rfl) (by kernel_rfl) (by kernel_rfl) (fun _ _ _ h => h) (.inl ⟨by kernel_rfl, fun V hS => by go_simp⟩) hS4 ?_
  simp only [Act.put, List.setIfInBounds_toArray, List.set_cons_zero, List.set_cons_succ]
  refine wpAnyH_done (by kernel_rfl) ?_ _
  have HBE : Hid (Below w.heap.size w w7) := Lib.hid (HB4.out.trans (hS4.mono HB4.out.size))
  clear hS4
  have HE9 : Hid (r9 = R) := Lib.hid (by rw [HRR.out, HR9.out, HPA.out, HPB.out])
  go_wp2
  go_ret
  exact ⟨by rw [HE9.out]; rfl, HBE.out⟩
end Go.Proofs.YteodigdcdhceiaaDoor
