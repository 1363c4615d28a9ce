/-
 The document's HeadValue, where it may be.
-/
import Derived.Test.YtefkpphahimkgaaGreatDoorTk
import Derived.Test.YtefkpphahimkgaaGreatDoorLiD2
import Derived.Test.YtefkpphahimkgaaGreatDoorDateW3
namespace Go.Proofs.YtefkpphahimkgaaGreatDoor
open Go.RowKit
attribute [local go_sem ↓] Go.wp_at_zero Go.wp_at_succ
set_option linter.unusedVariables false
set_option linter.unusedSimpArgs false
theorem leaf_tx {x : MV} {s : ByteArray} (h : x.pv = txV s) : Leaf x ∧ x.k = 4 := by
 cases x with
 | mk key k n s' lA lc l mA mc m =>
  rw [MV.pv] at h
  unfold txV at h
  injection h with h1 h2 h3 h4 h5 h6
  refine ⟨⟨?_, ?_⟩, h1⟩
  ·cases l with
   | nil => rfl
   | cons a b => rw [MV.pvL] at h4; cases h4
  ·cases m with
   | nil => rfl
   | cons a b => rw [MV.pvL] at h6; cases h6
theorem leaf_in {x : MV} {n0 : Int} (h : x.pv = inV n0) : Leaf x ∧ x.k = 3 := by
 cases x with
 | mk key k n s' lA lc l mA mc m =>
  rw [MV.pv] at h
  unfold inV at h
  injection h with h1 h2 h3 h4 h5 h6
  refine ⟨⟨?_, ?_⟩, h1⟩
  ·cases l with
   | nil => rfl
   | cons a b => rw [MV.pvL] at h4; cases h4
  ·cases m with
   | nil => rfl
   | cons a b => rw [MV.pvL] at h6; cases h6
theorem all4 {P : MV → Prop} {a b c d : MV} (ha : P a) (hb : P b) (hc : P c) (hd : P d) : ∀ x ∈ [a, b, c, d], P x := fun x hx => by
 simp only [List.mem_cons, List.not_mem_nil, or_false] at hx
 rcases hx with h | h | h | h <;> rw [h] <;> assumption
theorem mpA_mk {w : World} {Q0 Q1 : Nat} {ks : List ByteArray} {l : List MV} {c0 c1 : Array Value} (h0 : Blk w Q0 9 c0) (e0 : c0 = (ks.map Value.string).toArray) (h1 : Blk w Q1 30 c1) (e1 : c1 = (l.flatMap MV.cs).toArray) {n : Nat} (hk : ks.length = n) (hl : l.length = n) (hat : ∀ x ∈ l, VAt w x) (hlf : ∀ x ∈ l, Leaf x) : MpA w (some ⟨Q0, 0, none⟩) (some ⟨Q1, 0, none⟩) n ks l := by
 subst e0 e1
 refine ⟨⟨by rw [List.length_map, hk, Nat.mul_one], fun _ => ⟨_, rfl, h0.lt, fun j u hu => ?_⟩⟩, ⟨by rw [csL_len, hl], fun _ => ⟨_, rfl, h1.lt, fun j u hu => ?_⟩⟩, hk, hl, hat, hlf⟩
 ·rw [Addr.add_lit, Nat.zero_add, h0.cell j]
  simpa using hu
 ·rw [Addr.add_lit, Nat.zero_add, h1.cell j]
  simpa using hu
def headR (kind : ByteArray) (v : Int) (tx : ByteArray) : PV := mpV [tyK, exK, spK, veK] [txV kind, txV tx, txV spT, inV v]
theorem dt_bounds {e y m d : Int} (hm : mayB e = true) (hc : Cal.Civ (e / 86400 + 719162) y m d) : (0 ≤ y ∧ y ≤ 9999 ∧ 1 ≤ m ∧ m ≤ 12 ∧ 1 ≤ d ∧ d ≤ 31) ∧ (0 ≤ hhT e ∧ hhT e ≤ 23 ∧ 0 ≤ mmT e ∧ mmT e ≤ 59 ∧ 0 ≤ ssT e ∧ ssT e ≤ 59) := by
 obtain ⟨i1, i2, i3, i4, i5, i6⟩ := civ_dim hc
 exact ⟨⟨by omega, i2, i3, i4, i5, i6⟩, hms_bd e⟩
set_option maxRecDepth 100000 in
set_option maxHeartbeats 16000000 in
theorem rheadValue_yes {w : World} (kind : ByteArray) (v e0 : Int) (tx : ByteArray) (hd : DT e0 tx) (h : headOk kind v e0 = true) :
  Calls Tryz.prog 38 #[.string kind, .int .i64 v, .int .i64 e0] w fun e w' => PF (MpP (headR kind v tx) w) e w' := by
 obtain ⟨hmb, y, m, d, hc, htx⟩ := hd
 obtain ⟨⟨y0, y1, y2, y3, y4, y5⟩, ⟨t0, t1, t2, t3, t4, t5⟩⟩ := dt_bounds hmb hc
 have hciv := fun V => rcivil_yes e0 y m d V hmb hc
 have hrtx := fun V => rtext_any y m d (hhT e0) (mmT e0) (ssT e0) V y0 y1 y2 y3 y4 y5 t0 t1 t2 t3 t4 t5
 rw [← htx] at hrtx
 unfold dateV at hciv hrtx
 obtain ⟨ha, hha⟩ : ∃ ha, ha = hhT e0 := ⟨_, rfl⟩
 obtain ⟨hb, hhb⟩ : ∃ hb, hb = mmT e0 := ⟨_, rfl⟩
 obtain ⟨hs, hhs⟩ : ∃ hs, hs = ssT e0 := ⟨_, rfl⟩
 rw [← hha, ← hhb, ← hhs] at hciv hrtx
 unfold headOk at h
 simp only [Bool.and_eq_true, decide_eq_true_eq] at h
 obtain ⟨-, hv1, hv2, hks, hval⟩ := h
 have hrv := fun V => rvalid_any kind V (by omega)
 rw [hval] at hrv
 have d1 : decide (v < 1) = false := decide_eq_false (by omega)
 have d2 : decide (v > 1099511627776) = false := decide_eq_false (by omega)
 have d2' : decide (1099511627776 < v) = false := decide_eq_false (by omega)
 have d3 : decide ((kind.size : Int) > 64) = false := decide_eq_false (by omega)
 have d3' : decide ((64 : Int) < (kind.size : Int)) = false := decide_eq_false (by omega)
 have d3n : decide (64 < kind.size) = false := decide_eq_false (by omega)
 have hvw : (Lit.int .i64 v).wf = true := wf_small (by omega) (by omega)
 obtain ⟨W1, hW1⟩ : ∃ W1, W1 = w.alloc (.cells #[.int .i64 0, .int .i64 0, .string ⟨#[]⟩, .slice none 0 0, .slice none 0 0] 30) := ⟨_, rfl⟩
 have hb1 : Below w.heap.size w W1 := by rw [hW1]; exact below_new _ _
 have hk1 : Blk W1 w.heap.size 30 #[.int .i64 0, .int .i64 0, .string ⟨#[]⟩, .slice none 0 0, .slice none 0 0] := by rw [hW1]; exact Blk.new _ _ _
 have HW1 := Ld hW1
 have HB1 := Ld hb1
 have HK1 := Ld hk1
 have HCIV := Ld hciv
 have HRTX := Ld hrtx
 have HRV := Ld hrv
 have HVW := Ld hvw
 clear hb1 hk1 hW1 hciv hrtx hrv hvw hmb hc htx y0 y1 y2 y3 y4 y5 t0 t1 t2 t3 t4 t5 hha hhb hhs hv1 hv2 hks hval
 go_enter Tryz.func38, Tryz.ntmps38
 go_wp2_with fail
 rw [← HW1.out]
 refine (HCIV.out _).mono ?_
 rintro e w2 ⟨rfl, hb2⟩
 obtain ⟨W3, hW3⟩ : ∃ W3, W3 = w2.alloc (.cells #[.int .i64 y, .int .i64 m, .int .i64 d, .int .i64 ha, .int .i64 hb, .int .i64 hs] 103) := ⟨_, rfl⟩
 obtain ⟨D, hD⟩ : ∃ D, D = w2.heap.size := ⟨_, rfl⟩
 have hb3 : Below w2.heap.size w2 W3 := by rw [hW3]; exact (Below.refl _ _).alloc (Nat.le_refl _) _
 have hb13 : Below W1.heap.size W1 W3 := hb2.trans (hb3.mono hb2.size)
 have HB3 := Ld (HB1.out.trans (hb13.mono HB1.out.size))
 have HK3 := Ld (HK1.out.below hb13 HK1.out.lt)
 have HD3 : Hid (Blk W3 D 103 #[.int .i64 y, .int .i64 m, .int .i64 d, .int .i64 ha, .int .i64 hb, .int .i64 hs]) := Ld (by rw [hW3, hD]; exact Blk.new _ _ _)
 have HW3 := Ld hW3
 have HDD := Ld hD
 clear hb2 hW3 hD hb3 hb13 HCIV
 go_upto_region 2 with (fail)
 rw [← HDD.out, ← HW3.out]
 go_wp2_with fail
 refine (HRV.out _).mono ?_
 rintro e w4 ⟨rfl, hb4⟩
 have HB4 := Ld (HB3.out.trans (hb4.mono HB3.out.size))
 have HK4 := Ld (HK3.out.below hb4 HK3.out.lt)
 have HDC : Hid (∀ V, Below w4.heap.size w4 V → V.cell? ⟨D, 0, none⟩ = some (.int .i64 y) ∧ V.cell? ⟨D, 1, none⟩ = some (.int .i64 m) ∧ V.cell? ⟨D, 2, none⟩ = some (.int .i64 d) ∧ V.cell? ⟨D, 3, none⟩ = some (.int .i64 ha) ∧ V.cell? ⟨D, 4, none⟩ = some (.int .i64 hb) ∧ V.cell? ⟨D, 5, none⟩ = some (.int .i64 hs)) := Ld (fun V hV => by
  have h9 := HD3.out.below (hb4.trans (hV.mono hb4.size)) HD3.out.lt
  exact ⟨h9.cell 0, h9.cell 1, h9.cell 2, h9.cell 3, h9.cell 4, h9.cell 5⟩)
 clear hb4 HRV HK3 HB3 HD3
 go_wp2
 refine wp_region_last (S := fun V => Below w4.heap.size w4 V) (st := 11) (n := 11) (by kernel_rfl) rfl (by kernel_rfl) rfl ((Below.refl _ _).drew) (fun hS1 => ?_)
 generalize w4.drew = WD at hS1 ⊢
 refine tk 1 (some 36) (.string kind) rfl (fun V hS => by go_simp) hS1 ?_
 simp only [nf]
 refine tk 3 (some 38) (.agg #[.int .i64 y, .int .i64 m, .int .i64 d, .int .i64 ha, .int .i64 hb, .int .i64 hs]) rfl (fun V hS => by obtain ⟨h0, h1, h2, h3, h4, h5⟩ := HDC.out V hS; go_simp) hS1 ?_
 simp only [nf]
 refine tk 7 (some 42) (.int .i64 v) rfl (fun V hS => by go_simp) hS1 ?_
 simp only [nf]
 refine wpAnyH_ready (rs := [0, 2]) (by kernel_rfl) (by simp) ?_
 refine AllReadyH.cons rfl (fun K' hK => ?_) (AllReadyH.cons rfl (fun K' hK => ?_) AllReadyH.nil)
 ·go_simp
  obtain ⟨wx1, hw1⟩ : ∃ w2, w2 = WD.alloc (.cells #[.string ⟨#[95, 116, 121, 112, 101]⟩, .string ⟨#[101, 120, 112, 105, 114, 101, 115]⟩, .string ⟨#[115, 112, 101, 99, 95, 118, 101, 114, 115, 105, 111, 110]⟩, .string ⟨#[118, 101, 114, 115, 105, 111, 110]⟩] 9) := ⟨_, rfl⟩
  rw [← hw1]
  have hb1 : Below WD.heap.size WD wx1 := by rw [hw1]; exact (Below.refl _ _).alloc (Nat.le_refl _) _
  obtain ⟨Q0, hQ1⟩ : ∃ Q0, Q0 = WD.heap.size := ⟨_, rfl⟩
  rw [← hQ1]
  have HK1 : Hid (Blk wx1 Q0 9 #[.string ⟨#[95, 116, 121, 112, 101]⟩, .string ⟨#[101, 120, 112, 105, 114, 101, 115]⟩, .string ⟨#[115, 112, 101, 99, 95, 118, 101, 114, 115, 105, 111, 110]⟩, .string ⟨#[118, 101, 114, 115, 105, 111, 110]⟩]) := Ld (by rw [hw1, hQ1]; exact Blk.new _ _ _)
  clear hw1 hQ1
  refine hK.out _ _ ((hS1).trans (hb1.mono (hS1).size)) (fun hS2 => ?_)
  clear hK K' hS1
  try simp only [nf]
  refine rd1 2 rfl (fun K' hK => ?_)
  go_simp
  refine (rText_any kind wx1).mono ?_
  rintro e2 wx2 ⟨y1, rfl, hp2, ho2, hb2⟩
  unfold MV.val
  have HV2 : Hid (VAt wx2 y1) := Ld ho2.at_
  have HPy1 := Ld hp2
  have HF3 := Ld (HK1.out.below hb2 HK1.out.lt)
  clear hp2 ho2
  go_simp
  refine hK.out _ _ ((hS2).trans (hb2.mono (hS2).size)) (fun hS3 => ?_)
  clear hK K' hS2
  try simp only [nf]
  refine rd1 4 rfl (fun K' hK => ?_)
  go_simp
  refine (HRTX.out wx2).mono ?_
  rintro e4 wx4 ⟨rfl, hb4⟩
  have HF5 := Ld (HF3.out.below hb4 HF3.out.lt)
  have HF6 := Ld (HV2.out.bel hb4)
  go_simp
  refine hK.out _ _ ((hS3).trans (hb4.mono (hS3).size)) (fun hS4 => ?_)
  clear hK K' hS3
  try simp only [nf]
  refine rd1 5 rfl (fun K' hK => ?_)
  go_simp
  refine (rText_any tx wx4).mono ?_
  rintro e7 wx7 ⟨y2, rfl, hp7, ho7, hb7⟩
  unfold MV.val
  have HV7 : Hid (VAt wx7 y2) := Ld ho7.at_
  have HPy2 := Ld hp7
  have HF8 := Ld (HF5.out.below hb7 HF5.out.lt)
  have HF9 := Ld (HF6.out.bel hb7)
  clear hp7 ho7
  go_simp
  refine hK.out _ _ ((hS4).trans (hb7.mono (hS4).size)) (fun hS5 => ?_)
  clear hK K' hS4
  try simp only [nf]
  refine rd1 6 rfl (fun K' hK => ?_)
  go_simp
  refine (rText_any spT wx7).mono ?_
  rintro e10 wx10 ⟨y3, rfl, hp10, ho10, hb10⟩
  unfold MV.val
  have HV10 : Hid (VAt wx10 y3) := Ld ho10.at_
  have HPy3 := Ld hp10
  have HF11 := Ld (HF8.out.below hb10 HF8.out.lt)
  have HF12 := Ld (HF9.out.bel hb10)
  have HF13 := Ld (HV7.out.bel hb10)
  clear hp10 ho10
  go_simp
  refine hK.out _ _ ((hS5).trans (hb10.mono (hS5).size)) (fun hS6 => ?_)
  clear hK K' hS5
  try simp only [nf]
  refine rd1 8 rfl (fun K' hK => ?_)
  go_simp
  refine (rInt_any v wx10 HVW.out).mono ?_
  rintro e14 wx14 ⟨y4, rfl, hp14, ho14, hb14⟩
  unfold MV.val
  have HV14 : Hid (VAt wx14 y4) := Ld ho14.at_
  have HPy4 := Ld hp14
  have HF15 := Ld (HF11.out.below hb14 HF11.out.lt)
  have HF16 := Ld (HF12.out.bel hb14)
  have HF17 := Ld (HF13.out.bel hb14)
  have HF18 := Ld (HV10.out.bel hb14)
  clear hp14 ho14
  go_simp
  refine hK.out _ _ ((hS6).trans (hb14.mono (hS6).size)) (fun hS7 => ?_)
  clear hK K' hS6
  try simp only [nf]
  refine rd1 9 rfl (fun K' hK => ?_)
  go_simp
  obtain ⟨wx19, hw19⟩ : ∃ w2, w2 = wx14.alloc (.cells #[.int .i64 y1.k, .int .i64 y1.n, .string y1.s, .slice y1.lA y1.l.length y1.lc, .slice y1.mA y1.m.length y1.mc, .int .i64 y2.k, .int .i64 y2.n, .string y2.s, .slice y2.lA y2.l.length y2.lc, .slice y2.mA y2.m.length y2.mc, .int .i64 y3.k, .int .i64 y3.n, .string y3.s, .slice y3.lA y3.l.length y3.lc, .slice y3.mA y3.m.length y3.mc, .int .i64 y4.k, .int .i64 y4.n, .string y4.s, .slice y4.lA y4.l.length y4.lc, .slice y4.mA y4.m.length y4.mc] 30) := ⟨_, rfl⟩
  rw [← hw19]
  have hb19 : Below wx14.heap.size wx14 wx19 := by rw [hw19]; exact (Below.refl _ _).alloc (Nat.le_refl _) _
  obtain ⟨Q1, hQ19⟩ : ∃ Q1, Q1 = wx14.heap.size := ⟨_, rfl⟩
  rw [← hQ19]
  have HU19 : Hid (Blk wx19 Q1 30 #[.int .i64 y1.k, .int .i64 y1.n, .string y1.s, .slice y1.lA y1.l.length y1.lc, .slice y1.mA y1.m.length y1.mc, .int .i64 y2.k, .int .i64 y2.n, .string y2.s, .slice y2.lA y2.l.length y2.lc, .slice y2.mA y2.m.length y2.mc, .int .i64 y3.k, .int .i64 y3.n, .string y3.s, .slice y3.lA y3.l.length y3.lc, .slice y3.mA y3.m.length y3.mc, .int .i64 y4.k, .int .i64 y4.n, .string y4.s, .slice y4.lA y4.l.length y4.lc, .slice y4.mA y4.m.length y4.mc]) := Ld (by rw [hw19, hQ19]; exact Blk.new _ _ _)
  have HF20 := Ld (HF15.out.below hb19 HF15.out.lt)
  have HF21 := Ld (HF16.out.bel hb19)
  have HF22 := Ld (HF17.out.bel hb19)
  have HF23 := Ld (HF18.out.bel hb19)
  have HF24 := Ld (HV14.out.bel hb19)
  clear hw19 hQ19
  refine hK.out _ _ ((hS7).trans (hb19.mono (hS7).size)) (fun hS8 => ?_)
  clear hK K' hS7
  try simp only [nf]
  refine rd1 10 rfl (fun K' hK => ?_)
  go_simp
  refine (rmap_any [tyK, exK, spK, veK] [y1, y2, y3, y4] (some ⟨Q0, 0, none⟩) (some ⟨Q1, 0, none⟩) 4 4 4 wx19 (mpA_mk (ks := [tyK, exK, spK, veK]) (l := [y1, y2, y3, y4]) HF20.out rfl HU19.out rfl rfl rfl (all4 HF21.out HF22.out HF23.out HF24.out) (all4 (leaf_tx HPy1.out).1 (leaf_tx HPy2.out).1 (leaf_tx HPy3.out).1 (leaf_in HPy4.out).1)) (by omega)).mono ?_
  rintro e25 wx25 ⟨x', rfl, hpx, hl1, hl2, hl3, hvo, hb25⟩
  unfold MV.val
  have HPX : Hid (x'.pv = headR kind v tx) := Ld (hpx.trans (by rw [MV.pvL, MV.pvL, MV.pvL, MV.pvL, MV.pvL, HPy1.out, HPy2.out, HPy3.out, HPy4.out]; rfl))
  have HNL : Hid (x'.l = [] ∧ x'.lA = none ∧ x'.lc = 0) := Ld ⟨hl1, hl2, hl3⟩
  have HVO : Hid (VOwn wx19.heap.size wx25 x' ∧ w.heap.size < wx19.heap.size) := Ld ⟨hvo, Nat.lt_of_lt_of_le HK4.out.lt (hS8).size⟩
  clear hpx hl1 hl2 hl3 hvo
  go_simp
  refine hK.out _ _ ((hS8).trans (hb25.mono (hS8).size)) (fun hS9 => ?_)
  clear hK K' hS8
  try simp only [nf]
  refine wpAnyH_done (by kernel_rfl) ?_ _
  refine lastQ_normal (wpOp_step rfl (fun K' hK => ?_))
  have h9 := HK4.out.below hS9 HK4.out.lt
  obtain ⟨t0, t1, t2, t3, t4⟩ := five_cells h9
  obtain ⟨z0, z1, z2, z3, z4⟩ := five_fr h9
  have HN2 := Ld (own_stM (w := w) (p := headR kind v tx) h9 (Nat.le_refl _) HVO.out.2 HVO.out.1 (HB4.out.trans ((hS9).mono HB4.out.size)) (Nat.le_of_lt HVO.out.2) HPX.out HNL.out)
  clear h9
  go_simp
  refine hK _ _ ?_
  clear hK K' hS9 z0 z1 z2 z3 z4 t0 t1 t2 t3 t4
  generalize (((((wx25.setCell ⟨w.heap.size, 0, none⟩ (.int .i64 x'.k)).setCell ⟨w.heap.size, 1, none⟩ (.int .i64 x'.n)).setCell ⟨w.heap.size, 2, none⟩ (.string x'.s)).setCell ⟨w.heap.size, 3, none⟩ (.slice x'.lA x'.l.length x'.lc)).setCell ⟨w.heap.size, 4, none⟩ (.slice x'.mA x'.m.length x'.mc)) = WE at HN2 ⊢
  go_wp2
  obtain ⟨k0, k1, k2, k3, k4⟩ := five_cells HN2.out.1
  refine bodyPost_ret (v := x'.val) (by simp [results, Tryz.results38, go_sem, k0, k1, k2, k3, k4, MV.val]) rfl ?_
  exact HN2.out.2
 ·go_simp
  refine (rText_any kind WD).mono ?_
  rintro e26 wx26 ⟨y1, rfl, hp26, ho26, hb26⟩
  unfold MV.val
  have HV26 : Hid (VAt wx26 y1) := Ld ho26.at_
  have HPy1 := Ld hp26
  clear hp26 ho26
  go_simp
  refine hK.out _ _ ((hS1).trans (hb26.mono (hS1).size)) (fun hS2 => ?_)
  clear hK K' hS1
  try simp only [nf]
  refine wpAnyH_ready (rs := [0, 4]) (by kernel_rfl) (by simp) ?_
  refine AllReadyH.cons rfl (fun K' hK => ?_) (AllReadyH.cons rfl (fun K' hK => ?_) AllReadyH.nil)
  ·go_simp
   obtain ⟨wx27, hw27⟩ : ∃ w2, w2 = wx26.alloc (.cells #[.string ⟨#[95, 116, 121, 112, 101]⟩, .string ⟨#[101, 120, 112, 105, 114, 101, 115]⟩, .string ⟨#[115, 112, 101, 99, 95, 118, 101, 114, 115, 105, 111, 110]⟩, .string ⟨#[118, 101, 114, 115, 105, 111, 110]⟩] 9) := ⟨_, rfl⟩
   rw [← hw27]
   have hb27 : Below wx26.heap.size wx26 wx27 := by rw [hw27]; exact (Below.refl _ _).alloc (Nat.le_refl _) _
   obtain ⟨Q0, hQ27⟩ : ∃ Q0, Q0 = wx26.heap.size := ⟨_, rfl⟩
   rw [← hQ27]
   have HK27 : Hid (Blk wx27 Q0 9 #[.string ⟨#[95, 116, 121, 112, 101]⟩, .string ⟨#[101, 120, 112, 105, 114, 101, 115]⟩, .string ⟨#[115, 112, 101, 99, 95, 118, 101, 114, 115, 105, 111, 110]⟩, .string ⟨#[118, 101, 114, 115, 105, 111, 110]⟩]) := Ld (by rw [hw27, hQ27]; exact Blk.new _ _ _)
   have HF28 := Ld (HV26.out.bel hb27)
   clear hw27 hQ27
   refine hK.out _ _ ((hS2).trans (hb27.mono (hS2).size)) (fun hS3 => ?_)
   clear hK K' hS2
   try simp only [nf]
   refine rd1 4 rfl (fun K' hK => ?_)
   go_simp
   refine (HRTX.out wx27).mono ?_
   rintro e29 wx29 ⟨rfl, hb29⟩
   have HF30 := Ld (HF28.out.bel hb29)
   have HF31 := Ld (HK27.out.below hb29 HK27.out.lt)
   go_simp
   refine hK.out _ _ ((hS3).trans (hb29.mono (hS3).size)) (fun hS4 => ?_)
   clear hK K' hS3
   try simp only [nf]
   refine rd1 5 rfl (fun K' hK => ?_)
   go_simp
   refine (rText_any tx wx29).mono ?_
   rintro e32 wx32 ⟨y2, rfl, hp32, ho32, hb32⟩
   unfold MV.val
   have HV32 : Hid (VAt wx32 y2) := Ld ho32.at_
   have HPy2 := Ld hp32
   have HF33 := Ld (HF30.out.bel hb32)
   have HF34 := Ld (HF31.out.below hb32 HF31.out.lt)
   clear hp32 ho32
   go_simp
   refine hK.out _ _ ((hS4).trans (hb32.mono (hS4).size)) (fun hS5 => ?_)
   clear hK K' hS4
   try simp only [nf]
   refine rd1 6 rfl (fun K' hK => ?_)
   go_simp
   refine (rText_any spT wx32).mono ?_
   rintro e35 wx35 ⟨y3, rfl, hp35, ho35, hb35⟩
   unfold MV.val
   have HV35 : Hid (VAt wx35 y3) := Ld ho35.at_
   have HPy3 := Ld hp35
   have HF36 := Ld (HF33.out.bel hb35)
   have HF37 := Ld (HF34.out.below hb35 HF34.out.lt)
   have HF38 := Ld (HV32.out.bel hb35)
   clear hp35 ho35
   go_simp
   refine hK.out _ _ ((hS5).trans (hb35.mono (hS5).size)) (fun hS6 => ?_)
   clear hK K' hS5
   try simp only [nf]
   refine rd1 8 rfl (fun K' hK => ?_)
   go_simp
   refine (rInt_any v wx35 HVW.out).mono ?_
   rintro e39 wx39 ⟨y4, rfl, hp39, ho39, hb39⟩
   unfold MV.val
   have HV39 : Hid (VAt wx39 y4) := Ld ho39.at_
   have HPy4 := Ld hp39
   have HF40 := Ld (HF36.out.bel hb39)
   have HF41 := Ld (HF37.out.below hb39 HF37.out.lt)
   have HF42 := Ld (HF38.out.bel hb39)
   have HF43 := Ld (HV35.out.bel hb39)
   clear hp39 ho39
   go_simp
   refine hK.out _ _ ((hS6).trans (hb39.mono (hS6).size)) (fun hS7 => ?_)
   clear hK K' hS6
   try simp only [nf]
   refine rd1 9 rfl (fun K' hK => ?_)
   go_simp
   obtain ⟨wx44, hw44⟩ : ∃ w2, w2 = wx39.alloc (.cells #[.int .i64 y1.k, .int .i64 y1.n, .string y1.s, .slice y1.lA y1.l.length y1.lc, .slice y1.mA y1.m.length y1.mc, .int .i64 y2.k, .int .i64 y2.n, .string y2.s, .slice y2.lA y2.l.length y2.lc, .slice y2.mA y2.m.length y2.mc, .int .i64 y3.k, .int .i64 y3.n, .string y3.s, .slice y3.lA y3.l.length y3.lc, .slice y3.mA y3.m.length y3.mc, .int .i64 y4.k, .int .i64 y4.n, .string y4.s, .slice y4.lA y4.l.length y4.lc, .slice y4.mA y4.m.length y4.mc] 30) := ⟨_, rfl⟩
   rw [← hw44]
   have hb44 : Below wx39.heap.size wx39 wx44 := by rw [hw44]; exact (Below.refl _ _).alloc (Nat.le_refl _) _
   obtain ⟨Q1, hQ44⟩ : ∃ Q1, Q1 = wx39.heap.size := ⟨_, rfl⟩
   rw [← hQ44]
   have HU44 : Hid (Blk wx44 Q1 30 #[.int .i64 y1.k, .int .i64 y1.n, .string y1.s, .slice y1.lA y1.l.length y1.lc, .slice y1.mA y1.m.length y1.mc, .int .i64 y2.k, .int .i64 y2.n, .string y2.s, .slice y2.lA y2.l.length y2.lc, .slice y2.mA y2.m.length y2.mc, .int .i64 y3.k, .int .i64 y3.n, .string y3.s, .slice y3.lA y3.l.length y3.lc, .slice y3.mA y3.m.length y3.mc, .int .i64 y4.k, .int .i64 y4.n, .string y4.s, .slice y4.lA y4.l.length y4.lc, .slice y4.mA y4.m.length y4.mc]) := Ld (by rw [hw44, hQ44]; exact Blk.new _ _ _)
   have HF45 := Ld (HF40.out.bel hb44)
   have HF46 := Ld (HF41.out.below hb44 HF41.out.lt)
   have HF47 := Ld (HF42.out.bel hb44)
   have HF48 := Ld (HF43.out.bel hb44)
   have HF49 := Ld (HV39.out.bel hb44)
   clear hw44 hQ44
   refine hK.out _ _ ((hS7).trans (hb44.mono (hS7).size)) (fun hS8 => ?_)
   clear hK K' hS7
   try simp only [nf]
   refine rd1 10 rfl (fun K' hK => ?_)
   go_simp
   refine (rmap_any [tyK, exK, spK, veK] [y1, y2, y3, y4] (some ⟨Q0, 0, none⟩) (some ⟨Q1, 0, none⟩) 4 4 4 wx44 (mpA_mk (ks := [tyK, exK, spK, veK]) (l := [y1, y2, y3, y4]) HF46.out rfl HU44.out rfl rfl rfl (all4 HF45.out HF47.out HF48.out HF49.out) (all4 (leaf_tx HPy1.out).1 (leaf_tx HPy2.out).1 (leaf_tx HPy3.out).1 (leaf_in HPy4.out).1)) (by omega)).mono ?_
   rintro e50 wx50 ⟨x', rfl, hpx, hl1, hl2, hl3, hvo, hb50⟩
   unfold MV.val
   have HPX : Hid (x'.pv = headR kind v tx) := Ld (hpx.trans (by rw [MV.pvL, MV.pvL, MV.pvL, MV.pvL, MV.pvL, HPy1.out, HPy2.out, HPy3.out, HPy4.out]; rfl))
   have HNL : Hid (x'.l = [] ∧ x'.lA = none ∧ x'.lc = 0) := Ld ⟨hl1, hl2, hl3⟩
   have HVO : Hid (VOwn wx44.heap.size wx50 x' ∧ w.heap.size < wx44.heap.size) := Ld ⟨hvo, Nat.lt_of_lt_of_le HK4.out.lt (hS8).size⟩
   clear hpx hl1 hl2 hl3 hvo
   go_simp
   refine hK.out _ _ ((hS8).trans (hb50.mono (hS8).size)) (fun hS9 => ?_)
   clear hK K' hS8
   try simp only [nf]
   refine wpAnyH_done (by kernel_rfl) ?_ _
   refine lastQ_normal (wpOp_step rfl (fun K' hK => ?_))
   have h9 := HK4.out.below hS9 HK4.out.lt
   obtain ⟨t0, t1, t2, t3, t4⟩ := five_cells h9
   obtain ⟨z0, z1, z2, z3, z4⟩ := five_fr h9
   have HN2 := Ld (own_stM (w := w) (p := headR kind v tx) h9 (Nat.le_refl _) HVO.out.2 HVO.out.1 (HB4.out.trans ((hS9).mono HB4.out.size)) (Nat.le_of_lt HVO.out.2) HPX.out HNL.out)
   clear h9
   go_simp
   refine hK _ _ ?_
   clear hK K' hS9 z0 z1 z2 z3 z4 t0 t1 t2 t3 t4
   generalize (((((wx50.setCell ⟨w.heap.size, 0, none⟩ (.int .i64 x'.k)).setCell ⟨w.heap.size, 1, none⟩ (.int .i64 x'.n)).setCell ⟨w.heap.size, 2, none⟩ (.string x'.s)).setCell ⟨w.heap.size, 3, none⟩ (.slice x'.lA x'.l.length x'.lc)).setCell ⟨w.heap.size, 4, none⟩ (.slice x'.mA x'.m.length x'.mc)) = WE at HN2 ⊢
   go_wp2
   obtain ⟨k0, k1, k2, k3, k4⟩ := five_cells HN2.out.1
   refine bodyPost_ret (v := x'.val) (by simp [results, Tryz.results38, go_sem, k0, k1, k2, k3, k4, MV.val]) rfl ?_
   exact HN2.out.2
  ·go_simp
   refine (HRTX.out wx26).mono ?_
   rintro e51 wx51 ⟨rfl, hb51⟩
   have HF52 := Ld (HV26.out.bel hb51)
   go_simp
   refine hK.out _ _ ((hS2).trans (hb51.mono (hS2).size)) (fun hS3 => ?_)
   clear hK K' hS2
   try simp only [nf]
   refine wpAnyH_ready (rs := [0, 5]) (by kernel_rfl) (by simp) ?_
   refine AllReadyH.cons rfl (fun K' hK => ?_) (AllReadyH.cons rfl (fun K' hK => ?_) AllReadyH.nil)
   ·go_simp
    obtain ⟨wx53, hw53⟩ : ∃ w2, w2 = wx51.alloc (.cells #[.string ⟨#[95, 116, 121, 112, 101]⟩, .string ⟨#[101, 120, 112, 105, 114, 101, 115]⟩, .string ⟨#[115, 112, 101, 99, 95, 118, 101, 114, 115, 105, 111, 110]⟩, .string ⟨#[118, 101, 114, 115, 105, 111, 110]⟩] 9) := ⟨_, rfl⟩
    rw [← hw53]
    have hb53 : Below wx51.heap.size wx51 wx53 := by rw [hw53]; exact (Below.refl _ _).alloc (Nat.le_refl _) _
    obtain ⟨Q0, hQ53⟩ : ∃ Q0, Q0 = wx51.heap.size := ⟨_, rfl⟩
    rw [← hQ53]
    have HK53 : Hid (Blk wx53 Q0 9 #[.string ⟨#[95, 116, 121, 112, 101]⟩, .string ⟨#[101, 120, 112, 105, 114, 101, 115]⟩, .string ⟨#[115, 112, 101, 99, 95, 118, 101, 114, 115, 105, 111, 110]⟩, .string ⟨#[118, 101, 114, 115, 105, 111, 110]⟩]) := Ld (by rw [hw53, hQ53]; exact Blk.new _ _ _)
    have HF54 := Ld (HF52.out.bel hb53)
    clear hw53 hQ53
    refine hK.out _ _ ((hS3).trans (hb53.mono (hS3).size)) (fun hS4 => ?_)
    clear hK K' hS3
    try simp only [nf]
    refine rd1 5 rfl (fun K' hK => ?_)
    go_simp
    refine (rText_any tx wx53).mono ?_
    rintro e55 wx55 ⟨y2, rfl, hp55, ho55, hb55⟩
    unfold MV.val
    have HV55 : Hid (VAt wx55 y2) := Ld ho55.at_
    have HPy2 := Ld hp55
    have HF56 := Ld (HF54.out.bel hb55)
    have HF57 := Ld (HK53.out.below hb55 HK53.out.lt)
    clear hp55 ho55
    go_simp
    refine hK.out _ _ ((hS4).trans (hb55.mono (hS4).size)) (fun hS5 => ?_)
    clear hK K' hS4
    try simp only [nf]
    refine rd1 6 rfl (fun K' hK => ?_)
    go_simp
    refine (rText_any spT wx55).mono ?_
    rintro e58 wx58 ⟨y3, rfl, hp58, ho58, hb58⟩
    unfold MV.val
    have HV58 : Hid (VAt wx58 y3) := Ld ho58.at_
    have HPy3 := Ld hp58
    have HF59 := Ld (HF56.out.bel hb58)
    have HF60 := Ld (HF57.out.below hb58 HF57.out.lt)
    have HF61 := Ld (HV55.out.bel hb58)
    clear hp58 ho58
    go_simp
    refine hK.out _ _ ((hS5).trans (hb58.mono (hS5).size)) (fun hS6 => ?_)
    clear hK K' hS5
    try simp only [nf]
    refine rd1 8 rfl (fun K' hK => ?_)
    go_simp
    refine (rInt_any v wx58 HVW.out).mono ?_
    rintro e62 wx62 ⟨y4, rfl, hp62, ho62, hb62⟩
    unfold MV.val
    have HV62 : Hid (VAt wx62 y4) := Ld ho62.at_
    have HPy4 := Ld hp62
    have HF63 := Ld (HF59.out.bel hb62)
    have HF64 := Ld (HF60.out.below hb62 HF60.out.lt)
    have HF65 := Ld (HF61.out.bel hb62)
    have HF66 := Ld (HV58.out.bel hb62)
    clear hp62 ho62
    go_simp
    refine hK.out _ _ ((hS6).trans (hb62.mono (hS6).size)) (fun hS7 => ?_)
    clear hK K' hS6
    try simp only [nf]
    refine rd1 9 rfl (fun K' hK => ?_)
    go_simp
    obtain ⟨wx67, hw67⟩ : ∃ w2, w2 = wx62.alloc (.cells #[.int .i64 y1.k, .int .i64 y1.n, .string y1.s, .slice y1.lA y1.l.length y1.lc, .slice y1.mA y1.m.length y1.mc, .int .i64 y2.k, .int .i64 y2.n, .string y2.s, .slice y2.lA y2.l.length y2.lc, .slice y2.mA y2.m.length y2.mc, .int .i64 y3.k, .int .i64 y3.n, .string y3.s, .slice y3.lA y3.l.length y3.lc, .slice y3.mA y3.m.length y3.mc, .int .i64 y4.k, .int .i64 y4.n, .string y4.s, .slice y4.lA y4.l.length y4.lc, .slice y4.mA y4.m.length y4.mc] 30) := ⟨_, rfl⟩
    rw [← hw67]
    have hb67 : Below wx62.heap.size wx62 wx67 := by rw [hw67]; exact (Below.refl _ _).alloc (Nat.le_refl _) _
    obtain ⟨Q1, hQ67⟩ : ∃ Q1, Q1 = wx62.heap.size := ⟨_, rfl⟩
    rw [← hQ67]
    have HU67 : Hid (Blk wx67 Q1 30 #[.int .i64 y1.k, .int .i64 y1.n, .string y1.s, .slice y1.lA y1.l.length y1.lc, .slice y1.mA y1.m.length y1.mc, .int .i64 y2.k, .int .i64 y2.n, .string y2.s, .slice y2.lA y2.l.length y2.lc, .slice y2.mA y2.m.length y2.mc, .int .i64 y3.k, .int .i64 y3.n, .string y3.s, .slice y3.lA y3.l.length y3.lc, .slice y3.mA y3.m.length y3.mc, .int .i64 y4.k, .int .i64 y4.n, .string y4.s, .slice y4.lA y4.l.length y4.lc, .slice y4.mA y4.m.length y4.mc]) := Ld (by rw [hw67, hQ67]; exact Blk.new _ _ _)
    have HF68 := Ld (HF63.out.bel hb67)
    have HF69 := Ld (HF64.out.below hb67 HF64.out.lt)
    have HF70 := Ld (HF65.out.bel hb67)
    have HF71 := Ld (HF66.out.bel hb67)
    have HF72 := Ld (HV62.out.bel hb67)
    clear hw67 hQ67
    refine hK.out _ _ ((hS7).trans (hb67.mono (hS7).size)) (fun hS8 => ?_)
    clear hK K' hS7
    try simp only [nf]
    refine rd1 10 rfl (fun K' hK => ?_)
    go_simp
    refine (rmap_any [tyK, exK, spK, veK] [y1, y2, y3, y4] (some ⟨Q0, 0, none⟩) (some ⟨Q1, 0, none⟩) 4 4 4 wx67 (mpA_mk (ks := [tyK, exK, spK, veK]) (l := [y1, y2, y3, y4]) HF69.out rfl HU67.out rfl rfl rfl (all4 HF68.out HF70.out HF71.out HF72.out) (all4 (leaf_tx HPy1.out).1 (leaf_tx HPy2.out).1 (leaf_tx HPy3.out).1 (leaf_in HPy4.out).1)) (by omega)).mono ?_
    rintro e73 wx73 ⟨x', rfl, hpx, hl1, hl2, hl3, hvo, hb73⟩
    unfold MV.val
    have HPX : Hid (x'.pv = headR kind v tx) := Ld (hpx.trans (by rw [MV.pvL, MV.pvL, MV.pvL, MV.pvL, MV.pvL, HPy1.out, HPy2.out, HPy3.out, HPy4.out]; rfl))
    have HNL : Hid (x'.l = [] ∧ x'.lA = none ∧ x'.lc = 0) := Ld ⟨hl1, hl2, hl3⟩
    have HVO : Hid (VOwn wx67.heap.size wx73 x' ∧ w.heap.size < wx67.heap.size) := Ld ⟨hvo, Nat.lt_of_lt_of_le HK4.out.lt (hS8).size⟩
    clear hpx hl1 hl2 hl3 hvo
    go_simp
    refine hK.out _ _ ((hS8).trans (hb73.mono (hS8).size)) (fun hS9 => ?_)
    clear hK K' hS8
    try simp only [nf]
    refine wpAnyH_done (by kernel_rfl) ?_ _
    refine lastQ_normal (wpOp_step rfl (fun K' hK => ?_))
    have h9 := HK4.out.below hS9 HK4.out.lt
    obtain ⟨t0, t1, t2, t3, t4⟩ := five_cells h9
    obtain ⟨z0, z1, z2, z3, z4⟩ := five_fr h9
    have HN2 := Ld (own_stM (w := w) (p := headR kind v tx) h9 (Nat.le_refl _) HVO.out.2 HVO.out.1 (HB4.out.trans ((hS9).mono HB4.out.size)) (Nat.le_of_lt HVO.out.2) HPX.out HNL.out)
    clear h9
    go_simp
    refine hK _ _ ?_
    clear hK K' hS9 z0 z1 z2 z3 z4 t0 t1 t2 t3 t4
    generalize (((((wx73.setCell ⟨w.heap.size, 0, none⟩ (.int .i64 x'.k)).setCell ⟨w.heap.size, 1, none⟩ (.int .i64 x'.n)).setCell ⟨w.heap.size, 2, none⟩ (.string x'.s)).setCell ⟨w.heap.size, 3, none⟩ (.slice x'.lA x'.l.length x'.lc)).setCell ⟨w.heap.size, 4, none⟩ (.slice x'.mA x'.m.length x'.mc)) = WE at HN2 ⊢
    go_wp2
    obtain ⟨k0, k1, k2, k3, k4⟩ := five_cells HN2.out.1
    refine bodyPost_ret (v := x'.val) (by simp [results, Tryz.results38, go_sem, k0, k1, k2, k3, k4, MV.val]) rfl ?_
    exact HN2.out.2
   ·go_simp
    refine (rText_any tx wx51).mono ?_
    rintro e74 wx74 ⟨y2, rfl, hp74, ho74, hb74⟩
    unfold MV.val
    have HV74 : Hid (VAt wx74 y2) := Ld ho74.at_
    have HPy2 := Ld hp74
    have HF75 := Ld (HF52.out.bel hb74)
    clear hp74 ho74
    go_simp
    refine hK.out _ _ ((hS3).trans (hb74.mono (hS3).size)) (fun hS4 => ?_)
    clear hK K' hS3
    try simp only [nf]
    refine wpAnyH_ready (rs := [0, 6]) (by kernel_rfl) (by simp) ?_
    refine AllReadyH.cons rfl (fun K' hK => ?_) (AllReadyH.cons rfl (fun K' hK => ?_) AllReadyH.nil)
    ·go_simp
     obtain ⟨wx76, hw76⟩ : ∃ w2, w2 = wx74.alloc (.cells #[.string ⟨#[95, 116, 121, 112, 101]⟩, .string ⟨#[101, 120, 112, 105, 114, 101, 115]⟩, .string ⟨#[115, 112, 101, 99, 95, 118, 101, 114, 115, 105, 111, 110]⟩, .string ⟨#[118, 101, 114, 115, 105, 111, 110]⟩] 9) := ⟨_, rfl⟩
     rw [← hw76]
     have hb76 : Below wx74.heap.size wx74 wx76 := by rw [hw76]; exact (Below.refl _ _).alloc (Nat.le_refl _) _
     obtain ⟨Q0, hQ76⟩ : ∃ Q0, Q0 = wx74.heap.size := ⟨_, rfl⟩
     rw [← hQ76]
     have HK76 : Hid (Blk wx76 Q0 9 #[.string ⟨#[95, 116, 121, 112, 101]⟩, .string ⟨#[101, 120, 112, 105, 114, 101, 115]⟩, .string ⟨#[115, 112, 101, 99, 95, 118, 101, 114, 115, 105, 111, 110]⟩, .string ⟨#[118, 101, 114, 115, 105, 111, 110]⟩]) := Ld (by rw [hw76, hQ76]; exact Blk.new _ _ _)
     have HF77 := Ld (HF75.out.bel hb76)
     have HF78 := Ld (HV74.out.bel hb76)
     clear hw76 hQ76
     refine hK.out _ _ ((hS4).trans (hb76.mono (hS4).size)) (fun hS5 => ?_)
     clear hK K' hS4
     try simp only [nf]
     refine rd1 6 rfl (fun K' hK => ?_)
     go_simp
     refine (rText_any spT wx76).mono ?_
     rintro e79 wx79 ⟨y3, rfl, hp79, ho79, hb79⟩
     unfold MV.val
     have HV79 : Hid (VAt wx79 y3) := Ld ho79.at_
     have HPy3 := Ld hp79
     have HF80 := Ld (HF77.out.bel hb79)
     have HF81 := Ld (HF78.out.bel hb79)
     have HF82 := Ld (HK76.out.below hb79 HK76.out.lt)
     clear hp79 ho79
     go_simp
     refine hK.out _ _ ((hS5).trans (hb79.mono (hS5).size)) (fun hS6 => ?_)
     clear hK K' hS5
     try simp only [nf]
     refine rd1 8 rfl (fun K' hK => ?_)
     go_simp
     refine (rInt_any v wx79 HVW.out).mono ?_
     rintro e83 wx83 ⟨y4, rfl, hp83, ho83, hb83⟩
     unfold MV.val
     have HV83 : Hid (VAt wx83 y4) := Ld ho83.at_
     have HPy4 := Ld hp83
     have HF84 := Ld (HF80.out.bel hb83)
     have HF85 := Ld (HF81.out.bel hb83)
     have HF86 := Ld (HF82.out.below hb83 HF82.out.lt)
     have HF87 := Ld (HV79.out.bel hb83)
     clear hp83 ho83
     go_simp
     refine hK.out _ _ ((hS6).trans (hb83.mono (hS6).size)) (fun hS7 => ?_)
     clear hK K' hS6
     try simp only [nf]
     refine rd1 9 rfl (fun K' hK => ?_)
     go_simp
     obtain ⟨wx88, hw88⟩ : ∃ w2, w2 = wx83.alloc (.cells #[.int .i64 y1.k, .int .i64 y1.n, .string y1.s, .slice y1.lA y1.l.length y1.lc, .slice y1.mA y1.m.length y1.mc, .int .i64 y2.k, .int .i64 y2.n, .string y2.s, .slice y2.lA y2.l.length y2.lc, .slice y2.mA y2.m.length y2.mc, .int .i64 y3.k, .int .i64 y3.n, .string y3.s, .slice y3.lA y3.l.length y3.lc, .slice y3.mA y3.m.length y3.mc, .int .i64 y4.k, .int .i64 y4.n, .string y4.s, .slice y4.lA y4.l.length y4.lc, .slice y4.mA y4.m.length y4.mc] 30) := ⟨_, rfl⟩
     rw [← hw88]
     have hb88 : Below wx83.heap.size wx83 wx88 := by rw [hw88]; exact (Below.refl _ _).alloc (Nat.le_refl _) _
     obtain ⟨Q1, hQ88⟩ : ∃ Q1, Q1 = wx83.heap.size := ⟨_, rfl⟩
     rw [← hQ88]
     have HU88 : Hid (Blk wx88 Q1 30 #[.int .i64 y1.k, .int .i64 y1.n, .string y1.s, .slice y1.lA y1.l.length y1.lc, .slice y1.mA y1.m.length y1.mc, .int .i64 y2.k, .int .i64 y2.n, .string y2.s, .slice y2.lA y2.l.length y2.lc, .slice y2.mA y2.m.length y2.mc, .int .i64 y3.k, .int .i64 y3.n, .string y3.s, .slice y3.lA y3.l.length y3.lc, .slice y3.mA y3.m.length y3.mc, .int .i64 y4.k, .int .i64 y4.n, .string y4.s, .slice y4.lA y4.l.length y4.lc, .slice y4.mA y4.m.length y4.mc]) := Ld (by rw [hw88, hQ88]; exact Blk.new _ _ _)
     have HF89 := Ld (HF84.out.bel hb88)
     have HF90 := Ld (HF85.out.bel hb88)
     have HF91 := Ld (HF86.out.below hb88 HF86.out.lt)
     have HF92 := Ld (HF87.out.bel hb88)
     have HF93 := Ld (HV83.out.bel hb88)
     clear hw88 hQ88
     refine hK.out _ _ ((hS7).trans (hb88.mono (hS7).size)) (fun hS8 => ?_)
     clear hK K' hS7
     try simp only [nf]
     refine rd1 10 rfl (fun K' hK => ?_)
     go_simp
     refine (rmap_any [tyK, exK, spK, veK] [y1, y2, y3, y4] (some ⟨Q0, 0, none⟩) (some ⟨Q1, 0, none⟩) 4 4 4 wx88 (mpA_mk (ks := [tyK, exK, spK, veK]) (l := [y1, y2, y3, y4]) HF91.out rfl HU88.out rfl rfl rfl (all4 HF89.out HF90.out HF92.out HF93.out) (all4 (leaf_tx HPy1.out).1 (leaf_tx HPy2.out).1 (leaf_tx HPy3.out).1 (leaf_in HPy4.out).1)) (by omega)).mono ?_
     rintro e94 wx94 ⟨x', rfl, hpx, hl1, hl2, hl3, hvo, hb94⟩
     unfold MV.val
     have HPX : Hid (x'.pv = headR kind v tx) := Ld (hpx.trans (by rw [MV.pvL, MV.pvL, MV.pvL, MV.pvL, MV.pvL, HPy1.out, HPy2.out, HPy3.out, HPy4.out]; rfl))
     have HNL : Hid (x'.l = [] ∧ x'.lA = none ∧ x'.lc = 0) := Ld ⟨hl1, hl2, hl3⟩
     have HVO : Hid (VOwn wx88.heap.size wx94 x' ∧ w.heap.size < wx88.heap.size) := Ld ⟨hvo, Nat.lt_of_lt_of_le HK4.out.lt (hS8).size⟩
     clear hpx hl1 hl2 hl3 hvo
     go_simp
     refine hK.out _ _ ((hS8).trans (hb94.mono (hS8).size)) (fun hS9 => ?_)
     clear hK K' hS8
     try simp only [nf]
     refine wpAnyH_done (by kernel_rfl) ?_ _
     refine lastQ_normal (wpOp_step rfl (fun K' hK => ?_))
     have h9 := HK4.out.below hS9 HK4.out.lt
     obtain ⟨t0, t1, t2, t3, t4⟩ := five_cells h9
     obtain ⟨z0, z1, z2, z3, z4⟩ := five_fr h9
     have HN2 := Ld (own_stM (w := w) (p := headR kind v tx) h9 (Nat.le_refl _) HVO.out.2 HVO.out.1 (HB4.out.trans ((hS9).mono HB4.out.size)) (Nat.le_of_lt HVO.out.2) HPX.out HNL.out)
     clear h9
     go_simp
     refine hK _ _ ?_
     clear hK K' hS9 z0 z1 z2 z3 z4 t0 t1 t2 t3 t4
     generalize (((((wx94.setCell ⟨w.heap.size, 0, none⟩ (.int .i64 x'.k)).setCell ⟨w.heap.size, 1, none⟩ (.int .i64 x'.n)).setCell ⟨w.heap.size, 2, none⟩ (.string x'.s)).setCell ⟨w.heap.size, 3, none⟩ (.slice x'.lA x'.l.length x'.lc)).setCell ⟨w.heap.size, 4, none⟩ (.slice x'.mA x'.m.length x'.mc)) = WE at HN2 ⊢
     go_wp2
     obtain ⟨k0, k1, k2, k3, k4⟩ := five_cells HN2.out.1
     refine bodyPost_ret (v := x'.val) (by simp [results, Tryz.results38, go_sem, k0, k1, k2, k3, k4, MV.val]) rfl ?_
     exact HN2.out.2
    ·go_simp
     refine (rText_any spT wx74).mono ?_
     rintro e95 wx95 ⟨y3, rfl, hp95, ho95, hb95⟩
     unfold MV.val
     have HV95 : Hid (VAt wx95 y3) := Ld ho95.at_
     have HPy3 := Ld hp95
     have HF96 := Ld (HF75.out.bel hb95)
     have HF97 := Ld (HV74.out.bel hb95)
     clear hp95 ho95
     go_simp
     refine hK.out _ _ ((hS4).trans (hb95.mono (hS4).size)) (fun hS5 => ?_)
     clear hK K' hS4
     try simp only [nf]
     refine wpAnyH_ready (rs := [0, 8]) (by kernel_rfl) (by simp) ?_
     refine AllReadyH.cons rfl (fun K' hK => ?_) (AllReadyH.cons rfl (fun K' hK => ?_) AllReadyH.nil)
     ·go_simp
      obtain ⟨wx98, hw98⟩ : ∃ w2, w2 = wx95.alloc (.cells #[.string ⟨#[95, 116, 121, 112, 101]⟩, .string ⟨#[101, 120, 112, 105, 114, 101, 115]⟩, .string ⟨#[115, 112, 101, 99, 95, 118, 101, 114, 115, 105, 111, 110]⟩, .string ⟨#[118, 101, 114, 115, 105, 111, 110]⟩] 9) := ⟨_, rfl⟩
      rw [← hw98]
      have hb98 : Below wx95.heap.size wx95 wx98 := by rw [hw98]; exact (Below.refl _ _).alloc (Nat.le_refl _) _
      obtain ⟨Q0, hQ98⟩ : ∃ Q0, Q0 = wx95.heap.size := ⟨_, rfl⟩
      rw [← hQ98]
      have HK98 : Hid (Blk wx98 Q0 9 #[.string ⟨#[95, 116, 121, 112, 101]⟩, .string ⟨#[101, 120, 112, 105, 114, 101, 115]⟩, .string ⟨#[115, 112, 101, 99, 95, 118, 101, 114, 115, 105, 111, 110]⟩, .string ⟨#[118, 101, 114, 115, 105, 111, 110]⟩]) := Ld (by rw [hw98, hQ98]; exact Blk.new _ _ _)
      have HF99 := Ld (HF96.out.bel hb98)
      have HF100 := Ld (HF97.out.bel hb98)
      have HF101 := Ld (HV95.out.bel hb98)
      clear hw98 hQ98
      refine hK.out _ _ ((hS5).trans (hb98.mono (hS5).size)) (fun hS6 => ?_)
      clear hK K' hS5
      try simp only [nf]
      refine rd1 8 rfl (fun K' hK => ?_)
      go_simp
      refine (rInt_any v wx98 HVW.out).mono ?_
      rintro e102 wx102 ⟨y4, rfl, hp102, ho102, hb102⟩
      unfold MV.val
      have HV102 : Hid (VAt wx102 y4) := Ld ho102.at_
      have HPy4 := Ld hp102
      have HF103 := Ld (HF99.out.bel hb102)
      have HF104 := Ld (HF100.out.bel hb102)
      have HF105 := Ld (HF101.out.bel hb102)
      have HF106 := Ld (HK98.out.below hb102 HK98.out.lt)
      clear hp102 ho102
      go_simp
      refine hK.out _ _ ((hS6).trans (hb102.mono (hS6).size)) (fun hS7 => ?_)
      clear hK K' hS6
      try simp only [nf]
      refine rd1 9 rfl (fun K' hK => ?_)
      go_simp
      obtain ⟨wx107, hw107⟩ : ∃ w2, w2 = wx102.alloc (.cells #[.int .i64 y1.k, .int .i64 y1.n, .string y1.s, .slice y1.lA y1.l.length y1.lc, .slice y1.mA y1.m.length y1.mc, .int .i64 y2.k, .int .i64 y2.n, .string y2.s, .slice y2.lA y2.l.length y2.lc, .slice y2.mA y2.m.length y2.mc, .int .i64 y3.k, .int .i64 y3.n, .string y3.s, .slice y3.lA y3.l.length y3.lc, .slice y3.mA y3.m.length y3.mc, .int .i64 y4.k, .int .i64 y4.n, .string y4.s, .slice y4.lA y4.l.length y4.lc, .slice y4.mA y4.m.length y4.mc] 30) := ⟨_, rfl⟩
      rw [← hw107]
      have hb107 : Below wx102.heap.size wx102 wx107 := by rw [hw107]; exact (Below.refl _ _).alloc (Nat.le_refl _) _
      obtain ⟨Q1, hQ107⟩ : ∃ Q1, Q1 = wx102.heap.size := ⟨_, rfl⟩
      rw [← hQ107]
      have HU107 : Hid (Blk wx107 Q1 30 #[.int .i64 y1.k, .int .i64 y1.n, .string y1.s, .slice y1.lA y1.l.length y1.lc, .slice y1.mA y1.m.length y1.mc, .int .i64 y2.k, .int .i64 y2.n, .string y2.s, .slice y2.lA y2.l.length y2.lc, .slice y2.mA y2.m.length y2.mc, .int .i64 y3.k, .int .i64 y3.n, .string y3.s, .slice y3.lA y3.l.length y3.lc, .slice y3.mA y3.m.length y3.mc, .int .i64 y4.k, .int .i64 y4.n, .string y4.s, .slice y4.lA y4.l.length y4.lc, .slice y4.mA y4.m.length y4.mc]) := Ld (by rw [hw107, hQ107]; exact Blk.new _ _ _)
      have HF108 := Ld (HF103.out.bel hb107)
      have HF109 := Ld (HF104.out.bel hb107)
      have HF110 := Ld (HF105.out.bel hb107)
      have HF111 := Ld (HF106.out.below hb107 HF106.out.lt)
      have HF112 := Ld (HV102.out.bel hb107)
      clear hw107 hQ107
      refine hK.out _ _ ((hS7).trans (hb107.mono (hS7).size)) (fun hS8 => ?_)
      clear hK K' hS7
      try simp only [nf]
      refine rd1 10 rfl (fun K' hK => ?_)
      go_simp
      refine (rmap_any [tyK, exK, spK, veK] [y1, y2, y3, y4] (some ⟨Q0, 0, none⟩) (some ⟨Q1, 0, none⟩) 4 4 4 wx107 (mpA_mk (ks := [tyK, exK, spK, veK]) (l := [y1, y2, y3, y4]) HF111.out rfl HU107.out rfl rfl rfl (all4 HF108.out HF109.out HF110.out HF112.out) (all4 (leaf_tx HPy1.out).1 (leaf_tx HPy2.out).1 (leaf_tx HPy3.out).1 (leaf_in HPy4.out).1)) (by omega)).mono ?_
      rintro e113 wx113 ⟨x', rfl, hpx, hl1, hl2, hl3, hvo, hb113⟩
      unfold MV.val
      have HPX : Hid (x'.pv = headR kind v tx) := Ld (hpx.trans (by rw [MV.pvL, MV.pvL, MV.pvL, MV.pvL, MV.pvL, HPy1.out, HPy2.out, HPy3.out, HPy4.out]; rfl))
      have HNL : Hid (x'.l = [] ∧ x'.lA = none ∧ x'.lc = 0) := Ld ⟨hl1, hl2, hl3⟩
      have HVO : Hid (VOwn wx107.heap.size wx113 x' ∧ w.heap.size < wx107.heap.size) := Ld ⟨hvo, Nat.lt_of_lt_of_le HK4.out.lt (hS8).size⟩
      clear hpx hl1 hl2 hl3 hvo
      go_simp
      refine hK.out _ _ ((hS8).trans (hb113.mono (hS8).size)) (fun hS9 => ?_)
      clear hK K' hS8
      try simp only [nf]
      refine wpAnyH_done (by kernel_rfl) ?_ _
      refine lastQ_normal (wpOp_step rfl (fun K' hK => ?_))
      have h9 := HK4.out.below hS9 HK4.out.lt
      obtain ⟨t0, t1, t2, t3, t4⟩ := five_cells h9
      obtain ⟨z0, z1, z2, z3, z4⟩ := five_fr h9
      have HN2 := Ld (own_stM (w := w) (p := headR kind v tx) h9 (Nat.le_refl _) HVO.out.2 HVO.out.1 (HB4.out.trans ((hS9).mono HB4.out.size)) (Nat.le_of_lt HVO.out.2) HPX.out HNL.out)
      clear h9
      go_simp
      refine hK _ _ ?_
      clear hK K' hS9 z0 z1 z2 z3 z4 t0 t1 t2 t3 t4
      generalize (((((wx113.setCell ⟨w.heap.size, 0, none⟩ (.int .i64 x'.k)).setCell ⟨w.heap.size, 1, none⟩ (.int .i64 x'.n)).setCell ⟨w.heap.size, 2, none⟩ (.string x'.s)).setCell ⟨w.heap.size, 3, none⟩ (.slice x'.lA x'.l.length x'.lc)).setCell ⟨w.heap.size, 4, none⟩ (.slice x'.mA x'.m.length x'.mc)) = WE at HN2 ⊢
      go_wp2
      obtain ⟨k0, k1, k2, k3, k4⟩ := five_cells HN2.out.1
      refine bodyPost_ret (v := x'.val) (by simp [results, Tryz.results38, go_sem, k0, k1, k2, k3, k4, MV.val]) rfl ?_
      exact HN2.out.2
     ·go_simp
      refine (rInt_any v wx95 HVW.out).mono ?_
      rintro e114 wx114 ⟨y4, rfl, hp114, ho114, hb114⟩
      unfold MV.val
      have HV114 : Hid (VAt wx114 y4) := Ld ho114.at_
      have HPy4 := Ld hp114
      have HF115 := Ld (HF96.out.bel hb114)
      have HF116 := Ld (HF97.out.bel hb114)
      have HF117 := Ld (HV95.out.bel hb114)
      clear hp114 ho114
      go_simp
      refine hK.out _ _ ((hS5).trans (hb114.mono (hS5).size)) (fun hS6 => ?_)
      clear hK K' hS5
      try simp only [nf]
      refine wpAnyH_ready (rs := [0, 9]) (by kernel_rfl) (by simp) ?_
      refine AllReadyH.cons rfl (fun K' hK => ?_) (AllReadyH.cons rfl (fun K' hK => ?_) AllReadyH.nil)
      ·go_simp
       obtain ⟨wx118, hw118⟩ : ∃ w2, w2 = wx114.alloc (.cells #[.string ⟨#[95, 116, 121, 112, 101]⟩, .string ⟨#[101, 120, 112, 105, 114, 101, 115]⟩, .string ⟨#[115, 112, 101, 99, 95, 118, 101, 114, 115, 105, 111, 110]⟩, .string ⟨#[118, 101, 114, 115, 105, 111, 110]⟩] 9) := ⟨_, rfl⟩
       rw [← hw118]
       have hb118 : Below wx114.heap.size wx114 wx118 := by rw [hw118]; exact (Below.refl _ _).alloc (Nat.le_refl _) _
       obtain ⟨Q0, hQ118⟩ : ∃ Q0, Q0 = wx114.heap.size := ⟨_, rfl⟩
       rw [← hQ118]
       have HK118 : Hid (Blk wx118 Q0 9 #[.string ⟨#[95, 116, 121, 112, 101]⟩, .string ⟨#[101, 120, 112, 105, 114, 101, 115]⟩, .string ⟨#[115, 112, 101, 99, 95, 118, 101, 114, 115, 105, 111, 110]⟩, .string ⟨#[118, 101, 114, 115, 105, 111, 110]⟩]) := Ld (by rw [hw118, hQ118]; exact Blk.new _ _ _)
       have HF119 := Ld (HF115.out.bel hb118)
       have HF120 := Ld (HF116.out.bel hb118)
       have HF121 := Ld (HF117.out.bel hb118)
       have HF122 := Ld (HV114.out.bel hb118)
       clear hw118 hQ118
       refine hK.out _ _ ((hS6).trans (hb118.mono (hS6).size)) (fun hS7 => ?_)
       clear hK K' hS6
       try simp only [nf]
       refine rd1 9 rfl (fun K' hK => ?_)
       go_simp
       obtain ⟨wx123, hw123⟩ : ∃ w2, w2 = wx118.alloc (.cells #[.int .i64 y1.k, .int .i64 y1.n, .string y1.s, .slice y1.lA y1.l.length y1.lc, .slice y1.mA y1.m.length y1.mc, .int .i64 y2.k, .int .i64 y2.n, .string y2.s, .slice y2.lA y2.l.length y2.lc, .slice y2.mA y2.m.length y2.mc, .int .i64 y3.k, .int .i64 y3.n, .string y3.s, .slice y3.lA y3.l.length y3.lc, .slice y3.mA y3.m.length y3.mc, .int .i64 y4.k, .int .i64 y4.n, .string y4.s, .slice y4.lA y4.l.length y4.lc, .slice y4.mA y4.m.length y4.mc] 30) := ⟨_, rfl⟩
       rw [← hw123]
       have hb123 : Below wx118.heap.size wx118 wx123 := by rw [hw123]; exact (Below.refl _ _).alloc (Nat.le_refl _) _
       obtain ⟨Q1, hQ123⟩ : ∃ Q1, Q1 = wx118.heap.size := ⟨_, rfl⟩
       rw [← hQ123]
       have HU123 : Hid (Blk wx123 Q1 30 #[.int .i64 y1.k, .int .i64 y1.n, .string y1.s, .slice y1.lA y1.l.length y1.lc, .slice y1.mA y1.m.length y1.mc, .int .i64 y2.k, .int .i64 y2.n, .string y2.s, .slice y2.lA y2.l.length y2.lc, .slice y2.mA y2.m.length y2.mc, .int .i64 y3.k, .int .i64 y3.n, .string y3.s, .slice y3.lA y3.l.length y3.lc, .slice y3.mA y3.m.length y3.mc, .int .i64 y4.k, .int .i64 y4.n, .string y4.s, .slice y4.lA y4.l.length y4.lc, .slice y4.mA y4.m.length y4.mc]) := Ld (by rw [hw123, hQ123]; exact Blk.new _ _ _)
       have HF124 := Ld (HF119.out.bel hb123)
       have HF125 := Ld (HF120.out.bel hb123)
       have HF126 := Ld (HF121.out.bel hb123)
       have HF127 := Ld (HF122.out.bel hb123)
       have HF128 := Ld (HK118.out.below hb123 HK118.out.lt)
       clear hw123 hQ123
       refine hK.out _ _ ((hS7).trans (hb123.mono (hS7).size)) (fun hS8 => ?_)
       clear hK K' hS7
       try simp only [nf]
       refine rd1 10 rfl (fun K' hK => ?_)
       go_simp
       refine (rmap_any [tyK, exK, spK, veK] [y1, y2, y3, y4] (some ⟨Q0, 0, none⟩) (some ⟨Q1, 0, none⟩) 4 4 4 wx123 (mpA_mk (ks := [tyK, exK, spK, veK]) (l := [y1, y2, y3, y4]) HF128.out rfl HU123.out rfl rfl rfl (all4 HF124.out HF125.out HF126.out HF127.out) (all4 (leaf_tx HPy1.out).1 (leaf_tx HPy2.out).1 (leaf_tx HPy3.out).1 (leaf_in HPy4.out).1)) (by omega)).mono ?_
       rintro e129 wx129 ⟨x', rfl, hpx, hl1, hl2, hl3, hvo, hb129⟩
       unfold MV.val
       have HPX : Hid (x'.pv = headR kind v tx) := Ld (hpx.trans (by rw [MV.pvL, MV.pvL, MV.pvL, MV.pvL, MV.pvL, HPy1.out, HPy2.out, HPy3.out, HPy4.out]; rfl))
       have HNL : Hid (x'.l = [] ∧ x'.lA = none ∧ x'.lc = 0) := Ld ⟨hl1, hl2, hl3⟩
       have HVO : Hid (VOwn wx123.heap.size wx129 x' ∧ w.heap.size < wx123.heap.size) := Ld ⟨hvo, Nat.lt_of_lt_of_le HK4.out.lt (hS8).size⟩
       clear hpx hl1 hl2 hl3 hvo
       go_simp
       refine hK.out _ _ ((hS8).trans (hb129.mono (hS8).size)) (fun hS9 => ?_)
       clear hK K' hS8
       try simp only [nf]
       refine wpAnyH_done (by kernel_rfl) ?_ _
       refine lastQ_normal (wpOp_step rfl (fun K' hK => ?_))
       have h9 := HK4.out.below hS9 HK4.out.lt
       obtain ⟨t0, t1, t2, t3, t4⟩ := five_cells h9
       obtain ⟨z0, z1, z2, z3, z4⟩ := five_fr h9
       have HN2 := Ld (own_stM (w := w) (p := headR kind v tx) h9 (Nat.le_refl _) HVO.out.2 HVO.out.1 (HB4.out.trans ((hS9).mono HB4.out.size)) (Nat.le_of_lt HVO.out.2) HPX.out HNL.out)
       clear h9
       go_simp
       refine hK _ _ ?_
       clear hK K' hS9 z0 z1 z2 z3 z4 t0 t1 t2 t3 t4
       generalize (((((wx129.setCell ⟨w.heap.size, 0, none⟩ (.int .i64 x'.k)).setCell ⟨w.heap.size, 1, none⟩ (.int .i64 x'.n)).setCell ⟨w.heap.size, 2, none⟩ (.string x'.s)).setCell ⟨w.heap.size, 3, none⟩ (.slice x'.lA x'.l.length x'.lc)).setCell ⟨w.heap.size, 4, none⟩ (.slice x'.mA x'.m.length x'.mc)) = WE at HN2 ⊢
       go_wp2
       obtain ⟨k0, k1, k2, k3, k4⟩ := five_cells HN2.out.1
       refine bodyPost_ret (v := x'.val) (by simp [results, Tryz.results38, go_sem, k0, k1, k2, k3, k4, MV.val]) rfl ?_
       exact HN2.out.2
      ·go_simp
       obtain ⟨wx130, hw130⟩ : ∃ w2, w2 = wx114.alloc (.cells #[.int .i64 y1.k, .int .i64 y1.n, .string y1.s, .slice y1.lA y1.l.length y1.lc, .slice y1.mA y1.m.length y1.mc, .int .i64 y2.k, .int .i64 y2.n, .string y2.s, .slice y2.lA y2.l.length y2.lc, .slice y2.mA y2.m.length y2.mc, .int .i64 y3.k, .int .i64 y3.n, .string y3.s, .slice y3.lA y3.l.length y3.lc, .slice y3.mA y3.m.length y3.mc, .int .i64 y4.k, .int .i64 y4.n, .string y4.s, .slice y4.lA y4.l.length y4.lc, .slice y4.mA y4.m.length y4.mc] 30) := ⟨_, rfl⟩
       rw [← hw130]
       have hb130 : Below wx114.heap.size wx114 wx130 := by rw [hw130]; exact (Below.refl _ _).alloc (Nat.le_refl _) _
       obtain ⟨Q1, hQ130⟩ : ∃ Q1, Q1 = wx114.heap.size := ⟨_, rfl⟩
       rw [← hQ130]
       have HU130 : Hid (Blk wx130 Q1 30 #[.int .i64 y1.k, .int .i64 y1.n, .string y1.s, .slice y1.lA y1.l.length y1.lc, .slice y1.mA y1.m.length y1.mc, .int .i64 y2.k, .int .i64 y2.n, .string y2.s, .slice y2.lA y2.l.length y2.lc, .slice y2.mA y2.m.length y2.mc, .int .i64 y3.k, .int .i64 y3.n, .string y3.s, .slice y3.lA y3.l.length y3.lc, .slice y3.mA y3.m.length y3.mc, .int .i64 y4.k, .int .i64 y4.n, .string y4.s, .slice y4.lA y4.l.length y4.lc, .slice y4.mA y4.m.length y4.mc]) := Ld (by rw [hw130, hQ130]; exact Blk.new _ _ _)
       have HF131 := Ld (HF115.out.bel hb130)
       have HF132 := Ld (HF116.out.bel hb130)
       have HF133 := Ld (HF117.out.bel hb130)
       have HF134 := Ld (HV114.out.bel hb130)
       clear hw130 hQ130
       refine hK.out _ _ ((hS6).trans (hb130.mono (hS6).size)) (fun hS7 => ?_)
       clear hK K' hS6
       try simp only [nf]
       refine rd1 0 rfl (fun K' hK => ?_)
       go_simp
       obtain ⟨wx135, hw135⟩ : ∃ w2, w2 = wx130.alloc (.cells #[.string ⟨#[95, 116, 121, 112, 101]⟩, .string ⟨#[101, 120, 112, 105, 114, 101, 115]⟩, .string ⟨#[115, 112, 101, 99, 95, 118, 101, 114, 115, 105, 111, 110]⟩, .string ⟨#[118, 101, 114, 115, 105, 111, 110]⟩] 9) := ⟨_, rfl⟩
       rw [← hw135]
       have hb135 : Below wx130.heap.size wx130 wx135 := by rw [hw135]; exact (Below.refl _ _).alloc (Nat.le_refl _) _
       obtain ⟨Q0, hQ135⟩ : ∃ Q0, Q0 = wx130.heap.size := ⟨_, rfl⟩
       rw [← hQ135]
       have HK135 : Hid (Blk wx135 Q0 9 #[.string ⟨#[95, 116, 121, 112, 101]⟩, .string ⟨#[101, 120, 112, 105, 114, 101, 115]⟩, .string ⟨#[115, 112, 101, 99, 95, 118, 101, 114, 115, 105, 111, 110]⟩, .string ⟨#[118, 101, 114, 115, 105, 111, 110]⟩]) := Ld (by rw [hw135, hQ135]; exact Blk.new _ _ _)
       have HF136 := Ld (HF131.out.bel hb135)
       have HF137 := Ld (HF132.out.bel hb135)
       have HF138 := Ld (HF133.out.bel hb135)
       have HF139 := Ld (HF134.out.bel hb135)
       have HF140 := Ld (HU130.out.below hb135 HU130.out.lt)
       clear hw135 hQ135
       refine hK.out _ _ ((hS7).trans (hb135.mono (hS7).size)) (fun hS8 => ?_)
       clear hK K' hS7
       try simp only [nf]
       refine rd1 10 rfl (fun K' hK => ?_)
       go_simp
       refine (rmap_any [tyK, exK, spK, veK] [y1, y2, y3, y4] (some ⟨Q0, 0, none⟩) (some ⟨Q1, 0, none⟩) 4 4 4 wx135 (mpA_mk (ks := [tyK, exK, spK, veK]) (l := [y1, y2, y3, y4]) HK135.out rfl HF140.out rfl rfl rfl (all4 HF136.out HF137.out HF138.out HF139.out) (all4 (leaf_tx HPy1.out).1 (leaf_tx HPy2.out).1 (leaf_tx HPy3.out).1 (leaf_in HPy4.out).1)) (by omega)).mono ?_
       rintro e141 wx141 ⟨x', rfl, hpx, hl1, hl2, hl3, hvo, hb141⟩
       unfold MV.val
       have HPX : Hid (x'.pv = headR kind v tx) := Ld (hpx.trans (by rw [MV.pvL, MV.pvL, MV.pvL, MV.pvL, MV.pvL, HPy1.out, HPy2.out, HPy3.out, HPy4.out]; rfl))
       have HNL : Hid (x'.l = [] ∧ x'.lA = none ∧ x'.lc = 0) := Ld ⟨hl1, hl2, hl3⟩
       have HVO : Hid (VOwn wx135.heap.size wx141 x' ∧ w.heap.size < wx135.heap.size) := Ld ⟨hvo, Nat.lt_of_lt_of_le HK4.out.lt (hS8).size⟩
       clear hpx hl1 hl2 hl3 hvo
       go_simp
       refine hK.out _ _ ((hS8).trans (hb141.mono (hS8).size)) (fun hS9 => ?_)
       clear hK K' hS8
       try simp only [nf]
       refine wpAnyH_done (by kernel_rfl) ?_ _
       refine lastQ_normal (wpOp_step rfl (fun K' hK => ?_))
       have h9 := HK4.out.below hS9 HK4.out.lt
       obtain ⟨t0, t1, t2, t3, t4⟩ := five_cells h9
       obtain ⟨z0, z1, z2, z3, z4⟩ := five_fr h9
       have HN2 := Ld (own_stM (w := w) (p := headR kind v tx) h9 (Nat.le_refl _) HVO.out.2 HVO.out.1 (HB4.out.trans ((hS9).mono HB4.out.size)) (Nat.le_of_lt HVO.out.2) HPX.out HNL.out)
       clear h9
       go_simp
       refine hK _ _ ?_
       clear hK K' hS9 z0 z1 z2 z3 z4 t0 t1 t2 t3 t4
       generalize (((((wx141.setCell ⟨w.heap.size, 0, none⟩ (.int .i64 x'.k)).setCell ⟨w.heap.size, 1, none⟩ (.int .i64 x'.n)).setCell ⟨w.heap.size, 2, none⟩ (.string x'.s)).setCell ⟨w.heap.size, 3, none⟩ (.slice x'.lA x'.l.length x'.lc)).setCell ⟨w.heap.size, 4, none⟩ (.slice x'.mA x'.m.length x'.mc)) = WE at HN2 ⊢
       go_wp2
       obtain ⟨k0, k1, k2, k3, k4⟩ := five_cells HN2.out.1
       refine bodyPost_ret (v := x'.val) (by simp [results, Tryz.results38, go_sem, k0, k1, k2, k3, k4, MV.val]) rfl ?_
       exact HN2.out.2
end Go.Proofs.YtefkpphahimkgaaGreatDoor
