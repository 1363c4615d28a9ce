/-
 listing.fileValue.
-/
import Derived.Test.YtefkpphahimkgaaGreatDoorTk
import Derived.Test.YtefkpphahimkgaaGreatDoorLiV2
import Derived.Test.YtefkpphahimkgaaGreatDoorGV
namespace Go.Proofs.YtefkpphahimkgaaGreatDoor
open Go.RowKit
attribute [local go_sem ↓] Go.wp_at_zero Go.wp_at_succ
set_option linter.unusedVariables false
set_option linter.unusedSimpArgs false
def lnK : ByteArray := ⟨#[108, 101, 110, 103, 116, 104]⟩
def haK : ByteArray := ⟨#[104, 97, 115, 104, 101, 115]⟩
def shK : ByteArray := ⟨#[115, 104, 97, 50, 53, 54]⟩
def fileP1 (m : ME) : PV := if 0 ≤ m.len then mpV [veK, lnK] [inV m.ver, inV m.len] else mpV [veK] [inV m.ver]
def fileP (m : ME) : PV := if m.hash = ⟨#[]⟩ then fileP1 m else (fileP1 m).withP haK (mpV [shK] [txV m.hash])
theorem with_len (m : ME) : (mpV [veK] [inV m.ver]).withP lnK (inV m.len) = mpV [veK, lnK] [inV m.ver, inV m.len] := by
 unfold mpV PV.withP
 simp only [if_true, List.zip_cons_cons, List.zip_nil_left, withM]
 rw [if_neg (by decide)]
 rfl
structure FvS (w : World) (B : Nat) (m : ME) (x : MV) (V : World) : Prop where
 bel : Below w.heap.size w V
 me : Blk V w.heap.size 44 #[.string m.name, .int .i64 m.ver, .int .i64 m.len, .string m.hash]
 res : Blk V (w.heap.size + 1) 30 #[.int .i64 0, .int .i64 0, .string ⟨#[]⟩, .slice none 0 0, .slice none 0 0]
 box : Blk V B 30 #[.int .i64 x.k, .int .i64 x.n, .string x.s, .slice x.lA x.l.length x.lc, .slice x.mA x.m.length x.mc]
 hB : w.heap.size + 2 ≤ B
 own : ∃ base, w.heap.size + 2 ≤ base ∧ VOwn base V x
theorem FvS.below {w V V' : World} {B : Nat} {m : ME} {x : MV} (h : FvS w B m x V) (hb : Below V.heap.size V V') : FvS w B m x V' := by
 obtain ⟨base, h1, h2⟩ := h.own
 exact ⟨h.bel.trans (hb.mono h.bel.size), h.me.below hb h.me.lt, h.res.below hb h.res.lt, h.box.below hb h.box.lt, h.hB, base, h1, h2.below hb⟩
theorem FvS.store {w V V' : World} {B base : Nat} {m : ME} {x x' : MV} (h : FvS w B m x V) (hb : Below V.heap.size V V') (hB : B < base) (ho : VOwn base V' x') : FvS w B m x' (((((V'.setCell ⟨B, 0, none⟩ (.int .i64 x'.k)).setCell ⟨B, 1, none⟩ (.int .i64 x'.n)).setCell ⟨B, 2, none⟩ (.string x'.s)).setCell ⟨B, 3, none⟩ (.slice x'.lA x'.l.length x'.lc)).setCell ⟨B, 4, none⟩ (.slice x'.mA x'.m.length x'.mc)) := by
 have hB2 := h.hB
 have hf : Fr (· = B) V' (((((V'.setCell ⟨B, 0, none⟩ (.int .i64 x'.k)).setCell ⟨B, 1, none⟩ (.int .i64 x'.n)).setCell ⟨B, 2, none⟩ (.string x'.s)).setCell ⟨B, 3, none⟩ (.slice x'.lA x'.l.length x'.lc)).setCell ⟨B, 4, none⟩ (.slice x'.mA x'.m.length x'.mc)) := fr_five
 refine ⟨Fr.below_trans (h.bel.trans (hb.mono h.bel.size)) hf (Nat.le_trans h.bel.size hb.size) (fun b e => by have e' : b = B := e; omega), (h.me.below hb h.me.lt).fr hf (fun e => by have e' : w.heap.size = B := e; omega), (h.res.below hb h.res.lt).fr hf (fun e => by have e' : w.heap.size + 1 = B := e; omega), blk_five (h.box.below hb h.box.lt), hB2, base, by omega, ho.fr_low hf (fun k e => by have e' : k = B := e; omega)⟩
theorem own_st {w w4 : World} {g base : Nat} {v' : MV} {p : PV} {z0 z1 z2 z3 z4 : Value} (hy : Blk w4 g 30 #[z0, z1, z2, z3, z4]) (hg : w.heap.size ≤ g) (hlt : g < base) (hvo : VOwn base w4 v') (hb : Below w.heap.size w w4) (hb3 : w.heap.size ≤ base) (hp : v'.pv = p) :
  Blk (((((w4.setCell ⟨g, 0, none⟩ (.int .i64 v'.k)).setCell ⟨g, 1, none⟩ (.int .i64 v'.n)).setCell ⟨g, 2, none⟩ (.string v'.s)).setCell ⟨g, 3, none⟩ (.slice v'.lA v'.l.length v'.lc)).setCell ⟨g, 4, none⟩ (.slice v'.mA v'.m.length v'.mc)) g 30 #[.int .i64 v'.k, .int .i64 v'.n, .string v'.s, .slice v'.lA v'.l.length v'.lc, .slice v'.mA v'.m.length v'.mc] ∧ OwP p w (.returned v'.val) (((((w4.setCell ⟨g, 0, none⟩ (.int .i64 v'.k)).setCell ⟨g, 1, none⟩ (.int .i64 v'.n)).setCell ⟨g, 2, none⟩ (.string v'.s)).setCell ⟨g, 3, none⟩ (.slice v'.lA v'.l.length v'.lc)).setCell ⟨g, 4, none⟩ (.slice v'.mA v'.m.length v'.mc)) :=
 ⟨blk_five hy, v', rfl, hp, (hvo.fr_low fr_five (fun k e => by rw [show k = g from e]; exact hlt)).base_le hb3, Fr.below_trans hb fr_five hb.size (fun b e => by rw [show b = g from e]; exact hg)⟩
theorem FvS.fin {w V : World} {B : Nat} {m : ME} {x : MV} {p : PV} (h : FvS w B m x V) (hp : x.pv = p) : Blk (((((V.setCell ⟨w.heap.size + 1, 0, none⟩ (.int .i64 x.k)).setCell ⟨w.heap.size + 1, 1, none⟩ (.int .i64 x.n)).setCell ⟨w.heap.size + 1, 2, none⟩ (.string x.s)).setCell ⟨w.heap.size + 1, 3, none⟩ (.slice x.lA x.l.length x.lc)).setCell ⟨w.heap.size + 1, 4, none⟩ (.slice x.mA x.m.length x.mc)) (w.heap.size + 1) 30 #[.int .i64 x.k, .int .i64 x.n, .string x.s, .slice x.lA x.l.length x.lc, .slice x.mA x.m.length x.mc] ∧ OwP p w (.returned x.val) (((((V.setCell ⟨w.heap.size + 1, 0, none⟩ (.int .i64 x.k)).setCell ⟨w.heap.size + 1, 1, none⟩ (.int .i64 x.n)).setCell ⟨w.heap.size + 1, 2, none⟩ (.string x.s)).setCell ⟨w.heap.size + 1, 3, none⟩ (.slice x.lA x.l.length x.lc)).setCell ⟨w.heap.size + 1, 4, none⟩ (.slice x.mA x.m.length x.mc)) := by
 obtain ⟨base, hb1, hb2⟩ := h.own
 have hB := h.hB
 exact own_st h.res (by omega) (by omega) hb2 h.bel (by omega) hp
theorem FvS.at_ {w V : World} {B : Nat} {m : ME} {x : MV} (h : FvS w B m x V) : VAt V x := by
 obtain ⟨base, _, h2⟩ := h.own
 exact h2.at_
set_option maxRecDepth 100000 in
set_option maxHeartbeats 8000000 in
theorem fileValue_any (m : ME) (w : World) (hw : (Lit.int .i64 m.ver).wf = true ∧ (Lit.int .i64 m.len).wf = true) : Calls Tryz.prog 28 #[m.val] w fun e w' => PF (OwP (fileP m) w) e w' := by
 obtain ⟨W2, hW2⟩ : ∃ W2, W2 = (w.alloc (.cells #[.string m.name, .int .i64 m.ver, .int .i64 m.len, .string m.hash] 44)).alloc (.cells #[.int .i64 0, .int .i64 0, .string ⟨#[]⟩, .slice none 0 0, .slice none 0 0] 30) := ⟨_, rfl⟩
 obtain ⟨hb2, hk1, hk2, hs2⟩ := new2_ w _ _ _ _ W2 hW2
 have HIV := Ld (fun V => int_any m.ver V hw.1)
 have HIN := Ld (fun V => int_any m.len V hw.2)
 have HW2 := Ld hW2
 have HB2 := Ld hb2
 have HK1 := Ld hk1
 have HK2 := Ld hk2
 have HS2 := Ld hs2
 unfold ME.val
 clear hw hW2 hb2 hk1 hk2 hs2
 go_enter Tryz.func28, Tryz.ntmps28
 go_wp2_with fail
 rw [← HW2.out]
 refine (HIV.out _).mono ?_
 rintro e w3 ⟨y0, rfl, hpy, hoy, hb3⟩
 unfold MV.val
 have hmp := map_any (pairs_new w3 [y0.keyed veK] #[.string veK, .int .i64 y0.k, .int .i64 y0.n, .string y0.s, .slice y0.lA y0.l.length y0.lc, .slice y0.mA y0.m.length y0.mc] (by simp [keyed_pcs]) (fun x hx => by
  simp only [List.mem_cons, List.mem_nil_iff, or_false] at hx
  rw [hx]
  exact hoy.at_.keyed _) (by simp) ⟨#[]⟩) (fit_cnt (by
  rw [MV.pv]
  simp only [MV.pvL, keyed_pv, hpy, PV.one, PV.cnt, PV.cntL]
  omega))
 have HMP := Ld hmp
 have HPY := Ld hpy
 have HB3 : Hid (Below W2.heap.size W2 (w3.alloc (.cells #[.string veK, .int .i64 y0.k, .int .i64 y0.n, .string y0.s, .slice y0.lA y0.l.length y0.lc, .slice y0.mA y0.m.length y0.mc] 73))) := Ld (hb3.alloc hb3.size _)
 clear hmp hpy hoy hb3
 go_wp2_with fail
 refine HMP.out.mono ?_
 rintro e w4 ⟨x, rfl, hpx, hox, hb4⟩
 unfold MV.val
 obtain ⟨B, hB⟩ : ∃ B, B = w4.heap.size := ⟨_, rfl⟩
 obtain ⟨WC, hWC⟩ : ∃ WC, WC = w4.alloc (.cells #[.int .i64 x.k, .int .i64 x.n, .string x.s, .slice x.lA x.l.length x.lc, .slice x.mA x.m.length x.mc] 30) := ⟨_, rfl⟩
 have hbc : Below w4.heap.size w4 WC := by rw [hWC]; exact below_new _ _
 have HPx : Hid (x.pv = mpV [veK] [inV m.ver]) := Ld (hpx.trans (by
  simp only [List.map_cons, List.map_nil, keyed_key, MV.pvL, keyed_pv, HPY.out]
  rfl))
 have HSa : Hid (FvS w B m x WC) := Ld (by
  have h34 : Below W2.heap.size W2 w4 := HB3.out.trans (hb4.mono HB3.out.size)
  have h2C : Below W2.heap.size W2 WC := h34.trans (hbc.mono h34.size)
  have h9 := HS2.out
  have h8 := h34.size
  exact ⟨HB2.out.trans (h2C.mono HB2.out.size), HK1.out.below h2C HK1.out.lt, HK2.out.below h2C HK2.out.lt, by rw [hWC, hB]; exact Blk.new _ _ _, by omega, _, (by have h7 := HB3.out.size; omega), hox.below hbc⟩)
 have HWC := Ld hWC
 have HBB := Ld hB
 clear hpx hox hb4 hbc hWC hB
 have HBa : Hid (∀ V, Below WC.heap.size WC V → V.cell? ⟨B, 0, none⟩ = some (.int .i64 x.k) ∧ V.cell? ⟨B, 1, none⟩ = some (.int .i64 x.n) ∧ V.cell? ⟨B, 2, none⟩ = some (.string x.s) ∧ V.cell? ⟨B, 3, none⟩ = some (.slice x.lA x.l.length x.lc) ∧ V.cell? ⟨B, 4, none⟩ = some (.slice x.mA x.m.length x.mc) ∧ V.cell? ⟨w.heap.size, 2, none⟩ = some (.int .i64 m.len) ∧ V.cell? ⟨w.heap.size, 3, none⟩ = some (.string m.hash)) := Ld (fun V hV => by
  have h9 := HSa.out.below hV
  obtain ⟨k0, k1, k2, k3, k4⟩ := five_cells h9.box
  exact ⟨k0, k1, k2, k3, k4, h9.me.cell 2, h9.me.cell 3⟩)
 obtain ⟨h0, h1, h2, h3, h4, h5, h6⟩ := HBa.out WC (Below.refl _ _)
 go_upto_region 2 with (fail)
 rw [← HWC.out, ← HBB.out]
 by_cases hl : 0 ≤ m.len
 ·have d1 : decide (m.len ≥ 0) = true := decide_eq_true hl
  have d1' : decide (0 ≤ m.len) = true := decide_eq_true hl
  have HF1 : Hid (fileP1 m = mpV [veK, lnK] [inV m.ver, inV m.len]) := Ld (by unfold fileP1; rw [if_pos hl])
  clear hl
  go_wp2
  refine wp_region_last (S := fun V => Below WC.heap.size WC V) (st := 5) (n := 5) (by kernel_rfl) rfl (by kernel_rfl) rfl ((Below.refl _ _).drew) (fun hS1 => ?_)
  refine tk 0 (some 13) (.agg #[.int .i64 x.k, .int .i64 x.n, .string x.s, .slice x.lA x.l.length x.lc, .slice x.mA x.m.length x.mc]) rfl (fun V hS => by obtain ⟨h0, h1, h2, h3, h4, h5, h6⟩ := HBa.out V hS; go_simp) hS1 ?_
  simp only [nf]
  refine tk 1 (some 14) (.pointer (some ⟨w.heap.size, 2, none⟩)) rfl (fun V hS => by go_simp) hS1 ?_
  simp only [nf]
  refine tk 2 (some 15) (.int .i64 m.len) rfl (fun V hS => by obtain ⟨h0, h1, h2, h3, h4, h5, h6⟩ := HBa.out V hS; go_simp) hS1 ?_
  simp only [nf]
  refine rd1 3 rfl (fun K' hK => ?_)
  go_simp
  refine (HIN.out _).mono ?_
  rintro e wy ⟨y, rfl, hpy, hoy, hby⟩
  unfold MV.val
  have HYy : Hid (VAt wy y ∧ y.pv = inV m.len) := Ld ⟨hoy.at_, hpy⟩
  clear hpy hoy
  go_simp
  refine hK.out _ _ ((hS1).trans (hby.mono (hS1).size)) (fun hS2 => ?_)
  clear hK K' hS1
  refine rd1 4 rfl (fun K' hK => ?_)
  go_simp
  have hwi := with_any (HSa.out.at_.bel hS2) (fit_cnt (by rw [HPx.out]; exact (by simp [mpV, inV, txV, PV.cnt, PV.cntL]))) HYy.out.1 (fit_cnt (by rw [HYy.out.2]; simp [mpV, inV, txV, PV.cnt, PV.cntL])) lnK
  unfold MV.val at hwi
  refine hwi.mono ?_
  clear hwi
  rintro e wjx1 ⟨x1, rfl, hpv', hvo', hbj⟩
  unfold MV.val
  have HPx1 : Hid (x1.pv = mpV [veK, lnK] [inV m.ver, inV m.len]) := Ld (hpv'.trans (by rw [HPx.out, HYy.out.2]; exact with_len m))
  have HVOx1 : Hid (VOwn wy.heap.size wjx1 x1 ∧ B < wy.heap.size) := Ld ⟨hvo', Nat.lt_of_lt_of_le HSa.out.box.lt (hS2).size⟩
  clear hpv' hvo'
  go_simp
  refine hK.out _ _ ((hS2).trans (hbj.mono (hS2).size)) (fun hS3 => ?_)
  clear hK K' hS2
  refine wpAnyH_done (by kernel_rfl) ?_ _
  refine lastQ_normal (wpOp_step rfl (fun K' hK => ?_))
  have h9 := HSa.out.below hS3
  obtain ⟨t0, t1, t2, t3, t4⟩ := five_cells h9.box
  obtain ⟨z0, z1, z2, z3, z4⟩ := five_fr h9.box
  have HNx1 : Hid (FvS w B m x1 (((((wjx1.setCell ⟨B, 0, none⟩ (.int .i64 x1.k)).setCell ⟨B, 1, none⟩ (.int .i64 x1.n)).setCell ⟨B, 2, none⟩ (.string x1.s)).setCell ⟨B, 3, none⟩ (.slice x1.lA x1.l.length x1.lc)).setCell ⟨B, 4, none⟩ (.slice x1.mA x1.m.length x1.mc))) := Ld (HSa.out.store hS3 HVOx1.out.2 HVOx1.out.1)
  clear h9
  go_simp
  refine hK _ _ ?_
  clear hK K' hS3 z0 z1 z2 z3 z4 t0 t1 t2 t3 t4
  generalize (((((wjx1.setCell ⟨B, 0, none⟩ (.int .i64 x1.k)).setCell ⟨B, 1, none⟩ (.int .i64 x1.n)).setCell ⟨B, 2, none⟩ (.string x1.s)).setCell ⟨B, 3, none⟩ (.slice x1.lA x1.l.length x1.lc)).setCell ⟨B, 4, none⟩ (.slice x1.mA x1.m.length x1.mc)) = WD at HNx1 ⊢
  have HSb := HNx1
  clear h0 h1 h2 h3 h4 h5 h6 d1 d1'
  have HBb : Hid (∀ V, Below WD.heap.size WD V → V.cell? ⟨B, 0, none⟩ = some (.int .i64 x1.k) ∧ V.cell? ⟨B, 1, none⟩ = some (.int .i64 x1.n) ∧ V.cell? ⟨B, 2, none⟩ = some (.string x1.s) ∧ V.cell? ⟨B, 3, none⟩ = some (.slice x1.lA x1.l.length x1.lc) ∧ V.cell? ⟨B, 4, none⟩ = some (.slice x1.mA x1.m.length x1.mc) ∧ V.cell? ⟨w.heap.size, 2, none⟩ = some (.int .i64 m.len) ∧ V.cell? ⟨w.heap.size, 3, none⟩ = some (.string m.hash)) := Ld (fun V hV => by
   have h9 := HSb.out.below hV
   obtain ⟨k0, k1, k2, k3, k4⟩ := five_cells h9.box
   exact ⟨k0, k1, k2, k3, k4, h9.me.cell 2, h9.me.cell 3⟩)
  obtain ⟨h0, h1, h2, h3, h4, h5, h6⟩ := HBb.out WD (Below.refl _ _)
  by_cases he : m.hash = ⟨#[]⟩
  ·have HFP : Hid (fileP m = mpV [veK, lnK] [inV m.ver, inV m.len]) := Ld (by unfold fileP; rw [if_pos he, HF1.out])
   have g2 : m.hash.toList = [] := by rw [he, ByteArray.toList_eq]
   clear he h0 h1 h2 h3 h4 h5
   go_upto_region 6 with (fail)
   have hst := HSb.out
   obtain ⟨t0, t1, t2, t3, t4⟩ := five_cells hst.box
   obtain ⟨y0, y1, y2, y3, y4⟩ := five_cells hst.res
   obtain ⟨z0, z1, z2, z3, z4⟩ := five_fr hst.res
   have HF := Ld (hst.fin (p := fileP m) (by rw [HPx1.out]; exact HFP.out.symm))
   clear hst
   go_wp2
   obtain ⟨k0, k1, k2, k3, k4⟩ := five_cells HF.out.1
   refine bodyPost_ret (v := x1.val) (by simp [results, Tryz.results28, go_sem, k0, k1, k2, k3, k4, MV.val]) rfl ?_
   exact HF.out.2
  ·have HFP : Hid (fileP m = (mpV [veK, lnK] [inV m.ver, inV m.len]).withP haK (mpV [shK] [txV m.hash])) := Ld (by unfold fileP; rw [if_neg he, HF1.out])
   have g2 : ¬ m.hash.toList = [] := fun e => he (toList_injV (e.trans (by rw [ByteArray.toList_eq])))
   have g3 : m.hash.toList.isEmpty = false := by
    cases hx : m.hash.toList with
    | nil => exact absurd hx g2
    | cons a b => rfl
   have g4 : (m.hash.toList == []) = false := beq_eq_false_iff_ne.2 g2
   have g5 : (m.hash.toList != []) = true := by rw [bne, g4]; rfl
   have g6 : decide (m.hash.toList = []) = false := decide_eq_false g2
   clear he
   go_wp2
   refine wp_region_last (S := fun V => Below WD.heap.size WD V) (st := 8) (n := 8) (by kernel_rfl) rfl (by kernel_rfl) rfl ((Below.refl _ _).drew) (fun hS1 => ?_)
   refine tk 0 (some 21) (.agg #[.int .i64 x1.k, .int .i64 x1.n, .string x1.s, .slice x1.lA x1.l.length x1.lc, .slice x1.mA x1.m.length x1.mc]) rfl (fun V hS => by obtain ⟨h0, h1, h2, h3, h4, h5, h6⟩ := HBb.out V hS; go_simp) hS1 ?_
   simp only [nf]
   refine tk 1 (some 22) (.pointer (some ⟨w.heap.size, 3, none⟩)) rfl (fun V hS => by go_simp) hS1 ?_
   simp only [nf]
   refine tk 2 (some 23) (.string m.hash) rfl (fun V hS => by obtain ⟨h0, h1, h2, h3, h4, h5, h6⟩ := HBb.out V hS; go_simp) hS1 ?_
   simp only [nf]
   refine rd1 3 rfl (fun K' hK => ?_)
   go_simp
   refine (text_any m.hash _).mono ?_
   rintro e wy ⟨y, rfl, hpy, hoy, hby⟩
   unfold MV.val
   have HYt : Hid (VAt wy y ∧ y.pv = txV m.hash) := Ld ⟨hoy.at_, hpy⟩
   clear hpy hoy
   go_simp
   refine hK.out _ _ ((hS1).trans (hby.mono (hS1).size)) (fun hS2 => ?_)
   clear hK K' hS1
   refine tk 4 (some 25) (.agg #[.string shK, .int .i64 y.k, .int .i64 y.n, .string y.s, .slice y.lA y.l.length y.lc, .slice y.mA y.m.length y.mc]) rfl (fun V hS => by go_simp; rfl) hS2 ?_
   simp only [nf]
   refine rd1 5 rfl (fun K' hK => ?_)
   go_simp
   refine hK.out _ _ ((hS2).alloc (hS2).size _) (fun hS3 => ?_)
   clear hK K' hS2
   refine rd1 6 rfl (fun K' hK => ?_)
   go_simp
   have hmp := map_any (pairs_new wy [y.keyed shK] #[.string shK, .int .i64 y.k, .int .i64 y.n, .string y.s, .slice y.lA y.l.length y.lc, .slice y.mA y.m.length y.mc] (by simp [keyed_pcs]) (fun x hx => by
    simp only [List.mem_cons, List.mem_nil_iff, or_false] at hx
    rw [hx]
    exact HYt.out.1.keyed _) (by simp) ⟨#[]⟩) (fit_cnt (by
    rw [MV.pv]
    simp only [MV.pvL, keyed_pv, HYt.out.2, PV.cnt, PV.cntL, txV]
    omega))
   refine hmp.mono ?_
   clear hmp
   rintro e wz ⟨z, rfl, hpz, hoz, hbz⟩
   unfold MV.val
   have HYz : Hid (VAt wz z ∧ z.pv = mpV [shK] [txV m.hash]) := Ld ⟨hoz.at_, hpz.trans (by
    simp only [List.map_cons, List.map_nil, keyed_key, MV.pvL, keyed_pv, HYt.out.2]
    rfl)⟩
   clear hpz hoz
   go_simp
   refine hK.out _ _ ((hS3).trans (hbz.mono (hS3).size)) (fun hS4 => ?_)
   clear hK K' hS3
   refine rd1 7 rfl (fun K' hK => ?_)
   go_simp
   have hwi := with_any (HSb.out.at_.bel hS4) (fit_cnt (by rw [HPx1.out]; exact (by simp [mpV, inV, txV, PV.cnt, PV.cntL]))) HYz.out.1 (fit_cnt (by rw [HYz.out.2]; simp [mpV, inV, txV, PV.cnt, PV.cntL])) haK
   unfold MV.val at hwi
   refine hwi.mono ?_
   clear hwi
   rintro e wjx2 ⟨x2, rfl, hpv', hvo', hbj⟩
   unfold MV.val
   have HPx2 : Hid (x2.pv = (mpV [veK, lnK] [inV m.ver, inV m.len]).withP haK (mpV [shK] [txV m.hash])) := Ld (hpv'.trans (by rw [HPx1.out, HYz.out.2]))
   have HVOx2 : Hid (VOwn wz.heap.size wjx2 x2 ∧ B < wz.heap.size) := Ld ⟨hvo', Nat.lt_of_lt_of_le HSb.out.box.lt (hS4).size⟩
   clear hpv' hvo'
   go_simp
   refine hK.out _ _ ((hS4).trans (hbj.mono (hS4).size)) (fun hS5 => ?_)
   clear hK K' hS4
   refine wpAnyH_done (by kernel_rfl) ?_ _
   refine lastQ_normal (wpOp_step rfl (fun K' hK => ?_))
   have h9 := HSb.out.below hS5
   obtain ⟨t0, t1, t2, t3, t4⟩ := five_cells h9.box
   obtain ⟨z0, z1, z2, z3, z4⟩ := five_fr h9.box
   have HNx2 : Hid (FvS w B m x2 (((((wjx2.setCell ⟨B, 0, none⟩ (.int .i64 x2.k)).setCell ⟨B, 1, none⟩ (.int .i64 x2.n)).setCell ⟨B, 2, none⟩ (.string x2.s)).setCell ⟨B, 3, none⟩ (.slice x2.lA x2.l.length x2.lc)).setCell ⟨B, 4, none⟩ (.slice x2.mA x2.m.length x2.mc))) := Ld (HSb.out.store hS5 HVOx2.out.2 HVOx2.out.1)
   clear h9
   go_simp
   refine hK _ _ ?_
   clear hK K' hS5 z0 z1 z2 z3 z4 t0 t1 t2 t3 t4
   generalize (((((wjx2.setCell ⟨B, 0, none⟩ (.int .i64 x2.k)).setCell ⟨B, 1, none⟩ (.int .i64 x2.n)).setCell ⟨B, 2, none⟩ (.string x2.s)).setCell ⟨B, 3, none⟩ (.slice x2.lA x2.l.length x2.lc)).setCell ⟨B, 4, none⟩ (.slice x2.mA x2.m.length x2.mc)) = WE at HNx2 ⊢
   have HSd := HNx2
   clear h0 h1 h2 h3 h4 h5 h6
   have hst := HSd.out
   obtain ⟨t0, t1, t2, t3, t4⟩ := five_cells hst.box
   obtain ⟨y0, y1, y2, y3, y4⟩ := five_cells hst.res
   obtain ⟨z0, z1, z2, z3, z4⟩ := five_fr hst.res
   have HF := Ld (hst.fin (p := fileP m) (by rw [HPx2.out]; exact HFP.out.symm))
   clear hst
   go_wp2
   obtain ⟨k0, k1, k2, k3, k4⟩ := five_cells HF.out.1
   refine bodyPost_ret (v := x2.val) (by simp [results, Tryz.results28, go_sem, k0, k1, k2, k3, k4, MV.val]) rfl ?_
   exact HF.out.2
 ·have d1 : decide (m.len ≥ 0) = false := decide_eq_false hl
  have d1' : decide (0 ≤ m.len) = false := decide_eq_false hl
  have HF1 : Hid (fileP1 m = mpV [veK] [inV m.ver]) := Ld (by unfold fileP1; rw [if_neg hl])
  clear hl
  by_cases he : m.hash = ⟨#[]⟩
  ·have HFP : Hid (fileP m = mpV [veK] [inV m.ver]) := Ld (by unfold fileP; rw [if_pos he, HF1.out])
   have g2 : m.hash.toList = [] := by rw [he, ByteArray.toList_eq]
   clear he
   go_upto_region 6 with (fail)
   clear h0 h1 h2 h3 h4 h5 h6
   have hst := HSa.out
   obtain ⟨t0, t1, t2, t3, t4⟩ := five_cells hst.box
   obtain ⟨y0, y1, y2, y3, y4⟩ := five_cells hst.res
   obtain ⟨z0, z1, z2, z3, z4⟩ := five_fr hst.res
   have HF := Ld (hst.fin (p := fileP m) (by rw [HPx.out]; exact HFP.out.symm))
   clear hst
   go_wp2
   obtain ⟨k0, k1, k2, k3, k4⟩ := five_cells HF.out.1
   refine bodyPost_ret (v := x.val) (by simp [results, Tryz.results28, go_sem, k0, k1, k2, k3, k4, MV.val]) rfl ?_
   exact HF.out.2
  ·have HFP : Hid (fileP m = (mpV [veK] [inV m.ver]).withP haK (mpV [shK] [txV m.hash])) := Ld (by unfold fileP; rw [if_neg he, HF1.out])
   have g2 : ¬ m.hash.toList = [] := fun e => he (toList_injV (e.trans (by rw [ByteArray.toList_eq])))
   have g3 : m.hash.toList.isEmpty = false := by
    cases hx : m.hash.toList with
    | nil => exact absurd hx g2
    | cons a b => rfl
   have g4 : (m.hash.toList == []) = false := beq_eq_false_iff_ne.2 g2
   have g5 : (m.hash.toList != []) = true := by rw [bne, g4]; rfl
   have g6 : decide (m.hash.toList = []) = false := decide_eq_false g2
   clear he
   go_wp2
   refine wp_region_last (S := fun V => Below WC.heap.size WC V) (st := 8) (n := 8) (by kernel_rfl) rfl (by kernel_rfl) rfl ((Below.refl _ _).drew) (fun hS1 => ?_)
   refine tk 0 (some 21) (.agg #[.int .i64 x.k, .int .i64 x.n, .string x.s, .slice x.lA x.l.length x.lc, .slice x.mA x.m.length x.mc]) rfl (fun V hS => by obtain ⟨h0, h1, h2, h3, h4, h5, h6⟩ := HBa.out V hS; go_simp) hS1 ?_
   simp only [nf]
   refine tk 1 (some 22) (.pointer (some ⟨w.heap.size, 3, none⟩)) rfl (fun V hS => by go_simp) hS1 ?_
   simp only [nf]
   refine tk 2 (some 23) (.string m.hash) rfl (fun V hS => by obtain ⟨h0, h1, h2, h3, h4, h5, h6⟩ := HBa.out V hS; go_simp) hS1 ?_
   simp only [nf]
   refine rd1 3 rfl (fun K' hK => ?_)
   go_simp
   refine (text_any m.hash _).mono ?_
   rintro e wy ⟨y, rfl, hpy, hoy, hby⟩
   unfold MV.val
   have HYt : Hid (VAt wy y ∧ y.pv = txV m.hash) := Ld ⟨hoy.at_, hpy⟩
   clear hpy hoy
   go_simp
   refine hK.out _ _ ((hS1).trans (hby.mono (hS1).size)) (fun hS2 => ?_)
   clear hK K' hS1
   refine tk 4 (some 25) (.agg #[.string shK, .int .i64 y.k, .int .i64 y.n, .string y.s, .slice y.lA y.l.length y.lc, .slice y.mA y.m.length y.mc]) rfl (fun V hS => by go_simp; rfl) hS2 ?_
   simp only [nf]
   refine rd1 5 rfl (fun K' hK => ?_)
   go_simp
   refine hK.out _ _ ((hS2).alloc (hS2).size _) (fun hS3 => ?_)
   clear hK K' hS2
   refine rd1 6 rfl (fun K' hK => ?_)
   go_simp
   have hmp := map_any (pairs_new wy [y.keyed shK] #[.string shK, .int .i64 y.k, .int .i64 y.n, .string y.s, .slice y.lA y.l.length y.lc, .slice y.mA y.m.length y.mc] (by simp [keyed_pcs]) (fun x hx => by
    simp only [List.mem_cons, List.mem_nil_iff, or_false] at hx
    rw [hx]
    exact HYt.out.1.keyed _) (by simp) ⟨#[]⟩) (fit_cnt (by
    rw [MV.pv]
    simp only [MV.pvL, keyed_pv, HYt.out.2, PV.cnt, PV.cntL, txV]
    omega))
   refine hmp.mono ?_
   clear hmp
   rintro e wz ⟨z, rfl, hpz, hoz, hbz⟩
   unfold MV.val
   have HYz : Hid (VAt wz z ∧ z.pv = mpV [shK] [txV m.hash]) := Ld ⟨hoz.at_, hpz.trans (by
    simp only [List.map_cons, List.map_nil, keyed_key, MV.pvL, keyed_pv, HYt.out.2]
    rfl)⟩
   clear hpz hoz
   go_simp
   refine hK.out _ _ ((hS3).trans (hbz.mono (hS3).size)) (fun hS4 => ?_)
   clear hK K' hS3
   refine rd1 7 rfl (fun K' hK => ?_)
   go_simp
   have hwi := with_any (HSa.out.at_.bel hS4) (fit_cnt (by rw [HPx.out]; exact (by simp [mpV, inV, txV, PV.cnt, PV.cntL]))) HYz.out.1 (fit_cnt (by rw [HYz.out.2]; simp [mpV, inV, txV, PV.cnt, PV.cntL])) haK
   unfold MV.val at hwi
   refine hwi.mono ?_
   clear hwi
   rintro e wjx3 ⟨x3, rfl, hpv', hvo', hbj⟩
   unfold MV.val
   have HPx3 : Hid (x3.pv = (mpV [veK] [inV m.ver]).withP haK (mpV [shK] [txV m.hash])) := Ld (hpv'.trans (by rw [HPx.out, HYz.out.2]))
   have HVOx3 : Hid (VOwn wz.heap.size wjx3 x3 ∧ B < wz.heap.size) := Ld ⟨hvo', Nat.lt_of_lt_of_le HSa.out.box.lt (hS4).size⟩
   clear hpv' hvo'
   go_simp
   refine hK.out _ _ ((hS4).trans (hbj.mono (hS4).size)) (fun hS5 => ?_)
   clear hK K' hS4
   refine wpAnyH_done (by kernel_rfl) ?_ _
   refine lastQ_normal (wpOp_step rfl (fun K' hK => ?_))
   have h9 := HSa.out.below hS5
   obtain ⟨t0, t1, t2, t3, t4⟩ := five_cells h9.box
   obtain ⟨z0, z1, z2, z3, z4⟩ := five_fr h9.box
   have HNx3 : Hid (FvS w B m x3 (((((wjx3.setCell ⟨B, 0, none⟩ (.int .i64 x3.k)).setCell ⟨B, 1, none⟩ (.int .i64 x3.n)).setCell ⟨B, 2, none⟩ (.string x3.s)).setCell ⟨B, 3, none⟩ (.slice x3.lA x3.l.length x3.lc)).setCell ⟨B, 4, none⟩ (.slice x3.mA x3.m.length x3.mc))) := Ld (HSa.out.store hS5 HVOx3.out.2 HVOx3.out.1)
   clear h9
   go_simp
   refine hK _ _ ?_
   clear hK K' hS5 z0 z1 z2 z3 z4 t0 t1 t2 t3 t4
   generalize (((((wjx3.setCell ⟨B, 0, none⟩ (.int .i64 x3.k)).setCell ⟨B, 1, none⟩ (.int .i64 x3.n)).setCell ⟨B, 2, none⟩ (.string x3.s)).setCell ⟨B, 3, none⟩ (.slice x3.lA x3.l.length x3.lc)).setCell ⟨B, 4, none⟩ (.slice x3.mA x3.m.length x3.mc)) = WE at HNx3 ⊢
   have HSe := HNx3
   clear h0 h1 h2 h3 h4 h5 h6
   have hst := HSe.out
   obtain ⟨t0, t1, t2, t3, t4⟩ := five_cells hst.box
   obtain ⟨y0, y1, y2, y3, y4⟩ := five_cells hst.res
   obtain ⟨z0, z1, z2, z3, z4⟩ := five_fr hst.res
   have HF := Ld (hst.fin (p := fileP m) (by rw [HPx3.out]; exact HFP.out.symm))
   clear hst
   go_wp2
   obtain ⟨k0, k1, k2, k3, k4⟩ := five_cells HF.out.1
   refine bodyPost_ret (v := x3.val) (by simp [results, Tryz.results28, go_sem, k0, k1, k2, k3, k4, MV.val]) rfl ?_
   exact HF.out.2
end Go.Proofs.YtefkpphahimkgaaGreatDoor
