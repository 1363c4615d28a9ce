/-
 The document's Value of a listing.
-/
import Derived.Test.YtefkpphahimkgaaGreatDoorTk
import Derived.Test.YtefkpphahimkgaaGreatDoorLiD3
import Derived.Test.YtefkpphahimkgaaGreatDoorLiW5
import Derived.Test.YtefkpphahimkgaaGreatDoorLiR6
namespace Go.Proofs.YtefkpphahimkgaaGreatDoor
open Go.RowKit
attribute [local go_sem ↓] Go.wp_at_zero Go.wp_at_succ
set_option linter.unusedVariables false
set_option linter.unusedSimpArgs false
def refP (kind : ByteArray) (v : Int) (tx : ByteArray) (l : List ME) : PV := mpV [tyK, exK, spK, veK, meK] [txV kind, txV tx, txV spT, inV v, metaL l]
theorem meta_more {l : List ME} {k : Nat} (hk : k < l.length) : metaL (l.take (k + 1)) = mpV ((l.take k).map ME.name ++ [l[k].name]) ((l.take k).map fileP ++ [fileP l[k]]) := by
 unfold metaL
 rw [List.take_succ_eq_append_getElem hk, List.map_append, List.map_append]
 rfl
theorem cells_own {w V : World} {x : MV} {B base : Nat} {V0 : World} (h : BxV V0 B base x w) (hV : Fr (fun b => (Value.slice x.mA x.m.length x.mc).ownBlock = some b) w V) : V.cell? ⟨B, 4, none⟩ = some (.slice x.mA x.m.length x.mc) :=
 (hV.cell (p := ⟨B, 4, none⟩) h.box.lt (fun e => h.rB _ e rfl)).trans (h.box.cell 4)
theorem own_lt {w : World} {x : MV} {B base : Nat} {V0 : World} (h : BxV V0 B base x w) : ∀ k, (Value.slice x.mA x.m.length x.mc).ownBlock = some k → k < w.heap.size := h.own.m.ltS
theorem hash_ne {s : ByteArray} (h : ¬ s = ⟨#[]⟩) : ¬ s.toList = [] ∧ s.toList.isEmpty = false ∧ (s.toList == []) = false ∧ (s.toList != []) = true ∧ decide (s.toList = []) = false := by
 have g2 : ¬ s.toList = [] := fun e => h (toList_injV (e.trans (by rw [ByteArray.toList_eq])))
 refine ⟨g2, ?_, beq_eq_false_iff_ne.2 g2, bne_iff_ne.2 g2, decide_eq_false g2⟩
 cases hx : s.toList with
 | nil => exact absurd hx g2
 | cons a b => rfl
set_option maxRecDepth 100000 in
set_option maxHeartbeats 16000000 in
theorem rvalue15_yes {w : World} (kind : ByteArray) (v e0 : Int) (tx : ByteArray) {A : Option Addr} {c : Nat} {l : List ME} (h : MAt w A c l) (hm : mayL kind v e0 l = true) (hd : DT e0 tx) :
  Calls Tryz.prog 12 #[.string kind, .agg #[.int .i64 v, .int .i64 e0, .slice A l.length c]] w fun e w' => PF (OwP (refP kind v tx l) w) e w' := by
 obtain ⟨n, hn⟩ : ∃ n, n = l.length := ⟨_, rfl⟩
 obtain ⟨W2, hW2⟩ : ∃ W2, W2 = (w.alloc (.cells #[.int .i64 v, .int .i64 e0, .slice A n c] 24)).alloc (.cells #[.int .i64 0, .int .i64 0, .string ⟨#[]⟩, .slice none 0 0, .slice none 0 0] 30) := ⟨_, rfl⟩
 obtain ⟨hb2, hk1, hk2, hs2⟩ := new2_ w _ _ _ _ W2 hW2
 have hmay := rmay15_any kind v e0 (h.bel hb2)
 obtain ⟨hall, hl64, hok⟩ := may_all hm
 rw [hm, ← hn] at hmay
 rw [← hn] at hl64
 rw [← hn]
 have hnI : (n : Int) ≤ 64 := by omega
 have HM := Ld hmay
 have HW2 := Ld hW2
 have HB2 := Ld hb2
 have HK1 := Ld hk1
 have HK2 := Ld hk2
 have HMA := Ld (h.bel hb2)
 have HN := Ld hn
 have HHV := Ld (fun V => rheadValue_yes (w := V) kind v e0 tx hd hok)
 have HS2 := Ld hs2
 clear hmay hW2 hb2 hk1 hk2 hs2 h hm hn hall hok hd
 go_enter Tryz.func12, Tryz.ntmps12
 go_wp2_with fail
 rw [← HW2.out]
 refine HM.out.mono ?_
 rintro e w3 ⟨rfl, hb3⟩
 have HB3 : Hid (Below w.heap.size w w3) := Ld (HB2.out.trans (hb3.mono HB2.out.size))
 have HK13 := Ld (HK1.out.below hb3 HK1.out.lt)
 have HK23 := Ld (HK2.out.below hb3 HK2.out.lt)
 have HMA3 := Ld (HMA.out.bel hb3)
 clear hb3 HM HK1 HK2 HMA
 obtain ⟨W4, hW4⟩ : ∃ W4, W4 = w3.alloc (.cells #[.int .i64 6, .int .i64 0, .string ⟨#[]⟩, .slice none 0 0, .slice none 0 0] 30) := ⟨_, rfl⟩
 obtain ⟨B, hB⟩ : ∃ B, B = w3.heap.size := ⟨_, rfl⟩
 have hx0 := BxV.new (Below.refl w3.heap.size w3) (.mk ⟨#[]⟩ 6 0 ⟨#[]⟩ none 0 [] none 0 []) rfl rfl (by decide) (by decide) ⟨rfl, rfl, rfl, rfl⟩
 simp only [MV.k, MV.n, MV.s, MV.lA, MV.lc, MV.l, MV.mA, MV.mc, MV.m, List.length_nil] at hx0
 rw [← hW4, ← hB] at hx0
 have HX0 : Hid (BxV w3 B (B + 1) (.mk ⟨#[]⟩ 6 0 ⟨#[]⟩ none 0 [] none 0 []) W4) := Ld hx0
 have HP0 : Hid ((MV.mk ⟨#[]⟩ 6 0 ⟨#[]⟩ none 0 [] none 0 []).pv = metaL (l.take 0)) := Ld rfl
 have HBB := Ld hB
 have HW4 := Ld hW4
 clear hx0 hW4 hB
 go_upto_region 4 with (fail)
 rw [← HBB.out, ← HW4.out]
 go_wp2
 go_loopw [6] (fun iv wr => ∃ (i : Nat) (x : MV), i ≤ n ∧ iv = .int .i64 (i : Int) ∧ Hid (BxV w3 B (B + 1) x wr) ∧ Hid (x.pv = metaL (l.take i))) (fun iv _ => n - (intOf iv).toNat)
 case atStart => exact ⟨0, _, Nat.zero_le _, rfl, HX0, HP0⟩
 case round =>
  clear HX0 HP0
  obtain ⟨i, x, hi, rfl, HX, HP⟩ := hrel
  have hi0 : (0 : Int) ≤ (i : Int) := by omega
  have HL2 : Hid (∀ V, Below wr.heap.size wr V → V.cell? ⟨w.heap.size, 0, none⟩ = some (.int .i64 v) ∧ V.cell? ⟨w.heap.size, 1, none⟩ = some (.int .i64 e0) ∧ V.cell? ⟨w.heap.size, 2, none⟩ = some (.slice A n c)) := Ld (fun V hV => three_cells (HK13.out.below (HX.out.bel.trans (hV.mono HX.out.bel.size)) HK13.out.lt))
  obtain ⟨x0, x1, x2⟩ := HL2.out wr (Below.refl _ _)
  rcases (by omega : i < n ∨ i = n) with hlt | heq
  ·have q0 : decide ((i : Int) < (n : Int)) = true := by rw [decide_eq_true_iff]; omega
   have q0' : decide (i < n) = true := by rw [decide_eq_true_iff]; omega
   have hii : (i : Int) < (n : Int) := by omega
   have hil : i < l.length := by rw [← HN.out]; exact hlt
   obtain ⟨b, o, hA, hbl, c0, c1, c2, c3⟩ := (HMA3.out.bel HX.out.bel).four hil
   subst hA
   obtain ⟨m, hmm⟩ : ∃ m, m = l[i] := ⟨_, rfl⟩
   rw [← hmm] at c0 c1 c2 c3
   have HWF := Ld (HMA3.out.wf m (by rw [hmm]; exact List.getElem_mem hil))
   have HNX : Hid (metaL (l.take (i + 1)) = mpV ((l.take i).map ME.name ++ [m.name]) ((l.take i).map fileP ++ [fileP m])) := Ld (by rw [meta_more hil, ← hmm])
   have HML : Hid (x.m.length = i) := Ld (by have := (pv_nil (x := x) (ks := (l.take i).map ME.name) (ps := (l.take i).map fileP) HP.out).2.2.2.2; rw [List.length_map, List.length_take] at this; omega)
   obtain ⟨WM, hWM⟩ : ∃ WM, WM = wr.alloc (.cells #[.string m.name, .int .i64 m.ver, .int .i64 m.len, .string m.hash] 44) := ⟨_, rfl⟩
   obtain ⟨BM, hBM⟩ : ∃ BM, BM = wr.heap.size := ⟨_, rfl⟩
   have hbm : Below wr.heap.size wr WM := by rw [hWM]; exact below_new _ _
   have hkm : Blk WM BM 44 #[.string m.name, .int .i64 m.ver, .int .i64 m.len, .string m.hash] := by rw [hWM, hBM]; exact Blk.new _ _ _
   have HMX : Hid (∀ V, Below WM.heap.size WM V → V.cell? ⟨BM, 0, none⟩ = some (.string m.name) ∧ V.cell? ⟨BM, 1, none⟩ = some (.int .i64 m.ver) ∧ V.cell? ⟨BM, 2, none⟩ = some (.int .i64 m.len) ∧ V.cell? ⟨BM, 3, none⟩ = some (.string m.hash)) := Ld (fun V hV => by
    have h9 := hkm.below hV hkm.lt
    exact ⟨h9.cell 0, h9.cell 1, h9.cell 2, h9.cell 3⟩)
   have HBML : Hid (BM < WM.heap.size) := Ld hkm.lt
   obtain ⟨WK, hWK⟩ : ∃ WK, WK = WM.alloc (.cells #[.string ⟨#[118, 101, 114, 115, 105, 111, 110]⟩] 9) := ⟨_, rfl⟩
   obtain ⟨QK, hQK⟩ : ∃ QK, QK = WM.heap.size := ⟨_, rfl⟩
   have hbk : Below WM.heap.size WM WK := by rw [hWK]; exact (Below.refl _ _).alloc (Nat.le_refl _) _
   have HKK : Hid (Blk WK QK 9 #[.string ⟨#[118, 101, 114, 115, 105, 111, 110]⟩]) := Ld (by rw [hWK, hQK]; exact Blk.new _ _ _)
   have HWM := Ld (And.intro hWM hBM)
   have HWK := Ld (And.intro hWK hQK)
   have HBM := Ld hbm
   have HBK := Ld hbk
   have e1 : ∀ ob, (WM.alloc ob).cell? ⟨BM, 1, none⟩ = some (.int .i64 m.ver) := fun ob => (HMX.out _ ((Below.refl _ _).alloc (Nat.le_refl _) _)).2.1
   clear hWM hBM hbm hkm hWK hQK hbk hmm hbl x0 x1
   go_upto_region 8 with (fail)
   rw [← HWM.out.2, ← HWM.out.1]
   clear c0 c1 c2 c3 x2
   go_wp2_with fail
   rw [← HWK.out.2, ← HWK.out.1]
   clear e1
   refine (rInt_any m.ver WK HWF.out.1).mono ?_
   rintro e w5 ⟨y1, rfl, hp1, ho1, hb5⟩
   unfold MV.val
   obtain ⟨WL, hWL⟩ : ∃ WL, WL = w5.alloc (.cells #[.int .i64 y1.k, .int .i64 y1.n, .string y1.s, .slice y1.lA y1.l.length y1.lc, .slice y1.mA y1.m.length y1.mc] 30) := ⟨_, rfl⟩
   obtain ⟨QL, hQL⟩ : ∃ QL, QL = w5.heap.size := ⟨_, rfl⟩
   have hbl : Below w5.heap.size w5 WL := by rw [hWL]; exact below_new _ _
   have hbkl : Below WK.heap.size WK WL := hb5.trans (hbl.mono hb5.size)
   have HBL : Hid (Below WM.heap.size WM WL) := Ld (HBK.out.trans (hbkl.mono HBK.out.size))
   have HKL : Hid (Blk WL QL 30 #[.int .i64 y1.k, .int .i64 y1.n, .string y1.s, .slice y1.lA y1.l.length y1.lc, .slice y1.mA y1.m.length y1.mc]) := Ld (by rw [hWL, hQL]; exact Blk.new _ _ _)
   have HKK2 := Ld (HKK.out.below hbkl HKK.out.lt)
   have HY1 : Hid (VAt WL y1) := Ld (ho1.at_.bel hbl)
   have HP1 := Ld hp1
   have HWL := Ld (And.intro hWL hQL)
   clear hp1 ho1 hb5 hWL hQL hbl hbkl
   go_wp2_with fail
   rw [← HWL.out.2, ← HWL.out.1]
   refine (rmap_any [veK] [y1] (some ⟨QK, 0, none⟩) (some ⟨QL, 0, none⟩) 1 1 1 WL (mpA_mk (ks := [veK]) (l := [y1]) HKK2.out rfl HKL.out rfl rfl rfl (fun z hz => by rw [List.mem_singleton] at hz; rw [hz]; exact HY1.out) (fun z hz => by rw [List.mem_singleton] at hz; rw [hz]; exact (leaf_in HP1.out).1)) (by omega)).mono ?_
   rintro e w6 ⟨x8, rfl, hpx, hl1, hl2, hl3, hvo, hb6⟩
   unfold MV.val
   obtain ⟨W7, hW7⟩ : ∃ W7, W7 = w6.alloc (.cells #[.int .i64 x8.k, .int .i64 x8.n, .string x8.s, .slice x8.lA x8.l.length x8.lc, .slice x8.mA x8.m.length x8.mc] 30) := ⟨_, rfl⟩
   obtain ⟨B8, hB8⟩ : ∃ B8, B8 = w6.heap.size := ⟨_, rfl⟩
   obtain ⟨base8, hbase⟩ : ∃ base8, base8 = WL.heap.size := ⟨_, rfl⟩
   have hx8 := BxV.into (HBL.out.trans (hb6.mono HBL.out.size)) hvo HBL.out.size hb6.size ⟨hl1, hl2, hl3⟩
   rw [← hW7, ← hB8, ← hbase] at hx8
   have HX8 : Hid (BxV WM B8 base8 x8 W7) := Ld hx8
   have HP8 : Hid (x8.pv = mpV [veK] [inV m.ver]) := Ld (hpx.trans (by rw [MV.pvL, MV.pvL, HP1.out]))
   have HX7 : Hid (BxV w3 B (B + 1) x W7) := Ld (HX.out.below (HBM.out.trans (hx8.bel.mono HBM.out.size)))
   have HGE : Hid (wr.heap.size ≤ base8 ∧ wr.heap.size ≤ B8 ∧ B < wr.heap.size) := Ld ⟨Nat.le_trans HBM.out.size (by rw [hbase]; exact HBL.out.size), Nat.le_trans HBM.out.size hx8.hB, HX.out.box.lt⟩
   have HOL : Hid (∀ k, (Value.slice x.mA x.m.length x.mc).ownBlock = some k → k < wr.heap.size) := Ld (own_lt HX.out)
   have HW7 := Ld (And.intro hW7 hB8)
   clear hpx hl1 hl2 hl3 hvo hb6 hx8 hW7 hB8 hbase HKK HKK2 HKL HY1 HP1
   obtain ⟨l0, l1, l2, l3⟩ := HMX.out W7 HX8.out.bel
   go_upto_region 9 with (fail)
   rw [← HW7.out.2, ← HW7.out.1]
   by_cases hle : 0 ≤ m.len
   ·have z2 : decide (m.len ≥ 0) = true := decide_eq_true hle
    have z2' : decide (0 ≤ m.len) = true := decide_eq_true hle
    have HLE := Ld hle
    clear hle
    go_wp2
    clear l0 l1 l2 l3
    have HCE : Hid (∀ V, Fr (fun b => (Value.slice x8.mA x8.m.length x8.mc).ownBlock = some b) W7 V → V.cell? ⟨B8, 4, none⟩ = some (.slice x8.mA x8.m.length x8.mc) ∧ V.cell? ⟨BM, 2, none⟩ = some (.int .i64 m.len)) := Ld (fun V hV => ⟨cells_own HX8.out hV, (hV.cell (p := ⟨BM, 2, none⟩) (Nat.lt_of_lt_of_le HBML.out HX8.out.bel.size) (fun e => by have h1 : base8 ≤ BM := HX8.out.own_ge _ e; have := HX8.out.hb; have := HBML.out; omega)).trans (HMX.out W7 HX8.out.bel).2.2.1⟩)
    refine wp_region_last (S := fun V => Fr (fun b => (Value.slice x8.mA x8.m.length x8.mc).ownBlock = some b) W7 V) (st := 9) (n := 9) (by kernel_rfl) rfl (by kernel_rfl) rfl ((Fr.refl _ _).drew) (fun hS1 => ?_)
    obtain ⟨WD, hWD⟩ : ∃ WD, WD = W7.drew := ⟨_, rfl⟩
    rw [← hWD] at hS1 ⊢
    have HBD : Hid (Below W7.heap.size W7 WD) := Ld (by rw [hWD]; exact (Below.refl _ _).drew)
    clear hWD
    refine tk 0 (some 37) (.pointer (some ⟨B8, 4, none⟩)) rfl (fun V hS => by go_simp) hS1 ?_
    simp only [nf]
    refine tk 1 (some 38) (.slice x8.mA x8.m.length x8.mc) rfl (fun V hS => by have h4 := (HCE.out V hS).1; go_simp) hS1 ?_
    simp only [nf]
    refine tk 2 (some 39) (.pointer (some ⟨BM, 2, none⟩)) rfl (fun V hS => by go_simp) hS1 ?_
    simp only [nf]
    refine tk 3 (some 40) (.int .i64 m.len) rfl (fun V hS => by have h2 := (HCE.out V hS).2; go_simp) hS1 ?_
    simp only [nf]
    refine rd1 4 rfl (fun K' hK => ?_)
    go_simp
    refine (rInt_any m.len WD HWF.out.2).mono ?_
    rintro e wA ⟨y2, rfl, hp2, ho2, hbA⟩
    unfold MV.val
    have HBA : Hid (Below W7.heap.size W7 wA) := Ld (HBD.out.trans (hbA.mono HBD.out.size))
    have HY2 : Hid (VAt wA y2 ∧ Leaf y2 ∧ y2.pv = inV m.len) := Ld ⟨ho2.at_, (leaf_in hp2).1, hp2⟩
    clear hp2 ho2 hbA
    go_simp
    refine hK.out _ _ (Fr.of_below HBA.out) (fun hS2 => ?_)
    clear hK K' hS1
    refine tk 5 (some 42) (.agg #[.string ⟨#[108, 101, 110, 103, 116, 104]⟩, .int .i64 y2.k, .int .i64 y2.n, .string y2.s, .slice y2.lA y2.l.length y2.lc, .slice y2.mA y2.m.length y2.mc]) rfl (fun V hS => by go_simp) hS2 ?_
    simp only [nf]
    refine rd1 6 rfl (fun K' hK => ?_)
    go_simp
    obtain ⟨wB, hwB⟩ : ∃ wB, wB = wA.alloc (.cells #[.string ⟨#[108, 101, 110, 103, 116, 104]⟩, .int .i64 y2.k, .int .i64 y2.n, .string y2.s, .slice y2.lA y2.l.length y2.lc, .slice y2.mA y2.m.length y2.mc] 73) := ⟨_, rfl⟩
    rw [← hwB]
    have hbB : Below wA.heap.size wA wB := by rw [hwB]; exact (Below.refl _ _).alloc (Nat.le_refl _) _
    obtain ⟨Q, hQ⟩ : ∃ Q, Q = wA.heap.size := ⟨_, rfl⟩
    rw [← hQ]
    have HBB2 : Hid (Below W7.heap.size W7 wB) := Ld (HBA.out.trans (hbB.mono HBA.out.size))
    have HQ : Hid (Blk wB Q 73 (y2.keyed lnK).pcs.toArray) := Ld (by rw [hwB, hQ, keyed_pcs]; exact Blk.new _ _ _)
    have HYB := Ld ((HY2.out.1.bel hbB).keyed lnK)
    have HX8B := Ld (HX8.out.below HBB2.out)
    clear hwB hbB hQ
    refine hK.out _ _ (Fr.of_below HBB2.out) (fun hS3 => ?_)
    clear hK K' hS2
    refine rd1 7 rfl (fun K' hK => ?_)
    refine step_app_row wB infoPair Tryz.underlying28 rfl (by omega) (by omega) (fun _ => rfl) oneC_pcs rfl (some 44) rfl _ _ rfl base8 (.slice x8.mA x8.m.length x8.mc) x8.m rfl HX8B.out.own.m Q rfl (y2.keyed lnK) HQ.out HYB.out ((HY2.out.2.1.keyed lnK).blk _) ((HY2.out.2.1.keyed lnK).blk _) (by rw [(pv_nil HP8.out).2.2.2.2]; simp) HX8B.out.bs ?_
    intro v4 wC hrow hg hat
    obtain ⟨A4, cap4, hv4, _⟩ := hrow.shape
    rw [List.length_append, List.length_singleton] at hv4
    subst hv4
    have HXN := Ld (HX8B.out.snoc hg hat hrow ((HY2.out.2.1.keyed lnK).blk _))
    have HFN : Hid (Fr (fun b => (Value.slice x8.mA x8.m.length x8.mc).ownBlock = some b) W7 wC) := Ld ((Fr.of_below HBB2.out).trans (Fr.of_grown hg (fun g e => e)))
    have HPN : Hid ((x8.snocM A4 cap4 (y2.keyed lnK)).pv = mpV [veK, lnK] [inV m.ver, inV m.len]) := Ld (by rw [snocM_pv _ _ _ _ HP8.out, keyed_key, keyed_pv, HY2.out.2.2]; rfl)
    have hb4 := HX8B.out.box.grown hg (fun e => HX8B.out.rB _ e.symm rfl)
    have HC4 : Hid (wC.cell? ⟨B8, 4, none⟩ = some (.slice x8.mA x8.m.length x8.mc) ∧ wC.frozen? ⟨B8, 4, none⟩ = false) := Ld ⟨hb4.cell 4, hb4.frozen 4⟩
    clear hrow hg hat hb4
    refine hK.out _ _ (HFN.out) (fun hS4 => ?_)
    clear hK K' hS3
    simp only [nf]
    refine tk 8 (some 45) (.pointer (some ⟨B8, 4, none⟩)) rfl (fun V hS => by go_simp) hS4 ?_
    simp only [nf]
    refine wpAnyH_done (by kernel_rfl) ?_ _
    refine lastQ_normal (wpOp_step rfl (fun K' hK => ?_))
    obtain ⟨t4, f4⟩ := HC4.out
    go_simp
    refine hK _ _ ?_
    clear hK K' hS4 t4 f4
    obtain ⟨x8', hx8'⟩ : ∃ x8', x8' = x8.snocM A4 cap4 (y2.keyed lnK) := ⟨_, rfl⟩
    rw [← hx8'] at HXN HPN
    obtain ⟨W8, hW8⟩ : ∃ W8, W8 = wC.setCell ⟨B8, 4, none⟩ (.slice A4 (x8.m.length + 1) cap4) := ⟨_, rfl⟩
    rw [← hW8]
    rw [← hW8] at HXN
    clear HX8 HP8 HX7 hx8' hW8
    have HX8 := HXN
    have HP8 := HPN
    have HX7 := Ld (HX.out.below (HBM.out.trans (HX8.out.bel.mono HBM.out.size)))
    clear HXN HPN
    obtain ⟨l0, l1, l2, l3⟩ := HMX.out W8 HX8.out.bel
    by_cases he : m.hash = ⟨#[]⟩
    ·have g2 : m.hash.toList = [] := by rw [he, ByteArray.toList_eq]
     have HPG : Hid (x8'.pv = fileP m) := Ld (by rw [HP8.out, file_form, if_pos he, if_pos HLE.out])
     clear he
     have l0 := (HMX.out W8 HX8.out.bel).1
     obtain ⟨k0, k1, k2, k3, k4⟩ := five_cells HX8.out.box
     have n4 := HX7.out.box.cell 4
     simp only [gz] at n4
     obtain ⟨WP, hWP⟩ : ∃ WP, WP = W8.alloc (.cells #[.string m.name, .int .i64 x8'.k, .int .i64 x8'.n, .string x8'.s, .slice x8'.lA x8'.l.length x8'.lc, .slice x8'.mA x8'.m.length x8'.mc] 73) := ⟨_, rfl⟩
     obtain ⟨QP, hQP⟩ : ∃ QP, QP = W8.heap.size := ⟨_, rfl⟩
     have hbP : Below W8.heap.size W8 WP := by rw [hWP]; exact (Below.refl _ _).alloc (Nat.le_refl _) _
     have HKP : Hid (Blk WP QP 73 (x8'.keyed m.name).pcs.toArray) := Ld (by rw [hWP, hQP, keyed_pcs]; exact Blk.new _ _ _)
     have HXP := Ld (HX7.out.below hbP)
     have HYP := Ld (HX8.out.own.below hbP)
     have HWP := Ld (And.intro hWP hQP)
     have HPX := HPG
     clear hbP hWP hQP
     go_wp2_with (at_builtin; rw [← HWP.out.2, ← HWP.out.1]; refine app_row WP infoPair Tryz.underlying28 rfl (by omega) (by omega) (fun _ => rfl) oneC_pcs rfl _ _ rfl (B + 1) (.slice x.mA x.m.length x.mc) x.m rfl HXP.out.own.m QP rfl (x8'.keyed m.name) HKP.out (HYP.out.at_.keyed m.name) ((HYP.out.fr.mono (fun b hb => by have := HGE.out; omega)).keyed m.name) ((HYP.out.fr.mono (fun b hb e => by have := HGE.out; have := HOL.out b e; omega)).keyed m.name) (by rw [HML.out]; omega) HXP.out.bs ?_)
     intro v' w' hO hG hv'
     obtain ⟨A', c', hvf, _⟩ := hO.shape
     rw [List.length_append, List.length_singleton] at hvf
     subst hvf
     have HXF : Hid (BxV w3 B (B + 1) (x.snocM A' c' (x8'.keyed m.name)) (w'.setCell ⟨B, 4, none⟩ (.slice A' (x.m.length + 1) c'))) := Ld (HXP.out.snoc hG hv' hO ((HYP.out.fr.mono (fun b hb e => by have := HGE.out; omega)).keyed m.name))
     have HPF : Hid ((x.snocM A' c' (x8'.keyed m.name)).pv = metaL (l.take (i + 1))) := Ld (by rw [HNX.out, snocM_pv (ks := (l.take i).map ME.name) (ps := (l.take i).map fileP) _ _ _ _ HP.out, keyed_key, keyed_pv, HPX.out])
     have hkB := HXP.out.box.grown hG (fun e => HXP.out.rB _ e.symm rfl)
     have u4 := hkB.cell 4
     have f4 := hkB.frozen 4
     simp only [gz] at u4
     clear hO hG hv' hkB l0 k0 k1 k2 k3 k4 n4
     go_wp2
     go_roundw
     case rel => exact ⟨i + 1, _, by omega, by go_num, HXF, HPF⟩
     case measure => simp [intOf]; omega
    ·have HFI : Hid (fileP m = mpV ([veK, lnK] ++ [haK]) ([inV m.ver, inV m.len] ++ [mpV [shK] [txV m.hash]])) := Ld (by rw [file_form, if_neg he, if_pos HLE.out]; rfl)
     obtain ⟨g2, g3, g4, g5, g6⟩ := hash_ne he
     clear he
     go_wp2
     clear l0 l1 l2 l3
     have HCE : Hid (∀ V, Fr (fun b => (Value.slice x8'.mA x8'.m.length x8'.mc).ownBlock = some b) W8 V → V.cell? ⟨B8, 4, none⟩ = some (.slice x8'.mA x8'.m.length x8'.mc) ∧ V.cell? ⟨BM, 3, none⟩ = some (.string m.hash)) := Ld (fun V hV => ⟨cells_own HX8.out hV, (hV.cell (p := ⟨BM, 3, none⟩) (Nat.lt_of_lt_of_le HBML.out HX8.out.bel.size) (fun e => by have h1 : base8 ≤ BM := HX8.out.own_ge _ e; have := HX8.out.hb; have := HBML.out; omega)).trans (HMX.out W8 HX8.out.bel).2.2.2⟩)
     refine wp_region_last (S := fun V => Fr (fun b => (Value.slice x8'.mA x8'.m.length x8'.mc).ownBlock = some b) W8 V) (st := 12) (n := 12) (by kernel_rfl) rfl (by kernel_rfl) rfl ((Fr.refl _ _).drew) (fun hS1 => ?_)
     obtain ⟨WD, hWD⟩ : ∃ WD, WD = W8.drew := ⟨_, rfl⟩
     rw [← hWD] at hS1 ⊢
     have HBD : Hid (Below W8.heap.size W8 WD) := Ld (by rw [hWD]; exact (Below.refl _ _).drew)
     clear hWD
     refine tk 0 (some 49) (.pointer (some ⟨B8, 4, none⟩)) rfl (fun V hS => by go_simp) hS1 ?_
     simp only [nf]
     refine tk 1 (some 50) (.slice x8'.mA x8'.m.length x8'.mc) rfl (fun V hS => by have h4 := (HCE.out V hS).1; go_simp) hS1 ?_
     simp only [nf]
     refine tk 3 (some 52) (.pointer (some ⟨BM, 3, none⟩)) rfl (fun V hS => by go_simp) hS1 ?_
     simp only [nf]
     refine tk 4 (some 53) (.string m.hash) rfl (fun V hS => by have h2 := (HCE.out V hS).2; go_simp) hS1 ?_
     simp only [nf]
     refine wpAnyH_ready (rs := [2, 5]) (by kernel_rfl) (by simp) ?_
     refine AllReadyH.cons rfl (fun K' hK => ?_) (AllReadyH.cons rfl (fun K' hK => ?_) AllReadyH.nil)
     ·go_simp
      obtain ⟨wx1, hw1⟩ : ∃ w2, w2 = WD.alloc (.cells #[.string ⟨#[115, 104, 97, 50, 53, 54]⟩] 9) := ⟨_, rfl⟩
      rw [← hw1]
      have hb1 : Below WD.heap.size WD wx1 := by rw [hw1]; exact (Below.refl _ _).alloc (Nat.le_refl _) _
      obtain ⟨Q0, hQ1⟩ : ∃ Q0, Q0 = WD.heap.size := ⟨_, rfl⟩
      rw [← hQ1]
      have HK1 : Hid (Blk wx1 Q0 9 #[.string ⟨#[115, 104, 97, 50, 53, 54]⟩]) := Ld (by rw [hw1, hQ1]; exact Blk.new _ _ _)
      have HF2 := Ld (HBD.out.trans (hb1.mono HBD.out.size))
      clear hw1 hQ1
      refine hK.out _ _ (Fr.of_below HF2.out) (fun hS2 => ?_)
      clear hK K' hS1
      try simp only [nf]
      refine rd1 5 rfl (fun K' hK => ?_)
      go_simp
      refine (rText_any m.hash wx1).mono ?_
      rintro e3 wx3 ⟨y3, rfl, hp3, ho3, hb3⟩
      unfold MV.val
      have HV3 : Hid (VAt wx3 y3) := Ld ho3.at_
      have HPy3 := Ld hp3
      have HF4 := Ld (HF2.out.trans (hb3.mono HF2.out.size))
      have HF5 := Ld (HK1.out.below hb3 HK1.out.lt)
      clear hp3 ho3
      go_simp
      refine hK.out _ _ (Fr.of_below HF4.out) (fun hS3 => ?_)
      clear hK K' hS2
      try simp only [nf]
      refine rd1 6 rfl (fun K' hK => ?_)
      go_simp
      obtain ⟨wx6, hw6⟩ : ∃ w2, w2 = wx3.alloc (.cells #[.int .i64 y3.k, .int .i64 y3.n, .string y3.s, .slice y3.lA y3.l.length y3.lc, .slice y3.mA y3.m.length y3.mc] 30) := ⟨_, rfl⟩
      rw [← hw6]
      have hb6 : Below wx3.heap.size wx3 wx6 := by rw [hw6]; exact (Below.refl _ _).alloc (Nat.le_refl _) _
      obtain ⟨Q1, hQ6⟩ : ∃ Q0, Q0 = wx3.heap.size := ⟨_, rfl⟩
      rw [← hQ6]
      have HK6 : Hid (Blk wx6 Q1 30 #[.int .i64 y3.k, .int .i64 y3.n, .string y3.s, .slice y3.lA y3.l.length y3.lc, .slice y3.mA y3.m.length y3.mc]) := Ld (by rw [hw6, hQ6]; exact Blk.new _ _ _)
      have HF7 := Ld (HF4.out.trans (hb6.mono HF4.out.size))
      have HF8 := Ld (HF5.out.below hb6 HF5.out.lt)
      have HF9 := Ld (HV3.out.bel hb6)
      clear hw6 hQ6
      refine hK.out _ _ (Fr.of_below HF7.out) (fun hS4 => ?_)
      clear hK K' hS3
      try simp only [nf]
      refine rd1 7 rfl (fun K' hK => ?_)
      go_simp
      refine (rmap_any [shK] [y3] (some ⟨Q0, 0, none⟩) (some ⟨Q1, 0, none⟩) 1 1 1 wx6 (mpA_mk (ks := [shK]) (l := [y3]) HF8.out rfl HK6.out rfl rfl rfl (fun z hz => by rw [List.mem_singleton] at hz; rw [hz]; exact HF9.out) (fun z hz => by rw [List.mem_singleton] at hz; rw [hz]; exact (leaf_tx HPy3.out).1)) (by omega)).mono ?_
      rintro e10 wx10 ⟨z, rfl, hpz, -, -, -, hvz, hb10⟩
      unfold MV.val
      have HPZ : Hid (z.pv = mpV [shK] [txV m.hash]) := Ld (hpz.trans (by rw [MV.pvL, MV.pvL, HPy3.out]))
      have HZ10 : Hid (VAt wx10 z) := Ld hvz.at_
      have HGZ : Hid (BlkP (fun b => W8.heap.size ≤ b) z) := Ld (hvz.fr.mono (fun b hb => Nat.le_trans HF7.out.size hb))
      have HF11 := Ld (HF7.out.trans (hb10.mono HF7.out.size))
      clear hpz hvz
      go_simp
      refine hK.out _ _ (Fr.of_below HF11.out) (fun hS5 => ?_)
      clear hK K' hS4
      try simp only [nf]
      refine tk 8 (some 57) (.agg #[.string ⟨#[104, 97, 115, 104, 101, 115]⟩, .int .i64 z.k, .int .i64 z.n, .string z.s, .slice z.lA z.l.length z.lc, .slice z.mA z.m.length z.mc]) rfl (fun V hS => by go_simp) hS5 ?_
      simp only [nf]
      refine rd1 9 rfl (fun K' hK => ?_)
      go_simp
      obtain ⟨wx12, hw12⟩ : ∃ w2, w2 = wx10.alloc (.cells #[.string ⟨#[104, 97, 115, 104, 101, 115]⟩, .int .i64 z.k, .int .i64 z.n, .string z.s, .slice z.lA z.l.length z.lc, .slice z.mA z.m.length z.mc] 73) := ⟨_, rfl⟩
      rw [← hw12]
      have hb12 : Below wx10.heap.size wx10 wx12 := by rw [hw12]; exact (Below.refl _ _).alloc (Nat.le_refl _) _
      obtain ⟨Q2, hQ12⟩ : ∃ Q0, Q0 = wx10.heap.size := ⟨_, rfl⟩
      rw [← hQ12]
      have HK12 : Hid (Blk wx12 Q2 73 (z.keyed haK).pcs.toArray) := Ld (by rw [hw12, hQ12, keyed_pcs]; exact Blk.new _ _ _)
      have HF13 := Ld (HF11.out.trans (hb12.mono HF11.out.size))
      have HF14 := Ld (HZ10.out.bel hb12)
      clear hw12 hQ12
      refine hK.out _ _ (Fr.of_below HF13.out) (fun hS6 => ?_)
      clear hK K' hS5
      try simp only [nf]
      refine rd1 10 rfl (fun K' hK => ?_)
      have hxb := HX8.out.below HF13.out
      have HXB8 := Ld hxb
      clear hxb
      refine step_app_row wx12 infoPair Tryz.underlying28 rfl (by omega) (by omega) (fun _ => rfl) oneC_pcs rfl (some 59) rfl _ _ rfl base8 (.slice x8'.mA x8'.m.length x8'.mc) x8'.m rfl HXB8.out.own.m Q2 rfl (z.keyed haK) HK12.out (HF14.out.keyed haK) ((HGZ.out.mono (fun b hb => Nat.le_trans HX8.out.bs hb)).keyed haK) ((HGZ.out.mono (fun b hb e => by have := own_lt HX8.out b e; omega)).keyed haK) (by rw [(pv_nil HP8.out).2.2.2.2]; simp) HXB8.out.bs ?_
      intro v4 wC hrow hg hat
      obtain ⟨A4, cap4, hv4, _⟩ := hrow.shape
      rw [List.length_append, List.length_singleton] at hv4
      subst hv4
      have HXN := Ld (HXB8.out.snoc hg hat hrow ((HGZ.out.mono (fun b hb e => by have := HX8.out.box.lt; omega)).keyed haK))
      have HFN : Hid (Fr (fun b => (Value.slice x8'.mA x8'.m.length x8'.mc).ownBlock = some b) W8 wC) := Ld ((Fr.of_below HF13.out).trans (Fr.of_grown hg (fun g e => e)))
      have HPN : Hid ((x8'.snocM A4 cap4 (z.keyed haK)).pv = fileP m) := Ld (by rw [snocM_pv _ _ _ _ HP8.out, keyed_key, keyed_pv, HPZ.out, HFI.out])
      have hb4 := HXB8.out.box.grown hg (fun e => HXB8.out.rB _ e.symm rfl)
      have HC4 : Hid (wC.cell? ⟨B8, 4, none⟩ = some (.slice x8'.mA x8'.m.length x8'.mc) ∧ wC.frozen? ⟨B8, 4, none⟩ = false) := Ld ⟨hb4.cell 4, hb4.frozen 4⟩
      clear hrow hg hat hb4
      refine hK.out _ _ (HFN.out) (fun hS7 => ?_)
      clear hK K' hS6
      try simp only [nf]
      refine tk 11 (some 60) (.pointer (some ⟨B8, 4, none⟩)) rfl (fun V hS => by go_simp) hS7 ?_
      simp only [nf]
      refine wpAnyH_done (by kernel_rfl) ?_ _
      refine lastQ_normal (wpOp_step rfl (fun K' hK => ?_))
      obtain ⟨t4, f4⟩ := HC4.out
      go_simp
      refine hK _ _ ?_
      clear hK K' hS7 t4 f4
      obtain ⟨x7, hx7⟩ : ∃ x7, x7 = x8'.snocM A4 cap4 (z.keyed haK) := ⟨_, rfl⟩
      rw [← hx7] at HXN HPN
      obtain ⟨W9, hW9⟩ : ∃ W9, W9 = wC.setCell ⟨B8, 4, none⟩ (.slice A4 (x8'.m.length + 1) cap4) := ⟨_, rfl⟩
      rw [← hW9]
      rw [← hW9] at HXN
      have HXZ := Ld (HX.out.below (HBM.out.trans (HXN.out.bel.mono HBM.out.size)))
      clear hx7 hW9 HX7
      have l0 := (HMX.out W9 HXN.out.bel).1
      obtain ⟨k0, k1, k2, k3, k4⟩ := five_cells HXN.out.box
      have n4 := HXZ.out.box.cell 4
      simp only [gz] at n4
      obtain ⟨WP, hWP⟩ : ∃ WP, WP = W9.alloc (.cells #[.string m.name, .int .i64 x7.k, .int .i64 x7.n, .string x7.s, .slice x7.lA x7.l.length x7.lc, .slice x7.mA x7.m.length x7.mc] 73) := ⟨_, rfl⟩
      obtain ⟨QP, hQP⟩ : ∃ QP, QP = W9.heap.size := ⟨_, rfl⟩
      have hbP : Below W9.heap.size W9 WP := by rw [hWP]; exact (Below.refl _ _).alloc (Nat.le_refl _) _
      have HKP : Hid (Blk WP QP 73 (x7.keyed m.name).pcs.toArray) := Ld (by rw [hWP, hQP, keyed_pcs]; exact Blk.new _ _ _)
      have HXP := Ld (HXZ.out.below hbP)
      have HYP := Ld (HXN.out.own.below hbP)
      have HWP := Ld (And.intro hWP hQP)
      have HPX := HPN
      clear hbP hWP hQP
      go_wp2_with (at_builtin; rw [← HWP.out.2, ← HWP.out.1]; refine app_row WP infoPair Tryz.underlying28 rfl (by omega) (by omega) (fun _ => rfl) oneC_pcs rfl _ _ rfl (B + 1) (.slice x.mA x.m.length x.mc) x.m rfl HXP.out.own.m QP rfl (x7.keyed m.name) HKP.out (HYP.out.at_.keyed m.name) ((HYP.out.fr.mono (fun b hb => by have := HGE.out; omega)).keyed m.name) ((HYP.out.fr.mono (fun b hb e => by have := HGE.out; have := HOL.out b e; omega)).keyed m.name) (by rw [HML.out]; omega) HXP.out.bs ?_)
      intro v' w' hO hG hv'
      obtain ⟨A', c', hvf, _⟩ := hO.shape
      rw [List.length_append, List.length_singleton] at hvf
      subst hvf
      have HXF : Hid (BxV w3 B (B + 1) (x.snocM A' c' (x7.keyed m.name)) (w'.setCell ⟨B, 4, none⟩ (.slice A' (x.m.length + 1) c'))) := Ld (HXP.out.snoc hG hv' hO ((HYP.out.fr.mono (fun b hb e => by have := HGE.out; omega)).keyed m.name))
      have HPF : Hid ((x.snocM A' c' (x7.keyed m.name)).pv = metaL (l.take (i + 1))) := Ld (by rw [HNX.out, snocM_pv (ks := (l.take i).map ME.name) (ps := (l.take i).map fileP) _ _ _ _ HP.out, keyed_key, keyed_pv, HPX.out])
      have hkB := HXP.out.box.grown hG (fun e => HXP.out.rB _ e.symm rfl)
      have u4 := hkB.cell 4
      have f4 := hkB.frozen 4
      simp only [gz] at u4
      clear hO hG hv' hkB l0 k0 k1 k2 k3 k4 n4
      go_wp2
      go_roundw
      case rel => exact ⟨i + 1, _, by omega, by go_num, HXF, HPF⟩
      case measure => simp [intOf]; omega
     ·go_simp
      refine (rText_any m.hash WD).mono ?_
      rintro e16 wx16 ⟨y3, rfl, hp16, ho16, hb16⟩
      unfold MV.val
      have HV16 : Hid (VAt wx16 y3) := Ld ho16.at_
      have HPy3 := Ld hp16
      have HF17 := Ld (HBD.out.trans (hb16.mono HBD.out.size))
      clear hp16 ho16
      go_simp
      refine hK.out _ _ (Fr.of_below HF17.out) (fun hS2 => ?_)
      clear hK K' hS1
      try simp only [nf]
      refine wpAnyH_ready (rs := [2, 6]) (by kernel_rfl) (by simp) ?_
      refine AllReadyH.cons rfl (fun K' hK => ?_) (AllReadyH.cons rfl (fun K' hK => ?_) AllReadyH.nil)
      ·go_simp
       obtain ⟨wx18, hw18⟩ : ∃ w2, w2 = wx16.alloc (.cells #[.string ⟨#[115, 104, 97, 50, 53, 54]⟩] 9) := ⟨_, rfl⟩
       rw [← hw18]
       have hb18 : Below wx16.heap.size wx16 wx18 := by rw [hw18]; exact (Below.refl _ _).alloc (Nat.le_refl _) _
       obtain ⟨Q0, hQ18⟩ : ∃ Q0, Q0 = wx16.heap.size := ⟨_, rfl⟩
       rw [← hQ18]
       have HK18 : Hid (Blk wx18 Q0 9 #[.string ⟨#[115, 104, 97, 50, 53, 54]⟩]) := Ld (by rw [hw18, hQ18]; exact Blk.new _ _ _)
       have HF19 := Ld (HF17.out.trans (hb18.mono HF17.out.size))
       have HF20 := Ld (HV16.out.bel hb18)
       clear hw18 hQ18
       refine hK.out _ _ (Fr.of_below HF19.out) (fun hS3 => ?_)
       clear hK K' hS2
       try simp only [nf]
       refine rd1 6 rfl (fun K' hK => ?_)
       go_simp
       obtain ⟨wx21, hw21⟩ : ∃ w2, w2 = wx18.alloc (.cells #[.int .i64 y3.k, .int .i64 y3.n, .string y3.s, .slice y3.lA y3.l.length y3.lc, .slice y3.mA y3.m.length y3.mc] 30) := ⟨_, rfl⟩
       rw [← hw21]
       have hb21 : Below wx18.heap.size wx18 wx21 := by rw [hw21]; exact (Below.refl _ _).alloc (Nat.le_refl _) _
       obtain ⟨Q1, hQ21⟩ : ∃ Q0, Q0 = wx18.heap.size := ⟨_, rfl⟩
       rw [← hQ21]
       have HK21 : Hid (Blk wx21 Q1 30 #[.int .i64 y3.k, .int .i64 y3.n, .string y3.s, .slice y3.lA y3.l.length y3.lc, .slice y3.mA y3.m.length y3.mc]) := Ld (by rw [hw21, hQ21]; exact Blk.new _ _ _)
       have HF22 := Ld (HF19.out.trans (hb21.mono HF19.out.size))
       have HF23 := Ld (HF20.out.bel hb21)
       have HF24 := Ld (HK18.out.below hb21 HK18.out.lt)
       clear hw21 hQ21
       refine hK.out _ _ (Fr.of_below HF22.out) (fun hS4 => ?_)
       clear hK K' hS3
       try simp only [nf]
       refine rd1 7 rfl (fun K' hK => ?_)
       go_simp
       refine (rmap_any [shK] [y3] (some ⟨Q0, 0, none⟩) (some ⟨Q1, 0, none⟩) 1 1 1 wx21 (mpA_mk (ks := [shK]) (l := [y3]) HF24.out rfl HK21.out rfl rfl rfl (fun z hz => by rw [List.mem_singleton] at hz; rw [hz]; exact HF23.out) (fun z hz => by rw [List.mem_singleton] at hz; rw [hz]; exact (leaf_tx HPy3.out).1)) (by omega)).mono ?_
       rintro e25 wx25 ⟨z, rfl, hpz, -, -, -, hvz, hb25⟩
       unfold MV.val
       have HPZ : Hid (z.pv = mpV [shK] [txV m.hash]) := Ld (hpz.trans (by rw [MV.pvL, MV.pvL, HPy3.out]))
       have HZ25 : Hid (VAt wx25 z) := Ld hvz.at_
       have HGZ : Hid (BlkP (fun b => W8.heap.size ≤ b) z) := Ld (hvz.fr.mono (fun b hb => Nat.le_trans HF22.out.size hb))
       have HF26 := Ld (HF22.out.trans (hb25.mono HF22.out.size))
       clear hpz hvz
       go_simp
       refine hK.out _ _ (Fr.of_below HF26.out) (fun hS5 => ?_)
       clear hK K' hS4
       try simp only [nf]
       refine tk 8 (some 57) (.agg #[.string ⟨#[104, 97, 115, 104, 101, 115]⟩, .int .i64 z.k, .int .i64 z.n, .string z.s, .slice z.lA z.l.length z.lc, .slice z.mA z.m.length z.mc]) rfl (fun V hS => by go_simp) hS5 ?_
       simp only [nf]
       refine rd1 9 rfl (fun K' hK => ?_)
       go_simp
       obtain ⟨wx27, hw27⟩ : ∃ w2, w2 = wx25.alloc (.cells #[.string ⟨#[104, 97, 115, 104, 101, 115]⟩, .int .i64 z.k, .int .i64 z.n, .string z.s, .slice z.lA z.l.length z.lc, .slice z.mA z.m.length z.mc] 73) := ⟨_, rfl⟩
       rw [← hw27]
       have hb27 : Below wx25.heap.size wx25 wx27 := by rw [hw27]; exact (Below.refl _ _).alloc (Nat.le_refl _) _
       obtain ⟨Q2, hQ27⟩ : ∃ Q0, Q0 = wx25.heap.size := ⟨_, rfl⟩
       rw [← hQ27]
       have HK27 : Hid (Blk wx27 Q2 73 (z.keyed haK).pcs.toArray) := Ld (by rw [hw27, hQ27, keyed_pcs]; exact Blk.new _ _ _)
       have HF28 := Ld (HF26.out.trans (hb27.mono HF26.out.size))
       have HF29 := Ld (HZ25.out.bel hb27)
       clear hw27 hQ27
       refine hK.out _ _ (Fr.of_below HF28.out) (fun hS6 => ?_)
       clear hK K' hS5
       try simp only [nf]
       refine rd1 10 rfl (fun K' hK => ?_)
       have hxb := HX8.out.below HF28.out
       have HXB8 := Ld hxb
       clear hxb
       refine step_app_row wx27 infoPair Tryz.underlying28 rfl (by omega) (by omega) (fun _ => rfl) oneC_pcs rfl (some 59) rfl _ _ rfl base8 (.slice x8'.mA x8'.m.length x8'.mc) x8'.m rfl HXB8.out.own.m Q2 rfl (z.keyed haK) HK27.out (HF29.out.keyed haK) ((HGZ.out.mono (fun b hb => Nat.le_trans HX8.out.bs hb)).keyed haK) ((HGZ.out.mono (fun b hb e => by have := own_lt HX8.out b e; omega)).keyed haK) (by rw [(pv_nil HP8.out).2.2.2.2]; simp) HXB8.out.bs ?_
       intro v4 wC hrow hg hat
       obtain ⟨A4, cap4, hv4, _⟩ := hrow.shape
       rw [List.length_append, List.length_singleton] at hv4
       subst hv4
       have HXN := Ld (HXB8.out.snoc hg hat hrow ((HGZ.out.mono (fun b hb e => by have := HX8.out.box.lt; omega)).keyed haK))
       have HFN : Hid (Fr (fun b => (Value.slice x8'.mA x8'.m.length x8'.mc).ownBlock = some b) W8 wC) := Ld ((Fr.of_below HF28.out).trans (Fr.of_grown hg (fun g e => e)))
       have HPN : Hid ((x8'.snocM A4 cap4 (z.keyed haK)).pv = fileP m) := Ld (by rw [snocM_pv _ _ _ _ HP8.out, keyed_key, keyed_pv, HPZ.out, HFI.out])
       have hb4 := HXB8.out.box.grown hg (fun e => HXB8.out.rB _ e.symm rfl)
       have HC4 : Hid (wC.cell? ⟨B8, 4, none⟩ = some (.slice x8'.mA x8'.m.length x8'.mc) ∧ wC.frozen? ⟨B8, 4, none⟩ = false) := Ld ⟨hb4.cell 4, hb4.frozen 4⟩
       clear hrow hg hat hb4
       refine hK.out _ _ (HFN.out) (fun hS7 => ?_)
       clear hK K' hS6
       try simp only [nf]
       refine tk 11 (some 60) (.pointer (some ⟨B8, 4, none⟩)) rfl (fun V hS => by go_simp) hS7 ?_
       simp only [nf]
       refine wpAnyH_done (by kernel_rfl) ?_ _
       refine lastQ_normal (wpOp_step rfl (fun K' hK => ?_))
       obtain ⟨t4, f4⟩ := HC4.out
       go_simp
       refine hK _ _ ?_
       clear hK K' hS7 t4 f4
       obtain ⟨x7, hx7⟩ : ∃ x7, x7 = x8'.snocM A4 cap4 (z.keyed haK) := ⟨_, rfl⟩
       rw [← hx7] at HXN HPN
       obtain ⟨W9, hW9⟩ : ∃ W9, W9 = wC.setCell ⟨B8, 4, none⟩ (.slice A4 (x8'.m.length + 1) cap4) := ⟨_, rfl⟩
       rw [← hW9]
       rw [← hW9] at HXN
       have HXZ := Ld (HX.out.below (HBM.out.trans (HXN.out.bel.mono HBM.out.size)))
       clear hx7 hW9 HX7
       have l0 := (HMX.out W9 HXN.out.bel).1
       obtain ⟨k0, k1, k2, k3, k4⟩ := five_cells HXN.out.box
       have n4 := HXZ.out.box.cell 4
       simp only [gz] at n4
       obtain ⟨WP, hWP⟩ : ∃ WP, WP = W9.alloc (.cells #[.string m.name, .int .i64 x7.k, .int .i64 x7.n, .string x7.s, .slice x7.lA x7.l.length x7.lc, .slice x7.mA x7.m.length x7.mc] 73) := ⟨_, rfl⟩
       obtain ⟨QP, hQP⟩ : ∃ QP, QP = W9.heap.size := ⟨_, rfl⟩
       have hbP : Below W9.heap.size W9 WP := by rw [hWP]; exact (Below.refl _ _).alloc (Nat.le_refl _) _
       have HKP : Hid (Blk WP QP 73 (x7.keyed m.name).pcs.toArray) := Ld (by rw [hWP, hQP, keyed_pcs]; exact Blk.new _ _ _)
       have HXP := Ld (HXZ.out.below hbP)
       have HYP := Ld (HXN.out.own.below hbP)
       have HWP := Ld (And.intro hWP hQP)
       have HPX := HPN
       clear hbP hWP hQP
       go_wp2_with (at_builtin; rw [← HWP.out.2, ← HWP.out.1]; refine app_row WP infoPair Tryz.underlying28 rfl (by omega) (by omega) (fun _ => rfl) oneC_pcs rfl _ _ rfl (B + 1) (.slice x.mA x.m.length x.mc) x.m rfl HXP.out.own.m QP rfl (x7.keyed m.name) HKP.out (HYP.out.at_.keyed m.name) ((HYP.out.fr.mono (fun b hb => by have := HGE.out; omega)).keyed m.name) ((HYP.out.fr.mono (fun b hb e => by have := HGE.out; have := HOL.out b e; omega)).keyed m.name) (by rw [HML.out]; omega) HXP.out.bs ?_)
       intro v' w' hO hG hv'
       obtain ⟨A', c', hvf, _⟩ := hO.shape
       rw [List.length_append, List.length_singleton] at hvf
       subst hvf
       have HXF : Hid (BxV w3 B (B + 1) (x.snocM A' c' (x7.keyed m.name)) (w'.setCell ⟨B, 4, none⟩ (.slice A' (x.m.length + 1) c'))) := Ld (HXP.out.snoc hG hv' hO ((HYP.out.fr.mono (fun b hb e => by have := HGE.out; omega)).keyed m.name))
       have HPF : Hid ((x.snocM A' c' (x7.keyed m.name)).pv = metaL (l.take (i + 1))) := Ld (by rw [HNX.out, snocM_pv (ks := (l.take i).map ME.name) (ps := (l.take i).map fileP) _ _ _ _ HP.out, keyed_key, keyed_pv, HPX.out])
       have hkB := HXP.out.box.grown hG (fun e => HXP.out.rB _ e.symm rfl)
       have u4 := hkB.cell 4
       have f4 := hkB.frozen 4
       simp only [gz] at u4
       clear hO hG hv' hkB l0 k0 k1 k2 k3 k4 n4
       go_wp2
       go_roundw
       case rel => exact ⟨i + 1, _, by omega, by go_num, HXF, HPF⟩
       case measure => simp [intOf]; omega
      ·go_simp
       obtain ⟨wx31, hw31⟩ : ∃ w2, w2 = wx16.alloc (.cells #[.int .i64 y3.k, .int .i64 y3.n, .string y3.s, .slice y3.lA y3.l.length y3.lc, .slice y3.mA y3.m.length y3.mc] 30) := ⟨_, rfl⟩
       rw [← hw31]
       have hb31 : Below wx16.heap.size wx16 wx31 := by rw [hw31]; exact (Below.refl _ _).alloc (Nat.le_refl _) _
       obtain ⟨Q1, hQ31⟩ : ∃ Q0, Q0 = wx16.heap.size := ⟨_, rfl⟩
       rw [← hQ31]
       have HK31 : Hid (Blk wx31 Q1 30 #[.int .i64 y3.k, .int .i64 y3.n, .string y3.s, .slice y3.lA y3.l.length y3.lc, .slice y3.mA y3.m.length y3.mc]) := Ld (by rw [hw31, hQ31]; exact Blk.new _ _ _)
       have HF32 := Ld (HF17.out.trans (hb31.mono HF17.out.size))
       have HF33 := Ld (HV16.out.bel hb31)
       clear hw31 hQ31
       refine hK.out _ _ (Fr.of_below HF32.out) (fun hS3 => ?_)
       clear hK K' hS2
       try simp only [nf]
       refine rd1 2 rfl (fun K' hK => ?_)
       go_simp
       obtain ⟨wx34, hw34⟩ : ∃ w2, w2 = wx31.alloc (.cells #[.string ⟨#[115, 104, 97, 50, 53, 54]⟩] 9) := ⟨_, rfl⟩
       rw [← hw34]
       have hb34 : Below wx31.heap.size wx31 wx34 := by rw [hw34]; exact (Below.refl _ _).alloc (Nat.le_refl _) _
       obtain ⟨Q0, hQ34⟩ : ∃ Q0, Q0 = wx31.heap.size := ⟨_, rfl⟩
       rw [← hQ34]
       have HK34 : Hid (Blk wx34 Q0 9 #[.string ⟨#[115, 104, 97, 50, 53, 54]⟩]) := Ld (by rw [hw34, hQ34]; exact Blk.new _ _ _)
       have HF35 := Ld (HF32.out.trans (hb34.mono HF32.out.size))
       have HF36 := Ld (HF33.out.bel hb34)
       have HF37 := Ld (HK31.out.below hb34 HK31.out.lt)
       clear hw34 hQ34
       refine hK.out _ _ (Fr.of_below HF35.out) (fun hS4 => ?_)
       clear hK K' hS3
       try simp only [nf]
       refine rd1 7 rfl (fun K' hK => ?_)
       go_simp
       refine (rmap_any [shK] [y3] (some ⟨Q0, 0, none⟩) (some ⟨Q1, 0, none⟩) 1 1 1 wx34 (mpA_mk (ks := [shK]) (l := [y3]) HK34.out rfl HF37.out rfl rfl rfl (fun z hz => by rw [List.mem_singleton] at hz; rw [hz]; exact HF36.out) (fun z hz => by rw [List.mem_singleton] at hz; rw [hz]; exact (leaf_tx HPy3.out).1)) (by omega)).mono ?_
       rintro e38 wx38 ⟨z, rfl, hpz, -, -, -, hvz, hb38⟩
       unfold MV.val
       have HPZ : Hid (z.pv = mpV [shK] [txV m.hash]) := Ld (hpz.trans (by rw [MV.pvL, MV.pvL, HPy3.out]))
       have HZ38 : Hid (VAt wx38 z) := Ld hvz.at_
       have HGZ : Hid (BlkP (fun b => W8.heap.size ≤ b) z) := Ld (hvz.fr.mono (fun b hb => Nat.le_trans HF35.out.size hb))
       have HF39 := Ld (HF35.out.trans (hb38.mono HF35.out.size))
       clear hpz hvz
       go_simp
       refine hK.out _ _ (Fr.of_below HF39.out) (fun hS5 => ?_)
       clear hK K' hS4
       try simp only [nf]
       refine tk 8 (some 57) (.agg #[.string ⟨#[104, 97, 115, 104, 101, 115]⟩, .int .i64 z.k, .int .i64 z.n, .string z.s, .slice z.lA z.l.length z.lc, .slice z.mA z.m.length z.mc]) rfl (fun V hS => by go_simp) hS5 ?_
       simp only [nf]
       refine rd1 9 rfl (fun K' hK => ?_)
       go_simp
       obtain ⟨wx40, hw40⟩ : ∃ w2, w2 = wx38.alloc (.cells #[.string ⟨#[104, 97, 115, 104, 101, 115]⟩, .int .i64 z.k, .int .i64 z.n, .string z.s, .slice z.lA z.l.length z.lc, .slice z.mA z.m.length z.mc] 73) := ⟨_, rfl⟩
       rw [← hw40]
       have hb40 : Below wx38.heap.size wx38 wx40 := by rw [hw40]; exact (Below.refl _ _).alloc (Nat.le_refl _) _
       obtain ⟨Q2, hQ40⟩ : ∃ Q0, Q0 = wx38.heap.size := ⟨_, rfl⟩
       rw [← hQ40]
       have HK40 : Hid (Blk wx40 Q2 73 (z.keyed haK).pcs.toArray) := Ld (by rw [hw40, hQ40, keyed_pcs]; exact Blk.new _ _ _)
       have HF41 := Ld (HF39.out.trans (hb40.mono HF39.out.size))
       have HF42 := Ld (HZ38.out.bel hb40)
       clear hw40 hQ40
       refine hK.out _ _ (Fr.of_below HF41.out) (fun hS6 => ?_)
       clear hK K' hS5
       try simp only [nf]
       refine rd1 10 rfl (fun K' hK => ?_)
       have hxb := HX8.out.below HF41.out
       have HXB8 := Ld hxb
       clear hxb
       refine step_app_row wx40 infoPair Tryz.underlying28 rfl (by omega) (by omega) (fun _ => rfl) oneC_pcs rfl (some 59) rfl _ _ rfl base8 (.slice x8'.mA x8'.m.length x8'.mc) x8'.m rfl HXB8.out.own.m Q2 rfl (z.keyed haK) HK40.out (HF42.out.keyed haK) ((HGZ.out.mono (fun b hb => Nat.le_trans HX8.out.bs hb)).keyed haK) ((HGZ.out.mono (fun b hb e => by have := own_lt HX8.out b e; omega)).keyed haK) (by rw [(pv_nil HP8.out).2.2.2.2]; simp) HXB8.out.bs ?_
       intro v4 wC hrow hg hat
       obtain ⟨A4, cap4, hv4, _⟩ := hrow.shape
       rw [List.length_append, List.length_singleton] at hv4
       subst hv4
       have HXN := Ld (HXB8.out.snoc hg hat hrow ((HGZ.out.mono (fun b hb e => by have := HX8.out.box.lt; omega)).keyed haK))
       have HFN : Hid (Fr (fun b => (Value.slice x8'.mA x8'.m.length x8'.mc).ownBlock = some b) W8 wC) := Ld ((Fr.of_below HF41.out).trans (Fr.of_grown hg (fun g e => e)))
       have HPN : Hid ((x8'.snocM A4 cap4 (z.keyed haK)).pv = fileP m) := Ld (by rw [snocM_pv _ _ _ _ HP8.out, keyed_key, keyed_pv, HPZ.out, HFI.out])
       have hb4 := HXB8.out.box.grown hg (fun e => HXB8.out.rB _ e.symm rfl)
       have HC4 : Hid (wC.cell? ⟨B8, 4, none⟩ = some (.slice x8'.mA x8'.m.length x8'.mc) ∧ wC.frozen? ⟨B8, 4, none⟩ = false) := Ld ⟨hb4.cell 4, hb4.frozen 4⟩
       clear hrow hg hat hb4
       refine hK.out _ _ (HFN.out) (fun hS7 => ?_)
       clear hK K' hS6
       try simp only [nf]
       refine tk 11 (some 60) (.pointer (some ⟨B8, 4, none⟩)) rfl (fun V hS => by go_simp) hS7 ?_
       simp only [nf]
       refine wpAnyH_done (by kernel_rfl) ?_ _
       refine lastQ_normal (wpOp_step rfl (fun K' hK => ?_))
       obtain ⟨t4, f4⟩ := HC4.out
       go_simp
       refine hK _ _ ?_
       clear hK K' hS7 t4 f4
       obtain ⟨x7, hx7⟩ : ∃ x7, x7 = x8'.snocM A4 cap4 (z.keyed haK) := ⟨_, rfl⟩
       rw [← hx7] at HXN HPN
       obtain ⟨W9, hW9⟩ : ∃ W9, W9 = wC.setCell ⟨B8, 4, none⟩ (.slice A4 (x8'.m.length + 1) cap4) := ⟨_, rfl⟩
       rw [← hW9]
       rw [← hW9] at HXN
       have HXZ := Ld (HX.out.below (HBM.out.trans (HXN.out.bel.mono HBM.out.size)))
       clear hx7 hW9 HX7
       have l0 := (HMX.out W9 HXN.out.bel).1
       obtain ⟨k0, k1, k2, k3, k4⟩ := five_cells HXN.out.box
       have n4 := HXZ.out.box.cell 4
       simp only [gz] at n4
       obtain ⟨WP, hWP⟩ : ∃ WP, WP = W9.alloc (.cells #[.string m.name, .int .i64 x7.k, .int .i64 x7.n, .string x7.s, .slice x7.lA x7.l.length x7.lc, .slice x7.mA x7.m.length x7.mc] 73) := ⟨_, rfl⟩
       obtain ⟨QP, hQP⟩ : ∃ QP, QP = W9.heap.size := ⟨_, rfl⟩
       have hbP : Below W9.heap.size W9 WP := by rw [hWP]; exact (Below.refl _ _).alloc (Nat.le_refl _) _
       have HKP : Hid (Blk WP QP 73 (x7.keyed m.name).pcs.toArray) := Ld (by rw [hWP, hQP, keyed_pcs]; exact Blk.new _ _ _)
       have HXP := Ld (HXZ.out.below hbP)
       have HYP := Ld (HXN.out.own.below hbP)
       have HWP := Ld (And.intro hWP hQP)
       have HPX := HPN
       clear hbP hWP hQP
       go_wp2_with (at_builtin; rw [← HWP.out.2, ← HWP.out.1]; refine app_row WP infoPair Tryz.underlying28 rfl (by omega) (by omega) (fun _ => rfl) oneC_pcs rfl _ _ rfl (B + 1) (.slice x.mA x.m.length x.mc) x.m rfl HXP.out.own.m QP rfl (x7.keyed m.name) HKP.out (HYP.out.at_.keyed m.name) ((HYP.out.fr.mono (fun b hb => by have := HGE.out; omega)).keyed m.name) ((HYP.out.fr.mono (fun b hb e => by have := HGE.out; have := HOL.out b e; omega)).keyed m.name) (by rw [HML.out]; omega) HXP.out.bs ?_)
       intro v' w' hO hG hv'
       obtain ⟨A', c', hvf, _⟩ := hO.shape
       rw [List.length_append, List.length_singleton] at hvf
       subst hvf
       have HXF : Hid (BxV w3 B (B + 1) (x.snocM A' c' (x7.keyed m.name)) (w'.setCell ⟨B, 4, none⟩ (.slice A' (x.m.length + 1) c'))) := Ld (HXP.out.snoc hG hv' hO ((HYP.out.fr.mono (fun b hb e => by have := HGE.out; omega)).keyed m.name))
       have HPF : Hid ((x.snocM A' c' (x7.keyed m.name)).pv = metaL (l.take (i + 1))) := Ld (by rw [HNX.out, snocM_pv (ks := (l.take i).map ME.name) (ps := (l.take i).map fileP) _ _ _ _ HP.out, keyed_key, keyed_pv, HPX.out])
       have hkB := HXP.out.box.grown hG (fun e => HXP.out.rB _ e.symm rfl)
       have u4 := hkB.cell 4
       have f4 := hkB.frozen 4
       simp only [gz] at u4
       clear hO hG hv' hkB l0 k0 k1 k2 k3 k4 n4
       go_wp2
       go_roundw
       case rel => exact ⟨i + 1, _, by omega, by go_num, HXF, HPF⟩
       case measure => simp [intOf]; omega
   ·have z2 : decide (m.len ≥ 0) = false := decide_eq_false hle
    have z2' : decide (0 ≤ m.len) = false := decide_eq_false hle
    have HLE := Ld hle
    clear hle
    obtain ⟨W8, hW8⟩ : ∃ W8, W8 = W7 := ⟨_, rfl⟩
    rw [← hW8]
    rw [← hW8] at HX8 HX7 l0 l1 l2 l3
    clear hW8
    by_cases he : m.hash = ⟨#[]⟩
    ·have g2 : m.hash.toList = [] := by rw [he, ByteArray.toList_eq]
     have HPG : Hid (x8.pv = fileP m) := Ld (by rw [HP8.out, file_form, if_pos he, if_neg HLE.out])
     clear he
     have l0 := (HMX.out W8 HX8.out.bel).1
     obtain ⟨k0, k1, k2, k3, k4⟩ := five_cells HX8.out.box
     have n4 := HX7.out.box.cell 4
     simp only [gz] at n4
     obtain ⟨WP, hWP⟩ : ∃ WP, WP = W8.alloc (.cells #[.string m.name, .int .i64 x8.k, .int .i64 x8.n, .string x8.s, .slice x8.lA x8.l.length x8.lc, .slice x8.mA x8.m.length x8.mc] 73) := ⟨_, rfl⟩
     obtain ⟨QP, hQP⟩ : ∃ QP, QP = W8.heap.size := ⟨_, rfl⟩
     have hbP : Below W8.heap.size W8 WP := by rw [hWP]; exact (Below.refl _ _).alloc (Nat.le_refl _) _
     have HKP : Hid (Blk WP QP 73 (x8.keyed m.name).pcs.toArray) := Ld (by rw [hWP, hQP, keyed_pcs]; exact Blk.new _ _ _)
     have HXP := Ld (HX7.out.below hbP)
     have HYP := Ld (HX8.out.own.below hbP)
     have HWP := Ld (And.intro hWP hQP)
     have HPX := HPG
     clear hbP hWP hQP
     go_wp2_with (at_builtin; rw [← HWP.out.2, ← HWP.out.1]; refine app_row WP infoPair Tryz.underlying28 rfl (by omega) (by omega) (fun _ => rfl) oneC_pcs rfl _ _ rfl (B + 1) (.slice x.mA x.m.length x.mc) x.m rfl HXP.out.own.m QP rfl (x8.keyed m.name) HKP.out (HYP.out.at_.keyed m.name) ((HYP.out.fr.mono (fun b hb => by have := HGE.out; omega)).keyed m.name) ((HYP.out.fr.mono (fun b hb e => by have := HGE.out; have := HOL.out b e; omega)).keyed m.name) (by rw [HML.out]; omega) HXP.out.bs ?_)
     intro v' w' hO hG hv'
     obtain ⟨A', c', hvf, _⟩ := hO.shape
     rw [List.length_append, List.length_singleton] at hvf
     subst hvf
     have HXF : Hid (BxV w3 B (B + 1) (x.snocM A' c' (x8.keyed m.name)) (w'.setCell ⟨B, 4, none⟩ (.slice A' (x.m.length + 1) c'))) := Ld (HXP.out.snoc hG hv' hO ((HYP.out.fr.mono (fun b hb e => by have := HGE.out; omega)).keyed m.name))
     have HPF : Hid ((x.snocM A' c' (x8.keyed m.name)).pv = metaL (l.take (i + 1))) := Ld (by rw [HNX.out, snocM_pv (ks := (l.take i).map ME.name) (ps := (l.take i).map fileP) _ _ _ _ HP.out, keyed_key, keyed_pv, HPX.out])
     have hkB := HXP.out.box.grown hG (fun e => HXP.out.rB _ e.symm rfl)
     have u4 := hkB.cell 4
     have f4 := hkB.frozen 4
     simp only [gz] at u4
     clear hO hG hv' hkB l0 k0 k1 k2 k3 k4 n4
     go_wp2
     go_roundw
     case rel => exact ⟨i + 1, _, by omega, by go_num, HXF, HPF⟩
     case measure => simp [intOf]; omega
    ·have HFI : Hid (fileP m = mpV ([veK] ++ [haK]) ([inV m.ver] ++ [mpV [shK] [txV m.hash]])) := Ld (by rw [file_form, if_neg he, if_neg HLE.out]; rfl)
     obtain ⟨g2, g3, g4, g5, g6⟩ := hash_ne he
     clear he
     go_wp2
     clear l0 l1 l2 l3
     have HCE : Hid (∀ V, Fr (fun b => (Value.slice x8.mA x8.m.length x8.mc).ownBlock = some b) W8 V → V.cell? ⟨B8, 4, none⟩ = some (.slice x8.mA x8.m.length x8.mc) ∧ V.cell? ⟨BM, 3, none⟩ = some (.string m.hash)) := Ld (fun V hV => ⟨cells_own HX8.out hV, (hV.cell (p := ⟨BM, 3, none⟩) (Nat.lt_of_lt_of_le HBML.out HX8.out.bel.size) (fun e => by have h1 : base8 ≤ BM := HX8.out.own_ge _ e; have := HX8.out.hb; have := HBML.out; omega)).trans (HMX.out W8 HX8.out.bel).2.2.2⟩)
     refine wp_region_last (S := fun V => Fr (fun b => (Value.slice x8.mA x8.m.length x8.mc).ownBlock = some b) W8 V) (st := 12) (n := 12) (by kernel_rfl) rfl (by kernel_rfl) rfl ((Fr.refl _ _).drew) (fun hS1 => ?_)
     obtain ⟨WD, hWD⟩ : ∃ WD, WD = W8.drew := ⟨_, rfl⟩
     rw [← hWD] at hS1 ⊢
     have HBD : Hid (Below W8.heap.size W8 WD) := Ld (by rw [hWD]; exact (Below.refl _ _).drew)
     clear hWD
     refine tk 0 (some 49) (.pointer (some ⟨B8, 4, none⟩)) rfl (fun V hS => by go_simp) hS1 ?_
     simp only [nf]
     refine tk 1 (some 50) (.slice x8.mA x8.m.length x8.mc) rfl (fun V hS => by have h4 := (HCE.out V hS).1; go_simp) hS1 ?_
     simp only [nf]
     refine tk 3 (some 52) (.pointer (some ⟨BM, 3, none⟩)) rfl (fun V hS => by go_simp) hS1 ?_
     simp only [nf]
     refine tk 4 (some 53) (.string m.hash) rfl (fun V hS => by have h2 := (HCE.out V hS).2; go_simp) hS1 ?_
     simp only [nf]
     refine wpAnyH_ready (rs := [2, 5]) (by kernel_rfl) (by simp) ?_
     refine AllReadyH.cons rfl (fun K' hK => ?_) (AllReadyH.cons rfl (fun K' hK => ?_) AllReadyH.nil)
     ·go_simp
      obtain ⟨wx1, hw1⟩ : ∃ w2, w2 = WD.alloc (.cells #[.string ⟨#[115, 104, 97, 50, 53, 54]⟩] 9) := ⟨_, rfl⟩
      rw [← hw1]
      have hb1 : Below WD.heap.size WD wx1 := by rw [hw1]; exact (Below.refl _ _).alloc (Nat.le_refl _) _
      obtain ⟨Q0, hQ1⟩ : ∃ Q0, Q0 = WD.heap.size := ⟨_, rfl⟩
      rw [← hQ1]
      have HK1 : Hid (Blk wx1 Q0 9 #[.string ⟨#[115, 104, 97, 50, 53, 54]⟩]) := Ld (by rw [hw1, hQ1]; exact Blk.new _ _ _)
      have HF2 := Ld (HBD.out.trans (hb1.mono HBD.out.size))
      clear hw1 hQ1
      refine hK.out _ _ (Fr.of_below HF2.out) (fun hS2 => ?_)
      clear hK K' hS1
      try simp only [nf]
      refine rd1 5 rfl (fun K' hK => ?_)
      go_simp
      refine (rText_any m.hash wx1).mono ?_
      rintro e3 wx3 ⟨y3, rfl, hp3, ho3, hb3⟩
      unfold MV.val
      have HV3 : Hid (VAt wx3 y3) := Ld ho3.at_
      have HPy3 := Ld hp3
      have HF4 := Ld (HF2.out.trans (hb3.mono HF2.out.size))
      have HF5 := Ld (HK1.out.below hb3 HK1.out.lt)
      clear hp3 ho3
      go_simp
      refine hK.out _ _ (Fr.of_below HF4.out) (fun hS3 => ?_)
      clear hK K' hS2
      try simp only [nf]
      refine rd1 6 rfl (fun K' hK => ?_)
      go_simp
      obtain ⟨wx6, hw6⟩ : ∃ w2, w2 = wx3.alloc (.cells #[.int .i64 y3.k, .int .i64 y3.n, .string y3.s, .slice y3.lA y3.l.length y3.lc, .slice y3.mA y3.m.length y3.mc] 30) := ⟨_, rfl⟩
      rw [← hw6]
      have hb6 : Below wx3.heap.size wx3 wx6 := by rw [hw6]; exact (Below.refl _ _).alloc (Nat.le_refl _) _
      obtain ⟨Q1, hQ6⟩ : ∃ Q0, Q0 = wx3.heap.size := ⟨_, rfl⟩
      rw [← hQ6]
      have HK6 : Hid (Blk wx6 Q1 30 #[.int .i64 y3.k, .int .i64 y3.n, .string y3.s, .slice y3.lA y3.l.length y3.lc, .slice y3.mA y3.m.length y3.mc]) := Ld (by rw [hw6, hQ6]; exact Blk.new _ _ _)
      have HF7 := Ld (HF4.out.trans (hb6.mono HF4.out.size))
      have HF8 := Ld (HF5.out.below hb6 HF5.out.lt)
      have HF9 := Ld (HV3.out.bel hb6)
      clear hw6 hQ6
      refine hK.out _ _ (Fr.of_below HF7.out) (fun hS4 => ?_)
      clear hK K' hS3
      try simp only [nf]
      refine rd1 7 rfl (fun K' hK => ?_)
      go_simp
      refine (rmap_any [shK] [y3] (some ⟨Q0, 0, none⟩) (some ⟨Q1, 0, none⟩) 1 1 1 wx6 (mpA_mk (ks := [shK]) (l := [y3]) HF8.out rfl HK6.out rfl rfl rfl (fun z hz => by rw [List.mem_singleton] at hz; rw [hz]; exact HF9.out) (fun z hz => by rw [List.mem_singleton] at hz; rw [hz]; exact (leaf_tx HPy3.out).1)) (by omega)).mono ?_
      rintro e10 wx10 ⟨z, rfl, hpz, -, -, -, hvz, hb10⟩
      unfold MV.val
      have HPZ : Hid (z.pv = mpV [shK] [txV m.hash]) := Ld (hpz.trans (by rw [MV.pvL, MV.pvL, HPy3.out]))
      have HZ10 : Hid (VAt wx10 z) := Ld hvz.at_
      have HGZ : Hid (BlkP (fun b => W8.heap.size ≤ b) z) := Ld (hvz.fr.mono (fun b hb => Nat.le_trans HF7.out.size hb))
      have HF11 := Ld (HF7.out.trans (hb10.mono HF7.out.size))
      clear hpz hvz
      go_simp
      refine hK.out _ _ (Fr.of_below HF11.out) (fun hS5 => ?_)
      clear hK K' hS4
      try simp only [nf]
      refine tk 8 (some 57) (.agg #[.string ⟨#[104, 97, 115, 104, 101, 115]⟩, .int .i64 z.k, .int .i64 z.n, .string z.s, .slice z.lA z.l.length z.lc, .slice z.mA z.m.length z.mc]) rfl (fun V hS => by go_simp) hS5 ?_
      simp only [nf]
      refine rd1 9 rfl (fun K' hK => ?_)
      go_simp
      obtain ⟨wx12, hw12⟩ : ∃ w2, w2 = wx10.alloc (.cells #[.string ⟨#[104, 97, 115, 104, 101, 115]⟩, .int .i64 z.k, .int .i64 z.n, .string z.s, .slice z.lA z.l.length z.lc, .slice z.mA z.m.length z.mc] 73) := ⟨_, rfl⟩
      rw [← hw12]
      have hb12 : Below wx10.heap.size wx10 wx12 := by rw [hw12]; exact (Below.refl _ _).alloc (Nat.le_refl _) _
      obtain ⟨Q2, hQ12⟩ : ∃ Q0, Q0 = wx10.heap.size := ⟨_, rfl⟩
      rw [← hQ12]
      have HK12 : Hid (Blk wx12 Q2 73 (z.keyed haK).pcs.toArray) := Ld (by rw [hw12, hQ12, keyed_pcs]; exact Blk.new _ _ _)
      have HF13 := Ld (HF11.out.trans (hb12.mono HF11.out.size))
      have HF14 := Ld (HZ10.out.bel hb12)
      clear hw12 hQ12
      refine hK.out _ _ (Fr.of_below HF13.out) (fun hS6 => ?_)
      clear hK K' hS5
      try simp only [nf]
      refine rd1 10 rfl (fun K' hK => ?_)
      have hxb := HX8.out.below HF13.out
      have HXB8 := Ld hxb
      clear hxb
      refine step_app_row wx12 infoPair Tryz.underlying28 rfl (by omega) (by omega) (fun _ => rfl) oneC_pcs rfl (some 59) rfl _ _ rfl base8 (.slice x8.mA x8.m.length x8.mc) x8.m rfl HXB8.out.own.m Q2 rfl (z.keyed haK) HK12.out (HF14.out.keyed haK) ((HGZ.out.mono (fun b hb => Nat.le_trans HX8.out.bs hb)).keyed haK) ((HGZ.out.mono (fun b hb e => by have := own_lt HX8.out b e; omega)).keyed haK) (by rw [(pv_nil HP8.out).2.2.2.2]; simp) HXB8.out.bs ?_
      intro v4 wC hrow hg hat
      obtain ⟨A4, cap4, hv4, _⟩ := hrow.shape
      rw [List.length_append, List.length_singleton] at hv4
      subst hv4
      have HXN := Ld (HXB8.out.snoc hg hat hrow ((HGZ.out.mono (fun b hb e => by have := HX8.out.box.lt; omega)).keyed haK))
      have HFN : Hid (Fr (fun b => (Value.slice x8.mA x8.m.length x8.mc).ownBlock = some b) W8 wC) := Ld ((Fr.of_below HF13.out).trans (Fr.of_grown hg (fun g e => e)))
      have HPN : Hid ((x8.snocM A4 cap4 (z.keyed haK)).pv = fileP m) := Ld (by rw [snocM_pv _ _ _ _ HP8.out, keyed_key, keyed_pv, HPZ.out, HFI.out])
      have hb4 := HXB8.out.box.grown hg (fun e => HXB8.out.rB _ e.symm rfl)
      have HC4 : Hid (wC.cell? ⟨B8, 4, none⟩ = some (.slice x8.mA x8.m.length x8.mc) ∧ wC.frozen? ⟨B8, 4, none⟩ = false) := Ld ⟨hb4.cell 4, hb4.frozen 4⟩
      clear hrow hg hat hb4
      refine hK.out _ _ (HFN.out) (fun hS7 => ?_)
      clear hK K' hS6
      try simp only [nf]
      refine tk 11 (some 60) (.pointer (some ⟨B8, 4, none⟩)) rfl (fun V hS => by go_simp) hS7 ?_
      simp only [nf]
      refine wpAnyH_done (by kernel_rfl) ?_ _
      refine lastQ_normal (wpOp_step rfl (fun K' hK => ?_))
      obtain ⟨t4, f4⟩ := HC4.out
      go_simp
      refine hK _ _ ?_
      clear hK K' hS7 t4 f4
      obtain ⟨x7, hx7⟩ : ∃ x7, x7 = x8.snocM A4 cap4 (z.keyed haK) := ⟨_, rfl⟩
      rw [← hx7] at HXN HPN
      obtain ⟨W9, hW9⟩ : ∃ W9, W9 = wC.setCell ⟨B8, 4, none⟩ (.slice A4 (x8.m.length + 1) cap4) := ⟨_, rfl⟩
      rw [← hW9]
      rw [← hW9] at HXN
      have HXZ := Ld (HX.out.below (HBM.out.trans (HXN.out.bel.mono HBM.out.size)))
      clear hx7 hW9 HX7
      have l0 := (HMX.out W9 HXN.out.bel).1
      obtain ⟨k0, k1, k2, k3, k4⟩ := five_cells HXN.out.box
      have n4 := HXZ.out.box.cell 4
      simp only [gz] at n4
      obtain ⟨WP, hWP⟩ : ∃ WP, WP = W9.alloc (.cells #[.string m.name, .int .i64 x7.k, .int .i64 x7.n, .string x7.s, .slice x7.lA x7.l.length x7.lc, .slice x7.mA x7.m.length x7.mc] 73) := ⟨_, rfl⟩
      obtain ⟨QP, hQP⟩ : ∃ QP, QP = W9.heap.size := ⟨_, rfl⟩
      have hbP : Below W9.heap.size W9 WP := by rw [hWP]; exact (Below.refl _ _).alloc (Nat.le_refl _) _
      have HKP : Hid (Blk WP QP 73 (x7.keyed m.name).pcs.toArray) := Ld (by rw [hWP, hQP, keyed_pcs]; exact Blk.new _ _ _)
      have HXP := Ld (HXZ.out.below hbP)
      have HYP := Ld (HXN.out.own.below hbP)
      have HWP := Ld (And.intro hWP hQP)
      have HPX := HPN
      clear hbP hWP hQP
      go_wp2_with (at_builtin; rw [← HWP.out.2, ← HWP.out.1]; refine app_row WP infoPair Tryz.underlying28 rfl (by omega) (by omega) (fun _ => rfl) oneC_pcs rfl _ _ rfl (B + 1) (.slice x.mA x.m.length x.mc) x.m rfl HXP.out.own.m QP rfl (x7.keyed m.name) HKP.out (HYP.out.at_.keyed m.name) ((HYP.out.fr.mono (fun b hb => by have := HGE.out; omega)).keyed m.name) ((HYP.out.fr.mono (fun b hb e => by have := HGE.out; have := HOL.out b e; omega)).keyed m.name) (by rw [HML.out]; omega) HXP.out.bs ?_)
      intro v' w' hO hG hv'
      obtain ⟨A', c', hvf, _⟩ := hO.shape
      rw [List.length_append, List.length_singleton] at hvf
      subst hvf
      have HXF : Hid (BxV w3 B (B + 1) (x.snocM A' c' (x7.keyed m.name)) (w'.setCell ⟨B, 4, none⟩ (.slice A' (x.m.length + 1) c'))) := Ld (HXP.out.snoc hG hv' hO ((HYP.out.fr.mono (fun b hb e => by have := HGE.out; omega)).keyed m.name))
      have HPF : Hid ((x.snocM A' c' (x7.keyed m.name)).pv = metaL (l.take (i + 1))) := Ld (by rw [HNX.out, snocM_pv (ks := (l.take i).map ME.name) (ps := (l.take i).map fileP) _ _ _ _ HP.out, keyed_key, keyed_pv, HPX.out])
      have hkB := HXP.out.box.grown hG (fun e => HXP.out.rB _ e.symm rfl)
      have u4 := hkB.cell 4
      have f4 := hkB.frozen 4
      simp only [gz] at u4
      clear hO hG hv' hkB l0 k0 k1 k2 k3 k4 n4
      go_wp2
      go_roundw
      case rel => exact ⟨i + 1, _, by omega, by go_num, HXF, HPF⟩
      case measure => simp [intOf]; omega
     ·go_simp
      refine (rText_any m.hash WD).mono ?_
      rintro e16 wx16 ⟨y3, rfl, hp16, ho16, hb16⟩
      unfold MV.val
      have HV16 : Hid (VAt wx16 y3) := Ld ho16.at_
      have HPy3 := Ld hp16
      have HF17 := Ld (HBD.out.trans (hb16.mono HBD.out.size))
      clear hp16 ho16
      go_simp
      refine hK.out _ _ (Fr.of_below HF17.out) (fun hS2 => ?_)
      clear hK K' hS1
      try simp only [nf]
      refine wpAnyH_ready (rs := [2, 6]) (by kernel_rfl) (by simp) ?_
      refine AllReadyH.cons rfl (fun K' hK => ?_) (AllReadyH.cons rfl (fun K' hK => ?_) AllReadyH.nil)
      ·go_simp
       obtain ⟨wx18, hw18⟩ : ∃ w2, w2 = wx16.alloc (.cells #[.string ⟨#[115, 104, 97, 50, 53, 54]⟩] 9) := ⟨_, rfl⟩
       rw [← hw18]
       have hb18 : Below wx16.heap.size wx16 wx18 := by rw [hw18]; exact (Below.refl _ _).alloc (Nat.le_refl _) _
       obtain ⟨Q0, hQ18⟩ : ∃ Q0, Q0 = wx16.heap.size := ⟨_, rfl⟩
       rw [← hQ18]
       have HK18 : Hid (Blk wx18 Q0 9 #[.string ⟨#[115, 104, 97, 50, 53, 54]⟩]) := Ld (by rw [hw18, hQ18]; exact Blk.new _ _ _)
       have HF19 := Ld (HF17.out.trans (hb18.mono HF17.out.size))
       have HF20 := Ld (HV16.out.bel hb18)
       clear hw18 hQ18
       refine hK.out _ _ (Fr.of_below HF19.out) (fun hS3 => ?_)
       clear hK K' hS2
       try simp only [nf]
       refine rd1 6 rfl (fun K' hK => ?_)
       go_simp
       obtain ⟨wx21, hw21⟩ : ∃ w2, w2 = wx18.alloc (.cells #[.int .i64 y3.k, .int .i64 y3.n, .string y3.s, .slice y3.lA y3.l.length y3.lc, .slice y3.mA y3.m.length y3.mc] 30) := ⟨_, rfl⟩
       rw [← hw21]
       have hb21 : Below wx18.heap.size wx18 wx21 := by rw [hw21]; exact (Below.refl _ _).alloc (Nat.le_refl _) _
       obtain ⟨Q1, hQ21⟩ : ∃ Q0, Q0 = wx18.heap.size := ⟨_, rfl⟩
       rw [← hQ21]
       have HK21 : Hid (Blk wx21 Q1 30 #[.int .i64 y3.k, .int .i64 y3.n, .string y3.s, .slice y3.lA y3.l.length y3.lc, .slice y3.mA y3.m.length y3.mc]) := Ld (by rw [hw21, hQ21]; exact Blk.new _ _ _)
       have HF22 := Ld (HF19.out.trans (hb21.mono HF19.out.size))
       have HF23 := Ld (HF20.out.bel hb21)
       have HF24 := Ld (HK18.out.below hb21 HK18.out.lt)
       clear hw21 hQ21
       refine hK.out _ _ (Fr.of_below HF22.out) (fun hS4 => ?_)
       clear hK K' hS3
       try simp only [nf]
       refine rd1 7 rfl (fun K' hK => ?_)
       go_simp
       refine (rmap_any [shK] [y3] (some ⟨Q0, 0, none⟩) (some ⟨Q1, 0, none⟩) 1 1 1 wx21 (mpA_mk (ks := [shK]) (l := [y3]) HF24.out rfl HK21.out rfl rfl rfl (fun z hz => by rw [List.mem_singleton] at hz; rw [hz]; exact HF23.out) (fun z hz => by rw [List.mem_singleton] at hz; rw [hz]; exact (leaf_tx HPy3.out).1)) (by omega)).mono ?_
       rintro e25 wx25 ⟨z, rfl, hpz, -, -, -, hvz, hb25⟩
       unfold MV.val
       have HPZ : Hid (z.pv = mpV [shK] [txV m.hash]) := Ld (hpz.trans (by rw [MV.pvL, MV.pvL, HPy3.out]))
       have HZ25 : Hid (VAt wx25 z) := Ld hvz.at_
       have HGZ : Hid (BlkP (fun b => W8.heap.size ≤ b) z) := Ld (hvz.fr.mono (fun b hb => Nat.le_trans HF22.out.size hb))
       have HF26 := Ld (HF22.out.trans (hb25.mono HF22.out.size))
       clear hpz hvz
       go_simp
       refine hK.out _ _ (Fr.of_below HF26.out) (fun hS5 => ?_)
       clear hK K' hS4
       try simp only [nf]
       refine tk 8 (some 57) (.agg #[.string ⟨#[104, 97, 115, 104, 101, 115]⟩, .int .i64 z.k, .int .i64 z.n, .string z.s, .slice z.lA z.l.length z.lc, .slice z.mA z.m.length z.mc]) rfl (fun V hS => by go_simp) hS5 ?_
       simp only [nf]
       refine rd1 9 rfl (fun K' hK => ?_)
       go_simp
       obtain ⟨wx27, hw27⟩ : ∃ w2, w2 = wx25.alloc (.cells #[.string ⟨#[104, 97, 115, 104, 101, 115]⟩, .int .i64 z.k, .int .i64 z.n, .string z.s, .slice z.lA z.l.length z.lc, .slice z.mA z.m.length z.mc] 73) := ⟨_, rfl⟩
       rw [← hw27]
       have hb27 : Below wx25.heap.size wx25 wx27 := by rw [hw27]; exact (Below.refl _ _).alloc (Nat.le_refl _) _
       obtain ⟨Q2, hQ27⟩ : ∃ Q0, Q0 = wx25.heap.size := ⟨_, rfl⟩
       rw [← hQ27]
       have HK27 : Hid (Blk wx27 Q2 73 (z.keyed haK).pcs.toArray) := Ld (by rw [hw27, hQ27, keyed_pcs]; exact Blk.new _ _ _)
       have HF28 := Ld (HF26.out.trans (hb27.mono HF26.out.size))
       have HF29 := Ld (HZ25.out.bel hb27)
       clear hw27 hQ27
       refine hK.out _ _ (Fr.of_below HF28.out) (fun hS6 => ?_)
       clear hK K' hS5
       try simp only [nf]
       refine rd1 10 rfl (fun K' hK => ?_)
       have hxb := HX8.out.below HF28.out
       have HXB8 := Ld hxb
       clear hxb
       refine step_app_row wx27 infoPair Tryz.underlying28 rfl (by omega) (by omega) (fun _ => rfl) oneC_pcs rfl (some 59) rfl _ _ rfl base8 (.slice x8.mA x8.m.length x8.mc) x8.m rfl HXB8.out.own.m Q2 rfl (z.keyed haK) HK27.out (HF29.out.keyed haK) ((HGZ.out.mono (fun b hb => Nat.le_trans HX8.out.bs hb)).keyed haK) ((HGZ.out.mono (fun b hb e => by have := own_lt HX8.out b e; omega)).keyed haK) (by rw [(pv_nil HP8.out).2.2.2.2]; simp) HXB8.out.bs ?_
       intro v4 wC hrow hg hat
       obtain ⟨A4, cap4, hv4, _⟩ := hrow.shape
       rw [List.length_append, List.length_singleton] at hv4
       subst hv4
       have HXN := Ld (HXB8.out.snoc hg hat hrow ((HGZ.out.mono (fun b hb e => by have := HX8.out.box.lt; omega)).keyed haK))
       have HFN : Hid (Fr (fun b => (Value.slice x8.mA x8.m.length x8.mc).ownBlock = some b) W8 wC) := Ld ((Fr.of_below HF28.out).trans (Fr.of_grown hg (fun g e => e)))
       have HPN : Hid ((x8.snocM A4 cap4 (z.keyed haK)).pv = fileP m) := Ld (by rw [snocM_pv _ _ _ _ HP8.out, keyed_key, keyed_pv, HPZ.out, HFI.out])
       have hb4 := HXB8.out.box.grown hg (fun e => HXB8.out.rB _ e.symm rfl)
       have HC4 : Hid (wC.cell? ⟨B8, 4, none⟩ = some (.slice x8.mA x8.m.length x8.mc) ∧ wC.frozen? ⟨B8, 4, none⟩ = false) := Ld ⟨hb4.cell 4, hb4.frozen 4⟩
       clear hrow hg hat hb4
       refine hK.out _ _ (HFN.out) (fun hS7 => ?_)
       clear hK K' hS6
       try simp only [nf]
       refine tk 11 (some 60) (.pointer (some ⟨B8, 4, none⟩)) rfl (fun V hS => by go_simp) hS7 ?_
       simp only [nf]
       refine wpAnyH_done (by kernel_rfl) ?_ _
       refine lastQ_normal (wpOp_step rfl (fun K' hK => ?_))
       obtain ⟨t4, f4⟩ := HC4.out
       go_simp
       refine hK _ _ ?_
       clear hK K' hS7 t4 f4
       obtain ⟨x7, hx7⟩ : ∃ x7, x7 = x8.snocM A4 cap4 (z.keyed haK) := ⟨_, rfl⟩
       rw [← hx7] at HXN HPN
       obtain ⟨W9, hW9⟩ : ∃ W9, W9 = wC.setCell ⟨B8, 4, none⟩ (.slice A4 (x8.m.length + 1) cap4) := ⟨_, rfl⟩
       rw [← hW9]
       rw [← hW9] at HXN
       have HXZ := Ld (HX.out.below (HBM.out.trans (HXN.out.bel.mono HBM.out.size)))
       clear hx7 hW9 HX7
       have l0 := (HMX.out W9 HXN.out.bel).1
       obtain ⟨k0, k1, k2, k3, k4⟩ := five_cells HXN.out.box
       have n4 := HXZ.out.box.cell 4
       simp only [gz] at n4
       obtain ⟨WP, hWP⟩ : ∃ WP, WP = W9.alloc (.cells #[.string m.name, .int .i64 x7.k, .int .i64 x7.n, .string x7.s, .slice x7.lA x7.l.length x7.lc, .slice x7.mA x7.m.length x7.mc] 73) := ⟨_, rfl⟩
       obtain ⟨QP, hQP⟩ : ∃ QP, QP = W9.heap.size := ⟨_, rfl⟩
       have hbP : Below W9.heap.size W9 WP := by rw [hWP]; exact (Below.refl _ _).alloc (Nat.le_refl _) _
       have HKP : Hid (Blk WP QP 73 (x7.keyed m.name).pcs.toArray) := Ld (by rw [hWP, hQP, keyed_pcs]; exact Blk.new _ _ _)
       have HXP := Ld (HXZ.out.below hbP)
       have HYP := Ld (HXN.out.own.below hbP)
       have HWP := Ld (And.intro hWP hQP)
       have HPX := HPN
       clear hbP hWP hQP
       go_wp2_with (at_builtin; rw [← HWP.out.2, ← HWP.out.1]; refine app_row WP infoPair Tryz.underlying28 rfl (by omega) (by omega) (fun _ => rfl) oneC_pcs rfl _ _ rfl (B + 1) (.slice x.mA x.m.length x.mc) x.m rfl HXP.out.own.m QP rfl (x7.keyed m.name) HKP.out (HYP.out.at_.keyed m.name) ((HYP.out.fr.mono (fun b hb => by have := HGE.out; omega)).keyed m.name) ((HYP.out.fr.mono (fun b hb e => by have := HGE.out; have := HOL.out b e; omega)).keyed m.name) (by rw [HML.out]; omega) HXP.out.bs ?_)
       intro v' w' hO hG hv'
       obtain ⟨A', c', hvf, _⟩ := hO.shape
       rw [List.length_append, List.length_singleton] at hvf
       subst hvf
       have HXF : Hid (BxV w3 B (B + 1) (x.snocM A' c' (x7.keyed m.name)) (w'.setCell ⟨B, 4, none⟩ (.slice A' (x.m.length + 1) c'))) := Ld (HXP.out.snoc hG hv' hO ((HYP.out.fr.mono (fun b hb e => by have := HGE.out; omega)).keyed m.name))
       have HPF : Hid ((x.snocM A' c' (x7.keyed m.name)).pv = metaL (l.take (i + 1))) := Ld (by rw [HNX.out, snocM_pv (ks := (l.take i).map ME.name) (ps := (l.take i).map fileP) _ _ _ _ HP.out, keyed_key, keyed_pv, HPX.out])
       have hkB := HXP.out.box.grown hG (fun e => HXP.out.rB _ e.symm rfl)
       have u4 := hkB.cell 4
       have f4 := hkB.frozen 4
       simp only [gz] at u4
       clear hO hG hv' hkB l0 k0 k1 k2 k3 k4 n4
       go_wp2
       go_roundw
       case rel => exact ⟨i + 1, _, by omega, by go_num, HXF, HPF⟩
       case measure => simp [intOf]; omega
      ·go_simp
       obtain ⟨wx31, hw31⟩ : ∃ w2, w2 = wx16.alloc (.cells #[.int .i64 y3.k, .int .i64 y3.n, .string y3.s, .slice y3.lA y3.l.length y3.lc, .slice y3.mA y3.m.length y3.mc] 30) := ⟨_, rfl⟩
       rw [← hw31]
       have hb31 : Below wx16.heap.size wx16 wx31 := by rw [hw31]; exact (Below.refl _ _).alloc (Nat.le_refl _) _
       obtain ⟨Q1, hQ31⟩ : ∃ Q0, Q0 = wx16.heap.size := ⟨_, rfl⟩
       rw [← hQ31]
       have HK31 : Hid (Blk wx31 Q1 30 #[.int .i64 y3.k, .int .i64 y3.n, .string y3.s, .slice y3.lA y3.l.length y3.lc, .slice y3.mA y3.m.length y3.mc]) := Ld (by rw [hw31, hQ31]; exact Blk.new _ _ _)
       have HF32 := Ld (HF17.out.trans (hb31.mono HF17.out.size))
       have HF33 := Ld (HV16.out.bel hb31)
       clear hw31 hQ31
       refine hK.out _ _ (Fr.of_below HF32.out) (fun hS3 => ?_)
       clear hK K' hS2
       try simp only [nf]
       refine rd1 2 rfl (fun K' hK => ?_)
       go_simp
       obtain ⟨wx34, hw34⟩ : ∃ w2, w2 = wx31.alloc (.cells #[.string ⟨#[115, 104, 97, 50, 53, 54]⟩] 9) := ⟨_, rfl⟩
       rw [← hw34]
       have hb34 : Below wx31.heap.size wx31 wx34 := by rw [hw34]; exact (Below.refl _ _).alloc (Nat.le_refl _) _
       obtain ⟨Q0, hQ34⟩ : ∃ Q0, Q0 = wx31.heap.size := ⟨_, rfl⟩
       rw [← hQ34]
       have HK34 : Hid (Blk wx34 Q0 9 #[.string ⟨#[115, 104, 97, 50, 53, 54]⟩]) := Ld (by rw [hw34, hQ34]; exact Blk.new _ _ _)
       have HF35 := Ld (HF32.out.trans (hb34.mono HF32.out.size))
       have HF36 := Ld (HF33.out.bel hb34)
       have HF37 := Ld (HK31.out.below hb34 HK31.out.lt)
       clear hw34 hQ34
       refine hK.out _ _ (Fr.of_below HF35.out) (fun hS4 => ?_)
       clear hK K' hS3
       try simp only [nf]
       refine rd1 7 rfl (fun K' hK => ?_)
       go_simp
       refine (rmap_any [shK] [y3] (some ⟨Q0, 0, none⟩) (some ⟨Q1, 0, none⟩) 1 1 1 wx34 (mpA_mk (ks := [shK]) (l := [y3]) HK34.out rfl HF37.out rfl rfl rfl (fun z hz => by rw [List.mem_singleton] at hz; rw [hz]; exact HF36.out) (fun z hz => by rw [List.mem_singleton] at hz; rw [hz]; exact (leaf_tx HPy3.out).1)) (by omega)).mono ?_
       rintro e38 wx38 ⟨z, rfl, hpz, -, -, -, hvz, hb38⟩
       unfold MV.val
       have HPZ : Hid (z.pv = mpV [shK] [txV m.hash]) := Ld (hpz.trans (by rw [MV.pvL, MV.pvL, HPy3.out]))
       have HZ38 : Hid (VAt wx38 z) := Ld hvz.at_
       have HGZ : Hid (BlkP (fun b => W8.heap.size ≤ b) z) := Ld (hvz.fr.mono (fun b hb => Nat.le_trans HF35.out.size hb))
       have HF39 := Ld (HF35.out.trans (hb38.mono HF35.out.size))
       clear hpz hvz
       go_simp
       refine hK.out _ _ (Fr.of_below HF39.out) (fun hS5 => ?_)
       clear hK K' hS4
       try simp only [nf]
       refine tk 8 (some 57) (.agg #[.string ⟨#[104, 97, 115, 104, 101, 115]⟩, .int .i64 z.k, .int .i64 z.n, .string z.s, .slice z.lA z.l.length z.lc, .slice z.mA z.m.length z.mc]) rfl (fun V hS => by go_simp) hS5 ?_
       simp only [nf]
       refine rd1 9 rfl (fun K' hK => ?_)
       go_simp
       obtain ⟨wx40, hw40⟩ : ∃ w2, w2 = wx38.alloc (.cells #[.string ⟨#[104, 97, 115, 104, 101, 115]⟩, .int .i64 z.k, .int .i64 z.n, .string z.s, .slice z.lA z.l.length z.lc, .slice z.mA z.m.length z.mc] 73) := ⟨_, rfl⟩
       rw [← hw40]
       have hb40 : Below wx38.heap.size wx38 wx40 := by rw [hw40]; exact (Below.refl _ _).alloc (Nat.le_refl _) _
       obtain ⟨Q2, hQ40⟩ : ∃ Q0, Q0 = wx38.heap.size := ⟨_, rfl⟩
       rw [← hQ40]
       have HK40 : Hid (Blk wx40 Q2 73 (z.keyed haK).pcs.toArray) := Ld (by rw [hw40, hQ40, keyed_pcs]; exact Blk.new _ _ _)
       have HF41 := Ld (HF39.out.trans (hb40.mono HF39.out.size))
       have HF42 := Ld (HZ38.out.bel hb40)
       clear hw40 hQ40
       refine hK.out _ _ (Fr.of_below HF41.out) (fun hS6 => ?_)
       clear hK K' hS5
       try simp only [nf]
       refine rd1 10 rfl (fun K' hK => ?_)
       have hxb := HX8.out.below HF41.out
       have HXB8 := Ld hxb
       clear hxb
       refine step_app_row wx40 infoPair Tryz.underlying28 rfl (by omega) (by omega) (fun _ => rfl) oneC_pcs rfl (some 59) rfl _ _ rfl base8 (.slice x8.mA x8.m.length x8.mc) x8.m rfl HXB8.out.own.m Q2 rfl (z.keyed haK) HK40.out (HF42.out.keyed haK) ((HGZ.out.mono (fun b hb => Nat.le_trans HX8.out.bs hb)).keyed haK) ((HGZ.out.mono (fun b hb e => by have := own_lt HX8.out b e; omega)).keyed haK) (by rw [(pv_nil HP8.out).2.2.2.2]; simp) HXB8.out.bs ?_
       intro v4 wC hrow hg hat
       obtain ⟨A4, cap4, hv4, _⟩ := hrow.shape
       rw [List.length_append, List.length_singleton] at hv4
       subst hv4
       have HXN := Ld (HXB8.out.snoc hg hat hrow ((HGZ.out.mono (fun b hb e => by have := HX8.out.box.lt; omega)).keyed haK))
       have HFN : Hid (Fr (fun b => (Value.slice x8.mA x8.m.length x8.mc).ownBlock = some b) W8 wC) := Ld ((Fr.of_below HF41.out).trans (Fr.of_grown hg (fun g e => e)))
       have HPN : Hid ((x8.snocM A4 cap4 (z.keyed haK)).pv = fileP m) := Ld (by rw [snocM_pv _ _ _ _ HP8.out, keyed_key, keyed_pv, HPZ.out, HFI.out])
       have hb4 := HXB8.out.box.grown hg (fun e => HXB8.out.rB _ e.symm rfl)
       have HC4 : Hid (wC.cell? ⟨B8, 4, none⟩ = some (.slice x8.mA x8.m.length x8.mc) ∧ wC.frozen? ⟨B8, 4, none⟩ = false) := Ld ⟨hb4.cell 4, hb4.frozen 4⟩
       clear hrow hg hat hb4
       refine hK.out _ _ (HFN.out) (fun hS7 => ?_)
       clear hK K' hS6
       try simp only [nf]
       refine tk 11 (some 60) (.pointer (some ⟨B8, 4, none⟩)) rfl (fun V hS => by go_simp) hS7 ?_
       simp only [nf]
       refine wpAnyH_done (by kernel_rfl) ?_ _
       refine lastQ_normal (wpOp_step rfl (fun K' hK => ?_))
       obtain ⟨t4, f4⟩ := HC4.out
       go_simp
       refine hK _ _ ?_
       clear hK K' hS7 t4 f4
       obtain ⟨x7, hx7⟩ : ∃ x7, x7 = x8.snocM A4 cap4 (z.keyed haK) := ⟨_, rfl⟩
       rw [← hx7] at HXN HPN
       obtain ⟨W9, hW9⟩ : ∃ W9, W9 = wC.setCell ⟨B8, 4, none⟩ (.slice A4 (x8.m.length + 1) cap4) := ⟨_, rfl⟩
       rw [← hW9]
       rw [← hW9] at HXN
       have HXZ := Ld (HX.out.below (HBM.out.trans (HXN.out.bel.mono HBM.out.size)))
       clear hx7 hW9 HX7
       have l0 := (HMX.out W9 HXN.out.bel).1
       obtain ⟨k0, k1, k2, k3, k4⟩ := five_cells HXN.out.box
       have n4 := HXZ.out.box.cell 4
       simp only [gz] at n4
       obtain ⟨WP, hWP⟩ : ∃ WP, WP = W9.alloc (.cells #[.string m.name, .int .i64 x7.k, .int .i64 x7.n, .string x7.s, .slice x7.lA x7.l.length x7.lc, .slice x7.mA x7.m.length x7.mc] 73) := ⟨_, rfl⟩
       obtain ⟨QP, hQP⟩ : ∃ QP, QP = W9.heap.size := ⟨_, rfl⟩
       have hbP : Below W9.heap.size W9 WP := by rw [hWP]; exact (Below.refl _ _).alloc (Nat.le_refl _) _
       have HKP : Hid (Blk WP QP 73 (x7.keyed m.name).pcs.toArray) := Ld (by rw [hWP, hQP, keyed_pcs]; exact Blk.new _ _ _)
       have HXP := Ld (HXZ.out.below hbP)
       have HYP := Ld (HXN.out.own.below hbP)
       have HWP := Ld (And.intro hWP hQP)
       have HPX := HPN
       clear hbP hWP hQP
       go_wp2_with (at_builtin; rw [← HWP.out.2, ← HWP.out.1]; refine app_row WP infoPair Tryz.underlying28 rfl (by omega) (by omega) (fun _ => rfl) oneC_pcs rfl _ _ rfl (B + 1) (.slice x.mA x.m.length x.mc) x.m rfl HXP.out.own.m QP rfl (x7.keyed m.name) HKP.out (HYP.out.at_.keyed m.name) ((HYP.out.fr.mono (fun b hb => by have := HGE.out; omega)).keyed m.name) ((HYP.out.fr.mono (fun b hb e => by have := HGE.out; have := HOL.out b e; omega)).keyed m.name) (by rw [HML.out]; omega) HXP.out.bs ?_)
       intro v' w' hO hG hv'
       obtain ⟨A', c', hvf, _⟩ := hO.shape
       rw [List.length_append, List.length_singleton] at hvf
       subst hvf
       have HXF : Hid (BxV w3 B (B + 1) (x.snocM A' c' (x7.keyed m.name)) (w'.setCell ⟨B, 4, none⟩ (.slice A' (x.m.length + 1) c'))) := Ld (HXP.out.snoc hG hv' hO ((HYP.out.fr.mono (fun b hb e => by have := HGE.out; omega)).keyed m.name))
       have HPF : Hid ((x.snocM A' c' (x7.keyed m.name)).pv = metaL (l.take (i + 1))) := Ld (by rw [HNX.out, snocM_pv (ks := (l.take i).map ME.name) (ps := (l.take i).map fileP) _ _ _ _ HP.out, keyed_key, keyed_pv, HPX.out])
       have hkB := HXP.out.box.grown hG (fun e => HXP.out.rB _ e.symm rfl)
       have u4 := hkB.cell 4
       have f4 := hkB.frozen 4
       simp only [gz] at u4
       clear hO hG hv' hkB l0 k0 k1 k2 k3 k4 n4
       go_wp2
       go_roundw
       case rel => exact ⟨i + 1, _, by omega, by go_num, HXF, HPF⟩
       case measure => simp [intOf]; omega
  ·have q0 : decide ((i : Int) < (n : Int)) = false := by rw [decide_eq_false_iff_not]; omega
   have q0' : decide (i < n) = false := by rw [decide_eq_false_iff_not]; omega
   have HPF : Hid (x.pv = metaL l) := Ld (by rw [HP.out, heq, HN.out, List.take_length])
   have HBW : Hid (Below w.heap.size w wr) := Ld (HB3.out.trans (HX.out.bel.mono HB3.out.size))
   clear heq HP
   go_wp2_with fail
   refine (HHV.out wr).mono ?_
   rintro e wA ⟨x9, rfl, hpx, hl1, hl2, hl3, hvo, hbA⟩
   unfold MV.val
   obtain ⟨WB, hWB⟩ : ∃ WB, WB = wA.alloc (.cells #[.int .i64 x9.k, .int .i64 x9.n, .string x9.s, .slice x9.lA x9.l.length x9.lc, .slice x9.mA x9.m.length x9.mc] 30) := ⟨_, rfl⟩
   obtain ⟨B9, hB9⟩ : ∃ B9, B9 = wA.heap.size := ⟨_, rfl⟩
   have hbB : Below wA.heap.size wA WB := by rw [hWB]; exact below_new _ _
   have hx9 := BxV.into (V0 := w3) (base := B + 1) (HX.out.bel.trans (hbA.mono HX.out.bel.size)) (hvo.base_le HX.out.bs) HX.out.hb (Nat.le_trans HX.out.bs hbA.size) ⟨hl1, hl2, hl3⟩
   rw [← hWB, ← hB9] at hx9
   have HX9 : Hid (BxV w3 B9 (B + 1) x9 WB) := Ld hx9
   have HP9 : Hid (x9.pv = headR kind v tx) := Ld hpx
   have HXB : Hid (BxV w3 B (B + 1) x WB) := Ld ((HX.out.below hbA).below hbB)
   have HBWB : Hid (Below wr.heap.size wr WB) := Ld (hbA.trans (hbB.mono hbA.size))
   have HXL : Hid (BlkP (· < wr.heap.size) x) := Ld HX.out.own.at_.lt
   have HB9 : Hid (wr.heap.size ≤ B9) := Ld (by rw [hB9]; exact hbA.size)
   have HO9 : Hid (∀ k, (Value.slice x9.mA x9.m.length x9.mc).ownBlock = some k → wr.heap.size ≤ k) := Ld hvo.m.ge
   have HWB := Ld (And.intro hWB hB9)
   clear hpx hl1 hl2 hl3 hvo hbA hbB hx9 hWB hB9 x0 x1 x2
   obtain ⟨t0, t1, t2, t3, t4⟩ := five_cells HXB.out.box
   have n4 := HX9.out.box.cell 4
   simp only [gz] at n4
   obtain ⟨WC, hWC⟩ : ∃ WC, WC = WB.alloc (.cells #[.string ⟨#[109, 101, 116, 97]⟩, .int .i64 x.k, .int .i64 x.n, .string x.s, .slice x.lA x.l.length x.lc, .slice x.mA x.m.length x.mc] 73) := ⟨_, rfl⟩
   obtain ⟨QC, hQC⟩ : ∃ QC, QC = WB.heap.size := ⟨_, rfl⟩
   have hbC : Below WB.heap.size WB WC := by rw [hWC]; exact (Below.refl _ _).alloc (Nat.le_refl _) _
   have HKC : Hid (Blk WC QC 73 (x.keyed meK).pcs.toArray) := Ld (by rw [hWC, hQC, keyed_pcs]; exact Blk.new _ _ _)
   have HX9C := Ld (HX9.out.below hbC)
   have HXC := Ld (HXB.out.below hbC)
   have HBWC : Hid (Below wr.heap.size wr WC) := Ld (HBWB.out.trans (hbC.mono HBWB.out.size))
   have HWC := Ld (And.intro hWC hQC)
   clear hbC hWC hQC
   go_upto_region 15 with (fail)
   rw [← HWB.out.2, ← HWB.out.1]
   go_wp2_with (at_builtin; (try rw [← HWC.out.2]); (try rw [← HWC.out.1]); refine app_row WC infoPair Tryz.underlying28 rfl (by omega) (by omega) (fun _ => rfl) oneC_pcs rfl _ _ rfl (B + 1) (.slice x9.mA x9.m.length x9.mc) x9.m rfl HX9C.out.own.m QC rfl (x.keyed meK) HKC.out (HXC.out.own.at_.keyed meK) (HXC.out.own.fr.keyed meK) ((HXL.out.mono (fun b hb e => by have := HO9.out b e; omega)).keyed meK) (by have := (pv_nil (x := x9) HP9.out).2.2.2.2; rw [this]; simp) HX9C.out.bs ?_)
   intro v' w' hO hG hv'
   obtain ⟨A', c', hvf, _⟩ := hO.shape
   rw [List.length_append, List.length_singleton] at hvf
   subst hvf
   have HXF : Hid (BxV w3 B9 (B + 1) (x9.snocM A' c' (x.keyed meK)) (w'.setCell ⟨B9, 4, none⟩ (.slice A' (x9.m.length + 1) c'))) := Ld (HX9C.out.snoc hG hv' hO ((HXL.out.mono (fun b hb e => by have := HB9.out; omega)).keyed meK))
   have HPQ : Hid ((x9.snocM A' c' (x.keyed meK)).pv = refP kind v tx l) := Ld (by rw [snocM_pv _ _ _ _ HP9.out, keyed_key, keyed_pv, HPF.out]; rfl)
   have hk9 : Blk w' B9 30 #[.int .i64 x9.k, .int .i64 x9.n, .string x9.s, .slice x9.lA x9.l.length x9.lc, .slice x9.mA x9.m.length x9.mc] := HX9C.out.box.grown hG (fun e => HX9C.out.rB _ e.symm rfl)
   obtain ⟨u0, u1, u2, u3, u4⟩ := five_cells hk9
   have f4 := hk9.frozen 4
   have HK2W : Hid (Blk w' (w.heap.size + 1) 30 #[.int .i64 0, .int .i64 0, .string ⟨#[]⟩, .slice none 0 0, .slice none 0 0]) := Ld (((HK23.out.below HX.out.bel HK23.out.lt).below HBWC.out (Nat.lt_of_lt_of_le (HK23.out.below HX.out.bel HK23.out.lt).lt (Nat.le_refl _))).grown hG (fun e => by have := HX9C.out.own_ge _ e.symm; have := HX.out.hb; have := HK23.out.lt; omega))
   have HB9N : Hid (w.heap.size + 1 < B9) := Ld (by have := HB9.out; have := HX.out.bel.size; have := HK23.out.lt; omega)
   clear hO hG hv' hk9 t0 t1 t2 t3 t4 n4
   go_upto_region 16 with (fail)
   obtain ⟨x', hx'⟩ : ∃ x', x' = x9.snocM A' c' (x.keyed meK) := ⟨_, rfl⟩
   rw [← hx'] at HXF HPQ
   obtain ⟨WF, hWF⟩ : ∃ WF, WF = w'.setCell ⟨B9, 4, none⟩ (.slice A' (x9.m.length + 1) c') := ⟨_, rfl⟩
   rw [← hWF] at HXF ⊢
   have hk2 : Blk WF (w.heap.size + 1) 30 #[.int .i64 0, .int .i64 0, .string ⟨#[]⟩, .slice none 0 0, .slice none 0 0] := by rw [hWF]; exact HK2W.out.far (p := ⟨B9, 4, none⟩) (by have := HB9N.out; show w.heap.size + 1 ≠ B9; omega) _
   clear hx' hWF u0 u1 u2 u3 u4 f4
   obtain ⟨t0, t1, t2, t3, t4⟩ := five_cells HXF.out.box
   obtain ⟨z0, z1, z2, z3, z4⟩ := five_fr hk2
   obtain ⟨s0, s1, s2, s3, s4⟩ := five_cells hk2
   have HN2 := Ld (own_st (w := w) (p := refP kind v tx l) hk2 (Nat.le_succ _) (by have := HXF.out.hb; have := HK23.out.lt; omega) HXF.out.own (HB3.out.trans (HXF.out.bel.mono HB3.out.size)) (by have := HXF.out.hb; have := HB3.out.size; omega) HPQ.out)
   clear hk2
   go_wp2
   obtain ⟨k0, k1, k2, k3, k4⟩ := five_cells HN2.out.1
   refine bodyPost_ret (v := x'.val) (by simp [results, Tryz.results12, go_sem, k0, k1, k2, k3, k4, MV.val]) rfl ?_
   exact HN2.out.2
end Go.Proofs.YtefkpphahimkgaaGreatDoor
