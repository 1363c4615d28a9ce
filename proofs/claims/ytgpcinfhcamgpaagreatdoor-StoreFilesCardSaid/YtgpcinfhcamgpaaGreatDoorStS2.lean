/-
  store.Same and the document's Same: what they return.
-/
import Derived.Test.YtgpcinfhcamgpaaGreatDoorStS1
namespace Go.Proofs.YtgpcinfhcamgpaaGreatDoor
open Go.RowKit
attribute [local go_sem ↓] Go.wp_at_zero Go.wp_at_succ
set_option linter.unusedVariables false
set_option linter.unusedSimpArgs false

set_option maxRecDepth 100000 in
set_option maxHeartbeats 4000000 in
theorem same_any (a b : SV) (w : World) (h : SAt w a) (h2 : SAt w b) (hm : SM a) (hm2 : SM b) :
    Calls Tryz.prog 17 #[a.v, b.v] w fun e w' => e = .returned (.bool (decide (a.sta = b.sta))) ∧ Below w.heap.size w w' := by
  have H := Lib.hid h
  have HM := Lib.hid hm
  have H2 := Lib.hid h2
  have HM2 := Lib.hid hm2
  obtain ⟨q, hq⟩ : ∃ q, q = decide (a.sta = b.sta) := ⟨_, rfl⟩
  rw [← hq]
  have HQ := Lib.hid hq
  clear hq h hm h2 hm2
  obtain ⟨⟨xrA, xrc, xrl⟩, ⟨xtA, xtc, xtl⟩, ⟨xsA, xsc, xsl⟩, xgA, xgc, xtg, xiA, xic, xins⟩ := a
  obtain ⟨xrn, hxrn⟩ : ∃ n, n = xrl.length := ⟨_, rfl⟩
  obtain ⟨xtn, hxtn⟩ : ∃ n, n = xtl.length := ⟨_, rfl⟩
  obtain ⟨xsn, hxsn⟩ : ∃ n, n = xsl.length := ⟨_, rfl⟩
  obtain ⟨xgn, hxgn⟩ : ∃ n, n = xtg.length := ⟨_, rfl⟩
  obtain ⟨xinn, hxinn⟩ : ∃ n, n = xins.length := ⟨_, rfl⟩
  obtain ⟨⟨yrA, yrc, yrl⟩, ⟨ytA, ytc, ytl⟩, ⟨ysA, ysc, ysl⟩, ygA, ygc, ytg, yiA, yic, yins⟩ := b
  obtain ⟨yrn, hyrn⟩ : ∃ n, n = yrl.length := ⟨_, rfl⟩
  obtain ⟨ytn, hytn⟩ : ∃ n, n = ytl.length := ⟨_, rfl⟩
  obtain ⟨ysn, hysn⟩ : ∃ n, n = ysl.length := ⟨_, rfl⟩
  obtain ⟨ygn, hygn⟩ : ∃ n, n = ytg.length := ⟨_, rfl⟩
  obtain ⟨yinn, hyinn⟩ : ∃ n, n = yins.length := ⟨_, rfl⟩
  show Calls Tryz.prog 17 #[.agg #[.slice xrA xrl.length xrc, .slice xtA xtl.length xtc, .slice xsA xsl.length xsc, .slice xgA xtg.length xgc, .slice xiA xins.length xic], .agg #[.slice yrA yrl.length yrc, .slice ytA ytl.length ytc, .slice ysA ysl.length ysc, .slice ygA ytg.length ygc, .slice yiA yins.length yic]] w _
  rw [← hxrn, ← hxtn, ← hxsn, ← hxgn, ← hxinn]
  have Hxrn := Lib.hid hxrn
  have Hxtn := Lib.hid hxtn
  have Hxsn := Lib.hid hxsn
  have Hxgn := Lib.hid hxgn
  have Hxinn := Lib.hid hxinn
  clear hxrn hxtn hxsn hxgn hxinn
  rw [← hyrn, ← hytn, ← hysn, ← hygn, ← hyinn]
  have Hyrn := Lib.hid hyrn
  have Hytn := Lib.hid hytn
  have Hysn := Lib.hid hysn
  have Hygn := Lib.hid hygn
  have Hyinn := Lib.hid hyinn
  clear hyrn hytn hysn hygn hyinn
  have HW : Hid (Below w.heap.size w ((w.alloc (.cells #[.slice xrA xrn xrc, .slice xtA xtn xtc, .slice xsA xsn xsc, .slice xgA xgn xgc, .slice xiA xinn xic] 25)).alloc (.cells #[.slice yrA yrn yrc, .slice ytA ytn ytc, .slice ysA ysn ysc, .slice ygA ygn ygc, .slice yiA yinn yic] 25))) := Lib.hid (((Below.refl _ _).alloc (Nat.le_refl _) _).alloc (by simp) _)
  have HWI : Hid (∀ V, Below ((w.alloc (.cells #[.slice xrA xrn xrc, .slice xtA xtn xtc, .slice xsA xsn xsc, .slice xgA xgn xgc, .slice xiA xinn xic] 25)).alloc (.cells #[.slice yrA yrn yrc, .slice ytA ytn ytc, .slice ysA ysn ysc, .slice ygA ygn ygc, .slice yiA yinn yic] 25)).heap.size ((w.alloc (.cells #[.slice xrA xrn xrc, .slice xtA xtn xtc, .slice xsA xsn xsc, .slice xgA xgn xgc, .slice xiA xinn xic] 25)).alloc (.cells #[.slice yrA yrn yrc, .slice ytA ytn ytc, .slice ysA ysn ysc, .slice ygA ygn ygc, .slice yiA yinn yic] 25)) V → Below w.heap.size w V) := Lib.hid (fun V hV => HW.out.trans (hV.mono HW.out.size))
  have HC3 : Hid (((w.alloc (.cells #[.slice xrA xrn xrc, .slice xtA xtn xtc, .slice xsA xsn xsc, .slice xgA xgn xgc, .slice xiA xinn xic] 25)).alloc (.cells #[.slice yrA yrn yrc, .slice ytA ytn ytc, .slice ysA ysn ysc, .slice ygA ygn ygc, .slice yiA yinn yic] 25)).cell? ⟨w.heap.size, 3, none⟩ = some (.slice xgA xgn xgc) ∧ ((w.alloc (.cells #[.slice xrA xrn xrc, .slice xtA xtn xtc, .slice xsA xsn xsc, .slice xgA xgn xgc, .slice xiA xinn xic] 25)).alloc (.cells #[.slice yrA yrn yrc, .slice ytA ytn ytc, .slice ysA ysn ysc, .slice ygA ygn ygc, .slice yiA yinn yic] 25)).cell? ⟨w.heap.size, 4, none⟩ = some (.slice xiA xinn xic) ∧ ((w.alloc (.cells #[.slice xrA xrn xrc, .slice xtA xtn xtc, .slice xsA xsn xsc, .slice xgA xgn xgc, .slice xiA xinn xic] 25)).alloc (.cells #[.slice yrA yrn yrc, .slice ytA ytn ytc, .slice ysA ysn ysc, .slice ygA ygn ygc, .slice yiA yinn yic] 25)).cell? ⟨w.heap.size + 1, 3, none⟩ = some (.slice ygA ygn ygc) ∧ ((w.alloc (.cells #[.slice xrA xrn xrc, .slice xtA xtn xtc, .slice xsA xsn xsc, .slice xgA xgn xgc, .slice xiA xinn xic] 25)).alloc (.cells #[.slice yrA yrn yrc, .slice ytA ytn ytc, .slice ysA ysn ysc, .slice ygA ygn ygc, .slice yiA yinn yic] 25)).cell? ⟨w.heap.size + 1, 4, none⟩ = some (.slice yiA yinn yic)) :=
    Lib.hid ⟨((Blk.new w 25 #[.slice xrA xrn xrc, .slice xtA xtn xtc, .slice xsA xsn xsc, .slice xgA xgn xgc, .slice xiA xinn xic]).alloc _).cell 3, ((Blk.new w 25 #[.slice xrA xrn xrc, .slice xtA xtn xtc, .slice xsA xsn xsc, .slice xgA xgn xgc, .slice xiA xinn xic]).alloc _).cell 4,
      by simp, by simp⟩
  have HCL : Hid (w.heap.size < ((w.alloc (.cells #[.slice xrA xrn xrc, .slice xtA xtn xtc, .slice xsA xsn xsc, .slice xgA xgn xgc, .slice xiA xinn xic] 25)).alloc (.cells #[.slice yrA yrn yrc, .slice ytA ytn ytc, .slice ysA ysn ysc, .slice ygA ygn ygc, .slice yiA yinn yic] 25)).heap.size ∧ w.heap.size + 1 < ((w.alloc (.cells #[.slice xrA xrn xrc, .slice xtA xtn xtc, .slice xsA xsn xsc, .slice xgA xgn xgc, .slice xiA xinn xic] 25)).alloc (.cells #[.slice yrA yrn yrc, .slice ytA ytn ytc, .slice ysA ysn ysc, .slice ygA ygn ygc, .slice yiA yinn yic] 25)).heap.size) := Lib.hid ⟨by simp; omega, by simp⟩
  have bg1 : xgn ≤ 140737488355328 := by rw [Hxgn.out]; exact Nat.le_trans HM.out.tl (by omega)
  have bg2 : ygn ≤ 140737488355328 := by rw [Hygn.out]; exact Nat.le_trans HM2.out.tl (by omega)
  have bi1 : xinn ≤ 140737488355328 := by rw [Hxinn.out]; exact Nat.le_trans HM.out.il (by omega)
  have bi2 : yinn ≤ 140737488355328 := by rw [Hyinn.out]; exact Nat.le_trans HM2.out.il (by omega)
  have HG : Hid (∀ V, Below w.heap.size w V → Calls Tryz.prog 51 #[.slice xgA xgn xgc, .slice ygA ygn ygc, .func (.func 52) #[] #[]] V fun e w' => e = .returned (.bool (decide (fiL xtg = fiL ytg))) ∧ Below V.heap.size V w') := Lib.hid (fun V hV => equalFiles_any xgA ygA xgn ygn xgc ygc xtg ytg V (H.out.tg.below hV) (H2.out.tg.below hV) Hxgn.out.symm Hygn.out.symm bg1 bg2)
  have HI : Hid (∀ V, Below w.heap.size w V → Calls Tryz.prog 51 #[.slice xiA xinn xic, .slice yiA yinn yic, .func (.func 52) #[] #[]] V fun e w' => e = .returned (.bool (decide (fiL xins = fiL yins))) ∧ Below V.heap.size V w') := Lib.hid (fun V hV => equalFiles_any xiA yiA xinn yinn xic yic xins yins V (H.out.ins.below hV) (H2.out.ins.below hV) Hxinn.out.symm Hyinn.out.symm bi1 bi2)
  have HQV : Hid (q = (decide (xrl = yrl) && (decide (xtl = ytl) && (decide (xsl = ysl) && (decide (fiL xtg = fiL ytg) && decide (fiL xins = fiL yins)))))) := by
    show _ = _
    rw [HQ.out, Bool.eq_iff_iff]
    simp only [SV.sta, Sta.mk.injEq, decide_eq_true_eq, Bool.and_eq_true]
  clear bg1 bg2 bi1 bi2 HQ
  have HBR := Lib.hid (bytesEq_any xrA yrA xrn yrn xrc yrc xrl yrl ((w.alloc (.cells #[.slice xrA xrn xrc, .slice xtA xtn xtc, .slice xsA xsn xsc, .slice xgA xgn xgc, .slice xiA xinn xic] 25)).alloc (.cells #[.slice yrA yrn yrc, .slice ytA ytn ytc, .slice ysA ysn ysc, .slice ygA ygn ygc, .slice yiA yinn yic] 25)) (H.out.r.1.below HW.out) (H2.out.r.1.below HW.out) Hxrn.out.symm Hyrn.out.symm)
  have HBT := Lib.hid (bytesEq_any xtA ytA xtn ytn xtc ytc xtl ytl ((w.alloc (.cells #[.slice xrA xrn xrc, .slice xtA xtn xtc, .slice xsA xsn xsc, .slice xgA xgn xgc, .slice xiA xinn xic] 25)).alloc (.cells #[.slice yrA yrn yrc, .slice ytA ytn ytc, .slice ysA ysn ysc, .slice ygA ygn ygc, .slice yiA yinn yic] 25)) (H.out.t.1.below HW.out) (H2.out.t.1.below HW.out) Hxtn.out.symm Hytn.out.symm)
  have HBS := Lib.hid (bytesEq_any xsA ysA xsn ysn xsc ysc xsl ysl ((w.alloc (.cells #[.slice xrA xrn xrc, .slice xtA xtn xtc, .slice xsA xsn xsc, .slice xgA xgn xgc, .slice xiA xinn xic] 25)).alloc (.cells #[.slice yrA yrn yrc, .slice ytA ytn ytc, .slice ysA ysn ysc, .slice ygA ygn ygc, .slice yiA yinn yic] 25)) (H.out.s.1.below HW.out) (H2.out.s.1.below HW.out) Hxsn.out.symm Hysn.out.symm)
  by_cases hr : xrl = yrl
  · rw [decide_eq_true hr] at HBR
    have Dr : Hid (xrl = yrl) := hr
    clear hr
    by_cases ht : xtl = ytl
    · rw [decide_eq_true ht] at HBT
      have Dt : Hid (xtl = ytl) := ht
      clear ht
      by_cases hs : xsl = ysl
      · rw [decide_eq_true hs] at HBS
        have Ds : Hid (xsl = ysl) := hs
        clear hs
        obtain ⟨z1, hz1⟩ : ∃ z, z = decide (fiL xtg = fiL ytg) := ⟨_, rfl⟩
        obtain ⟨z2, hz2⟩ : ∃ z, z = decide (fiL xins = fiL yins) := ⟨_, rfl⟩
        rw [← hz1] at HG
        rw [← hz2] at HI
        have HQ2 : Hid (q = (z1 && z2)) := by
          show _ = _
          rw [HQV.out, decide_eq_true Dr.out, decide_eq_true Dt.out, decide_eq_true Ds.out, hz1, hz2]
          simp
        clear hz1 hz2
        go_enter Tryz.func17, Tryz.ntmps17
        go_wp2_with fail
        refine HBR.out.mono ?_
        rintro e w' ⟨rfl, rfl⟩
        go_wp2_with fail
        refine HBT.out.mono ?_
        rintro e w' ⟨rfl, rfl⟩
        go_wp2_with fail
        refine HBS.out.mono ?_
        rintro e w' ⟨rfl, rfl⟩
        go_wp2_with fail
        refine (HG.out _ HW.out).mono ?_
        rintro e w1 ⟨rfl, hb1⟩
        have HB1 := Lib.hid (HWI.out _ hb1)
        have g1 := (hb1.cell (p := ⟨w.heap.size, 4, none⟩) HCL.out.1).trans HC3.out.2.1
        have g2 := (hb1.cell (p := ⟨w.heap.size + 1, 4, none⟩) HCL.out.2).trans HC3.out.2.2.2
        clear hb1
        cases z1 with
        | false =>
          have HV : Hid (q = false) := by show _ = _; rw [HQ2.out]; rfl
          go_wp2
          go_ret
          exact ⟨by rw [HV.out]; rfl, HB1.out⟩
        | true =>
          have HV : Hid (q = z2) := by show _ = _; rw [HQ2.out]; rfl
          go_wp2_with fail
          refine (HI.out _ HB1.out).mono ?_
          rintro e w2 ⟨rfl, hb2⟩
          have HB2 := Lib.hid (HB1.out.trans (hb2.mono HB1.out.size))
          clear hb2 g1 g2
          go_wp2
          go_ret
          exact ⟨by rw [HV.out]; rfl, HB2.out⟩
      · rw [decide_eq_false hs] at HBS
        have HV : Hid (q = false) := by show _ = _; rw [HQV.out, decide_eq_false hs]; simp
        clear hs
        go_enter Tryz.func17, Tryz.ntmps17
        go_wp2_with fail
        refine HBR.out.mono ?_
        rintro e w' ⟨rfl, rfl⟩
        go_wp2_with fail
        refine HBT.out.mono ?_
        rintro e w' ⟨rfl, rfl⟩
        go_wp2_with fail
        refine HBS.out.mono ?_
        rintro e w' ⟨rfl, rfl⟩
        go_wp2
        go_ret
        exact ⟨by rw [HV.out]; rfl, HW.out⟩
    · rw [decide_eq_false ht] at HBT
      have HV : Hid (q = false) := by show _ = _; rw [HQV.out, decide_eq_false ht]; simp
      clear ht
      go_enter Tryz.func17, Tryz.ntmps17
      go_wp2_with fail
      refine HBR.out.mono ?_
      rintro e w' ⟨rfl, rfl⟩
      go_wp2_with fail
      refine HBT.out.mono ?_
      rintro e w' ⟨rfl, rfl⟩
      go_wp2
      go_ret
      exact ⟨by rw [HV.out]; rfl, HW.out⟩
  · rw [decide_eq_false hr] at HBR
    have HV : Hid (q = false) := by show _ = _; rw [HQV.out, decide_eq_false hr]; simp
    clear hr
    go_enter Tryz.func17, Tryz.ntmps17
    go_wp2_with fail
    refine HBR.out.mono ?_
    rintro e w' ⟨rfl, rfl⟩
    go_wp2
    go_ret
    exact ⟨by rw [HV.out]; rfl, HW.out⟩
set_option maxRecDepth 100000 in
set_option maxHeartbeats 4000000 in
theorem rsame_any (a b : SV) (w : World) (h : SAt w a) (h2 : SAt w b) (hm : SM a) (hm2 : SM b) :
    Calls Tryz.prog 15 #[a.v, b.v] w fun e w' => e = .returned (.bool (decide (a.sta = b.sta))) ∧ Below w.heap.size w w' := by
  have H := Lib.hid h
  have HM := Lib.hid hm
  have H2 := Lib.hid h2
  have HM2 := Lib.hid hm2
  obtain ⟨q, hq⟩ : ∃ q, q = decide (a.sta = b.sta) := ⟨_, rfl⟩
  rw [← hq]
  have HQ := Lib.hid hq
  clear hq h hm h2 hm2
  obtain ⟨⟨xrA, xrc, xrl⟩, ⟨xtA, xtc, xtl⟩, ⟨xsA, xsc, xsl⟩, xgA, xgc, xtg, xiA, xic, xins⟩ := a
  obtain ⟨xrn, hxrn⟩ : ∃ n, n = xrl.length := ⟨_, rfl⟩
  obtain ⟨xtn, hxtn⟩ : ∃ n, n = xtl.length := ⟨_, rfl⟩
  obtain ⟨xsn, hxsn⟩ : ∃ n, n = xsl.length := ⟨_, rfl⟩
  obtain ⟨xgn, hxgn⟩ : ∃ n, n = xtg.length := ⟨_, rfl⟩
  obtain ⟨xinn, hxinn⟩ : ∃ n, n = xins.length := ⟨_, rfl⟩
  obtain ⟨⟨yrA, yrc, yrl⟩, ⟨ytA, ytc, ytl⟩, ⟨ysA, ysc, ysl⟩, ygA, ygc, ytg, yiA, yic, yins⟩ := b
  obtain ⟨yrn, hyrn⟩ : ∃ n, n = yrl.length := ⟨_, rfl⟩
  obtain ⟨ytn, hytn⟩ : ∃ n, n = ytl.length := ⟨_, rfl⟩
  obtain ⟨ysn, hysn⟩ : ∃ n, n = ysl.length := ⟨_, rfl⟩
  obtain ⟨ygn, hygn⟩ : ∃ n, n = ytg.length := ⟨_, rfl⟩
  obtain ⟨yinn, hyinn⟩ : ∃ n, n = yins.length := ⟨_, rfl⟩
  show Calls Tryz.prog 15 #[.agg #[.slice xrA xrl.length xrc, .slice xtA xtl.length xtc, .slice xsA xsl.length xsc, .slice xgA xtg.length xgc, .slice xiA xins.length xic], .agg #[.slice yrA yrl.length yrc, .slice ytA ytl.length ytc, .slice ysA ysl.length ysc, .slice ygA ytg.length ygc, .slice yiA yins.length yic]] w _
  rw [← hxrn, ← hxtn, ← hxsn, ← hxgn, ← hxinn]
  have Hxrn := Lib.hid hxrn
  have Hxtn := Lib.hid hxtn
  have Hxsn := Lib.hid hxsn
  have Hxgn := Lib.hid hxgn
  have Hxinn := Lib.hid hxinn
  clear hxrn hxtn hxsn hxgn hxinn
  rw [← hyrn, ← hytn, ← hysn, ← hygn, ← hyinn]
  have Hyrn := Lib.hid hyrn
  have Hytn := Lib.hid hytn
  have Hysn := Lib.hid hysn
  have Hygn := Lib.hid hygn
  have Hyinn := Lib.hid hyinn
  clear hyrn hytn hysn hygn hyinn
  have HW : Hid (Below w.heap.size w ((w.alloc (.cells #[.slice xrA xrn xrc, .slice xtA xtn xtc, .slice xsA xsn xsc, .slice xgA xgn xgc, .slice xiA xinn xic] 25)).alloc (.cells #[.slice yrA yrn yrc, .slice ytA ytn ytc, .slice ysA ysn ysc, .slice ygA ygn ygc, .slice yiA yinn yic] 25))) := Lib.hid (((Below.refl _ _).alloc (Nat.le_refl _) _).alloc (by simp) _)
  have HWI : Hid (∀ V, Below ((w.alloc (.cells #[.slice xrA xrn xrc, .slice xtA xtn xtc, .slice xsA xsn xsc, .slice xgA xgn xgc, .slice xiA xinn xic] 25)).alloc (.cells #[.slice yrA yrn yrc, .slice ytA ytn ytc, .slice ysA ysn ysc, .slice ygA ygn ygc, .slice yiA yinn yic] 25)).heap.size ((w.alloc (.cells #[.slice xrA xrn xrc, .slice xtA xtn xtc, .slice xsA xsn xsc, .slice xgA xgn xgc, .slice xiA xinn xic] 25)).alloc (.cells #[.slice yrA yrn yrc, .slice ytA ytn ytc, .slice ysA ysn ysc, .slice ygA ygn ygc, .slice yiA yinn yic] 25)) V → Below w.heap.size w V) := Lib.hid (fun V hV => HW.out.trans (hV.mono HW.out.size))
  have HC3 : Hid (((w.alloc (.cells #[.slice xrA xrn xrc, .slice xtA xtn xtc, .slice xsA xsn xsc, .slice xgA xgn xgc, .slice xiA xinn xic] 25)).alloc (.cells #[.slice yrA yrn yrc, .slice ytA ytn ytc, .slice ysA ysn ysc, .slice ygA ygn ygc, .slice yiA yinn yic] 25)).cell? ⟨w.heap.size, 3, none⟩ = some (.slice xgA xgn xgc) ∧ ((w.alloc (.cells #[.slice xrA xrn xrc, .slice xtA xtn xtc, .slice xsA xsn xsc, .slice xgA xgn xgc, .slice xiA xinn xic] 25)).alloc (.cells #[.slice yrA yrn yrc, .slice ytA ytn ytc, .slice ysA ysn ysc, .slice ygA ygn ygc, .slice yiA yinn yic] 25)).cell? ⟨w.heap.size, 4, none⟩ = some (.slice xiA xinn xic) ∧ ((w.alloc (.cells #[.slice xrA xrn xrc, .slice xtA xtn xtc, .slice xsA xsn xsc, .slice xgA xgn xgc, .slice xiA xinn xic] 25)).alloc (.cells #[.slice yrA yrn yrc, .slice ytA ytn ytc, .slice ysA ysn ysc, .slice ygA ygn ygc, .slice yiA yinn yic] 25)).cell? ⟨w.heap.size + 1, 3, none⟩ = some (.slice ygA ygn ygc) ∧ ((w.alloc (.cells #[.slice xrA xrn xrc, .slice xtA xtn xtc, .slice xsA xsn xsc, .slice xgA xgn xgc, .slice xiA xinn xic] 25)).alloc (.cells #[.slice yrA yrn yrc, .slice ytA ytn ytc, .slice ysA ysn ysc, .slice ygA ygn ygc, .slice yiA yinn yic] 25)).cell? ⟨w.heap.size + 1, 4, none⟩ = some (.slice yiA yinn yic)) :=
    Lib.hid ⟨((Blk.new w 25 #[.slice xrA xrn xrc, .slice xtA xtn xtc, .slice xsA xsn xsc, .slice xgA xgn xgc, .slice xiA xinn xic]).alloc _).cell 3, ((Blk.new w 25 #[.slice xrA xrn xrc, .slice xtA xtn xtc, .slice xsA xsn xsc, .slice xgA xgn xgc, .slice xiA xinn xic]).alloc _).cell 4,
      by simp, by simp⟩
  have HCL : Hid (w.heap.size < ((w.alloc (.cells #[.slice xrA xrn xrc, .slice xtA xtn xtc, .slice xsA xsn xsc, .slice xgA xgn xgc, .slice xiA xinn xic] 25)).alloc (.cells #[.slice yrA yrn yrc, .slice ytA ytn ytc, .slice ysA ysn ysc, .slice ygA ygn ygc, .slice yiA yinn yic] 25)).heap.size ∧ w.heap.size + 1 < ((w.alloc (.cells #[.slice xrA xrn xrc, .slice xtA xtn xtc, .slice xsA xsn xsc, .slice xgA xgn xgc, .slice xiA xinn xic] 25)).alloc (.cells #[.slice yrA yrn yrc, .slice ytA ytn ytc, .slice ysA ysn ysc, .slice ygA ygn ygc, .slice yiA yinn yic] 25)).heap.size) := Lib.hid ⟨by simp; omega, by simp⟩
  have bg1 : xgn ≤ 140737488355328 := by rw [Hxgn.out]; exact Nat.le_trans HM.out.tl (by omega)
  have bg2 : ygn ≤ 140737488355328 := by rw [Hygn.out]; exact Nat.le_trans HM2.out.tl (by omega)
  have bi1 : xinn ≤ 140737488355328 := by rw [Hxinn.out]; exact Nat.le_trans HM.out.il (by omega)
  have bi2 : yinn ≤ 140737488355328 := by rw [Hyinn.out]; exact Nat.le_trans HM2.out.il (by omega)
  have HG : Hid (∀ V, Below w.heap.size w V → Calls Tryz.prog 31 #[.slice xgA xgn xgc, .slice ygA ygn ygc] V fun e w' => e = .returned (.bool (decide (fiL xtg = fiL ytg))) ∧ Below V.heap.size V w') := Lib.hid (fun V hV => rsameFiles_any xgA ygA xgn ygn xgc ygc xtg ytg V (H.out.tg.below hV) (H2.out.tg.below hV) Hxgn.out.symm Hygn.out.symm bg1 bg2)
  have HI : Hid (∀ V, Below w.heap.size w V → Calls Tryz.prog 31 #[.slice xiA xinn xic, .slice yiA yinn yic] V fun e w' => e = .returned (.bool (decide (fiL xins = fiL yins))) ∧ Below V.heap.size V w') := Lib.hid (fun V hV => rsameFiles_any xiA yiA xinn yinn xic yic xins yins V (H.out.ins.below hV) (H2.out.ins.below hV) Hxinn.out.symm Hyinn.out.symm bi1 bi2)
  have HQV : Hid (q = (decide (xrl = yrl) && (decide (xtl = ytl) && (decide (xsl = ysl) && (decide (fiL xtg = fiL ytg) && decide (fiL xins = fiL yins)))))) := by
    show _ = _
    rw [HQ.out, Bool.eq_iff_iff]
    simp only [SV.sta, Sta.mk.injEq, decide_eq_true_eq, Bool.and_eq_true]
  clear bg1 bg2 bi1 bi2 HQ
  have cxr := run_string (H.out.r.1.below HW.out) xrn xrc Hxrn.out.symm
  have cyr := run_string (H2.out.r.1.below HW.out) yrn yrc Hyrn.out.symm
  have cxt := run_string (H.out.t.1.below HW.out) xtn xtc Hxtn.out.symm
  have cyt := run_string (H2.out.t.1.below HW.out) ytn ytc Hytn.out.symm
  have cxs := run_string (H.out.s.1.below HW.out) xsn xsc Hxsn.out.symm
  have cys := run_string (H2.out.s.1.below HW.out) ysn ysc Hysn.out.symm
  by_cases hr : xrl = yrl
  · have kr : (xrl == yrl) = true := by rw [hr]; exact beq_self_eq_true _
    have Dr : Hid (xrl = yrl) := hr
    clear hr
    by_cases ht : xtl = ytl
    · have kt : (xtl == ytl) = true := by rw [ht]; exact beq_self_eq_true _
      have Dt : Hid (xtl = ytl) := ht
      clear ht
      by_cases hs : xsl = ysl
      · have ks : (xsl == ysl) = true := by rw [hs]; exact beq_self_eq_true _
        have Ds : Hid (xsl = ysl) := hs
        clear hs
        obtain ⟨z1, hz1⟩ : ∃ z, z = decide (fiL xtg = fiL ytg) := ⟨_, rfl⟩
        obtain ⟨z2, hz2⟩ : ∃ z, z = decide (fiL xins = fiL yins) := ⟨_, rfl⟩
        rw [← hz1] at HG
        rw [← hz2] at HI
        have HQ2 : Hid (q = (z1 && z2)) := by
          show _ = _
          rw [HQV.out, decide_eq_true Dr.out, decide_eq_true Dt.out, decide_eq_true Ds.out, hz1, hz2]
          simp
        clear hz1 hz2
        go_enter Tryz.func15, Tryz.ntmps15
        go_wp2_with fail
        refine (HG.out _ HW.out).mono ?_
        rintro e w1 ⟨rfl, hb1⟩
        have HB1 := Lib.hid (HWI.out _ hb1)
        have g1 := (hb1.cell (p := ⟨w.heap.size, 4, none⟩) HCL.out.1).trans HC3.out.2.1
        have g2 := (hb1.cell (p := ⟨w.heap.size + 1, 4, none⟩) HCL.out.2).trans HC3.out.2.2.2
        clear hb1
        cases z1 with
        | false =>
          have HV : Hid (q = false) := by show _ = _; rw [HQ2.out]; rfl
          go_wp2
          go_ret
          exact ⟨by rw [HV.out]; rfl, HB1.out⟩
        | true =>
          have HV : Hid (q = z2) := by show _ = _; rw [HQ2.out]; rfl
          go_wp2_with fail
          refine (HI.out _ HB1.out).mono ?_
          rintro e w2 ⟨rfl, hb2⟩
          have HB2 := Lib.hid (HB1.out.trans (hb2.mono HB1.out.size))
          clear hb2 g1 g2
          go_wp2
          go_ret
          exact ⟨by rw [HV.out]; rfl, HB2.out⟩
      · have ks : (xsl == ysl) = false := by rw [beq_eq_false_iff_ne]; exact hs
        have HV : Hid (q = false) := by show _ = _; rw [HQV.out, decide_eq_false hs]; simp
        clear hs
        go_enter Tryz.func15, Tryz.ntmps15
        go_wp2
        go_ret
        exact ⟨by rw [HV.out]; rfl, HW.out⟩
    · have kt : (xtl == ytl) = false := by rw [beq_eq_false_iff_ne]; exact ht
      have HV : Hid (q = false) := by show _ = _; rw [HQV.out, decide_eq_false ht]; simp
      clear ht
      go_enter Tryz.func15, Tryz.ntmps15
      go_wp2
      go_ret
      exact ⟨by rw [HV.out]; rfl, HW.out⟩
  · have kr : (xrl == yrl) = false := by rw [beq_eq_false_iff_ne]; exact hr
    have HV : Hid (q = false) := by show _ = _; rw [HQV.out, decide_eq_false hr]; simp
    clear hr
    go_enter Tryz.func15, Tryz.ntmps15
    go_wp2
    go_ret
    exact ⟨by rw [HV.out]; rfl, HW.out⟩
end Go.Proofs.YtgpcinfhcamgpaaGreatDoor
