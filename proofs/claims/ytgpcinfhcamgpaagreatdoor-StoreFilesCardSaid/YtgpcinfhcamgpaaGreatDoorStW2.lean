/-
  store.May: what it returns.
-/
import Derived.Test.YtgpcinfhcamgpaaGreatDoorStM2
import Derived.Test.YtgpcinfhcamgpaaGreatDoorStW1
import Derived.Test.YtgpcinfhcamgpaaGreatDoorFnW
import Derived.Test.YtgpcinfhcamgpaaGreatDoorGG
namespace Go.Proofs.YtgpcinfhcamgpaaGreatDoor
open Go.RowKit Glob
set_option linter.unusedVariables false
set_option linter.unusedSimpArgs false

set_option maxRecDepth 100000 in
set_option maxHeartbeats 2000000 in
theorem smay_any (s : SV) (w : World) (h : SAt w s) (hm : SM s) (hT : Tab w) :
    Calls Tryz.prog 13 #[s.v] w fun e w' => e = .returned (.bool (mayS fnameL pathL s.sta)) ∧ Below w.heap.size w w' := by
  have H := Lib.hid h
  have HM := Lib.hid hm
  have HT := Lib.hid hT
  obtain ⟨q, hq⟩ : ∃ q, q = mayS fnameL pathL s.sta := ⟨_, rfl⟩
  rw [← hq]
  have HQ := Lib.hid hq
  clear hq h hm hT
  obtain ⟨⟨rA, rc, rl⟩, ⟨tA, tc, tl⟩, ⟨sA, sc, sl⟩, gA, gc, tg, iA, ic, ins⟩ := s
  obtain ⟨rn, hrn⟩ : ∃ n, n = rl.length := ⟨_, rfl⟩
  obtain ⟨tn, htn⟩ : ∃ n, n = tl.length := ⟨_, rfl⟩
  obtain ⟨sn, hsn⟩ : ∃ n, n = sl.length := ⟨_, rfl⟩
  obtain ⟨gn, hgn⟩ : ∃ n, n = tg.length := ⟨_, rfl⟩
  obtain ⟨inn, hin⟩ : ∃ n, n = ins.length := ⟨_, rfl⟩
  show Calls Tryz.prog 13 #[.agg #[.slice rA rl.length rc, .slice tA tl.length tc, .slice sA sl.length sc, .slice gA tg.length gc, .slice iA ins.length ic]] w _
  rw [← hrn, ← htn, ← hsn, ← hgn, ← hin]
  have HRN := Lib.hid hrn
  have HTN := Lib.hid htn
  have HSN := Lib.hid hsn
  have HGN := Lib.hid hgn
  have HIN := Lib.hid hin
  clear hrn htn hsn hgn hin
  have b1 : rn ≤ 1048576 := by rw [HRN.out]; exact HM.out.r
  have b2 : tn ≤ 1048576 := by rw [HTN.out]; exact HM.out.t
  have b3 : sn ≤ 1048576 := by rw [HSN.out]; exact HM.out.s
  have b4 := HM.out.tl
  have b5 := HM.out.il
  have HB0 : Hid (Below w.heap.size w (w.alloc (.cells #[.slice rA rn rc, .slice tA tn tc, .slice sA sn sc, .slice gA gn gc, .slice iA inn ic] 25))) := Lib.hid ((Below.refl _ _).alloc (Nat.le_refl _) _)
  have HC0 : Hid ((w.alloc (.cells #[.slice rA rn rc, .slice tA tn tc, .slice sA sn sc, .slice gA gn gc, .slice iA inn ic] 25)).cell? ⟨w.heap.size, 4, none⟩ = some (.slice iA inn ic)) := Lib.hid ((Blk.new w 25 #[.slice rA rn rc, .slice tA tn tc, .slice sA sn sc, .slice gA gn gc, .slice iA inn ic]).cell 4)
  have HL0 : Hid (w.heap.size < (w.alloc (.cells #[.slice rA rn rc, .slice tA tn tc, .slice sA sn sc, .slice gA gn gc, .slice iA inn ic] 25)).heap.size) := Lib.hid (by simp)
  have HNF : Hid (∀ W, Below w.heap.size w W → NameFn 45 W tg fnameL) := Lib.hid (fun W hW f hf V hV => (fileName_any f.nm V (by have := HM.out.tn f hf; omega)).mono (fun e w' h => h))
  have HNP : Hid (∀ W, Below w.heap.size w W → NameFn 46 W ins pathL) := Lib.hid (fun W hW f hf V hV => path_any f.nm V (HM.out.inn f hf) (HT.out.below (hW.trans (hV.mono hW.size))))
  have HR1 : Hid (∀ V, Below (w.alloc (.cells #[.slice rA rn rc, .slice tA tn tc, .slice sA sn sc, .slice gA gn gc, .slice iA inn ic] 25)).heap.size (w.alloc (.cells #[.slice rA rn rc, .slice tA tn tc, .slice sA sn sc, .slice gA gn gc, .slice iA inn ic] 25)) V → Below w.heap.size w V) := Lib.hid (fun V hV => HB0.out.trans (hV.mono HB0.out.size))
  have HCG : Hid (∀ V, Below w.heap.size w V → Calls Tryz.prog 44 #[.slice gA gn gc, .func (.func 45) #[] #[], .int .i64 64] V fun e w' => e = .returned (.bool (risF fnameL 64 (fiL tg))) ∧ Below V.heap.size V w') := Lib.hid (fun V hV => by
    refine rising_any 45 (fun _ _ => by kernel_rfl) fnameL 64 gA gn gc tg V (by omega) (H.out.tg.below hV) HGN.out.symm ?_ (HNF.out V hV)
    rw [HGN.out]
    exact Nat.le_trans b4 (by omega))
  have HCI : Hid (∀ V, Below w.heap.size w V → Calls Tryz.prog 44 #[.slice iA inn ic, .func (.func 46) #[] #[], .int .i64 16] V fun e w' => e = .returned (.bool (risF pathL 16 (fiL ins))) ∧ Below V.heap.size V w') := Lib.hid (fun V hV => by
    refine rising_any 46 (fun _ _ => by kernel_rfl) pathL 16 iA inn ic ins V (by omega) (H.out.ins.below hV) HIN.out.symm ?_ (HNP.out V hV)
    rw [HIN.out]
    exact Nat.le_trans b5 (by omega))
  have HQV : Hid (q = (risF fnameL 64 (fiL tg) && risF pathL 16 (fiL ins))) := by
    show _ = _
    rw [HQ.out]
    unfold mayS SV.sta
    simp only
    rw [decide_eq_true HM.out.r, decide_eq_true HM.out.t, decide_eq_true HM.out.s]
    simp
  clear b4 b5 HNF HNP
  obtain ⟨z1, hz1⟩ : ∃ z, z = risF fnameL 64 (fiL tg) := ⟨_, rfl⟩
  obtain ⟨z2, hz2⟩ : ∃ z, z = risF pathL 16 (fiL ins) := ⟨_, rfl⟩
  rw [← hz1, ← hz2] at HQV
  rw [← hz1] at HCG
  rw [← hz2] at HCI
  clear hz1 hz2 HQ
  cases z1 with
  | false =>
    have HI : Hid (q = false) := by show _ = _; rw [HQV.out]; rfl
    go_enter Tryz.func13, Tryz.ntmps13
    go_wp2_with fail
    all_goals
      refine (HCG.out _ HB0.out).mono ?_
      rintro e w1 ⟨rfl, hb1⟩
      have HB1 := Lib.hid (HR1.out _ hb1)
      clear hb1
      go_wp2
      go_ret
      exact ⟨by rw [HI.out]; rfl, HB1.out⟩
  | true =>
    have HI : Hid (q = z2) := by show _ = _; rw [HQV.out]; rfl
    go_enter Tryz.func13, Tryz.ntmps13
    go_wp2_with fail
    all_goals
      refine (HCG.out _ HB0.out).mono ?_
      rintro e w1 ⟨rfl, hb1⟩
      have c4 := (hb1.cell (p := ⟨w.heap.size, 4, none⟩) HL0.out).trans HC0.out
      have HB1 := Lib.hid (HR1.out _ hb1)
      clear hb1
      go_wp2_with fail
      refine (HCI.out _ HB1.out).mono ?_
      rintro e w2 ⟨rfl, hb2⟩
      have HB2 := Lib.hid (HB1.out.trans (hb2.mono HB1.out.size))
      clear hb2 c4
      go_wp2
      go_ret
      exact ⟨by rw [HI.out]; rfl, HB2.out⟩
end Go.Proofs.YtgpcinfhcamgpaaGreatDoor
