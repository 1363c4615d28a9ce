/-
  The walk of the law StoreFiles.
-/
import Derived.Test.YtgpcinfhcamgpaaGreatDoorStF9
import Derived.Test.YtgpcinfhcamgpaaGreatDoorStW4
import Derived.Test.YtgpcinfhcamgpaaGreatDoorStL3
namespace Go.Proofs.YtgpcinfhcamgpaaGreatDoor
open Go.RowKit
attribute [local go_sem ↓] Go.wp_at_zero Go.wp_at_succ
set_option linter.unusedVariables false
set_option linter.unusedSimpArgs false

theorem putP_mem {l : List Fi} {f y : Fi} (h : y ∈ putP l f) : y = f ∨ y ∈ l := by
  obtain ⟨a, b, e, _, h2⟩ := putP_cases l f
  rw [e] at h
  rcases List.mem_append.1 h with h | h
  · right
    rcases h2 with ⟨x, _, h2⟩ | h2 <;> (rw [h2]; exact List.mem_append_left _ h)
  · rcases List.mem_cons.1 h with h | h
    · exact .inl h
    · right
      rcases h2 with ⟨x, _, h2⟩ | h2
      · rw [h2]; exact List.mem_append_right _ (List.mem_cons_of_mem _ h)
      · rw [h2]; exact List.mem_append_right _ h
theorem putP_len (l : List Fi) (f : Fi) : (putP l f).length ≤ l.length + 1 := by
  obtain ⟨a, b, e, _, h2⟩ := putP_cases l f
  rw [e]
  rcases h2 with ⟨x, _, h2⟩ | h2 <;> (rw [h2]; simp only [List.length_append, List.length_cons]; omega)
theorem bl_of {gs : List FV} {l : List Fi} {m : Nat} (h : fiL gs = l) (hm : ∀ y ∈ l, y.b.length ≤ m) : ∀ f ∈ gs, f.b.length ≤ m := fun f hf => by
  have h1 : FV.fi f ∈ fiL gs := List.mem_map_of_mem hf
  rw [h] at h1
  exact hm _ h1
theorem fiL_bnd {fs : List FV} {m : Nat} (h : ∀ f ∈ fs, f.b.length ≤ m) : ∀ y ∈ fiL fs, y.b.length ≤ m := fun y hy => by
  obtain ⟨f, hf, rfl⟩ := List.mem_map.1 hy
  exact h f hf
set_option maxRecDepth 100000 in
set_option maxHeartbeats 16000000 in
theorem storeFiles_walk (A : Option Addr) (n c : Nat) (fs : List FV) (s : ByteArray) (A2 : Option Addr) (c2 : Nat) (bl : List UInt8) (o : ByteArray) (W : World) (hK : TabK W) (hT : Tab W) (hl : Fls W A fs) (hn : fs.length = n) (hnc : n ≤ c) (hcm : c ≤ maxLen) (hz : n ≤ 140737488351232) (hbs : ∀ f ∈ fs, f.nm.size ≤ 140737488351232 ∧ f.b.length ≤ 140737488351232) (hsz : s.size ≤ 140737488351232) (hr : RB W A2 bl) (hc2 : bl.length ≤ c2) (hm2 : c2 ≤ maxLen) (hz2 : bl.length ≤ 140737488351232) (hoz : o.size ≤ 140737488351232) :
    Calls Tryz.prog 7 #[.slice A n c, .string s, .slice A2 bl.length c2, .string o] W fun e w' => e = .returned (.bool true) ∧ Below W.heap.size W w' := by
  have HK := Lib.hid hK
  have HT := Lib.hid hT
  have HF := Lib.hid hl
  have HN := Lib.hid hn
  have HNC := Lib.hid (And.intro hnc hcm)
  have HR := Lib.hid hr
  have HM2 := Lib.hid (And.intro hc2 hm2)
  have HLV := Lib.hid (fun V (hV : Below W.heap.size W V) => slives_any V (TabK.below hK hV) (Tab.below hT hV))
  obtain ⟨nb, hnb⟩ : ∃ nb, nb = bl.length := ⟨_, rfl⟩
  rw [← hnb] at hz2 ⊢
  have HNB : Hid (bl.length = nb) := Lib.hid hnb.symm
  clear hK hT hl hn hnc hcm hbs hsz hr hc2 hm2 hoz hnb
  have hnm : n ≤ 9223372036854775807 := by omega
  by_cases h1 : 200 < n
  · have q1 : decide ((200 : Int) < (n : Int)) = true := by rw [decide_eq_true_iff]; omega
    have q1' : decide (200 < n) = true := by rw [decide_eq_true_iff]; omega
    clear h1
    go_enter Tryz.func7, Tryz.ntmps7
    go_wp2_with fail
    refine (HLV.out W (Below.refl _ _)).mono ?_
    rintro e w1 ⟨rfl, hb1⟩
    go_wp2
    go_ret
    exact ⟨rfl, hb1⟩
  by_cases h2 : 3000 < nb
  · have q1 : decide ((200 : Int) < (n : Int)) = false := by rw [decide_eq_false_iff_not]; omega
    have q1' : decide (200 < n) = false := by rw [decide_eq_false_iff_not]; omega
    have q2 : decide ((3000 : Int) < (nb : Int)) = true := by rw [decide_eq_true_iff]; omega
    have q2' : decide (3000 < nb) = true := by rw [decide_eq_true_iff]; omega
    clear h1 h2
    go_enter Tryz.func7, Tryz.ntmps7
    go_wp2_with fail
    refine (HLV.out W (Below.refl _ _)).mono ?_
    rintro e w1 ⟨rfl, hb1⟩
    go_wp2
    go_ret
    exact ⟨rfl, hb1⟩
  have q1 : decide ((200 : Int) < (n : Int)) = false := by rw [decide_eq_false_iff_not]; omega
  have q1' : decide (200 < n) = false := by rw [decide_eq_false_iff_not]; omega
  have q2 : decide ((3000 : Int) < (nb : Int)) = false := by rw [decide_eq_false_iff_not]; omega
  have q2' : decide (3000 < nb) = false := by rw [decide_eq_false_iff_not]; omega
  have H12 : Hid (n ≤ 200 ∧ nb ≤ 3000) := Lib.hid ⟨by omega, by omega⟩
  clear h1 h2
  go_enter Tryz.func7, Tryz.ntmps7
  go_wp2
  go_loop [9] (fun i => ∃ k : Nat, k ≤ n ∧ i = .int .i64 (k : Int) ∧ Hid (∀ j (hj : j < fs.length), j < k → fs[j].b.length ≤ 3000)) (fun i => n - (intOf i).toNat)
  case atStart => exact ⟨0, Nat.zero_le _, rfl, Lib.hid (fun j hj h => by omega)⟩
  case round =>
    obtain ⟨k, hk, rfl, HJ⟩ := hrel
    rcases (by omega : k < n ∨ k = n) with hlt | heq
    · have q0 : decide ((k : Int) < (n : Int)) = true := by rw [decide_eq_true_iff]; omega
      have q0' : decide (k < n) = true := by rw [decide_eq_true_iff]; omega
      have hkl : k < fs.length := by rw [HN.out]; exact hlt
      obtain ⟨b, oo, hA, hb, c0, c1, _, hbc, hbm⟩ := HF.out.at_ hkl
      subst hA
      have hki : (k : Int) < (n : Int) := by omega
      have hk0 : (0 : Int) ≤ (k : Int) := by omega
      obtain ⟨m, hm⟩ : ∃ m, m = fs[k].b.length := ⟨_, rfl⟩
      rw [← hm] at c1 hbc
      by_cases hbig : 3000 < m
      · have q3 : decide ((3000 : Int) < (m : Int)) = true := by rw [decide_eq_true_iff]; omega
        have q3' : decide (3000 < m) = true := by rw [decide_eq_true_iff]; omega
        clear hbig hm hb hbc hbm
        go_wp2_with fail
        refine (HLV.out W (Below.refl _ _)).mono ?_
        rintro e w1 ⟨rfl, hb1⟩
        go_wp2
        go_ret
        exact ⟨rfl, hb1⟩
      · have q3 : decide ((3000 : Int) < (m : Int)) = false := by rw [decide_eq_false_iff_not]; omega
        have q3' : decide (3000 < m) = false := by rw [decide_eq_false_iff_not]; omega
        have HJ2 : Hid (∀ j (hj : j < fs.length), j < k + 1 → fs[j].b.length ≤ 3000) := Lib.hid (fun j hj h => by
          rcases (by omega : j < k ∨ j = k) with h1 | h1
          · exact HJ.out j hj h1
          · subst h1; omega)
        clear hbig hm hb hbc hbm
        go_wp2
        go_round
        case rel => exact ⟨k + 1, by omega, by go_num, HJ2⟩
        case measure => simp [intOf]; omega
    · have q0 : decide ((k : Int) < (n : Int)) = false := by rw [decide_eq_false_iff_not]; omega
      have q0' : decide (k < n) = false := by rw [decide_eq_false_iff_not]; omega
      have HBL : Hid (∀ f ∈ fs, f.b.length ≤ 3000) := Lib.hid (fun f hf => by
        obtain ⟨j, hj, rfl⟩ := List.getElem_of_mem hf
        exact HJ.out j hj (by rw [heq, ← HN.out]; exact hj))
      have HVS := Lib.hid (fun V (hV : Below W.heap.size W V) => fun f (hf : f ∈ fs) => (HF.out.vs (Nat.le_refl _) f hf).below hV)
      have hbe : Below W.heap.size W (W.alloc (.cells #[] 55)) := (Below.refl _ _).alloc (Nat.le_refl _) _
      have HBE := Lib.hid hbe
      have HE := Lib.hid (emptyFiles W W.heap.size W.heap.size (Nat.le_refl _))
      clear heq hbe HJ
      go_wp2_with (at_builtin; refine app_files _ rfl _ _ rfl W.heap.size W.heap.size (Nat.le_refl _) _ [] rfl HE.out A n c fs rfl (HF.out.below HBE.out) HN.out (HVS.out _ HBE.out) (by have := H12.out; simp; omega) HBE.out.size ?_; intro v1 w1 hown1 hg1 hat1)
      have HB1 : Hid (Below W.heap.size W w1) := Lib.hid (HBE.out.grown hg1 HBE.out.size (by intro k hk; cases hk; exact Nat.le_refl _))
      obtain ⟨Ao, co, rfl, _, _, hfo⟩ := hown1.fls
      have hon : ([] ++ fs).length = n := HN.out
      rw [hon]
      have HFO : Hid (Fls w1 Ao fs) := Lib.hid hfo
      have HVO : Hid (∀ f ∈ fs, FVs w1 W.heap.size f) := Lib.hid hown1.2
      have HBB : Hid (∀ f ∈ fs, f.b.length ≤ 140737488355328) := Lib.hid (fun f hf => Nat.le_trans (HBL.out f hf) (by omega))
      have HPU := Lib.hid (sput_any W.heap.size Ao n co fs s A2 nb c2 bl w1 hfo HN.out (by have := H12.out; omega) hown1.2 HB1.out.size HBB.out (HR.out.below HB1.out) HNB.out (by have := H12.out; omega))
      clear hown1 hg1 hat1 hfo hon
      refine HPU.out.mono ?_
      rintro e w2 ⟨pv, ps, rfl, hop, hfp, hb2⟩
      have HB2 : Hid (Below W.heap.size W w2) := Lib.hid (HB1.out.trans (hb2.mono HB1.out.size))
      obtain ⟨Ap, cp, rfl, _, _, hflp⟩ := hop.fls
      obtain ⟨np, hnp⟩ : ∃ np, np = ps.length := ⟨_, rfl⟩
      rw [← hnp]
      have HNP : Hid (ps.length = np) := Lib.hid hnp.symm
      have HFP := Lib.hid hfp
      have HLP := Lib.hid hflp
      have hnp2 : np ≤ 201 := by
        have h1 := putP_len (fiL fs) ⟨s, bl⟩
        rw [← hfp, fiL_len, fiL_len, HN.out, ← hnp] at h1
        have := H12.out
        omega
      have HBP : Hid (∀ f ∈ ps, f.b.length ≤ 140737488355328) := Lib.hid (bl_of hfp (fun y hy => by
        rcases putP_mem hy with h | h
        · subst h; show bl.length ≤ _; rw [HNB.out]; have := H12.out; omega
        · exact fiL_bnd HBB.out y h))
      have HDR := Lib.hid (sdrop_any W.heap.size Ao n co fs s w2 (HFO.out.below hb2) HN.out (by have := H12.out; omega) (fun f hf => (HVO.out f hf).below hb2) HB2.out.size HBB.out)
      have HFO2 := Lib.hid (HFO.out.below hb2)
      clear hop hfp hb2 hflp hnp HPU HFO HVO
      go_wp2_with fail
      refine HDR.out.mono ?_
      rintro e w3 ⟨dv, ds, rfl, hod, hfd, hb3⟩
      have HB3 : Hid (Below W.heap.size W w3) := Lib.hid (HB2.out.trans (hb3.mono HB2.out.size))
      obtain ⟨Ad, cd, rfl, _, _, hfld⟩ := hod.fls
      obtain ⟨nd, hnd⟩ : ∃ nd, nd = ds.length := ⟨_, rfl⟩
      rw [← hnd]
      have HND : Hid (ds.length = nd) := Lib.hid hnd.symm
      have HFD := Lib.hid hfd
      have HLD := Lib.hid hfld
      have hnd2 : nd ≤ 200 := by
        have h1 : (dropF (fiL fs) s).length ≤ (fiL fs).length := List.length_filter_le _ _
        rw [← hfd, fiL_len, fiL_len, HN.out, ← hnd] at h1
        have := H12.out
        omega
      have HBD : Hid (∀ f ∈ ds, f.b.length ≤ 140737488355328) := Lib.hid (bl_of hfd (fun y hy => fiL_bnd HBB.out y ((List.mem_filter.1 hy).1)))
      have HLP3 := Lib.hid (HLP.out.below hb3)
      have HFO3 := Lib.hid (HFO2.out.below hb3)
      have HG1 := get_v A n c fs o w3 (HF.out.below HB3.out) HN.out (by have := H12.out; omega) HBB.out
      unfold GetV at HG1
      obtain ⟨is, his⟩ : ∃ is, is = (getF (fiL fs) o).isSome := ⟨_, rfl⟩
      obtain ⟨ba, hba⟩ : ∃ ba, ba = (getF (fiL fs) o).getD [] := ⟨_, rfl⟩
      rw [← his, ← hba] at HG1
      have HIS := Lib.hid his
      have HBA := Lib.hid hba
      have HG1 := Lib.hid HG1
      clear hod hfd hb3 hfld hnd HDR HLP HFO2 his hba
      go_wp2_with fail
      refine HG1.out.mono ?_
      rintro e w4 ⟨Aa, ca, b4, rfl, hb4, hr4, he4⟩
      subst he4
      have HB4 : Hid (Below W.heap.size W w4) := Lib.hid (HB3.out.trans (hb4.mono HB3.out.size))
      have HRA := Lib.hid hr4
      have HB34 := Lib.hid hb4
      have HG2 := rget_v A n c fs o w4 (HF.out.below HB4.out) HN.out (by have := H12.out; omega)
      unfold GetV at HG2
      rw [← HIS.out, ← HBA.out] at HG2
      have HG2 := Lib.hid HG2
      clear hb4 hr4 HG1
      go_wp2_with fail
      refine HG2.out.mono ?_
      rintro e w5 ⟨Ab, cb, b5, rfl, hb5, hr5, he5⟩
      subst he5
      have HB5 : Hid (Below W.heap.size W w5) := Lib.hid (HB4.out.trans (hb5.mono HB4.out.size))
      have HRA5 := Lib.hid (HRA.out.below hb5)
      have HRB := Lib.hid hr5
      have HLP5 := Lib.hid ((HLP3.out.below HB34.out).below hb5)
      have HLD5 := Lib.hid ((HLD.out.below HB34.out).below hb5)
      have HFO5 := Lib.hid ((HFO3.out.below HB34.out).below hb5)
      obtain ⟨na, hna⟩ : ∃ na, na = b5.length := ⟨_, rfl⟩
      rw [← hna]
      have HNA : Hid (b5.length = na) := Lib.hid hna.symm
      clear hb5 hr5 HG2 HLP3 HLD HFO3 HB34 HRA hna
      go_wp2_with fail
      refine (HLV.out w5 HB5.out).mono ?_
      rintro e w6 ⟨rfl, hb6⟩
      have HB6 : Hid (Below W.heap.size W w6) := Lib.hid (HB5.out.trans (hb6.mono HB5.out.size))
      have HU6 := Lib.hid hb6
      have HRP := Lib.hid (rput_any W.heap.size A n c fs s A2 nb c2 bl w6 (HF.out.below HB6.out) HN.out (by have := H12.out; omega) HNC.out.1 HNC.out.2 (HVS.out _ HB6.out) HB6.out.size (HR.out.below HB6.out) ((BodyS.of_rb HR.out (Nat.le_refl _)).below HB6.out) HNB.out (by rw [← HNB.out]; exact HM2.out))
      clear hb6
      go_wp2_with fail
      refine HRP.out.mono ?_
      rintro e w7 ⟨rv, rs, rfl, hor, hfr, hb7⟩
      have HB7 : Hid (Below W.heap.size W w7) := Lib.hid (HB6.out.trans (hb7.mono HB6.out.size))
      have HU7 : Hid (Below w5.heap.size w5 w7) := Lib.hid (HU6.out.trans (hb7.mono HU6.out.size))
      obtain ⟨Ar, cr, rfl, _, _, hflr⟩ := hor.fls
      have hnr : rs.length = np := by rw [← fiL_len, hfr, ← HFP.out, fiL_len, HNP.out]
      rw [hnr]
      have hs := rsameFiles_any Ap Ar np np cp cr ps rs w7 (HLP5.out.below HU7.out) hflr HNP.out hnr (by omega) (by omega)
      rw [decide_eq_true (HFP.out.trans hfr.symm)] at hs
      have HS1 := Lib.hid hs
      clear hor hfr hb7 hflr hnr hs HRP HU6
      go_wp2_with fail
      refine HS1.out.mono ?_
      rintro e w8 ⟨rfl, hb8⟩
      have HB8 : Hid (Below W.heap.size W w8) := Lib.hid (HB7.out.trans (hb8.mono HB7.out.size))
      have HU8 : Hid (Below w5.heap.size w5 w8) := Lib.hid (HU7.out.trans (hb8.mono HU7.out.size))
      have HRD := Lib.hid (rdrop_any W.heap.size A n c fs s w8 (HF.out.below HB8.out) HN.out (by have := H12.out; omega) (HVS.out _ HB8.out) HB8.out.size)
      clear hb8 HU7 HS1
      go_wp2_with fail
      refine HRD.out.mono ?_
      rintro e w9 ⟨rdv, rds, rfl, hor, hfr, hb9⟩
      have HB9 : Hid (Below W.heap.size W w9) := Lib.hid (HB8.out.trans (hb9.mono HB8.out.size))
      have HU9 : Hid (Below w5.heap.size w5 w9) := Lib.hid (HU8.out.trans (hb9.mono HU8.out.size))
      obtain ⟨Ar, cr, rfl, _, _, hflr⟩ := hor.fls
      have hnr : rds.length = nd := by rw [← fiL_len, hfr, ← HFD.out, fiL_len, HND.out]
      rw [hnr]
      have hs := rsameFiles_any Ad Ar nd nd cd cr ds rds w9 (HLD5.out.below HU9.out) hflr HND.out hnr (by omega) (by omega)
      rw [decide_eq_true (HFD.out.trans hfr.symm)] at hs
      have HS2 := Lib.hid hs
      clear hor hfr hb9 hflr hnr hs HRD HU8
      go_wp2_with fail
      refine HS2.out.mono ?_
      rintro e w10 ⟨rfl, hb10⟩
      have HB10 : Hid (Below W.heap.size W w10) := Lib.hid (HB9.out.trans (hb10.mono HB9.out.size))
      have HU10 : Hid (Below w5.heap.size w5 w10) := Lib.hid (HU9.out.trans (hb10.mono HU9.out.size))
      have hs := rsameFiles_any Ao A n n co c fs fs w10 (HFO5.out.below HU10.out) (HF.out.below HB10.out) HN.out HN.out (by omega) (by omega)
      rw [decide_eq_true rfl] at hs
      have HS3 := Lib.hid hs
      clear hb10 hs HU9 HS2
      go_wp2_with fail
      refine HS3.out.mono ?_
      rintro e w11 ⟨rfl, hb11⟩
      have HB11 : Hid (Below W.heap.size W w11) := Lib.hid (HB10.out.trans (hb11.mono HB10.out.size))
      have HU11 : Hid (Below w5.heap.size w5 w11) := Lib.hid (HU10.out.trans (hb11.mono HU10.out.size))
      have k1 := run_string (HRA5.out.below HU11.out) na ca HNA.out
      have k2 := run_string (HRB.out.below HU11.out) na cb HNA.out
      have k3 : (is != is) = false := by cases is <;> rfl
      have k4 : (b5 == b5) = true := beq_self_eq_true _
      have HGX := get_v Ap np cp ps s w11 (HLP5.out.below HU11.out) HNP.out (by omega) HBP.out
      unfold GetV at HGX
      have hself := getF_put_self (fiL fs) ⟨s, bl⟩
      rw [HFP.out, show getF (putP (fiL fs) ⟨s, bl⟩) s = some bl from hself] at HGX
      have HGX := Lib.hid HGX
      clear hb11 hself HU10 HS3
      go_wp2_with fail
      refine HGX.out.mono ?_
      rintro e w12 ⟨Ax, cx, b6, rfl, hb12, hr12, he12⟩
      have he' : b6 = bl := he12
      clear he12
      subst he'
      have HB12 : Hid (Below W.heap.size W w12) := Lib.hid (HB11.out.trans (hb12.mono HB11.out.size))
      have HU12 : Hid (Below w5.heap.size w5 w12) := Lib.hid (HU11.out.trans (hb12.mono HU11.out.size))
      have HRX := Lib.hid hr12
      rw [HNB.out]
      have HGG := get_v Ad nd cd ds s w12 (HLD5.out.below HU12.out) HND.out (by omega) HBD.out
      unfold GetV at HGG
      rw [HFD.out, getF_drop] at HGG
      have HGG := Lib.hid HGG
      clear hb12 hr12 HU11 HGX k1 k2 k3 k4
      go_wp2_with fail
      refine HGG.out.mono ?_
      rintro e w13 ⟨Ag, cg, b7, rfl, hb13, hr13, he13⟩
      have HB13 : Hid (Below W.heap.size W w13) := Lib.hid (HB12.out.trans (hb13.mono HB12.out.size))
      have HU13 : Hid (Below w5.heap.size w5 w13) := Lib.hid (HU12.out.trans (hb13.mono HU12.out.size))
      have HRX13 := Lib.hid (HRX.out.below hb13)
      have HGY := get_v Ap np cp ps o w13 (HLP5.out.below HU13.out) HNP.out (by omega) HBP.out
      unfold GetV at HGY
      rw [HFP.out] at HGY
      clear hb13 hr13 he13 HU12 HGG HRX
      by_cases ho : o = s
      · have HOS := Lib.hid ho
        have hq := nm_beq o s
        rw [decide_eq_true ho] at hq
        have HGY := Lib.hid HGY
        clear ho
        go_wp2_with fail
        refine HGY.out.mono ?_
        rintro e w14 ⟨Ay, cy, b8, rfl, hb14, hr14, he14⟩
        have HB14 : Hid (Below W.heap.size W w14) := Lib.hid (HB13.out.trans (hb14.mono HB13.out.size))
        have k1 := run_string (HRX13.out.below hb14) nb cx HNB.out
        have k2 := run_string (HR.out.below HB14.out) nb c2 HNB.out
        have k4 : (b6 == b6) = true := beq_self_eq_true _
        clear hb14 hr14 he14 HGY
        go_wp2
        go_ret
        exact ⟨rfl, HB14.out⟩
      · have hq := nm_beq o s
        rw [decide_eq_false ho] at hq
        rw [getF_put_other (fiL fs) ⟨s, b6⟩ o ho, ← HIS.out, ← HBA.out] at HGY
        have HGY := Lib.hid HGY
        clear ho
        go_wp2_with fail
        refine HGY.out.mono ?_
        rintro e w14 ⟨Ay, cy, b8, rfl, hb14, hr14, he14⟩
        have he' : b8 = b5 := he14
        clear he14
        subst he'
        rw [HNA.out]
        have HB14 : Hid (Below W.heap.size W w14) := Lib.hid (HB13.out.trans (hb14.mono HB13.out.size))
        have HU14 : Hid (Below w5.heap.size w5 w14) := Lib.hid (HU13.out.trans (hb14.mono HU13.out.size))
        have k1 := run_string (HRX13.out.below hb14) nb cx HNB.out
        have k2 := run_string (HR.out.below HB14.out) nb c2 HNB.out
        have k4 : (b6 == b6) = true := beq_self_eq_true _
        have k5 := run_string hr14 na cy HNA.out
        have k6 := run_string (HRB.out.below HU14.out) na cb HNA.out
        have k7 : (b8 == b8) = true := beq_self_eq_true _
        have k8 : (is == is) = true := beq_self_eq_true _
        clear hb14 hr14 HGY
        go_wp2
        go_ret
        exact ⟨rfl, HB14.out⟩
end Go.Proofs.YtgpcinfhcamgpaaGreatDoor
