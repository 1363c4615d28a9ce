/-
  The document's files and Encode: what they return.
-/
import Derived.Test.YtgpcinfhcamgpaaGreatDoorStE3
import Derived.Test.YtgpcinfhcamgpaaGreatDoorRfT
import Derived.Deep.RegionHeld3
namespace Go.Proofs.YtgpcinfhcamgpaaGreatDoor
open Go.RowKit Glob
attribute [local go_sem ↓] Go.wp_at_zero Go.wp_at_succ
set_option linter.unusedVariables false
set_option linter.unusedSimpArgs false

set_option maxRecDepth 100000 in
set_option maxHeartbeats 4000000 in
theorem rfiles_any (A : Option Addr) (n c : Nat) (fs : List FV) (w : World) (hF : Fls w A fs) (hn : fs.length = n) (hn2 : n ≤ 65535)
    (hs : ∀ f ∈ fs, f.nm.size ≤ 1048576 ∧ f.b.length ≤ 1048576) (hl : (fisB (fiL fs)).length ≤ 140737488000000) :
    Calls Tryz.prog 49 #[.slice A n c] w fun e w' => ∃ v, e = .returned v ∧ OB w' w.heap.size v (fisB (fiL fs)) ∧ Below w.heap.size w w' := by
  have HP := Lib.hid (refPut_any n 2 w (by omega) (by omega) (by omega))
  have HFF := Lib.hid hF
  have HN := Lib.hid hn
  have HS := Lib.hid hs
  have HL := Lib.hid hl
  clear hF hn hs hl
  go_enter Tryz.func49, Tryz.ntmps49
  go_wp2_with fail
  refine HP.out.mono ?_
  rintro e w1 (⟨_, v1, rfl, hv1, hb1⟩ | ⟨h0, _⟩)
  · have HV1 : Hid (OB w1 w.heap.size v1 (preF [] n fs 0)) := Lib.hid (by
      have e : preF [] n fs 0 = beBytes n 2 := by simp [preF]
      rw [e]
      exact hv1)
    have HB1 := Lib.hid hb1
    clear hv1 hb1
    go_wp2
    go_loopw [3, 5] (fun v i wr => ∃ k : Nat, k ≤ n ∧ i = .int .i64 (k : Int) ∧ Hid (OB wr w.heap.size v (preF [] n fs k)) ∧ Hid (Below w.heap.size w wr)) (fun _ i _ => n - (intOf i).toNat)
    case atStart => exact ⟨0, Nat.zero_le _, rfl, HV1, HB1⟩
    case round =>
      obtain ⟨k, hk, rfl, HV, HB⟩ := hrel
      clear HV1 HB1
      rcases (by omega : k < n ∨ k = n) with hlt | heq
      · have q0 : decide ((k : Int) < (n : Int)) = true := by rw [decide_eq_true_iff]; omega
        have q0' : decide (k < n) = true := by rw [decide_eq_true_iff]; omega
        have hkl : k < fs.length := by rw [HN.out]; exact hlt
        obtain ⟨b, o, hA, hbl, d0, d1, hrb, hbc, hbm⟩ := HFF.out.at_ hkl
        subst hA
        have hst := preF_step (l0 := []) (n := n) hkl
        have hlen := preF_len (l0 := []) HN.out (k + 1)
        rw [hst, List.nil_append] at hlen
        have hss := HS.out _ (List.getElem_mem hkl)
        obtain ⟨x, hx⟩ : ∃ x, x = fs[k] := ⟨_, rfl⟩
        rw [← hx] at d0 d1 hrb hbc hbm hst hlen hss
        obtain ⟨nb, hnb⟩ : ∃ nb, nb = x.b.length := ⟨_, rfl⟩
        rw [← hnb] at d1 hbc hss
        have hsl : x.nm.data.toList.length = x.nm.size := by cases x.nm; simp [ByteArray.size]
        simp only [List.length_append, textBytes_length, hsl, ← hnb] at hlen
        have HLL := HL.out
        have HST := Lib.hid hst
        have HNB := Lib.hid hnb
        have HXR := Lib.hid hrb
        have HTL1 : Hid ((textBytes x.nm.data.toList).length = 4 + x.nm.size) := Lib.hid (by rw [textBytes_length, hsl])
        have HTL2 : Hid ((textBytes x.b).length = 4 + nb) := Lib.hid (by rw [textBytes_length, HNB.out])
        have HT1 := Lib.hid (fun V => refText_ok x.nm V hss.1)
        have HT2 := Lib.hid (fun V => refText_ok ⟨x.b.toArray⟩ V (by show x.b.toArray.size ≤ _; rw [List.size_toArray, ← HNB.out]; exact hss.2))
        have hki : (k : Int) < (n : Int) := by omega
        have hk0 : (0 : Int) ≤ (k : Int) := by omega
        have HX0 := Lib.hid d0
        have HX1 := Lib.hid d1
        have HBL := Lib.hid hbl
        have HBE : Hid (Below w.heap.size w wr) := HB
        clear hx hnb hrb hst hsl d0 d1 hbl
        go_wp2
        refine wp_region_held_drew (S := fun V => Below w.heap.size w V) (by kernel_rfl) (HB.out.drew) (fun hS1 => ?_)
        refine wpAnyH_take (i := 0) (oi := ⟨some 18, _, _, _, _, _⟩) (v := u3) rfl (by kernel_rfl) (by kernel_rfl) (by kernel_rfl) (fun _ _ _ h => h) (.inl ⟨by kernel_rfl, fun V hS => by go_simp⟩) hS1 ?_
        simp only [Act.put, List.setIfInBounds_toArray, List.set_cons_zero, List.set_cons_succ]
        refine wpAnyH_take (i := 1) (oi := ⟨some 19, _, _, _, _, _⟩) (v := .slice (some ⟨b, o, none⟩) n c) rfl (by kernel_rfl) (by kernel_rfl) (by kernel_rfl) (fun _ _ _ h => h) (.inl ⟨by kernel_rfl, fun V hS => by go_simp⟩) hS1 ?_
        simp only [Act.put, List.setIfInBounds_toArray, List.set_cons_zero, List.set_cons_succ]
        refine wpAnyH_take (i := 2) (oi := ⟨some 20, _, _, _, _, _⟩) (v := .int .i64 (k : Int)) rfl (by kernel_rfl) (by kernel_rfl) (by kernel_rfl) (fun _ _ _ h => h) (.inl ⟨by kernel_rfl, fun V hS => by go_simp⟩) hS1 ?_
        simp only [Act.put, List.setIfInBounds_toArray, List.set_cons_zero, List.set_cons_succ]
        refine wpAnyH_take (i := 3) (oi := ⟨some 21, _, _, _, _, _⟩) (v := .pointer (some ⟨b, o + k * 2, none⟩)) rfl (by kernel_rfl) (by kernel_rfl) (by kernel_rfl) (fun _ _ _ h => h) (.inl ⟨by kernel_rfl, fun V hS => by go_simp⟩) hS1 ?_
        simp only [Act.put, List.setIfInBounds_toArray, List.set_cons_zero, List.set_cons_succ]
        refine wpAnyH_take (i := 4) (oi := ⟨some 22, _, _, _, _, _⟩) (v := .pointer (some ⟨b, o + k * 2, none⟩)) rfl (by kernel_rfl) (by kernel_rfl) (by kernel_rfl) (fun _ _ _ h => h) (.inl ⟨by kernel_rfl, fun V hS => by go_simp⟩) hS1 ?_
        simp only [Act.put, List.setIfInBounds_toArray, List.set_cons_zero, List.set_cons_succ]
        refine wpAnyH_take (i := 5) (oi := ⟨some 23, _, _, _, _, _⟩) (v := .string x.nm) rfl (by kernel_rfl) (by kernel_rfl) (by kernel_rfl) (fun _ _ _ h => h) (.inl ⟨by kernel_rfl, fun V hS => by have hc := (hS.cell (p := ⟨b, o + k * 2, none⟩) HBL.out).trans HX0.out; go_simp⟩) hS1 ?_
        simp only [Act.put, List.setIfInBounds_toArray, List.set_cons_zero, List.set_cons_succ]
        refine wpAnyH_take (i := 8) (oi := ⟨some 26, _, _, _, _, _⟩) (v := .slice (some ⟨b, o, none⟩) n c) rfl (by kernel_rfl) (by kernel_rfl) (by kernel_rfl) (fun _ _ _ h => h) (.inl ⟨by kernel_rfl, fun V hS => by go_simp⟩) hS1 ?_
        simp only [Act.put, List.setIfInBounds_toArray, List.set_cons_zero, List.set_cons_succ]
        refine wpAnyH_take (i := 9) (oi := ⟨some 27, _, _, _, _, _⟩) (v := .int .i64 (k : Int)) rfl (by kernel_rfl) (by kernel_rfl) (by kernel_rfl) (fun _ _ _ h => h) (.inl ⟨by kernel_rfl, fun V hS => by go_simp⟩) hS1 ?_
        simp only [Act.put, List.setIfInBounds_toArray, List.set_cons_zero, List.set_cons_succ]
        refine wpAnyH_take (i := 10) (oi := ⟨some 28, _, _, _, _, _⟩) (v := .pointer (some ⟨b, o + k * 2, none⟩)) rfl (by kernel_rfl) (by kernel_rfl) (by kernel_rfl) (fun _ _ _ h => h) (.inl ⟨by kernel_rfl, fun V hS => by go_simp⟩) hS1 ?_
        simp only [Act.put, List.setIfInBounds_toArray, List.set_cons_zero, List.set_cons_succ]
        refine wpAnyH_take (i := 11) (oi := ⟨some 29, _, _, _, _, _⟩) (v := .pointer (some ⟨b, o + k * 2 + 1, none⟩)) rfl (by kernel_rfl) (by kernel_rfl) (by kernel_rfl) (fun _ _ _ h => h) (.inl ⟨by kernel_rfl, fun V hS => by go_simp⟩) hS1 ?_
        simp only [Act.put, List.setIfInBounds_toArray, List.set_cons_zero, List.set_cons_succ]
        refine wpAnyH_take (i := 12) (oi := ⟨some 30, _, _, _, _, _⟩) (v := .slice x.A nb x.c) rfl (by kernel_rfl) (by kernel_rfl) (by kernel_rfl) (fun _ _ _ h => h) (.inl ⟨by kernel_rfl, fun V hS => by have hc := (hS.cell (p := ⟨b, o + k * 2 + 1, none⟩) HBL.out).trans HX1.out; go_simp⟩) hS1 ?_
        simp only [Act.put, List.setIfInBounds_toArray, List.set_cons_zero, List.set_cons_succ]
        refine wpAnyH_take (i := 13) (oi := ⟨some 31, _, _, _, _, _⟩) (v := .string ⟨x.b.toArray⟩) rfl (by kernel_rfl) (by kernel_rfl) (by kernel_rfl) (fun _ _ _ h => h) (.inl ⟨by kernel_rfl, fun V hS => by have RX := run_string (HXR.out.below hS) nb x.c HNB.out.symm; go_simp⟩) hS1 ?_
        simp only [Act.put, List.setIfInBounds_toArray, List.set_cons_zero, List.set_cons_succ]
        refine wpAnyH_ready (rs := [6]) (by kernel_rfl) (by simp) ?_
        refine AllReadyH.cons rfl (fun K' hK => ?_) AllReadyH.nil
        go_simp
        refine (HT1.out _).mono ?_
        rintro e w5 ⟨v5, rfl, hv, hb⟩
        obtain ⟨A5, c5, rfl, _, _, hr, _⟩ := hv.shape_n HTL1.out
        have HO5 := Lib.hid (HV.out.drew.below hb)
        have HR5 := Lib.hid hr
        have HS5 : Hid (Below w.heap.size w w5) := Lib.hid ((HB.out.drew).trans (hb.mono (HB.out.drew).size))
        clear hv hr hb
        go_simp
        refine hK.out _ _ (HS5.out) (fun hS2 => ?_)
        clear hK K' hS1
        refine wpAnyH_ready (rs := [7]) (by kernel_rfl) (by simp) ?_
        refine AllReadyH.cons rfl (fun K' hK => ?_) AllReadyH.nil
        refine step_app_bytes _ rfl _ _ rfl w.heap.size _ (preF [] n fs k) rfl HO5.out A5 (4 + x.nm.size) c5 (textBytes x.nm.data.toList) rfl HTL1.out HR5.out (by omega) HS5.out.size ?_
        intro v6 w6 ho hg _
        have HO6 := Lib.hid ho
        have HS6 : Hid (Below w.heap.size w w6) := Lib.hid (HS5.out.grown hg HS5.out.size (fun j hj => HO5.out.grown_ge j hj))
        clear ho hg
        refine hK.out _ _ (HS6.out) (fun hS3 => ?_)
        clear hK K' hS2
        simp only [Act.put, List.setIfInBounds_toArray, List.set_cons_zero, List.set_cons_succ]
        refine wpAnyH_ready (rs := [14]) (by kernel_rfl) (by simp) ?_
        refine AllReadyH.cons rfl (fun K' hK => ?_) AllReadyH.nil
        go_simp
        refine (HT2.out _).mono ?_
        rintro e w7 ⟨v7, rfl, hv, hb⟩
        obtain ⟨A7, c7, rfl, _, _, hr, _⟩ := hv.shape_n HTL2.out
        have HO7 := Lib.hid (HO6.out.below hb)
        have HR7 := Lib.hid hr
        have HS7 : Hid (Below w.heap.size w w7) := Lib.hid ((HS6.out).trans (hb.mono (HS6.out).size))
        clear hv hr hb
        go_simp
        refine hK.out _ _ (HS7.out) (fun hS4 => ?_)
        clear hK K' hS3
        refine wpAnyH_ready (rs := [15]) (by kernel_rfl) (by simp) ?_
        refine AllReadyH.cons rfl (fun K' hK => ?_) AllReadyH.nil
        refine step_app_bytes _ rfl _ _ rfl w.heap.size _ (preF [] n fs k ++ textBytes x.nm.data.toList) rfl HO7.out A7 (4 + nb) c7 (textBytes x.b) rfl HTL2.out HR7.out (by rw [List.length_append, HTL1.out]; omega) HS7.out.size ?_
        intro v8 w8 ho hg _
        have HO8 := Lib.hid ho
        have HS8 : Hid (Below w.heap.size w w8) := Lib.hid (HS7.out.grown hg HS7.out.size (fun j hj => HO7.out.grown_ge j hj))
        clear ho hg
        refine hK.out _ _ (HS8.out) (fun hS5 => ?_)
        clear hK K' hS4
        simp only [Act.put, List.setIfInBounds_toArray, List.set_cons_zero, List.set_cons_succ]
        refine wpAnyH_take (i := 16) (oi := ⟨some 3, _, _, _, _, _⟩) (v := v8) rfl (by kernel_rfl) (by kernel_rfl) (by kernel_rfl) (fun _ _ _ h => h) (.inl ⟨by kernel_rfl, fun V hS => by go_simp⟩) hS5 ?_
        simp only [Act.put, List.setIfInBounds_toArray, List.set_cons_zero, List.set_cons_succ]
        refine wpAnyH_done (by kernel_rfl) ?_ _
        have HO9 : Hid (OB w8 w.heap.size v8 (preF [] n fs (k + 1))) := Lib.hid (by rw [HST.out]; exact HO8.out)
        clear HO8 HO7 HO6 HO5 HR7 HR5
        go_wp2
        go_roundw
        case rel => exact ⟨k + 1, by omega, by go_num, HO9, HS8⟩
        case measure => simp [intOf]; omega
      · have q0 : decide ((k : Int) < (n : Int)) = false := by rw [decide_eq_false_iff_not]; omega
        have q0' : decide (k < n) = false := by rw [decide_eq_false_iff_not]; omega
        have HV9 : Hid (OB wr w.heap.size u3 (fisB (fiL fs))) := Lib.hid (by
          have h1 := HV.out
          rw [heq] at h1
          rw [preF_all HN.out, List.nil_append] at h1
          exact h1)
        clear heq HV
        go_wp2
        go_ret
        exact ⟨u3, rfl, HV9.out, HB.out⟩
  · exact absurd (by show n / 65536 = 0; omega) h0
def EncS (w : World) (cs : Array Value) (V : World) : Prop := Below w.heap.size w V ∧ Blk V w.heap.size 25 cs
theorem EncS.drew {w : World} {cs : Array Value} {V : World} (h : EncS w cs V) : EncS w cs V.drew := ⟨h.1.drew, h.2.drew⟩
set_option maxRecDepth 100000 in
set_option maxHeartbeats 8000000 in
theorem rencode_any (s : SV) (w : World) (h : SAt w s) (hm : SM s) (hq : mayS fnameL pathL s.sta = true) (hl : (stB s.sta).length ≤ 140737488000000) :
    Calls Tryz.prog 16 #[s.v] w fun e w' => ∃ v, e = .returned v ∧ OB w' w.heap.size v (stB s.sta) ∧ Below w.heap.size w w' := by
  have HH := Lib.hid h
  have HQ := hq
  unfold mayS at HQ
  simp only [Bool.and_eq_true] at HQ
  have HTG := Lib.hid (risF_sizes fname_size HQ.1.2)
  have HIN := Lib.hid (risF_sizes path_size HQ.2)
  rw [stB_eq] at hl ⊢
  have hbr := hm.r
  have hbt := hm.t
  have hbs := hm.s
  clear h hq HQ
  obtain ⟨⟨rA, rc, rl⟩, ⟨tA, tc, tl⟩, ⟨sA, sc, sl⟩, gA, gc, tg, iA, ic, ins⟩ := s
  obtain ⟨rn, hrn⟩ : ∃ n, n = rl.length := ⟨_, rfl⟩
  obtain ⟨tn, htn⟩ : ∃ n, n = tl.length := ⟨_, rfl⟩
  obtain ⟨sn, hsn⟩ : ∃ n, n = sl.length := ⟨_, rfl⟩
  obtain ⟨gn, hgn⟩ : ∃ n, n = tg.length := ⟨_, rfl⟩
  obtain ⟨inn, hinn⟩ : ∃ n, n = ins.length := ⟨_, rfl⟩
  show Calls Tryz.prog 16 #[.agg #[.slice rA rl.length rc, .slice tA tl.length tc, .slice sA sl.length sc, .slice gA tg.length gc, .slice iA ins.length ic]] w _
  change rl.length ≤ _ at hbr
  change tl.length ≤ _ at hbt
  change sl.length ≤ _ at hbs
  change (((((([] : List UInt8) ++ textBytes rl) ++ textBytes tl) ++ textBytes sl) ++ fisB (fiL tg)) ++ fisB (fiL ins)).length ≤ _ at hl
  change Hid ((fiL tg).length ≤ 64 ∧ ∀ f ∈ fiL tg, f.nm.data.toList.length ≤ 1048576 ∧ f.b.length ≤ 1048576) at HTG
  change Hid ((fiL ins).length ≤ 16 ∧ ∀ f ∈ fiL ins, f.nm.data.toList.length ≤ 1048576 ∧ f.b.length ≤ 1048576) at HIN
  change Calls Tryz.prog 16 #[.agg #[.slice rA rl.length rc, .slice tA tl.length tc, .slice sA sl.length sc, .slice gA tg.length gc, .slice iA ins.length ic]] w fun e w' => ∃ v, e = .returned v ∧ OB w' w.heap.size v (((((([] : List UInt8) ++ textBytes rl) ++ textBytes tl) ++ textBytes sl) ++ fisB (fiL tg)) ++ fisB (fiL ins)) ∧ Below w.heap.size w w'
  rw [← hrn] at hbr
  rw [← htn] at hbt
  rw [← hsn] at hbs
  rw [← hrn, ← htn, ← hsn, ← hgn, ← hinn]
  have Hrn := Lib.hid hrn
  have Htn := Lib.hid htn
  have Hsn := Lib.hid hsn
  have Hgn := Lib.hid hgn
  have Hinn := Lib.hid hinn
  clear hrn htn hsn hgn hinn
  have HLR : Hid ((textBytes rl).length = 4 + rn) := Lib.hid (by rw [textBytes_length, Hrn.out])
  have HLT : Hid ((textBytes tl).length = 4 + tn) := Lib.hid (by rw [textBytes_length, Htn.out])
  have HLS : Hid ((textBytes sl).length = 4 + sn) := Lib.hid (by rw [textBytes_length, Hsn.out])
  obtain ⟨gz, hgz⟩ : ∃ z, z = (fisB (fiL tg)).length := ⟨_, rfl⟩
  obtain ⟨iz, hiz⟩ : ∃ z, z = (fisB (fiL ins)).length := ⟨_, rfl⟩
  have HLG := Lib.hid hgz.symm
  have HLI := Lib.hid hiz.symm
  simp only [List.length_append, List.length_nil, HLR.out, HLT.out, HLS.out, ← hgz, ← hiz] at hl
  clear hgz hiz
  have HTR := Lib.hid (fun V (hV : Below w.heap.size w V) => refText_ok ⟨rl.toArray⟩ V (by show rl.toArray.size ≤ _; rw [List.size_toArray, ← Hrn.out]; exact hbr))
  have HTT := Lib.hid (fun V (hV : Below w.heap.size w V) => refText_ok ⟨tl.toArray⟩ V (by show tl.toArray.size ≤ _; rw [List.size_toArray, ← Htn.out]; exact hbt))
  have HTS := Lib.hid (fun V (hV : Below w.heap.size w V) => refText_ok ⟨sl.toArray⟩ V (by show sl.toArray.size ≤ _; rw [List.size_toArray, ← Hsn.out]; exact hbs))
  have HTG2 := Lib.hid (fun V (hV : Below w.heap.size w V) => rfiles_any gA gn gc tg V (HH.out.tg.below hV) Hgn.out.symm (by have h1 := HTG.out.1; rw [fiL_len, ← Hgn.out] at h1; omega) (fv_sizes HTG.out.2) (by rw [HLG.out]; omega))
  have HTI2 := Lib.hid (fun V (hV : Below w.heap.size w V) => rfiles_any iA inn ic ins V (HH.out.ins.below hV) Hinn.out.symm (by have h1 := HIN.out.1; rw [fiL_len, ← Hinn.out] at h1; omega) (fv_sizes HIN.out.2) (by rw [HLI.out]; omega))
  have HA : Hid (EncS w #[.slice rA rn rc, .slice tA tn tc, .slice sA sn sc, .slice gA gn gc, .slice iA inn ic] ((w.alloc (.cells #[.slice rA rn rc, .slice tA tn tc, .slice sA sn sc, .slice gA gn gc, .slice iA inn ic] 25)).alloc (.cells #[] 5))) := Lib.hid ⟨((Below.refl _ _).alloc (Nat.le_refl _) _).alloc (by simp) _, (Blk.new _ _ _).alloc _⟩
  have HO2 : Hid (OB ((w.alloc (.cells #[.slice rA rn rc, .slice tA tn tc, .slice sA sn sc, .slice gA gn gc, .slice iA inn ic] 25)).alloc (.cells #[] 5)) w.heap.size (.slice (some ⟨(w.alloc (.cells #[.slice rA rn rc, .slice tA tn tc, .slice sA sn sc, .slice gA gn gc, .slice iA inn ic] 25)).heap.size, 0, none⟩) 0 0) []) := Lib.hid (emptyOB _ _ (by simp))
  have x0 := HA.out.2.cell 0
  simp only [List.getElem?_toArray, List.getElem?_cons_zero, List.getElem?_cons_succ] at x0
  have RR := run_string (HH.out.r.1.below HA.out.1) rn rc Hrn.out.symm
  have hsz1 : (w.alloc (.cells #[.slice rA rn rc, .slice tA tn tc, .slice sA sn sc, .slice gA gn gc, .slice iA inn ic] 25)).heap.size = w.heap.size + 1 := by simp
  rw [hsz1] at HO2
  clear hsz1
  go_enter Tryz.func16, Tryz.ntmps16
  go_wp2_with fail
  refine (HTR.out _ HA.out.1).mono ?_
  rintro e w3 ⟨v3, rfl, hv, hb⟩
  obtain ⟨A3, c3, rfl, _, _, hr, _⟩ := hv.shape_n HLR.out
  have HO3 := Lib.hid (HO2.out.below hb)
  have HR3 := Lib.hid hr
  have HS3 : Hid (EncS w #[.slice rA rn rc, .slice tA tn tc, .slice sA sn sc, .slice gA gn gc, .slice iA inn ic] w3) := Lib.hid ⟨HA.out.1.trans (hb.mono HA.out.1.size), HA.out.2.below hb HA.out.2.lt⟩
  clear hv hr hb RR x0
  go_wp2_with (at_builtin; refine app_bytes _ rfl _ _ rfl w.heap.size _ [] rfl HO3.out A3 (4 + rn) c3 (textBytes rl) rfl HLR.out HR3.out (by simp; omega) HS3.out.1.size ?_; intro v4 w4 ho hg _; have HO4 := Lib.hid ho; have HS4 : Hid (EncS w #[.slice rA rn rc, .slice tA tn tc, .slice sA sn sc, .slice gA gn gc, .slice iA inn ic] w4) := Lib.hid ⟨HS3.out.1.grown hg HS3.out.1.size (fun j hj => HO3.out.grown_ge j hj), HS3.out.2.grown hg (fun e => own_blk_ne HO3.out HS3.out.2 (by decide) e.symm)⟩; clear ho hg)
  refine wp_region_held_drew (S := fun V => EncS w #[.slice rA rn rc, .slice tA tn tc, .slice sA sn sc, .slice gA gn gc, .slice iA inn ic] V) (by kernel_rfl) (EncS.drew HS4.out) (fun hS1 => ?_)
  refine wpAnyH_take (i := 0) (oi := ⟨some 10, _, _, _, _, _⟩) (v := v4) rfl (by kernel_rfl) (by kernel_rfl) (by kernel_rfl) (fun _ _ _ h => h) (.inl ⟨by kernel_rfl, fun V hS => by go_simp⟩) hS1 ?_
  simp only [Act.put, List.setIfInBounds_toArray, List.set_cons_zero, List.set_cons_succ]
  refine wpAnyH_take (i := 1) (oi := ⟨some 11, _, _, _, _, _⟩) (v := .pointer (some ⟨w.heap.size, 1, none⟩)) rfl (by kernel_rfl) (by kernel_rfl) (by kernel_rfl) (fun _ _ _ h => h) (.inl ⟨by kernel_rfl, fun V hS => by go_simp⟩) hS1 ?_
  simp only [Act.put, List.setIfInBounds_toArray, List.set_cons_zero, List.set_cons_succ]
  refine wpAnyH_take (i := 2) (oi := ⟨some 12, _, _, _, _, _⟩) (v := .slice tA tn tc) rfl (by kernel_rfl) (by kernel_rfl) (by kernel_rfl) (fun _ _ _ h => h) (.inl ⟨by kernel_rfl, fun V hS => by have hc := (hS.2.cell 1).trans (by rfl); go_simp⟩) hS1 ?_
  simp only [Act.put, List.setIfInBounds_toArray, List.set_cons_zero, List.set_cons_succ]
  refine wpAnyH_take (i := 3) (oi := ⟨some 13, _, _, _, _, _⟩) (v := .string ⟨tl.toArray⟩) rfl (by kernel_rfl) (by kernel_rfl) (by kernel_rfl) (fun _ _ _ h => h) (.inl ⟨by kernel_rfl, fun V hS => by have RX := run_string (HH.out.t.1.below hS.1) tn tc Htn.out.symm; go_simp⟩) hS1 ?_
  simp only [Act.put, List.setIfInBounds_toArray, List.set_cons_zero, List.set_cons_succ]
  refine wpAnyH_take (i := 6) (oi := ⟨some 16, _, _, _, _, _⟩) (v := .pointer (some ⟨w.heap.size, 2, none⟩)) rfl (by kernel_rfl) (by kernel_rfl) (by kernel_rfl) (fun _ _ _ h => h) (.inl ⟨by kernel_rfl, fun V hS => by go_simp⟩) hS1 ?_
  simp only [Act.put, List.setIfInBounds_toArray, List.set_cons_zero, List.set_cons_succ]
  refine wpAnyH_take (i := 7) (oi := ⟨some 17, _, _, _, _, _⟩) (v := .slice sA sn sc) rfl (by kernel_rfl) (by kernel_rfl) (by kernel_rfl) (fun _ _ _ h => h) (.inl ⟨by kernel_rfl, fun V hS => by have hc := (hS.2.cell 2).trans (by rfl); go_simp⟩) hS1 ?_
  simp only [Act.put, List.setIfInBounds_toArray, List.set_cons_zero, List.set_cons_succ]
  refine wpAnyH_take (i := 8) (oi := ⟨some 18, _, _, _, _, _⟩) (v := .string ⟨sl.toArray⟩) rfl (by kernel_rfl) (by kernel_rfl) (by kernel_rfl) (fun _ _ _ h => h) (.inl ⟨by kernel_rfl, fun V hS => by have RX := run_string (HH.out.s.1.below hS.1) sn sc Hsn.out.symm; go_simp⟩) hS1 ?_
  simp only [Act.put, List.setIfInBounds_toArray, List.set_cons_zero, List.set_cons_succ]
  refine wpAnyH_ready (rs := [4]) (by kernel_rfl) (by simp) ?_
  refine AllReadyH.cons rfl (fun K' hK => ?_) AllReadyH.nil
  go_simp
  refine (HTT.out _ (EncS.drew HS4.out).1).mono ?_
  rintro e w5 ⟨v5, rfl, hv, hb⟩
  obtain ⟨A5, c5, rfl, _, _, hr, _⟩ := hv.shape_n HLT.out
  have HO5 := Lib.hid (HO4.out.drew.below hb)
  have HR5 := Lib.hid hr
  have HS5 : Hid (EncS w #[.slice rA rn rc, .slice tA tn tc, .slice sA sn sc, .slice gA gn gc, .slice iA inn ic] w5) := Lib.hid ⟨(EncS.drew HS4.out).1.trans (hb.mono (EncS.drew HS4.out).1.size), (EncS.drew HS4.out).2.below hb (EncS.drew HS4.out).2.lt⟩
  clear hv hr hb
  go_simp
  refine hK.out _ _ (HS5.out) (fun hS2 => ?_)
  clear hK K' hS1
  refine wpAnyH_ready (rs := [5]) (by kernel_rfl) (by simp) ?_
  refine AllReadyH.cons rfl (fun K' hK => ?_) AllReadyH.nil
  refine step_app_bytes (o := ⟨some 15, _, _, _, _, _⟩) _ rfl _ _ rfl w.heap.size _ ([] ++ textBytes rl) rfl HO5.out A5 (4 + tn) c5 (textBytes tl) rfl HLT.out HR5.out (by simp only [List.length_append, List.length_nil, HLR.out, HLT.out, HLS.out, HLG.out, HLI.out]; omega) HS5.out.1.size ?_
  intro v6 w6 ho hg _
  have HO6 := Lib.hid ho
  have HS6 : Hid (EncS w #[.slice rA rn rc, .slice tA tn tc, .slice sA sn sc, .slice gA gn gc, .slice iA inn ic] w6) := Lib.hid ⟨HS5.out.1.grown hg HS5.out.1.size (fun j hj => HO5.out.grown_ge j hj), HS5.out.2.grown hg (fun e => own_blk_ne HO5.out HS5.out.2 (by decide) e.symm)⟩
  clear ho hg
  refine hK.out _ _ (HS6.out) (fun hS3 => ?_)
  clear hK K' hS2
  simp only [Act.put, List.setIfInBounds_toArray, List.set_cons_zero, List.set_cons_succ]
  refine wpAnyH_ready (rs := [9]) (by kernel_rfl) (by simp) ?_
  refine AllReadyH.cons rfl (fun K' hK => ?_) AllReadyH.nil
  go_simp
  refine (HTS.out _ (HS6.out).1).mono ?_
  rintro e w7 ⟨v7, rfl, hv, hb⟩
  obtain ⟨A7, c7, rfl, _, _, hr, _⟩ := hv.shape_n HLS.out
  have HO7 := Lib.hid (HO6.out.below hb)
  have HR7 := Lib.hid hr
  have HS7 : Hid (EncS w #[.slice rA rn rc, .slice tA tn tc, .slice sA sn sc, .slice gA gn gc, .slice iA inn ic] w7) := Lib.hid ⟨(HS6.out).1.trans (hb.mono (HS6.out).1.size), (HS6.out).2.below hb (HS6.out).2.lt⟩
  clear hv hr hb
  go_simp
  refine hK.out _ _ (HS7.out) (fun hS4 => ?_)
  clear hK K' hS3
  refine wpAnyH_ready (rs := [10]) (by kernel_rfl) (by simp) ?_
  refine AllReadyH.cons rfl (fun K' hK => ?_) AllReadyH.nil
  refine step_app_bytes (o := ⟨some 20, _, _, _, _, _⟩) _ rfl _ _ rfl w.heap.size _ (([] ++ textBytes rl) ++ textBytes tl) rfl HO7.out A7 (4 + sn) c7 (textBytes sl) rfl HLS.out HR7.out (by simp only [List.length_append, List.length_nil, HLR.out, HLT.out, HLS.out, HLG.out, HLI.out]; omega) HS7.out.1.size ?_
  intro v8 w8 ho hg _
  have HO8 := Lib.hid ho
  have HS8 : Hid (EncS w #[.slice rA rn rc, .slice tA tn tc, .slice sA sn sc, .slice gA gn gc, .slice iA inn ic] w8) := Lib.hid ⟨HS7.out.1.grown hg HS7.out.1.size (fun j hj => HO7.out.grown_ge j hj), HS7.out.2.grown hg (fun e => own_blk_ne HO7.out HS7.out.2 (by decide) e.symm)⟩
  clear ho hg
  refine hK.out _ _ (HS8.out) (fun hS5 => ?_)
  clear hK K' hS4
  simp only [Act.put, List.setIfInBounds_toArray, List.set_cons_zero, List.set_cons_succ]
  refine wpAnyH_take (i := 11) (oi := ⟨some 3, _, _, _, _, _⟩) (v := v8) rfl (by kernel_rfl) (by kernel_rfl) (by kernel_rfl) (fun _ _ _ h => h) (.inl ⟨by kernel_rfl, fun V hS => by go_simp⟩) hS5 ?_
  simp only [Act.put, List.setIfInBounds_toArray, List.set_cons_zero, List.set_cons_succ]
  refine wpAnyH_done (by kernel_rfl) ?_ _
  go_wp2
  refine wp_region_held_drew (S := fun V => EncS w #[.slice rA rn rc, .slice tA tn tc, .slice sA sn sc, .slice gA gn gc, .slice iA inn ic] V) (by kernel_rfl) (EncS.drew HS8.out) (fun hS1 => ?_)
  refine wpAnyH_take (i := 0) (oi := ⟨some 21, _, _, _, _, _⟩) (v := v8) rfl (by kernel_rfl) (by kernel_rfl) (by kernel_rfl) (fun _ _ _ h => h) (.inl ⟨by kernel_rfl, fun V hS => by go_simp⟩) hS1 ?_
  simp only [Act.put, List.setIfInBounds_toArray, List.set_cons_zero, List.set_cons_succ]
  refine wpAnyH_take (i := 1) (oi := ⟨some 22, _, _, _, _, _⟩) (v := .pointer (some ⟨w.heap.size, 3, none⟩)) rfl (by kernel_rfl) (by kernel_rfl) (by kernel_rfl) (fun _ _ _ h => h) (.inl ⟨by kernel_rfl, fun V hS => by go_simp⟩) hS1 ?_
  simp only [Act.put, List.setIfInBounds_toArray, List.set_cons_zero, List.set_cons_succ]
  refine wpAnyH_take (i := 2) (oi := ⟨some 23, _, _, _, _, _⟩) (v := .slice gA gn gc) rfl (by kernel_rfl) (by kernel_rfl) (by kernel_rfl) (fun _ _ _ h => h) (.inl ⟨by kernel_rfl, fun V hS => by have hc := (hS.2.cell 3).trans (by rfl); go_simp⟩) hS1 ?_
  simp only [Act.put, List.setIfInBounds_toArray, List.set_cons_zero, List.set_cons_succ]
  refine wpAnyH_take (i := 5) (oi := ⟨some 26, _, _, _, _, _⟩) (v := .pointer (some ⟨w.heap.size, 4, none⟩)) rfl (by kernel_rfl) (by kernel_rfl) (by kernel_rfl) (fun _ _ _ h => h) (.inl ⟨by kernel_rfl, fun V hS => by go_simp⟩) hS1 ?_
  simp only [Act.put, List.setIfInBounds_toArray, List.set_cons_zero, List.set_cons_succ]
  refine wpAnyH_take (i := 6) (oi := ⟨some 27, _, _, _, _, _⟩) (v := .slice iA inn ic) rfl (by kernel_rfl) (by kernel_rfl) (by kernel_rfl) (fun _ _ _ h => h) (.inl ⟨by kernel_rfl, fun V hS => by have hc := (hS.2.cell 4).trans (by rfl); go_simp⟩) hS1 ?_
  simp only [Act.put, List.setIfInBounds_toArray, List.set_cons_zero, List.set_cons_succ]
  refine wpAnyH_ready (rs := [3]) (by kernel_rfl) (by simp) ?_
  refine AllReadyH.cons rfl (fun K' hK => ?_) AllReadyH.nil
  go_simp
  refine (HTG2.out _ (EncS.drew HS8.out).1).mono ?_
  rintro e w9 ⟨v9, rfl, hv, hb⟩
  obtain ⟨A9, c9, rfl, _, _, hr, _⟩ := hv.shape_n HLG.out
  have HO9 := Lib.hid (HO8.out.drew.below hb)
  have HR9 := Lib.hid hr
  have HS9 : Hid (EncS w #[.slice rA rn rc, .slice tA tn tc, .slice sA sn sc, .slice gA gn gc, .slice iA inn ic] w9) := Lib.hid ⟨(EncS.drew HS8.out).1.trans (hb.mono (EncS.drew HS8.out).1.size), (EncS.drew HS8.out).2.below hb (EncS.drew HS8.out).2.lt⟩
  clear hv hr hb
  go_simp
  refine hK.out _ _ (HS9.out) (fun hS2 => ?_)
  clear hK K' hS1
  refine wpAnyH_ready (rs := [4]) (by kernel_rfl) (by simp) ?_
  refine AllReadyH.cons rfl (fun K' hK => ?_) AllReadyH.nil
  refine step_app_bytes (o := ⟨some 25, _, _, _, _, _⟩) _ rfl _ _ rfl w.heap.size _ ((([] ++ textBytes rl) ++ textBytes tl) ++ textBytes sl) rfl HO9.out A9 gz c9 (fisB (fiL tg)) rfl HLG.out HR9.out (by simp only [List.length_append, List.length_nil, HLR.out, HLT.out, HLS.out, HLG.out, HLI.out]; omega) HS9.out.1.size ?_
  intro v10 w10 ho hg _
  have HO10 := Lib.hid ho
  have HS10 : Hid (EncS w #[.slice rA rn rc, .slice tA tn tc, .slice sA sn sc, .slice gA gn gc, .slice iA inn ic] w10) := Lib.hid ⟨HS9.out.1.grown hg HS9.out.1.size (fun j hj => HO9.out.grown_ge j hj), HS9.out.2.grown hg (fun e => own_blk_ne HO9.out HS9.out.2 (by decide) e.symm)⟩
  clear ho hg
  refine hK.out _ _ (HS10.out) (fun hS3 => ?_)
  clear hK K' hS2
  simp only [Act.put, List.setIfInBounds_toArray, List.set_cons_zero, List.set_cons_succ]
  refine wpAnyH_ready (rs := [7]) (by kernel_rfl) (by simp) ?_
  refine AllReadyH.cons rfl (fun K' hK => ?_) AllReadyH.nil
  go_simp
  refine (HTI2.out _ (HS10.out).1).mono ?_
  rintro e w11 ⟨v11, rfl, hv, hb⟩
  obtain ⟨A11, c11, rfl, _, _, hr, _⟩ := hv.shape_n HLI.out
  have HO11 := Lib.hid (HO10.out.below hb)
  have HR11 := Lib.hid hr
  have HS11 : Hid (EncS w #[.slice rA rn rc, .slice tA tn tc, .slice sA sn sc, .slice gA gn gc, .slice iA inn ic] w11) := Lib.hid ⟨(HS10.out).1.trans (hb.mono (HS10.out).1.size), (HS10.out).2.below hb (HS10.out).2.lt⟩
  clear hv hr hb
  go_simp
  refine hK.out _ _ (HS11.out) (fun hS4 => ?_)
  clear hK K' hS3
  refine wpAnyH_ready (rs := [8]) (by kernel_rfl) (by simp) ?_
  refine AllReadyH.cons rfl (fun K' hK => ?_) AllReadyH.nil
  refine step_app_bytes (o := ⟨some 29, _, _, _, _, _⟩) _ rfl _ _ rfl w.heap.size _ (((([] ++ textBytes rl) ++ textBytes tl) ++ textBytes sl) ++ fisB (fiL tg)) rfl HO11.out A11 iz c11 (fisB (fiL ins)) rfl HLI.out HR11.out (by simp only [List.length_append, List.length_nil, HLR.out, HLT.out, HLS.out, HLG.out, HLI.out]; omega) HS11.out.1.size ?_
  intro v12 w12 ho hg _
  have HO12 := Lib.hid ho
  have HS12 : Hid (EncS w #[.slice rA rn rc, .slice tA tn tc, .slice sA sn sc, .slice gA gn gc, .slice iA inn ic] w12) := Lib.hid ⟨HS11.out.1.grown hg HS11.out.1.size (fun j hj => HO11.out.grown_ge j hj), HS11.out.2.grown hg (fun e => own_blk_ne HO11.out HS11.out.2 (by decide) e.symm)⟩
  clear ho hg
  refine hK.out _ _ (HS12.out) (fun hS5 => ?_)
  clear hK K' hS4
  simp only [Act.put, List.setIfInBounds_toArray, List.set_cons_zero, List.set_cons_succ]
  refine wpAnyH_take (i := 9) (oi := ⟨some 2, _, _, _, _, _⟩) (v := v12) rfl (by kernel_rfl) (by kernel_rfl) (by kernel_rfl) (fun _ _ _ h => h) (.inl ⟨by kernel_rfl, fun V hS => by go_simp⟩) hS5 ?_
  simp only [Act.put, List.setIfInBounds_toArray, List.set_cons_zero, List.set_cons_succ]
  refine wpAnyH_done (by kernel_rfl) ?_ _
  clear HO4 HO3 HO2 HO5 HO6 HO7 HO8 HO9 HO10 HO11
  go_wp2
  go_ret
  exact ⟨v12, rfl, HO12.out, HS12.out.1⟩
end Go.Proofs.YtgpcinfhcamgpaaGreatDoor
