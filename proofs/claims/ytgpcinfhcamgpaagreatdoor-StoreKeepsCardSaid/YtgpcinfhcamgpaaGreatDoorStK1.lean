/-
  store.Commit of a state that fits: OK, or ErrOff.
-/
import Derived.Test.YtgpcinfhcamgpaaGreatDoorStO4
namespace Go.Proofs.YtgpcinfhcamgpaaGreatDoor
open Go.RowKit Glob
attribute [local go_sem ↓] Go.wp_at_zero Go.wp_at_succ
set_option linter.unusedVariables false
set_option linter.unusedSimpArgs false

def KPost2 (d s M r first half N : Nat) (T0 T : List UInt8) (K : Dk) (w : World) (e : Ending) (w' : World) : Prop :=
  ∃ (gv : Int) (K8 : Dk) (n8 : Nat), (gv = 0 ∨ gv = 210) ∧ K8.sure.length = K.sure.length ∧ e = .returned (.int .i64 gv) ∧ DiskAt w' d s M n8 K8 ∧ Fr (fun k => DS d s M k ∨ k = r) w w' ∧
    ∀ sure : List (List UInt8), sure.length = K8.sure.length → (∀ i, i < K8.sure.length → Took K8 i (sure.getD i [])) → Full (K8.crashed sure) →
      ∃ N' T', DG (K8.crashed sure) first half N' T' ∧ ((gv = 0 ∧ T' = T ∧ N' = N + 1) ∨ (gv ≠ 0 ∧ T' = T0 ∧ N' = N) ∨ (gv = 210 ∧ T' = T ∧ N' = N + 1)) ∧ T'.length ≤ 64 * (half - 1)
theorem rcommit_fit {d s M n0 r first half num : Nat} {T0 : List UInt8} {K : Dk} (A : Option Addr) (n c : Nat) (T : List UInt8) (w : World) (h : DiskAt w d s M n0 K) (hg : DG K first half num T0) (htab : TabK w) (hR : RecAt w r d first half num T0 false)
    (hT : RB w A T) (hTn : T.length = n) (hc : n ≤ c) (hcm : c ≤ 9223372036854775807) (hnum : num < 255) (hn0 : n0 + 80000 < 1000000) (hhb : half ≤ 16384) (hT0 : T0.length ≤ 64 * (half - 1)) (hl : n ≤ 64 * (half - 1)) :
    Calls Tryz.prog 57 #[.pointer (some ⟨r, 0, none⟩), .slice A n c] w fun e w' => KPost2 d s M r first half num T0 T K w e w' := by
  refine (rcommit_any A n c T w h htab hR hg.on hg.two hg.inn hT hTn hc hcm hl (by omega) hn0).mono ?_
  rintro e w' ⟨rfl, ⟨n', _, hD⟩, _, hf⟩
  refine ⟨_, _, n', ?_, commit_len K _ _ T, rfl, hD, hf, fun sure h1 h2 h3 => ?_⟩
  · unfold offE
    split
    · exact .inr rfl
    · exact .inl rfl
  obtain ⟨t1, t2⟩ := crash_torn hg h.byt (T := T) (by omega) (by omega) hnum sure h1 h2 h3
  cases ho : (commitK K (first + (num + 1) % 2 * half) (num + 1) T).off with
  | false => exact ⟨num + 1, T, t1 ho, .inl ⟨by unfold offE; rw [ho]; rfl, rfl, rfl⟩, by omega⟩
  | true =>
    rcases t2 ho with h | h
    · exact ⟨num, T0, h, .inr (.inl ⟨by unfold offE; rw [ho]; decide, rfl, rfl⟩), hT0⟩
    · exact ⟨num + 1, T, h, .inr (.inr ⟨by unfold offE; rw [ho]; rfl, rfl, rfl⟩), by omega⟩
def SFPost (d s M p r half N : Nat) (T0 : List UInt8) (x : SV) (K : Dk) (w : World) (e : Ending) (w' : World) : Prop :=
  ∃ (gv : Int) (K8 : Dk) (n8 : Nat), (gv = 0 ∨ gv = 210) ∧ K8.sure.length = K.sure.length ∧ e = .returned (.int .i64 gv) ∧ DiskAt w' d s M n8 K8 ∧ Fr (fun k => DS d s M k ∨ k = r ∨ k = p) w w' ∧ (gv = 0 → ∃ y, StoreAt w' p r y ∧ y.sta = x.sta) ∧
    ∀ sure : List (List UInt8), sure.length = K8.sure.length → (∀ i, i < K8.sure.length → Took K8 i (sure.getD i [])) → Full (K8.crashed sure) →
      ∃ N' T', DG (K8.crashed sure) 0 half N' T' ∧ ((gv = 0 ∧ T' = stB x.sta ∧ N' = N + 1) ∨ (gv ≠ 0 ∧ T' = T0 ∧ N' = N) ∨ (gv = 210 ∧ T' = stB x.sta ∧ N' = N + 1)) ∧ T'.length ≤ 64 * (half - 1)
set_option maxRecDepth 100000 in
set_option maxHeartbeats 8000000 in
theorem scommit_fit {d s M p r half N : Nat} {T0 : List UInt8} {K : Dk} {x0 : SV} {m8 : Nat} (x : SV) (w : World) (h : DiskAt w d s M m8 K) (hg : DG K 0 half N T0) (hT0 : T0.length ≤ 64 * (half - 1)) (hn0 : m8 + 80000 < 1000000) (hG : ¬ (DS d s M 2 ∨ 2 = r)) (htab : TabK w) (hT : Tab w) (hSA : StoreAt w p r x0) (hR : RecAt w r d 0 half N T0 false) (hX : ∀ V, Fr (fun k => DS d s M k ∨ k = r) w V → SAt V x) (hm : SM x) (hq : mayS fnameL pathL x.sta = true)
    (h2 : 2 ≤ half) (hhb : half ≤ 1000) (hN : N < 255) (hl : (stB x.sta).length ≤ 64 * (half - 1) ∧ (stB x.sta).length ≤ 100000) :
    Calls Tryz.prog 20 #[.pointer (some ⟨p, 0, none⟩), x.v] w fun e w' => SFPost d s M p r half N T0 x K w e w' := by
  have HE := Lib.hid (fun V (hV : Below w.heap.size w V) => encode_yes x V (hX V (Fr.of_below hV)) hm (hT.below hV) hq (by omega))
  have HRM := Lib.hid (fun V (hV : Below w.heap.size w V) => sroom_any V (hSA.below hV) (hR.below hV) (by omega) (by omega))
  have HXX := Lib.hid hX
  have HSMX := Lib.hid hm
  have HMY := Lib.hid hq
  have HTT := Lib.hid hT
  have HTB := Lib.hid htab
  have HS0 := Lib.hid hSA
  have HR0 := Lib.hid hR
  have HDK := Lib.hid (And.intro h hG)
  have HLL := Lib.hid hl
  have hDSl : ∀ k, DS d s M k ∨ k = r → k < w.heap.size := fun k e => by
    obtain ⟨l1, l2, l3⟩ := h.lt
    obtain ⟨_, hbr⟩ := hR.blk
    rcases e with (rfl | rfl | rfl) | rfl
    · exact l1
    · exact l2
    · exact l3
    · exact hbr.lt
  have HLT := Lib.hid hDSl
  obtain ⟨L, hL⟩ : ∃ L, L = stB x.sta := ⟨_, rfl⟩
  obtain ⟨n, hn⟩ : ∃ n, n = L.length := ⟨_, rfl⟩
  rw [← hL, ← hn] at hl
  rw [← hL] at HE
  have HN := Lib.hid hn.symm
  have HLQ := Lib.hid hL
  have HCL := Lib.hid (fun V (hV : SAt V x) (h2 : Tab V) => sclone_any x V hV HSMX.out h2 HMY.out (by rw [← HLQ.out, HN.out]; omega))
  unfold ClonePost at HCL
  obtain ⟨a0, n0, c0, a1, n1, c1, a2, n2, c2, a3, n3, c3, a4, n4, c4, hsv, -⟩ := x.five
  rw [hsv] at HE HCL ⊢
  clear hsv hX hm hT hq hL hn hSA hR htab hDSl h
  have HA : Hid (Below w.heap.size w (w.alloc (.cells #[.slice a0 n0 c0, .slice a1 n1 c1, .slice a2 n2 c2, .slice a3 n3 c3, .slice a4 n4 c4] 25))) := Lib.hid ((Below.refl _ _).alloc (Nat.le_refl _) _)
  have HBX : Hid (Blk (w.alloc (.cells #[.slice a0 n0 c0, .slice a1 n1 c1, .slice a2 n2 c2, .slice a3 n3 c3, .slice a4 n4 c4] 25)) w.heap.size 25 #[.slice a0 n0 c0, .slice a1 n1 c1, .slice a2 n2 c2, .slice a3 n3 c3, .slice a4 n4 c4]) := Lib.hid (Blk.new _ _ _)
  have q1 : decide (64 * ((half : Int) - 1) < (n : Int)) = false := by rw [decide_eq_false_iff_not]; omega
  go_enter Tryz.func20, Tryz.ntmps20
  go_wp2_with fail
  refine (HE.out _ HA.out).mono ?_
  rintro e w1 ⟨v, rfl, hv, hb1⟩
  obtain ⟨A1, k1, rfl, hk1, hk2, hr1, _⟩ := hv.shape_n HN.out
  have HB1 : Hid (Below w.heap.size w w1) := Lib.hid (HA.out.trans (hb1.mono HA.out.size))
  have HBX1 := Lib.hid (HBX.out.below hb1 HBX.out.lt)
  have hk3 : k1 ≤ 9223372036854775807 := by unfold maxLen at hk2; omega
  have HRC := Lib.hid (rcommit_fit A1 n k1 L w1 (HDK.out.1.below HB1.out) hg (TabK.below HTB.out HB1.out) (HR0.out.below HB1.out) hr1 HN.out hk1 hk3 hN hn0 (by omega) hT0 (by omega))
  have p0 := (HS0.out.below HB1.out).blk.cell 0
  simp only [storeV, List.getElem?_toArray, List.getElem?_cons_zero] at p0
  clear hb1 hv hr1 hk2 HBX
  go_wp2_with fail
  refine (HRM.out _ HB1.out).mono ?_
  rintro e w' ⟨rfl, hww⟩
  rw [hww]
  clear hww
  go_wp2_with fail
  refine HRC.out.mono ?_
  rintro e w2 ⟨gv, K8, n8, hgv0, hlen8, rfl, hD8, hf2, hfin⟩
  have HG0 := Lib.hid hgv0
  have HLE8 := Lib.hid hlen8
  clear hgv0 hlen8
  have HDA1 : Hid (DiskAt w1 d s M m8 K) := Lib.hid (HDK.out.1.below HB1.out)
  have HFW : Hid (Fr (fun k => DS d s M k ∨ k = r) w w2) := Lib.hid ((Fr.of_below HB1.out).trans hf2)
  have HBX2 := Lib.hid (HBX1.out.fr hf2 (fun e => by have := HLT.out _ e; omega))
  have HNB1 : Hid (∀ k, (DS d s M k ∨ k = r) → NoBF w1 k) := Lib.hid (fun k e => e.elim (HDA1.out.noBF k) (fun e => by subst e; exact (HR0.out.below HB1.out).noBF))
  have HP2 : Hid (Blk w2 p 89 (storeV r x0)) := Lib.hid ((HS0.out.below HB1.out).blk.fr hf2 (fun e => e.elim (fun e => HDA1.out.notT (HS0.out.below HB1.out).blk (by decide) (by decide) e) (fun e => by obtain ⟨_, hb⟩ := (HR0.out.below HB1.out).blk; exact (HS0.out.below HB1.out).blk.ne_ hb (by decide) e)))
  have HT2 : Hid (Tab w2) := Lib.hid (HTT.out.frT HFW.out (fun k e => HLT.out k e) (HDK.out.2))
  have HD8 := Lib.hid hD8
  have HFI := Lib.hid hfin
  clear hD8 hf2 hfin
  by_cases hgv : gv = 0
  · have hg0 : (gv != 0) = false := by rw [hgv]; rfl
    have HGV := Lib.hid hgv
    clear hgv
    have b0' := HBX2.out.cell 0
    have b1' := HBX2.out.cell 1
    have b2' := HBX2.out.cell 2
    have b3' := HBX2.out.cell 3
    have b4' := HBX2.out.cell 4
    simp only [List.getElem?_toArray, List.getElem?_cons_zero, List.getElem?_cons_succ] at b0' b1' b2' b3' b4'
    have HCC := Lib.hid (HCL.out w2 (HXX.out w2 HFW.out) HT2.out)
    clear p0
    go_wp2_with fail
    refine HCC.out.mono ?_
    rintro e w3 ⟨y, rfl, hy, hty, hsm, hb3⟩
    have HP3 := Lib.hid (HP2.out.below hb3 HP2.out.lt)
    have HY := Lib.hid hy
    have HTY := Lib.hid hty
    have HSM := Lib.hid hsm
    have HB3 := Lib.hid hb3
    obtain ⟨b0, m0, d0, b1, m1, d1, b2, m2, d2, b3, m3, d3, b4, m4, d4, hyv, hys⟩ := storeV_five r y
    have HYS := Lib.hid hys
    rw [hyv]
    clear hy hty hsm hb3 hyv hys b0' b1' b2' b3' b4'
    obtain ⟨u0, v0, t0, u1, v1, t1, u2, v2, t2, u3, v3, t3, u4, v4, t4, -, hx0⟩ := storeV_five r x0
    rw [hx0] at HP3
    have q1' := HP3.out.cell 1
    have q2 := HP3.out.cell 2
    have q3 := HP3.out.cell 3
    have q4 := HP3.out.cell 4
    have q5 := HP3.out.cell 5
    have z1 := HP3.out.frozen 1
    have z2 := HP3.out.frozen 2
    have z3 := HP3.out.frozen 3
    have z4 := HP3.out.frozen 4
    have z5 := HP3.out.frozen 5
    simp only [List.getElem?_toArray, List.getElem?_cons_zero, List.getElem?_cons_succ] at q1' q2 q3 q4 q5
    clear hx0
    go_wp2
    have HF : Hid (Blk (((((w3.setCell ⟨p, 1, none⟩ (.slice b0 m0 d0)).setCell ⟨p, 2, none⟩ (.slice b1 m1 d1)).setCell ⟨p, 3, none⟩ (.slice b2 m2 d2)).setCell ⟨p, 4, none⟩ (.slice b3 m3 d3)).setCell ⟨p, 5, none⟩ (.slice b4 m4 d4)) p 89 (storeV r y)) := Lib.hid (by rw [HYS.out]; exact (((((HP3.out.set_ 1 (.slice b0 m0 d0)).set_ 2 (.slice b1 m1 d1)).set_ 3 (.slice b2 m2 d2)).set_ 4 (.slice b3 m3 d3)).set_ 5 (.slice b4 m4 d4)))
    have HFR : Hid (Fr (· = p) w3 (((((w3.setCell ⟨p, 1, none⟩ (.slice b0 m0 d0)).setCell ⟨p, 2, none⟩ (.slice b1 m1 d1)).setCell ⟨p, 3, none⟩ (.slice b2 m2 d2)).setCell ⟨p, 4, none⟩ (.slice b3 m3 d3)).setCell ⟨p, 5, none⟩ (.slice b4 m4 d4))) := Lib.hid ((((((Fr.refl (· = p) w3).setCell (p := ⟨p, 1, none⟩) (fun _ => rfl) (.slice b0 m0 d0)).setCell (p := ⟨p, 2, none⟩) (fun _ => rfl) (.slice b1 m1 d1)).setCell (p := ⟨p, 3, none⟩) (fun _ => rfl) (.slice b2 m2 d2)).setCell (p := ⟨p, 4, none⟩) (fun _ => rfl) (.slice b3 m3 d3)).setCell (p := ⟨p, 5, none⟩) (fun _ => rfl) (.slice b4 m4 d4))
    generalize (((((w3.setCell ⟨p, 1, none⟩ (.slice b0 m0 d0)).setCell ⟨p, 2, none⟩ (.slice b1 m1 d1)).setCell ⟨p, 3, none⟩ (.slice b2 m2 d2)).setCell ⟨p, 4, none⟩ (.slice b3 m3 d3)).setCell ⟨p, 5, none⟩ (.slice b4 m4 d4)) = Wf at HF HFR ⊢
    have HTF : Hid (STy Wf y) := Lib.hid (HTY.out.fr HFR.out (fun g e => by subst e; exact NoBF.of_blk HP3.out (by decide) (by decide)))
    have HSF : Hid (StoreAt Wf p r y) := Lib.hid ⟨HF.out, HTF.out, HSM.out, by rw [HY.out]; exact HMY.out, by rw [HY.out]; exact HLL.out.2⟩
    have HFA : Hid (Fr (fun k => DS d s M k ∨ k = r ∨ k = p) w Wf) := Lib.hid (((HFW.out.mono (T := fun k => DS d s M k ∨ k = r ∨ k = p) (fun k _ e => e.imp id .inl)).below HB3.out).trans_new HFR.out (fun j _ e => .inr (.inr e)))
    have HNP : Hid (∀ g, g = p → g < w3.heap.size → NoBy w3 g) := Lib.hid (fun g e _ => by subst e; exact NoBy.of_blk HP3.out (by have := storeV_noBy r x0; exact noby6 _ _ _ _ _ _ _ _ _ _ _ _ _ _ _ _))
    have HRET : Hid (SFPost d s M p r half N T0 x K w (.returned (.int .i64 0)) Wf) := Lib.hid (by
      have hpn : ∀ k, DS d s M k → ¬ k = p := fun k hk e => by subst e; exact HD8.out.notT HP2.out (by decide) (by decide) hk
      refine ⟨0, K8, n8, .inl rfl, HLE8.out, rfl, (HD8.out.below HB3.out).fr HFR.out hpn HNP.out, HFA.out, fun _ => ⟨y, HSF.out, HY.out⟩, fun sure a b c => ?_⟩
      have h9 := HFI.out sure a b c
      rw [HGV.out, HLQ.out] at h9
      exact h9)
    go_ret
    exact HRET.out
  · have hg0 : (gv != 0) = true := by rw [bne_iff_ne]; exact hgv
    have HRET : Hid (SFPost d s M p r half N T0 x K w (.returned (.int .i64 gv)) w2) := Lib.hid (by
      refine ⟨gv, K8, n8, HG0.out, HLE8.out, rfl, HD8.out, HFW.out.mono (fun k _ e => e.imp id .inl), fun e => absurd e hgv, fun sure a b c => ?_⟩
      have h9 := HFI.out sure a b c
      rw [HLQ.out] at h9
      exact h9)
    clear hgv
    go_wp2
    go_ret
    exact HRET.out
end Go.Proofs.YtgpcinfhcamgpaaGreatDoor
