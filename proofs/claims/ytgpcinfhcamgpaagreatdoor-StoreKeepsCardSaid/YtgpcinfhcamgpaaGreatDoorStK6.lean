/-
  StoreKeeps, a round: whether it is looked at, and what is wanted.
-/
import Derived.Test.YtgpcinfhcamgpaaGreatDoorStK5
import Derived.Test.YtgpcinfhcamgpaaGreatDoorStE4
namespace Go.Proofs.YtgpcinfhcamgpaaGreatDoor
open Go.RowKit Glob
attribute [local go_sem ↓] Go.wp_at_zero Go.wp_at_succ
set_option linter.unusedVariables false
set_option linter.unusedSimpArgs false

set_option maxRecDepth 100000 in
set_option maxHeartbeats 16000000 in
theorem keeps_body (W : World) (d s M p r g half nd N k nl c b oo : Nat) (T : List UInt8) (st : Sta) (xw : SV) (op : OpS) (u : Nat → Value) (wr : World) (Q : Exit → Act → World → Prop) (hQP : ∀ (c : List PanicEntry) (a a' : Act) (w : World), Q (.panic c) a w → Q (.panic c) a' w) (hu0 : u 0 = .int .i64 (nd : Int)) (hu1 : u 1 = .slice (some ⟨b, oo, none⟩) nl c) (hu5 : u 5 = .pointer (some ⟨d, 0, none⟩)) (hu7 : u 7 = .pointer (some ⟨p, 0, none⟩)) (hu9 : u 9 = .pointer (some ⟨g, 0, none⟩)) (hu10 : u 10 = .int .i64 (k : Int))
    (hk : k < nl) (hnl : nl ≤ 9223372036854775807) (hK : TabK W) (hT : Tab W) (hKW : KW W d s M p r g half nd N T st xw wr) (h4 : 4 ≤ nd) (h60 : nd ≤ 60) (hhalf : nd / 2 = half) (hop : OpSAt W W.heap.size b (oo + k * 8) op) (hgd : W.heap.size ≤ d ∧ W.heap.size ≤ s) (hN : N < 255)
    (hQ : NextK W d s g half nd N k (.int .i64 (nd : Int)) (.slice (some ⟨b, oo, none⟩) nl c) Q) (hX : NextK W d s g half nd N k (.int .i64 (nd : Int)) (.slice (some ⟨b, oo, none⟩) nl c) (fun _ a w => Q (.exit 1) a w)) :
    Code.wp Tryz.prog kBody Q (kAct u) wr := by
  have HKM : Hid (∀ (w8 : World) (a : Act), a.tmps.size = 210 → a.defers = [] → a.tmps.getD 0 undef = .int .i64 (nd : Int) → a.tmps.getD 1 undef = .slice (some ⟨b, oo, none⟩) nl c → a.tmps.getD 5 undef = .pointer (some ⟨d, 0, none⟩) → a.tmps.getD 7 undef = .pointer (some ⟨p, 0, none⟩) → a.tmps.getD 9 undef = .pointer (some ⟨g, 0, none⟩) → a.tmps.getD 10 undef = .int .i64 (k : Int) → a.tmps.getD 11 undef = .int .i64 (wantC half op.x.sta) →
      op.l.length ≤ 70 → SSm op.x → Below wr.heap.size wr w8 → Code.wp Tryz.prog kMid Q a w8) := by
    refine Lib.hid ?_
    intro w8 a hs hd h0 h1 h5 h7 h9 h10 h11 hol hss hb
    obtain ⟨v, hv, rfl⟩ := kact_lit a hs hd
    exact keeps_mid W d s M p r g half nd N k nl c b oo T st xw op v w8 Q hQP ((hv 1).symm.trans h1) ((hv 5).symm.trans h5) ((hv 7).symm.trans h7) ((hv 9).symm.trans h9) ((hv 10).symm.trans h10) ((hv 11).symm.trans h11) hk hnl hK hT (hKW.below hb) h4 h60 hhalf hop hol hss hgd hN (by rw [← hv 0, h0]; exact hQ)
  have HXX : Hid (∀ (w8 : World) (a : Act), a.tmps.size = 210 → a.defers = [] → a.tmps.getD 0 undef = .int .i64 (nd : Int) → a.tmps.getD 1 undef = .slice (some ⟨b, oo, none⟩) nl c → a.tmps.getD 5 undef = .pointer (some ⟨d, 0, none⟩) → a.tmps.getD 7 undef = .pointer (some ⟨p, 0, none⟩) → a.tmps.getD 9 undef = .pointer (some ⟨g, 0, none⟩) → a.tmps.getD 10 undef = .int .i64 (k : Int) →
      Below wr.heap.size wr w8 → Q (.exit 1) a w8) :=
    Lib.hid (fun w8 a hs hd h0 h1 h5 h7 h9 h10 hb => hX a w8 M p r N T st xw hs hd h0 h1 h5 h7 h9 h10 (hKW.below hb) (by omega))
  have HOP := Lib.hid (fun V (hV : Below W.heap.size W V) => OpSAt.below hop hV)
  have HB := Lib.hid hKW.bel
  have HNN := Lib.hid (And.intro h4 (And.intro h60 hhalf))
  have HBD := Lib.hid hop.bd
  obtain ⟨nk, hnk⟩ : ∃ nk, nk = op.l.length := ⟨_, rfl⟩
  have HNK : Hid (op.l.length = nk) := Lib.hid hnk.symm
  obtain ⟨q, hq⟩ : ∃ q, q = mayS fnameL pathL op.x.sta := ⟨_, rfl⟩
  have HQQ : Hid (mayS fnameL pathL op.x.sta = q) := Lib.hid hq.symm
  obtain ⟨o0, on0, oc0, o1, on1, oc1, o2, on2, oc2, o3, on3, oc3, o4, on4, oc4, hov, hoc⟩ := op.x.five
  have HOV := Lib.hid hov
  have HOX : Hid (∀ V, Below W.heap.size W V → V.cell? ⟨b, oo + k * 8, none⟩ = some (.slice o0 on0 oc0) ∧ V.cell? ⟨b, oo + k * 8 + 1, none⟩ = some (.slice o1 on1 oc1) ∧ V.cell? ⟨b, oo + k * 8 + 2, none⟩ = some (.slice o2 on2 oc2) ∧ V.cell? ⟨b, oo + k * 8 + 3, none⟩ = some (.slice o3 on3 oc3) ∧ V.cell? ⟨b, oo + k * 8 + 4, none⟩ = some (.slice o4 on4 oc4) ∧ V.cell? ⟨b, oo + k * 8 + 7, none⟩ = some (.slice op.Ak nk op.ck)) := Lib.hid (fun V hV => by
    have h := (HOP.out V hV).st
    have h7 := (HOP.out V hV).l
    rw [hoc] at h
    rw [← hnk] at h7
    exact ⟨h 0 (by omega), h 1 (by omega), h 2 (by omega), h 3 (by omega), h 4 (by omega), h7⟩)
  have HT := Lib.hid hT
  have hki : (k : Int) < (nl : Int) := by omega
  have hk0 : (0 : Int) ≤ (k : Int) := by omega
  have hLG := large_any op.x wr (HOP.out wr HB.out).at_ HBD.out
  unfold LgPost at hLG
  rw [HOV.out] at hLG
  have HLG := Lib.hid hLG
  obtain ⟨q0, q1, q2, q3, q4, q7⟩ := HOX.out wr HB.out
  have hdv : Int.tdiv (nd : Int) 2 = (half : Int) := by rw [← hhalf]; rfl
  have HDV := Lib.hid hdv
  have hwh : (half : Int) ≤ 30 ∧ 2 ≤ (half : Int) := by omega
  have HWH := Lib.hid hwh
  clear hK hT hKW h4 h60 hhalf hop hgd hN hQ hX hQP hnk hov hoc hLG hdv hwh hq
  rw [show kBody = (partC [0] kBody).seq ((partC [1, 0] kBody).seq ((partC [1, 1, 0] kBody).seq kMid)) from rfl]
  generalize kMid = KM at HKM ⊢
  conv => arg 2; arg 1; whnf
  conv => arg 2; arg 2; arg 1; whnf
  conv => arg 2; arg 2; arg 2; arg 1; whnf
  unfold kAct
  rw [hu0, hu1, hu5, hu7, hu9, hu10]
  clear hu0 hu1 hu5 hu7 hu9 hu10
  go_wp2_with fail
  refine HLG.out.mono ?_
  rintro e w1 ⟨bl, rfl, hb1, hbl⟩
  have HB1 := Lib.hid hb1
  have HBl := Lib.hid hbl
  have HBW : Hid (Below W.heap.size W w1) := Lib.hid (HB.out.trans (hb1.mono HB.out.size))
  clear hb1 hbl q0 q1 q2 q3 q4 q7 HLG
  obtain ⟨q0, q1, q2, q3, q4, q7⟩ := HOX.out w1 HBW.out
  cases bl with
  | true =>
    go_wp2
    exact HXX.out _ _ rfl rfl rfl rfl rfl rfl rfl rfl HB1.out
  | false =>
    have HSS : Hid (SSm op.x) := Lib.hid (HBl.out rfl)
    by_cases hlk : 70 < nk
    · have t1 : decide (70 < (nk : Int)) = true := by rw [decide_eq_true_iff]; omega
      have t2 : decide (70 < nk) = true := by rw [decide_eq_true_iff]; omega
      clear hlk
      go_wp2
      exact HXX.out _ _ rfl rfl rfl rfl rfl rfl rfl rfl HB1.out
    · have t1 : decide (70 < (nk : Int)) = false := by rw [decide_eq_false_iff_not]; omega
      have t2 : decide (70 < nk) = false := by rw [decide_eq_false_iff_not]; omega
      have HLE : Hid (op.l.length ≤ 70) := Lib.hid (by rw [HNK.out]; omega)
      have hMY := rmay_any op.x w1 (HOP.out w1 HBW.out).at_ HSS.out.m
      rw [HOV.out, HQQ.out] at hMY
      have HMY := Lib.hid hMY
      clear hlk hMY
      go_wp2_with fail
      refine HMY.out.mono ?_
      rintro e w2 ⟨rfl, hb2⟩
      have HB2 : Hid (Below wr.heap.size wr w2) := Lib.hid (HB1.out.trans (hb2.mono HB1.out.size))
      have HBW2 : Hid (Below W.heap.size W w2) := Lib.hid (HB.out.trans (HB2.out.mono HB.out.size))
      clear hb2 q0 q1 q2 q3 q4 q7 HMY HB1 HBW t1 t2
      obtain ⟨q0, q1, q2, q3, q4, q7⟩ := HOX.out w2 HBW2.out
      cases q with
      | false =>
        have HWC : Hid (wantC half op.x.sta = 1) := Lib.hid (by unfold wantC; rw [HQQ.out]; simp)
        go_wp2
        exact HKM.out _ _ rfl rfl rfl rfl rfl rfl rfl rfl (by rw [HWC.out]; rfl) HLE.out HSS.out HB2.out
      | true =>
        have hEN := rencode_any op.x w2 (HOP.out w2 HBW2.out).at_ HSS.out.m HQQ.out (by have := HSS.out.l; omega)
        rw [HOV.out] at hEN
        have HEN := Lib.hid hEN
        clear hEN
        go_wp2_with fail
        refine HEN.out.mono ?_
        rintro e w3 ⟨v, rfl, hv, hb3⟩
        obtain ⟨nb, hnb⟩ : ∃ nb, nb = (stB op.x.sta).length := ⟨_, rfl⟩
        obtain ⟨A1, k1, rfl, hk1, hk2, hr1, _⟩ := hv.shape_n hnb.symm
        have HNB := Lib.hid hnb
        have HB3 : Hid (Below wr.heap.size wr w3) := Lib.hid (HB2.out.trans (hb3.mono HB2.out.size))
        have e1 := HDV.out
        have hbb : (nb : Int) ≤ 100000 := by have := HSS.out.l; omega
        obtain ⟨hwh1, hwh2⟩ := HWH.out
        clear hb3 hv hr1 hnb HEN
        by_cases hlt : 64 * (half - 1) < nb
        · have t1 : decide (64 * ((half : Int) - 1) < (nb : Int)) = true := by rw [decide_eq_true_iff]; have := HWH.out; omega
          have HWC : Hid (wantC half op.x.sta = 2) := Lib.hid (by unfold wantC; rw [HQQ.out, if_pos rfl, ← HNB.out, if_pos hlt])
          clear hlt hbb
          go_wp2
          exact HKM.out _ _ rfl rfl rfl rfl rfl rfl rfl rfl (by rw [HWC.out]; rfl) HLE.out HSS.out HB3.out
        · have t1 : decide (64 * ((half : Int) - 1) < (nb : Int)) = false := by rw [decide_eq_false_iff_not]; have := HWH.out; omega
          have HWC : Hid (wantC half op.x.sta = 0) := Lib.hid (by unfold wantC; rw [HQQ.out, if_pos rfl, ← HNB.out, if_neg hlt])
          clear hlt hbb
          go_wp2
          exact HKM.out _ _ rfl rfl rfl rfl rfl rfl rfl rfl (by rw [HWC.out]; rfl) HLE.out HSS.out HB3.out
end Go.Proofs.YtgpcinfhcamgpaaGreatDoor
