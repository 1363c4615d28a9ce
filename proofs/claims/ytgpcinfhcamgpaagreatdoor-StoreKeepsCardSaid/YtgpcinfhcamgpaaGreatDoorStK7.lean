/-
  StoreKeeps: the loop over what happens.
-/
import Derived.Test.YtgpcinfhcamgpaaGreatDoorStK6
namespace Go.Proofs.YtgpcinfhcamgpaaGreatDoor
open Go.RowKit Glob
attribute [local go_sem ↓] Go.wp_at_zero Go.wp_at_succ
set_option linter.unusedVariables false
set_option linter.unusedSimpArgs false

noncomputable def kLp : Code := partC [1, 1, 1, 1, 1] kTail
/-- what the loop keeps, with its frame -/
def KI (W : World) (d s g half nd : Nat) (v0 v1 : Value) (k : Nat) (a : Act) (w : World) : Prop :=
  a.tmps.size = 210 ∧ a.defers = [] ∧ a.tmps.getD 0 undef = v0 ∧ a.tmps.getD 1 undef = v1 ∧ a.tmps.getD 5 undef = .pointer (some ⟨d, 0, none⟩) ∧ a.tmps.getD 9 undef = .pointer (some ⟨g, 0, none⟩) ∧ a.tmps.getD 10 undef = .int .i64 (k : Int) ∧ k ≤ 10 ∧
    ∃ (M p r N : Nat) (T : List UInt8) (st : Sta) (xw : SV), a.tmps.getD 7 undef = .pointer (some ⟨p, 0, none⟩) ∧ N ≤ k ∧ KW W d s M p r g half nd N T st xw w
def muK (a : Act) (_ : World) : Nat := 10 - (intOf (a.tmps.getD 10 undef)).toNat
set_option maxRecDepth 100000 in
set_option maxHeartbeats 16000000 in
theorem keeps_loop (W : World) (d s g half nd nl c : Nat) (A : Option Addr) (M p r : Nat) (st : Sta) (T : List UInt8) (xw : SV) (u : Nat → Value) (wr : World) (hu0 : u 0 = .int .i64 (nd : Int)) (hu1 : u 1 = .slice A nl c) (hu5 : u 5 = .pointer (some ⟨d, 0, none⟩)) (hu7 : u 7 = .pointer (some ⟨p, 0, none⟩)) (hu9 : u 9 = .pointer (some ⟨g, 0, none⟩))
    (hnl : nl ≤ 140737488351232) (hK : TabK W) (hT : Tab W) (hKW : KW W d s M p r g half nd 0 T st xw wr) (h4 : 4 ≤ nd) (h60 : nd ≤ 60) (hhalf : nd / 2 = half) (hops : ∀ i, i < nl → ∃ b o op, A = some ⟨b, o, none⟩ ∧ OpSAt W W.heap.size b (o + i * 8) op) (hgd : W.heap.size ≤ d ∧ W.heap.size ≤ s) :
    Code.wp Tryz.prog kLp (bodyPost Tryz.prog Tryz.f6 (KPostR W)) (kAct u) wr := by
  have HBO : Hid (∀ (k N M p r : Nat) (T : List UInt8) (st : Sta) (xw : SV) (a : Act) (w2 : World) (Q : Exit → Act → World → Prop), (∀ (c : List PanicEntry) (a a' : Act) (w : World), Q (.panic c) a w → Q (.panic c) a' w) → k < nl → N < 255 → a.tmps.size = 210 → a.defers = [] → a.tmps.getD 0 undef = .int .i64 (nd : Int) → a.tmps.getD 1 undef = .slice A nl c → a.tmps.getD 5 undef = .pointer (some ⟨d, 0, none⟩) → a.tmps.getD 7 undef = .pointer (some ⟨p, 0, none⟩) → a.tmps.getD 9 undef = .pointer (some ⟨g, 0, none⟩) → a.tmps.getD 10 undef = .int .i64 (k : Int) → KW W d s M p r g half nd N T st xw w2 →
      NextK W d s g half nd N k (.int .i64 (nd : Int)) (.slice A nl c) Q → NextK W d s g half nd N k (.int .i64 (nd : Int)) (.slice A nl c) (fun _ a w => Q (.exit 1) a w) → Code.wp Tryz.prog kBody Q a w2) := by
    refine Lib.hid ?_
    intro k N M p r T st xw a w2 Q hqp hk hN hs hd h0 h1 h5 h7 h9 h10 hkw hq hx
    obtain ⟨v, hv, rfl⟩ := kact_lit a hs hd
    obtain ⟨b, o, op, rfl, hop⟩ := hops k hk
    exact keeps_body W d s M p r g half nd N k nl c b o T st xw op v w2 Q hqp ((hv 0).symm.trans h0) ((hv 1).symm.trans h1) ((hv 5).symm.trans h5) ((hv 7).symm.trans h7) ((hv 9).symm.trans h9) ((hv 10).symm.trans h10) hk (by omega) hK hT hkw h4 h60 hhalf hop hgd hN hq hx
  have HKW := Lib.hid hKW
  have hnl0 : (0 : Int) ≤ (nl : Int) := by omega
  have hnl1 : (nl : Int) ≤ 140737488351232 := by omega
  clear hK hT hKW h4 h60 hhalf hops hgd
  rw [show kLp = ((partC [0, 0] kLp).seq (.block 0 (.loop ((partC [0, 1, 2, 3, 0] kLp).seq ((Code.block 1 kBody).seq (partC [0, 1, 2, 3, 1, 1] kLp)))))).seq (partC [1] kLp) from rfl]
  generalize kBody = KB at HBO ⊢
  refine wp_seq ?_
  obtain ⟨BL, hBL⟩ : ∃ BL, BL = Code.block 0 (.loop ((partC [0, 1, 2, 3, 0] kLp).seq ((Code.block 1 KB).seq (partC [0, 1, 2, 3, 1, 1] kLp)))) := ⟨_, rfl⟩
  rw [← hBL]
  obtain ⟨QE, hQE⟩ : ∃ QE, QE = (Exit.then (Code.wp Tryz.prog (partC [1] kLp) (bodyPost Tryz.prog Tryz.f6 (KPostR W))) (bodyPost Tryz.prog Tryz.f6 (KPostR W))) := ⟨_, rfl⟩
  rw [← hQE]
  have HQE := Lib.hid hQE
  have HBL := Lib.hid hBL
  clear hQE hBL
  conv => arg 2; arg 1; whnf
  unfold kAct
  rw [hu0, hu1, hu5, hu7, hu9]
  clear hu0 hu1 hu5 hu7 hu9
  go_wp2_with fail
  rw [HBL.out]
  clear HBL
  refine wp_block ?_
  refine wp_loop (fun a w => ∃ k, KI W d s g half nd (.int .i64 (nd : Int)) (.slice A nl c) k a w) muK ⟨0, rfl, rfl, rfl, rfl, rfl, rfl, rfl, by omega, M, p, r, 0, T, st, xw, rfl, Nat.le_refl _, HKW.out⟩ ?_
  clear HKW
  intro a wr2 hI
  obtain ⟨k, hs, hd, h0, h1, h5, h9, h10, hk10, M2, p2, r2, N2, T2, st2, xw2, h7, hN2, hkw⟩ := hI
  obtain ⟨v, hv, rfl⟩ := kact_lit a hs hd
  rw [hv] at h0 h1 h5 h7 h9 h10
  have HKW2 := Lib.hid hkw
  have HNK := Lib.hid (And.intro hN2 hk10)
  have hmu : muK (kAct v) wr2 = 10 - k := by
    show 10 - (intOf (v 10)).toNat = _
    rw [h10]
    simp [intOf]
  rw [hmu]
  refine (?_ : ∀ QI, QI = _ → Code.wp _ _ QI _ _) _ rfl
  intro QI hQI
  have HPI : Hid (∀ (c : List PanicEntry) (a a' : Act) (w : World), QI (.panic c) a w → QI (.panic c) a' w) := Lib.hid (by
    rw [hQI, HQE.out]
    exact fun c a a' w h => absurd (show Ending.panicked c = .returned (.bool true) from h.2.1) (by intro e; cases e))
  have HOUT : Hid (∀ a w, QE .normal a w → QI (.exit 0) a w) := Lib.hid (by
    rw [hQI]
    exact fun a w h => h)
  have HNX : Hid (∀ a w, (∃ k', KI W d s g half nd (.int .i64 (nd : Int)) (.slice A nl c) k' a w ∧ 10 - k' < 10 - k) → QI .normal a w) := Lib.hid (by
    rw [hQI]
    rintro a w ⟨k', h1, h2⟩
    refine ⟨⟨k', h1⟩, ?_⟩
    show 10 - (intOf (a.tmps.getD 10 undef)).toNat < 10 - k
    rw [h1.2.2.2.2.2.2.1]
    simpa [intOf] using h2)
  clear hQI
  refine wp_seq ?_
  refine (?_ : ∀ Q2, Q2 = _ → Code.wp _ _ Q2 _ _) _ rfl
  intro Q2 hQ2
  have HQ2 := Lib.hid hQ2
  clear hQ2
  conv => arg 2; whnf
  unfold kAct
  rw [h0, h1, h5, h7, h9, h10]
  clear hs hd hv h0 h1 h5 h7 h9 h10 hkw hN2 hmu
  have HDONE : Hid (∀ a : Act, a.tmps.size = 210 → a.defers = [] → Q2 (.exit 0) a wr2) := Lib.hid (by
    intro a hs hd
    rw [HQ2.out]
    refine HOUT.out _ _ ?_
    rw [HQE.out]
    show Code.wp Tryz.prog (partC [1] kLp) (bodyPost Tryz.prog Tryz.f6 (KPostR W)) a wr2
    obtain ⟨v2, hv2, rfl⟩ := kact_lit a hs hd
    have HPOST : Hid (KPostR W (.returned (.bool true)) wr2) := Lib.hid ⟨rfl, HKW2.out.bel⟩
    clear hv2 hs hd
    conv => arg 2; whnf
    unfold kAct
    go_wp2
    go_ret
    exact HPOST.out)
  rcases (by omega : (k < nl ∧ k < 10) ∨ nl ≤ k ∨ (k < nl ∧ 10 ≤ k)) with ⟨h5, h6⟩ | h5 | ⟨h5, h6⟩
  · have b1 : decide ((k : Int) < (nl : Int)) = true := by rw [decide_eq_true_iff]; omega
    have b1' : decide (k < nl) = true := by rw [decide_eq_true_iff]; omega
    have b2 : decide ((k : Int) < 10) = true := by rw [decide_eq_true_iff]; omega
    have b2' : decide (k < 10) = true := by rw [decide_eq_true_iff]; omega
    have HLT := Lib.hid (And.intro h5 h6)
    clear h5 h6 hk10
    go_wp2
    rw [HQ2.out]
    refine wp_seq ?_
    refine wp_block ?_
    have HRN : Hid (∀ (a : Act) (w' : World) (M' p' r' N' : Nat) (T' : List UInt8) (st' : Sta) (xw' : SV), a.tmps.size = 210 → a.defers = [] → a.tmps.getD 0 undef = .int .i64 (nd : Int) → a.tmps.getD 1 undef = .slice A nl c → a.tmps.getD 5 undef = .pointer (some ⟨d, 0, none⟩) → a.tmps.getD 7 undef = .pointer (some ⟨p', 0, none⟩) →
        a.tmps.getD 9 undef = .pointer (some ⟨g, 0, none⟩) → a.tmps.getD 10 undef = .int .i64 (k : Int) → KW W d s M' p' r' g half nd N' T' st' xw' w' → N' ≤ N2 + 1 → Code.wp Tryz.prog (partC [0, 1, 2, 3, 1, 1] kLp) QI a w') := by
      refine Lib.hid ?_
      intro a w' M' p' r' N' T' st' xw' hs hd h0 h1 h5 h7 h9 h10 hkw hle
      obtain ⟨v2, hv2, rfl⟩ := kact_lit a hs hd
      rw [hv2] at h0 h1 h5 h7 h9 h10
      have HK3 := Lib.hid hkw
      have HLE := Lib.hid hle
      clear hs hd hv2 hkw hle HKW2
      have hk9 : (k : Int) < 10 := by have := HLT.out.2; omega
      conv => arg 2; whnf
      unfold kAct
      rw [h0, h1, h5, h7, h9, h10]
      clear h0 h1 h5 h7 h9 h10
      go_wp2
      exact HNX.out _ _ ⟨k + 1, ⟨rfl, rfl, rfl, rfl, rfl, rfl, by show Value.int _ _ = _; congr 1, by have := HLT.out.2; omega, M', p', r', N', T', st', xw', rfl, by have := HLE.out; have := HNK.out.1; omega, HK3.out⟩, by have := HLT.out.2; omega⟩
    exact HBO.out k N2 M2 p2 r2 T2 st2 xw2 _ _ _ (fun c a a' w h => HPI.out c a a' w h) HLT.out.1 (by have := HNK.out; omega) rfl rfl rfl rfl rfl rfl rfl rfl HKW2.out HRN.out HRN.out
  · have b1 : decide ((k : Int) < (nl : Int)) = false := by rw [decide_eq_false_iff_not]; omega
    have b1' : decide (k < nl) = false := by rw [decide_eq_false_iff_not]; omega
    clear h5
    go_wp2
    exact HDONE.out _ rfl rfl
  · have b1 : decide ((k : Int) < (nl : Int)) = true := by rw [decide_eq_true_iff]; omega
    have b1' : decide (k < nl) = true := by rw [decide_eq_true_iff]; omega
    have b2 : decide ((k : Int) < 10) = false := by rw [decide_eq_false_iff_not]; omega
    have b2' : decide (k < 10) = false := by rw [decide_eq_false_iff_not]; omega
    clear h5 h6 hk10
    go_wp2
    exact HDONE.out _ rfl rfl
end Go.Proofs.YtgpcinfhcamgpaaGreatDoor
