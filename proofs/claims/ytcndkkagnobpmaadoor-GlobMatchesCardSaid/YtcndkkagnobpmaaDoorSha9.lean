/-
  pursuivantref02.first, Of.
-/
import Derived.Test.YtcndkkagnobpmaaDoorSha7
import Derived.Test.YtcndkkagnobpmaaDoorSha8
import Derived.Test.YtcndkkagnobpmaaDoorRefPutA
import Derived.Deep.RegionWith
namespace Go.Proofs.YtcndkkagnobpmaaDoor
open Go.RowKit
set_option linter.unusedVariables false

theorem emptyOB (w : World) (B : Nat) (hB : B ≤ w.heap.size) : OB (w.alloc (.cells #[] 5)) B (.slice (some ⟨w.heap.size, 0, none⟩) 0 0) [] := emptyRow w B hB
set_option maxRecDepth 100000 in
set_option maxHeartbeats 4000000 in
theorem first_any (w : World) : Calls Tryd.prog 84 #[] w fun e w' => e = .returned (.agg (stV startS)) ∧ Below w.heap.size w w' := by
  go_enter Tryd.func84, Tryd.ntmps84
  go_wp2
  refine bodyPost_ret (v := .agg (stV startS)) (by simp [results, Tryd.results84, go_sem]; rfl) rfl ⟨rfl, ?_⟩
  exact (Below.refl _ _).alloc (Nat.le_refl _) _
theorem noBy_st (s : St) (k : Nat) (x : Int) : (stV s)[k]? ≠ some (.int .u8 x) := by
  unfold stV
  rcases (by omega : k = 0 ∨ k = 1 ∨ k = 2 ∨ k = 3 ∨ k = 4 ∨ k = 5 ∨ k = 6 ∨ k = 7 ∨ 8 ≤ k) with rfl | rfl | rfl | rfl | rfl | rfl | rfl | rfl | h
  all_goals first | (intro h; cases h) | (rw [Array.getElem?_eq_none (by simpa using h)]; intro h; cases h)
theorem pad_stop (n z : Nat) (hz : z ≤ padZ n) : (n + 1 + z) % 64 = 56 ↔ z = padZ n := by
  unfold padZ at *; omega
theorem RB.cutAt {w : World} {A : Option Addr} {l : List UInt8} {k c : Nat} (h : RB w A l) (hk0 : 0 < k) (hk : k ≤ l.length) (hc : l.length ≤ c) : RB w (if c = k then A else Option.map (fun x => (⟨x.block, x.off + k, none⟩ : Addr)) A) (l.drop k) := by
  have := h.cut hk hc
  have e : (fun x : Addr => x.add k) = (fun x => (⟨x.block, x.off + k, none⟩ : Addr)) := by
    funext x; unfold Addr.add; rw [if_neg (by omega)]
  rw [e] at this
  exact this
set_option maxRecDepth 100000 in
set_option maxHeartbeats 4000000 in
theorem refOf_any (A : Option Addr) (n c : Nat) (T : List UInt8) (w : World) (hr : RB w A T) (hn : T.length = n) (hz : n ≤ 35184372088832) :
    Calls Tryd.prog 55 #[.slice A n c] w fun e w' => e = .returned (.agg (Lib.byteCells (shaL T)).toArray) ∧ Below w.heap.size w w' := by
  obtain ⟨Z, hZ⟩ : ∃ Z, Z = outV startS 0 := ⟨_, rfl⟩
  have hZ0 := hZ.trans (outV_zero _)
  obtain ⟨W1, hW1⟩ : ∃ W1, W1 = w.alloc (.cells #[.int .u8 0, .int .u8 0, .int .u8 0, .int .u8 0, .int .u8 0, .int .u8 0, .int .u8 0, .int .u8 0, .int .u8 0, .int .u8 0, .int .u8 0, .int .u8 0, .int .u8 0, .int .u8 0, .int .u8 0, .int .u8 0, .int .u8 0, .int .u8 0, .int .u8 0, .int .u8 0, .int .u8 0, .int .u8 0, .int .u8 0, .int .u8 0, .int .u8 0, .int .u8 0, .int .u8 0, .int .u8 0, .int .u8 0, .int .u8 0, .int .u8 0, .int .u8 0] 73) := ⟨_, rfl⟩
  have hB0 : Blk W1 w.heap.size 73 Z := by rw [hW1, hZ0]; exact Blk.new _ _ _
  have hbel1 : Below w.heap.size w W1 := by rw [hW1]; exact (Below.refl _ _).alloc (Nat.le_refl _) _
  have HB0 := Lib.hid hB0
  have HBL := Lib.hid hbel1
  have HZs : Hid (Z.size = 32) := by show _ = _; rw [hZ, outV_size]
  have HN := Lib.hid hn
  have HR := Lib.hid (hr.below hbel1)
  have hsz1 : W1.heap.size = w.heap.size + 1 := by rw [hW1]; simp
  have HSZ := Lib.hid hsz1
  have hE1 : OB (W1.alloc (.cells #[] 5)) (w.heap.size + 1) (.slice (some ⟨w.heap.size + 1, 0, none⟩) 0 0) [] := by
    have := emptyOB W1 (w.heap.size + 1) (by omega)
    rw [hsz1] at this
    exact this
  have HE1 := Lib.hid hE1
  have HRA := Lib.hid (HR.out.below ((Below.refl _ _).alloc (Nat.le_refl _) (.cells #[] 5)))
  clear hZ hZ0 hB0 hbel1 hn hr hsz1 hE1
  subst hW1
  go_enter Tryd.func55, Tryd.ntmps55
  go_wp2_with (first
    | (at_builtin; refine app_bytes _ rfl (.tmp 10) (.tmp 11) rfl (w.heap.size + 1) _ [] rfl HE1.out A n c T rfl HN.out HRA.out (by simp; omega) (by simp) ?_; intro v1 w1 ho1 hg1 _; have HO1 := Lib.hid ho1; have HG1 := Lib.hid hg1; clear ho1 hg1)
    | (at_builtin; refine app_one _ rfl (.tmp 12) (.tmp 13) rfl (w.heap.size + 1) _ _ rfl HO1.out 128 _ rfl rfl (by have := HN.out; simp; omega) (by have := HG1.out.size; simp at this; omega) ?_; intro v2 w2 ho2 hg2 _; have HO2 := Lib.hid ho2; have HG2 := Lib.hid hg2; clear ho2 hg2))
  obtain ⟨W0, hW0⟩ : ∃ W0, W0 = w.alloc (.cells #[.int .u8 0, .int .u8 0, .int .u8 0, .int .u8 0, .int .u8 0, .int .u8 0, .int .u8 0, .int .u8 0, .int .u8 0, .int .u8 0, .int .u8 0, .int .u8 0, .int .u8 0, .int .u8 0, .int .u8 0, .int .u8 0, .int .u8 0, .int .u8 0, .int .u8 0, .int .u8 0, .int .u8 0, .int .u8 0, .int .u8 0, .int .u8 0, .int .u8 0, .int .u8 0, .int .u8 0, .int .u8 0, .int .u8 0, .int .u8 0, .int .u8 0, .int .u8 0] 73) := ⟨_, rfl⟩
  rw [← hW0] at HB0 HBL HSZ HG1
  have b1 : Below (w.heap.size + 1) W0 w1 := ((Below.refl (w.heap.size + 1) W0).alloc (by rw [HSZ.out]; exact Nat.le_refl _) _).grown HG1.out (by have := HSZ.out; simp; omega) (by intro k hk; cases hk; exact Nat.le_refl _)
  have b2 : Below (w.heap.size + 1) W0 w2 := (b1.alloc (by have := b1.size; have := HSZ.out; omega) _).grown HG2.out (by have := b1.size; have := HSZ.out; simp; omega) (by intro k hk; exact HO1.out.grown_ge k hk)
  have HO20 : Hid (OB w2 (w.heap.size + 1) v2 (T ++ [128] ++ List.replicate 0 0)) := by show OB _ _ _ _; simpa using HO2.out
  have B2 := Lib.hid b2
  clear hW0 HG1 HG2 HO1 HO2 HE1 HR HRA b1 b2 
  go_loopw [3] (fun v wr => ∃ z, z ≤ padZ n ∧ Hid (OB wr (w.heap.size + 1) v (T ++ [128] ++ List.replicate z 0)) ∧ Hid (Below (w.heap.size + 1) W0 wr)) (fun v _ => n + 1 + padZ n - sliceLen v)
  case atStart => exact ⟨0, Nat.zero_le _, HO20, B2⟩
  case round =>
    obtain ⟨z, hzp, HO, HB⟩ := hrel
    clear HO20 B2
    obtain ⟨A', c', rfl, hlc, hcm, hrr, _⟩ := HO.out.shape
    have hlen : (T ++ [128] ++ List.replicate z 0).length = n + 1 + z := by have := HN.out; simp; omega
    have hps := pad_stop n z hzp
    have hpz : padZ n < 64 := by unfold padZ; omega
    obtain ⟨q, hq⟩ : ∃ q, q = n + 1 + z := ⟨_, rfl⟩
    rw [hlen, ← hq] at hlc HO ⊢
    rw [← hq] at hps
    have HLEN : Hid ((T ++ [128] ++ List.replicate z 0).length = q) := hlen.trans hq.symm
    have HRR := Lib.hid hrr
    have hqb : q ≤ 35184372088832 + 100 := by omega
    unfold maxLen at hcm
    have hszW := HB.out.size
    rw [HSZ.out] at hszW
    by_cases hstop : q % 64 = 56
    · have ne1 : ((q : Int) % 64 != 56) = false := by rw [bne_eq_false_iff_eq]; omega
      have ne2 : ((q : Int) % 64 == 56) = true := by rw [beq_iff_eq]; omega
      have hzz := hps.1 hstop
      have HQ : Hid (q + 8 = (T ++ padL n).length ∧ q ≤ 35184372088832 + 100) := ⟨by unfold padL; rw [← hzz]; have := HN.out; simp [beBytes_length]; omega, hqb⟩
      have HT : Hid (T ++ [128] ++ List.replicate z 0 ++ beBytes (8 * n) 8 = T ++ padL n) := by show _ = _; unfold padL; rw [← hzz]; simp
      clear hps hstop hq hzz hlen
      have h8 : (8 : Int) * (n : Int) = ((8 * n : Nat) : Int) := by push_cast; rfl
      have H8 := Lib.hid h8
      clear h8
      go_wp2_with fail
      rw [H8.out]
      refine (refPut_any (8 * n) 8 _ (by omega) (by omega) (by omega)).mono ?_
      rintro e w3 hpost
      have hpt : OB w3 (w.heap.size + 1) (.slice A' q c') (T ++ [128] ++ List.replicate z 0) ∧ ∃ pv, e = .returned (.tuple #[pv, .bool true]) ∧ OB w3 wr.heap.size pv (beBytes (8 * n) 8) ∧ Below wr.heap.size wr w3 := by
        rcases hpost with ⟨_, pv, he, hpv, hb3⟩ | ⟨hne, _⟩
        · exact ⟨HO.out.below hb3, pv, he, hpv, hb3⟩
        · exfalso; apply hne; apply Nat.div_eq_of_lt
          have : (256 : Nat) ^ 8 = 18446744073709551616 := by decide
          omega
      clear hpost
      obtain ⟨hO3, pv, rfl, hpv, hb3⟩ := hpt
      obtain ⟨Ap, cp, rfl, hlp, hmp, hrp, _⟩ := hpv.shape
      rw [beBytes_length] at hlp ⊢
      have HO3 := Lib.hid hO3
      have B3 := Lib.hid (HB.out.trans (hb3.mono hszW))
      have HRP := Lib.hid hrp
      have hs3 := B3.out.size
      rw [HSZ.out] at hs3
      clear hO3 hb3 hrp hpv HO HB HRR
      go_wp2_with (first
        | (at_builtin; refine app_bytes _ rfl (.tmp 29) (.tmp 30) rfl (w.heap.size + 1) _ _ rfl HO3.out Ap 8 cp (beBytes (8 * n) 8) rfl (beBytes_length _ _) HRP.out (by have := HQ.out.2; have := HLEN.out; omega) hs3 ?_; intro v4 w4 ho4 hg4 _; have HO4 := Lib.hid ho4; have B4 := Lib.hid (B3.out.grown hg4 hs3 (by intro k hk; exact HO3.out.grown_ge k hk)); clear ho4 hg4)
        | (go_at_call 84; (refine (first_any _).mono ?_); rintro e w5 ⟨rfl, hb5⟩; have HO5 := Lib.hid (HO4.out.below hb5); have B5 := Lib.hid (B4.out.trans (hb5.mono (by have h1 := B4.out.size; have h2 := HSZ.out; omega))); clear hb5; unfold stV))
      rw [HT.out] at HO5
      obtain ⟨Av, cv, rfl, hlv, hmv, hrv, _⟩ := HO5.out.shape
      obtain ⟨m, hm⟩ : ∃ m, m = (T ++ padL n).length := ⟨_, rfl⟩
      rw [← hm] at hlv ⊢
      have hmb : m ≤ 35184372088832 + 200 := by have := HQ.out; omega
      have hm64 : m % 64 = 0 := by rw [hm, List.length_append, HN.out]; exact padL_len n
      obtain ⟨L, hL⟩ : ∃ L, L = T ++ padL n := ⟨_, rfl⟩
      rw [← hL] at hm hrv HO5
      have HSHA : Hid (shaL T = sumL (eatN startS L (L.length / 64))) := by show _ = _; rw [hL, ← HN.out]; rfl
      have hs5 := B5.out.size
      rw [HSZ.out] at hs5
      have HB5 := Lib.hid ((HBL.out.trans (B5.out.mono (by omega))).alloc (by omega) (.cells (stV startS) 114))
      have HR5 := Lib.hid (hrv.below ((Below.refl w5.heap.size w5).alloc (Nat.le_refl _) (.cells (stV startS) 114)))
      have HZ5 := Lib.hid ((HB0.out.below B5.out (by omega)).alloc (.cells (stV startS) 114))
      have HG5 := Lib.hid (Blk.new w5 114 (stV startS))
      have HM := Lib.hid hm
      clear hL hm hrv HO3 HO4 HO5 B3 B4 B5 HRP HT HQ HLEN HB0 HBL hlp hmp
      unfold stV at HB5 HR5 HZ5
      obtain ⟨g, hg⟩ : ∃ g, g = w5.heap.size := ⟨_, rfl⟩
      rw [← hg] at HG5 hs5 ⊢
      clear hg
      have HG5 : Hid (Blk (w5.alloc (.cells #[.int .u32 startS.a, .int .u32 startS.b, .int .u32 startS.c, .int .u32 startS.d, .int .u32 startS.e, .int .u32 startS.f, .int .u32 startS.g, .int .u32 startS.h] 114)) g 114 (stV startS)) := HG5
      generalize w5.alloc _ = w6 at HB5 HR5 HZ5 HG5 ⊢
      go_loopw [7] (fun i wr => ∃ k : Nat, 64 * k ≤ m ∧ i = .int .i64 ((64 * k : Nat) : Int) ∧ Hid (Blk wr g 114 (stV (eatN startS L k))) ∧ Hid (RB wr Av L) ∧ Hid (Blk wr w.heap.size 73 Z) ∧ Hid (Below w.heap.size w wr)) (fun i _ => m - (intOf i).toNat)
      case atStart => exact ⟨0, Nat.zero_le _, rfl, HG5, HR5, HZ5, HB5⟩
      case round =>
        obtain ⟨k, hk, rfl, HG, HR, HZ, HB⟩ := hrel
        clear HG5 HR5 HZ5 HB5
        rcases (by omega : 64 * k < m ∨ 64 * k = m) with hlt | heq
        · obtain ⟨j, hj⟩ : ∃ j, j = 64 * k := ⟨_, rfl⟩
          have hjm : j + 64 ≤ m := by omega
          have HJ := Lib.hid hj
          rw [← hj]
          have w1' : IntKind.i64.wrap ((j : Int) + 64) = (j : Int) + 64 := IntWalk.i64_in _ (by omega)
          have w2' : IntKind.i64.wrap (j : Int) = (j : Int) := IntWalk.i64_in _ (by omega)
          unfold maxLen at hmv
          have l1 : decide ((j : Int) < (m : Int)) = true := by rw [decide_eq_true_iff]; omega
          have l2 : (j : Int) + 64 ≤ (cv : Int) := by omega
          have l3 : (j : Int) ≤ (j : Int) + 64 := by omega
          have l4 : (0 : Int) ≤ (j : Int) := by omega
          have l5 : (0 : Int) ≤ (j : Int) + 64 := by omega
          have l6 : ¬ cv = j := by omega
          have l7 : ((j : Int) + 64).toNat = j + 64 := by omega
          have l8 : j + 64 - j = 64 := by omega
          obtain ⟨q0, q1, q2, q3, q4, q5, q6, q7⟩ := st_cells HG.out
          obtain ⟨CK, hCK⟩ : ∃ CK, CK = (L.drop (64 * k)).take 64 := ⟨_, rfl⟩
          have hlenC : CK.length = 64 := by rw [hCK, List.length_take, List.length_drop]; have := HM.out; omega
          have hcut := HR.out.drew'.cut (k := j) (cap := cv) (by have := HM.out; omega) (by have := HM.out; omega)
          rw [if_neg l6] at hcut
          have hcut2 := hcut.take (k := 64) (by rw [List.length_drop]; have := HM.out; omega)
          rw [hj, ← hCK, ← hj] at hcut2
          have hsw := eatN_isW startS startS_isW L k
          obtain ⟨S, hS⟩ : ∃ S, S = eatN startS L k := ⟨_, rfl⟩
          rw [← hS] at hsw q0 q1 q2 q3 q4 q5 q6 q7 HG
          obtain ⟨S', hS'⟩ : ∃ S', S' = blockI S CK := ⟨_, rfl⟩
          have HC := refBlock_any S hsw (Option.map (fun x => x.add j) Av) (cv - j) CK wr.drew hcut2 hlenC (by omega) (by omega)
          rw [← hS'] at HC
          unfold stV at HC
          have HCH := Lib.hid HC
          have HNX : Hid (eatN startS L (k + 1) = S') := by show _ = _; rw [hS', hS, hCK]; rfl
          clear hj HC hcut hcut2 hCK hlenC hsw hS hS'
          go_wp2
          go_region_with ((go_at_call 85; refine HCH.out.mono ?_; rintro e w3 ⟨rfl, hb3⟩; have HB3 := (HG.out.drew).below hb3 HG.out.lt; obtain ⟨p0, p1, p2, p3, p4, p5, p6, p7⟩ := st_cells HB3; have f0 := HB3.frozen 0; have f1 := HB3.frozen 1; have f2 := HB3.frozen 2; have f3 := HB3.frozen 3; have f4 := HB3.frozen 4; have f5 := HB3.frozen 5; have f6 := HB3.frozen 6; have f7 := HB3.frozen 7))
          have hFr : Fr (· = g) wr ((((((((w3.setCell ⟨g, 0, none⟩ (.int .u32 S'.a)).setCell ⟨g, 1, none⟩ (.int .u32 S'.b)).setCell ⟨g, 2, none⟩ (.int .u32 S'.c)).setCell ⟨g, 3, none⟩ (.int .u32 S'.d)).setCell ⟨g, 4, none⟩ (.int .u32 S'.e)).setCell ⟨g, 5, none⟩ (.int .u32 S'.f)).setCell ⟨g, 6, none⟩ (.int .u32 S'.g)).setCell ⟨g, 7, none⟩ (.int .u32 S'.h)) :=
            ((((((((((Fr.refl (· = g) wr).drew).below hb3).setCell (fun _ => rfl) _).setCell (fun _ => rfl) _).setCell (fun _ => rfl) _).setCell (fun _ => rfl) _).setCell (fun _ => rfl) _).setCell (fun _ => rfl) _).setCell (fun _ => rfl) _).setCell (fun _ => rfl) _
          have HG4 := Lib.hid (Blk.setSt (t := S') HB3)
          have HB4 := Lib.hid (Fr.below_trans HB.out hFr HB.out.size (fun k hk => by omega))
          have HZ4 := Lib.hid (HZ.out.fr hFr (by omega))
          have HR4 := Lib.hid (HR.out.fr2 hFr (fun k hk _ => hk ▸ NoBy.of_blk HG.out (noBy_st S)))
          clear hFr HB3 p0 p1 p2 p3 p4 p5 p6 p7 f0 f1 f2 f3 f4 f5 f6 f7 hb3 q0 q1 q2 q3 q4 q5 q6 q7 HG HR HZ HB HCH
          generalize ((((((((w3.setCell ⟨g, 0, none⟩ (.int .u32 S'.a)).setCell ⟨g, 1, none⟩ (.int .u32 S'.b)).setCell ⟨g, 2, none⟩ (.int .u32 S'.c)).setCell ⟨g, 3, none⟩ (.int .u32 S'.d)).setCell ⟨g, 4, none⟩ (.int .u32 S'.e)).setCell ⟨g, 5, none⟩ (.int .u32 S'.f)).setCell ⟨g, 6, none⟩ (.int .u32 S'.g)).setCell ⟨g, 7, none⟩ (.int .u32 S'.h)) = W4 at HG4 HB4 HZ4 HR4 ⊢
          rw [← HNX.out] at HG4
          go_wp2
          have hj64 : (j : Int) + 64 = ((64 * (k + 1) : Nat) : Int) := by have := HJ.out; omega
          rw [hj64]
          go_roundw
          case rel => exact ⟨k + 1, by have := HJ.out; omega, rfl, HG4, HR4, HZ4, HB4⟩
          case measure => simp [intOf]; have := HJ.out; omega
        · have l1 : decide (((64 * k : Nat) : Int) < (m : Int)) = false := by rw [decide_eq_false_iff_not]; omega
          have hk64 : L.length / 64 = k := by rw [← HM.out]; omega
          have hsw := eatN_isW startS startS_isW L k
          obtain ⟨SS, hSS⟩ : ∃ S, S = eatN startS L k := ⟨_, rfl⟩
          have HSS : Hid (shaL T = sumL SS) := by show _ = _; rw [HSHA.out, hk64, hSS]
          rw [← hSS] at hsw HG
          have HSW := Lib.hid hsw
          have HO1 : Hid (Blk (wr.alloc (.cells #[.int .u8 0, .int .u8 0, .int .u8 0, .int .u8 0, .int .u8 0, .int .u8 0, .int .u8 0, .int .u8 0, .int .u8 0, .int .u8 0, .int .u8 0, .int .u8 0, .int .u8 0, .int .u8 0, .int .u8 0, .int .u8 0, .int .u8 0, .int .u8 0, .int .u8 0, .int .u8 0, .int .u8 0, .int .u8 0, .int .u8 0, .int .u8 0, .int .u8 0, .int .u8 0, .int .u8 0, .int .u8 0, .int .u8 0, .int .u8 0, .int .u8 0, .int .u8 0] 73)) wr.heap.size 73 (outV SS 0)) := by
            have := Blk.new wr 73 (outV SS 0)
            rw [outV_zero] at this ⊢
            exact this
          have HG1 := Lib.hid (HG.out.alloc (.cells #[.int .u8 0, .int .u8 0, .int .u8 0, .int .u8 0, .int .u8 0, .int .u8 0, .int .u8 0, .int .u8 0, .int .u8 0, .int .u8 0, .int .u8 0, .int .u8 0, .int .u8 0, .int .u8 0, .int .u8 0, .int .u8 0, .int .u8 0, .int .u8 0, .int .u8 0, .int .u8 0, .int .u8 0, .int .u8 0, .int .u8 0, .int .u8 0, .int .u8 0, .int .u8 0, .int .u8 0, .int .u8 0, .int .u8 0, .int .u8 0, .int .u8 0, .int .u8 0] 73))
          have HZ1 := Lib.hid (HZ.out.alloc (.cells #[.int .u8 0, .int .u8 0, .int .u8 0, .int .u8 0, .int .u8 0, .int .u8 0, .int .u8 0, .int .u8 0, .int .u8 0, .int .u8 0, .int .u8 0, .int .u8 0, .int .u8 0, .int .u8 0, .int .u8 0, .int .u8 0, .int .u8 0, .int .u8 0, .int .u8 0, .int .u8 0, .int .u8 0, .int .u8 0, .int .u8 0, .int .u8 0, .int .u8 0, .int .u8 0, .int .u8 0, .int .u8 0, .int .u8 0, .int .u8 0, .int .u8 0, .int .u8 0] 73))
          have HB1 := Lib.hid (HB.out.alloc HB.out.size (.cells #[.int .u8 0, .int .u8 0, .int .u8 0, .int .u8 0, .int .u8 0, .int .u8 0, .int .u8 0, .int .u8 0, .int .u8 0, .int .u8 0, .int .u8 0, .int .u8 0, .int .u8 0, .int .u8 0, .int .u8 0, .int .u8 0, .int .u8 0, .int .u8 0, .int .u8 0, .int .u8 0, .int .u8 0, .int .u8 0, .int .u8 0, .int .u8 0, .int .u8 0, .int .u8 0, .int .u8 0, .int .u8 0, .int .u8 0, .int .u8 0, .int .u8 0, .int .u8 0] 73))
          have hgl := HG.out.lt
          obtain ⟨j, hj⟩ : ∃ j, j = 64 * k := ⟨_, rfl⟩
          rw [← hj] at l1 ⊢
          have l1N : decide (j < m) = false := by rw [decide_eq_false_iff_not]; omega
          clear hj hk64 hsw hSS HG HR HZ HB HSHA
          go_wp2
          obtain ⟨o, ho⟩ : ∃ o, o = wr.heap.size := ⟨_, rfl⟩
          rw [← ho] at HO1 hgl ⊢
          clear ho
          generalize wr.alloc (.cells #[.int .u8 0, .int .u8 0, .int .u8 0, .int .u8 0, .int .u8 0, .int .u8 0, .int .u8 0, .int .u8 0, .int .u8 0, .int .u8 0, .int .u8 0, .int .u8 0, .int .u8 0, .int .u8 0, .int .u8 0, .int .u8 0, .int .u8 0, .int .u8 0, .int .u8 0, .int .u8 0, .int .u8 0, .int .u8 0, .int .u8 0, .int .u8 0, .int .u8 0, .int .u8 0, .int .u8 0, .int .u8 0, .int .u8 0, .int .u8 0, .int .u8 0, .int .u8 0] 73) = w7 at HO1 HG1 HZ1 HB1 ⊢
          go_loopw [9] (fun i wr => ∃ k : Nat, k ≤ 32 ∧ i = .int .i64 k ∧ Hid (Blk wr o 73 (outV SS k)) ∧ Hid (Blk wr w.heap.size 73 Z) ∧ Hid (Blk wr g 114 (stV SS)) ∧ Hid (Below w.heap.size w wr)) (fun i _ => 32 - (intOf i).toNat)
          case atStart => exact ⟨0, Nat.zero_le _, rfl, HO1, HZ1, HG1, HB1⟩
          case round =>
            obtain ⟨k, hk, rfl, HO, HZ2, HBK, HBW⟩ := hrel
            clear HO1 HZ1 HG1 HB1
            rcases (by omega : k < 32 ∨ k = 32) with hlt | heq
            · have hkj : decide ((k : Int) < 32) = true := by rw [decide_eq_true_iff]; omega
              have hki : (k : Int) < 32 := by omega
              have hk0 : (0 : Int) ≤ (k : Int) := by omega
              have hw := HBK.out.cell (k / 4)
              rw [stV_at SS (k / 4) (by omega)] at hw
              have hfr := HO.out.frozen k
              obtain ⟨ov, hov⟩ : ∃ ov, wr.cell? ⟨o, k, none⟩ = some ov := ⟨_, by rw [HO.out.cell, Array.getElem?_eq_getElem (by rw [outV_size]; omega)]⟩
              have hub := stL_bd SS HSW.out (k / 4)
              have HV := Lib.hid (sum_val SS k hub.1)
              obtain ⟨u, hu⟩ : ∃ u, u = (stL SS).getD (k / 4) 0 := ⟨_, rfl⟩
              rw [← hu] at hw hub HV
              obtain ⟨hu0, hu1⟩ := hub
              have HN1 := HO.out.set_ k (u8v (sumB SS k))
              rw [outV_set SS k hlt] at HN1
              have HNn := Lib.hid HN1
              have HZn := Lib.hid (HZ2.out.far (p := ⟨o, k, none⟩) (by simp; omega) (u8v (sumB SS k)))
              have HBn := Lib.hid (HBK.out.far (p := ⟨o, k, none⟩) (by simp; omega) (u8v (sumB SS k)))
              have HWn := Lib.hid (HBW.out.setCell (p := ⟨o, k, none⟩) (by simp; omega) (u8v (sumB SS k)))
              clear hu HO HZ2 HBK HBW HN1
              go_wp2
              rw [HV.out]
              go_roundw
              case rel => exact ⟨k + 1, by omega, by go_num, HNn, HZn, HBn, HWn⟩
              case measure => simp [intOf]; omega
            · subst heq
              rw [show ((32 : Nat) : Int) = 32 from rfl]
              have h88 : decide ((32 : Int) < 32) = false := by decide
              have HE : Hid (outV SS 32 = (Lib.byteCells (shaL T)).toArray) := by show _ = _; rw [outV_full, HSS.out]
              have HI : Hid ((Tryd.prog.info? 73).map (·.size) = some (outV SS 32).size) := by show _ = _; rw [outV_size]; kernel_rfl
              have HOC : Hid ((outV SS 32).all (·.oneCell') = true) := by show _ = _; rw [outV_full]; simp [Lib.byteCells, Value.oneCell']
              have HS0 : Hid (Z.size = (outV SS 32).size) := by show _ = _; rw [outV_size]; exact HZs.out
              generalize outV SS 32 = V at HO HE HI HOC HS0 ⊢
              have HBz : Hid (Below w.heap.size w (wr.setRow w.heap.size V)) := below_setRow HBW.out (Nat.le_refl _)
              have HGz := Lib.hid (setRow_at HZ2.out V)
              clear HBK HSW HSS HZs
              go_wp2_with (first
                | (refine wpList_load_row rfl 73 _ rfl o rfl 73 V (0, 0) _ HO.out Tryd.underlying73 rfl HI.out ?_)
                | (refine wpList_store_row rfl 73 _ _ rfl w.heap.size V rfl rfl 73 _ HZ2.out HI.out HS0.out HOC.out ?_))
              exact bodyPost_ret (v := .agg V) (results_cell_row (fn := Tryd.f55) rfl _ _ w.heap.size 73 V (0, 0) _ rfl HGz.out Tryd.underlying73 rfl HI.out) rfl ⟨by rw [HE.out], HBz.out⟩
    · have ne1 : ((q : Int) % 64 != 56) = true := by rw [bne_iff_ne]; omega
      have ne2 : ((q : Int) % 64 == 56) = false := by rw [beq_eq_false_iff_ne]; omega
      have hzz : z + 1 ≤ padZ n := by
        rcases (by omega : z + 1 ≤ padZ n ∨ z = padZ n) with h | h
        · exact h
        · exact absurd (hps.2 h) hstop
      have HQ1 : Hid (q = n + 1 + z) := hq
      clear hps hstop hq hlen
      have tok : True := trivial
      go_wp2_with (at_builtin; refine app_one _ rfl (.tmp 19) (.tmp 20) rfl (w.heap.size + 1) _ _ rfl HO.out 0 _ rfl rfl (by have := HLEN.out; omega) hszW ?_; intro v4 w4 ho4 hg4 _; have HO4 := Lib.hid ho4; have B4 := Lib.hid ((HB.out.alloc hszW _).grown hg4 (by simp; omega) (by intro k hk; exact HO.out.grown_ge k hk)); clear ho4 hg4 tok)
      have HO5 : Hid (OB w4 (w.heap.size + 1) v4 (T ++ [128] ++ List.replicate (z + 1) 0)) := by
        show OB _ _ _ _
        have := HO4.out
        rw [List.append_assoc, ← List.replicate_succ'] at this
        exact this
      clear HO4
      obtain ⟨A5, c5, rfl, _⟩ := HO5.out.shape
      have hl5 : (T ++ [128] ++ List.replicate (z + 1) 0).length = q + 1 := by have := HQ1.out; have := HN.out; simp; omega
      rw [hl5] at HO5 ⊢
      clear hl5
      go_roundw
      case rel => exact ⟨z + 1, hzz, HO5, B4⟩
      case measure => simp only [sliceLen]; have := HQ1.out; omega
end Go.Proofs.YtcndkkagnobpmaaDoor
