/-
  The walk of the law StoreKeeps.
-/
import Derived.Test.YtgpcinfhcamgpaaGreatDoorStK7
namespace Go.Proofs.YtgpcinfhcamgpaaGreatDoor
open Go.RowKit Glob
attribute [local go_sem ↓] Go.wp_at_zero Go.wp_at_succ
set_option linter.unusedVariables false
set_option linter.unusedSimpArgs false

set_option maxRecDepth 100000 in
set_option maxHeartbeats 16000000 in
theorem storeKeeps_walk (n : Int) (A : Option Addr) (nl c : Nat) (W : World) (hK : TabK W) (hT : Tab W) (hnl : nl ≤ 140737488351232) (hops : ∀ i, i < nl → ∃ b o op, A = some ⟨b, o, none⟩ ∧ OpSAt W W.heap.size b (o + i * 8) op) :
    Calls Tryz.prog 6 #[.int .i64 n, .slice A nl c] W fun e w' => e = .returned (.bool true) ∧ Below W.heap.size W w' := by
  refine keeps_enter n A nl c W ?_
  intro N u hN hu0 hu1 hu4
  have HLP : Hid (∀ (d s g M p r : Nat) (T : List UInt8) (st : Sta) (xw : SV) (a : Act) (wr : World), a.tmps.size = 210 → a.defers = [] → a.tmps.getD 0 undef = .int .i64 (N : Int) → a.tmps.getD 1 undef = .slice A nl c → a.tmps.getD 5 undef = .pointer (some ⟨d, 0, none⟩) → a.tmps.getD 7 undef = .pointer (some ⟨p, 0, none⟩) → a.tmps.getD 9 undef = .pointer (some ⟨g, 0, none⟩) →
      4 ≤ N → W.heap.size ≤ d ∧ W.heap.size ≤ s → KW W d s M p r g (N / 2) N 0 T st xw wr → Code.wp Tryz.prog kLp (bodyPost Tryz.prog Tryz.f6 (KPostR W)) a wr) := by
    refine Lib.hid ?_
    intro d s g M p r T st xw a wr hs hd h0 h1 h5 h7 h9 h4 hgd hkw
    obtain ⟨v, hv, rfl⟩ := kact_lit a hs hd
    exact keeps_loop W d s g (N / 2) N nl c A M p r st T xw v wr ((hv 0).symm.trans h0) ((hv 1).symm.trans h1) ((hv 5).symm.trans h5) ((hv 7).symm.trans h7) ((hv 9).symm.trans h9) hnl hK hT hkw h4 hN rfl hops hgd
  have HK := Lib.hid hK
  have HT := Lib.hid hT
  have HPOST : Hid (∀ w', Below W.heap.size W w' → KPostR W (.returned (.bool true)) w') := Lib.hid (fun w' hb => ⟨rfl, hb⟩)
  clear hK hT hops
  rw [show kTail = (partC [0] kTail).seq ((partC [1, 0] kTail).seq ((partC [1, 1, 0] kTail).seq ((partC [1, 1, 1, 0] kTail).seq ((partC [1, 1, 1, 1, 0] kTail).seq kLp)))) from rfl]
  generalize kLp = KL at HLP ⊢
  conv => arg 2; arg 1; whnf
  conv => arg 2; arg 2; arg 1; whnf
  conv => arg 2; arg 2; arg 2; arg 1; whnf
  conv => arg 2; arg 2; arg 2; arg 2; arg 1; whnf
  conv => arg 2; arg 2; arg 2; arg 2; arg 2; arg 1; whnf
  unfold kAct
  rw [hu0, hu1, hu4]
  clear hu0 hu1 hu4
  have hHN := Lib.hid hN
  rcases (by omega : N = 0 ∨ (1 ≤ N ∧ N < 4) ∨ 4 ≤ N) with h | ⟨h, h2⟩ | h
  · subst h
    have HN0 : Hid (Calls Tryz.prog 24 #[.int .i64 0] W fun e w' => e = .returned (.tuple #[.pointer none, .int .i64 1]) ∧ w' = W) := Lib.hid (dnew_no 0 W (.inl (by omega)))
    have HLV := Lib.hid (slives_any W HK.out HT.out)
    go_wp2_with fail
    refine HN0.out.mono ?_
    rintro e w' ⟨rfl, hww⟩
    rw [hww]
    clear hww
    go_wp2_with fail
    refine (sopen_nil _).mono ?_
    rintro e w' ⟨rfl, hww⟩
    rw [hww]
    clear hww
    go_wp2_with fail
    refine HLV.out.mono ?_
    rintro e w3 ⟨rfl, hb3⟩
    have HB3 := Lib.hid hb3
    clear hb3
    go_wp2
    go_ret
    exact HPOST.out _ HB3.out
  · have HNW := Lib.hid (dnew_yes N W h (by omega))
    have t1 : decide ((N : Int) < 4) = true := by rw [decide_eq_true_iff]; omega
    have t2 : decide (N < 4) = true := by rw [decide_eq_true_iff]; omega
    have t3 : ((N : Int) == 0) = false := by rw [beq_eq_false_iff_ne]; omega
    have t4 : (N == 0) = false := by rw [beq_eq_false_iff_ne]; omega
    have HN3 := Lib.hid (And.intro h h2)
    clear h h2
    go_wp2_with fail
    refine HNW.out.mono ?_
    rintro e w1 ⟨d, s, M, rfl, g1, g2, g3, hD, hb1⟩
    have HOP := Lib.hid (sopen_few w1 hD (by simp only [Dk.zero, List.length_replicate]; exact HN3.out.2))
    have HLV := Lib.hid (slives_any w1 (TabK.below HK.out hb1) (Tab.below HT.out hb1))
    have HB1 := Lib.hid hb1
    clear g1 g2 g3 hD hb1
    go_wp2_with fail
    refine HOP.out.mono ?_
    rintro e w' ⟨rfl, hww⟩
    rw [hww]
    clear hww
    go_wp2_with fail
    refine HLV.out.mono ?_
    rintro e w3 ⟨rfl, hb3⟩
    have HB3 : Hid (Below W.heap.size W w3) := Lib.hid (HB1.out.trans (hb3.mono HB1.out.size))
    clear hb3
    go_wp2
    go_ret
    exact HPOST.out _ HB3.out
  · have HNW := Lib.hid (dnew_yes N W (by omega) (by omega))
    have t1 : decide ((N : Int) < 4) = false := by rw [decide_eq_false_iff_not]; omega
    have t2 : decide (N < 4) = false := by rw [decide_eq_false_iff_not]; omega
    have HN3 := Lib.hid h
    clear h
    go_wp2_with fail
    refine HNW.out.mono ?_
    rintro e w1 ⟨d, s, M, rfl, g1, g2, g3, hD, hb1⟩
    have HG := Lib.hid (And.intro g1 g2)
    have HG3 := Lib.hid g3
    have HB1 := Lib.hid hb1
    have HZL : Hid ((Dk.zero N).sure.length = N) := Lib.hid (by simp [Dk.zero])
    have HD1 : Hid (RecD w1 d s M 0 (N / 2) 0 [] (Dk.zero N)) := Lib.hid ⟨hD, by show (-1 : Int) < 0; omega, zero_dg (by omega) (by have := HN3.out; omega)⟩
    have HOP := Lib.hid (sopen_any (half := N / 2) Sta.none w1 hD HD1.out.dg (TabK.below HK.out hb1) (Tab.below HT.out hb1) (by rw [HZL.out]; exact HN3.out) (by rw [HZL.out]) (.inl ⟨rfl, rfl⟩) (by simp))
    clear g1 g2 g3 hD hb1
    go_wp2_with fail
    refine HOP.out.mono ?_
    rintro e w2 ⟨p, r, x, rfl, hp, hr, hSA, hsta, hR, hb2⟩
    have HB2 : Hid (Below W.heap.size W w2) := Lib.hid (HB1.out.trans (hb2.mono HB1.out.size))
    have HLV := Lib.hid (slives_any w2 (TabK.below HK.out HB2.out) (Tab.below HT.out HB2.out))
    have HD2 := Lib.hid (HD1.out.below hb2)
    have HPR : Hid (W.heap.size ≤ p ∧ W.heap.size ≤ r) := Lib.hid ⟨Nat.le_trans HB1.out.size hp, Nat.le_trans HB1.out.size hr⟩
    have HSA := Lib.hid hSA
    have HR := Lib.hid hR
    clear hp hr hSA hsta hR hb2
    go_wp2_with fail
    refine HLV.out.mono ?_
    rintro e w3 ⟨rfl, hb3⟩
    have HB3 : Hid (Below W.heap.size W w3) := Lib.hid (HB2.out.trans (hb3.mono HB2.out.size))
    have HA : Hid (Below w3.heap.size w3 (w3.alloc (.cells #[.slice none 0 0, .slice none 0 0, .slice none 0 0, .slice none 0 0, .slice none 0 0] 25))) := Lib.hid ((Below.refl _ _).alloc (Nat.le_refl _) _)
    have HA2 : Hid (Below w2.heap.size w2 (w3.alloc (.cells #[.slice none 0 0, .slice none 0 0, .slice none 0 0, .slice none 0 0, .slice none 0 0] 25))) := Lib.hid (hb3.trans (HA.out.mono hb3.size))
    have HKW : Hid (KW W d s M p r w3.heap.size (N / 2) N 0 [] Sta.none SV.none (w3.alloc (.cells #[.slice none 0 0, .slice none 0 0, .slice none 0 0, .slice none 0 0, .slice none 0 0] 25))) := Lib.hid
      ⟨⟨_, HD2.out.below HA2.out, HZL.out⟩, HR.out.below HA2.out, .inl ⟨rfl, rfl⟩, by simp, by simp, ⟨_, HSA.out.below HA2.out⟩, Blk.new _ _ _, STy.none _, SM.none, SV.none_sta, HB2.out.trans (HA2.out.mono HB2.out.size), HPR.out.2, HPR.out.1, HG3.out, HB3.out.size⟩
    clear hb3
    go_wp2
    exact HLP.out _ _ _ _ _ _ _ _ _ _ _ rfl rfl rfl rfl rfl rfl rfl HN3.out HG.out HKW.out
end Go.Proofs.YtgpcinfhcamgpaaGreatDoor
