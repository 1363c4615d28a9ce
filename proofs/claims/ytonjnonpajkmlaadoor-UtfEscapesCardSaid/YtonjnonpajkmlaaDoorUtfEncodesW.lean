/-
  pursuivantlaw03.UtfEncodes: it returns true.
-/
import Derived.Test.YtonjnonpajkmlaaDoorUtfLives
namespace Go.Proofs.YtonjnonpajkmlaaDoor
open Go.RowKit Utf
set_option linter.unusedVariables false

theorem run_E {w : World} {A : Option Addr} {l : List UInt8} {E : ByteArray} (hE : E = ⟨l.toArray⟩) (h : RB w A l) (n c : Nat) (hn : l.length = n) :
    (convert 26 9 (.slice A n c)).run Tryd.prog w = .ok (.string E) w := by
  rw [hE]; exact run_string h n c hn
set_option maxRecDepth 1000000 in
set_option maxHeartbeats 2000000 in
theorem utfEncodes_walk (x : Int) (w : World) (ht : tabU w) : Calls Tryd.prog 4 #[.int .i64 x] w fun e w' => e = .returned (.bool true) ∧ Below w.heap.size w w' := by
  have HT := Lib.hid ht
  have HL := Lib.hid (fun w ht => lives_any w ht)
  clear ht
  rcases Bool.eq_false_or_eq_true (mayU x) with hm | hm
  · have HM := Lib.hid hm
    have hN := fun w ht => next_any ((⟨(encU x).toArray⟩ : ByteArray) ++ { data := #[120] }) w ht
    have hnx : nxt ((⟨(encU x).toArray⟩ : ByteArray) ++ { data := #[120] }).data.toList = (x, (encU x).length) := by
      refine (nxt_enc hm ?_ ?_).1
      · rw [ByteArray.data_append, Array.toList_append]; simp
      · rw [ByteArray.data_append, Array.toList_append]; simp
    rw [hnx] at hN
    have h4 := enc_len x hm
    obtain ⟨n, hn⟩ : ∃ n, n = (encU x).length := ⟨_, rfl⟩
    obtain ⟨E, hE⟩ : ∃ E : ByteArray, E = ⟨(encU x).toArray⟩ := ⟨_, rfl⟩
    rw [← hn] at h4
    simp only [← hn, ← hE] at hN
    have HN := Lib.hid hN
    have HE := Lib.hid hE
    have HNL := Lib.hid hn.symm
    have hes : E.size = n := by rw [hE, hn]; rfl
    have e1 : (E.toList == E.toList) = true := by simp
    have y1 := rmay_any x
    rw [hm] at y1
    have Y1 := Lib.hid y1
    clear hm hN hE hn hnx y1
    go_enter Tryd.func4, Tryd.ntmps4
    go_wp2_with fail
    refine (encode_yes x _ HM.out).mono ?_
    rintro e w1 ⟨v, rfl, hv, hb1⟩
    obtain ⟨A, c, rfl, _, _, hR, _⟩ := hv.shape
    rw [HNL.out]
    have HR1 := Lib.hid hR
    have HT1 := Lib.hid (HT.out.below hb1)
    have HB1 := Lib.hid hb1
    clear hb1 hv hR
    go_wp2_with fail
    refine (HL.out _ HT1.out).mono ?_
    rintro e w2 ⟨rfl, hb2⟩
    have HT2 := Lib.hid (HT1.out.below hb2)
    have HB2 := Lib.hid (below2 HB1.out hb2)
    have HR2 := Lib.hid (HR1.out.below hb2)
    clear hb2
    have s1 := run_E HE.out HR2.out n c HNL.out
    go_wp2_with fail
    refine (Y1.out _).mono ?_
    rintro e w' ⟨rfl, rfl⟩
    go_wp2_with fail
    refine (HN.out _ HT2.out).mono ?_
    rintro e w3 ⟨rfl, hb3⟩
    have HB3 := Lib.hid (below2 HB2.out hb3)
    have HR3 := Lib.hid (HR2.out.below hb3)
    clear hb3 s1
    go_wp2_with fail
    go_region_held (fun w' => (convert 26 9 (.slice A n c)).run Tryd.prog w' = .ok (.string E) w')
      (first | exact run_E HE.out (RB.drew' HR3.out) n c HNL.out | exact run_E HE.out ((RB.drew' HR3.out).below hb4) n c HNL.out)
      (first | (go_at_call 15; (refine (rbytes_s x E n HE.out HNL.out _ HM.out).mono ?_); rintro e w4 ⟨g, rfl, hs1, hb4⟩))
    all_goals
      have hb := HB3.out.drew.trans (hb4.mono HB3.out.drew.size)
      go_wp2
      go_ret
      exact ⟨rfl, hb⟩
  · have hE := fun w => encode_no x w hm
    have hM := fun w => rmay_any x w
    rw [hm] at hM
    have HE := Lib.hid hE
    have HM := Lib.hid hM
    clear hE hM hm
    go_enter Tryd.func4, Tryd.ntmps4
    go_wp2_with fail
    refine (HE.out _).mono ?_
    rintro e w' ⟨rfl, rfl⟩
    go_wp2_with fail
    refine (HL.out _ HT.out).mono ?_
    rintro e w1 ⟨rfl, hb1⟩
    go_wp2_with fail
    refine (HM.out _).mono ?_
    rintro e w' ⟨rfl, rfl⟩
    go_wp2
    go_ret
    exact ⟨rfl, hb1⟩
end Go.Proofs.YtonjnonpajkmlaaDoor
