/-
  glob.Prefix; the document's Prefix.
-/
import Derived.Test.YtcndkkagnobpmaaDoorGlobW7
import Derived.Shelf.Strings.SlTrimAscii
namespace Go.Proofs.YtcndkkagnobpmaaDoor
open Go.RowKit Glob
set_option linter.unusedVariables false

theorem trim_hexG (s : ByteArray) (w : World) (hs : s.size ≤ 9223372036854775807) :
    Calls Tryd.prog 69 #[.string s, .string { data := #[48, 49, 50, 51, 52, 53, 54, 55, 56, 57, 97, 98, 99, 100, 101, 102] }] w fun e w' => e = .returned (.string ⟨(Lib.trimS s.data.toList digitsL).toArray⟩) ∧ Below w.heap.size w w' :=
  Any.strings_Trim_laid Tryd.lays160 (by kernel_rfl) s { data := #[48, 49, 50, 51, 52, 53, 54, 55, 56, 57, 97, 98, 99, 100, 101, 102] } w hs (by decide) (ascii_of_all (by decide))
set_option maxHeartbeats 1000000 in
theorem even_yes (s : ByteArray) (w : World) (hs : s.size ≤ 100000) (h : s.data.toList.all isHex = true) : Calls Tryd.prog 70 #[.string s] w fun e w' => e = .returned (.bool true) ∧ w' = w := by
  have HH := Lib.hid h
  clear h
  go_enter Tryd.func70, Tryd.ntmps70
  go_wp2
  go_loop [6] (fun i => ∃ k : Nat, k ≤ s.size ∧ i = .int .i64 k) (fun i => s.size - (intOf i).toNat)
  case atStart => exact ⟨0, Nat.zero_le _, rfl⟩
  case round =>
    obtain ⟨k, hk, rfl⟩ := hrel
    rcases (by omega : k < s.size ∨ k = s.size) with hlt | heq
    · obtain ⟨c, hc⟩ : ∃ c, c = s[k] := ⟨_, rfl⟩
      have hx := all_getElem HH.out k (by cases s; simpa [ByteArray.size] using hlt)
      have hx2 : isHex c = true := by rw [hc]; exact hx
      have hc' := hc.symm
      clear hx hc
      have hkk : (k : Int) < (s.size : Int) := by omega
      have hcall := fun w => Tryd.strings_IndexByte ⟨#[48, 49, 50, 51, 52, 53, 54, 55, 56, 57, 97, 98, 99, 100, 101, 102]⟩ (c.toNat : Int) w
      rw [show ((c.toNat : Int)).toNat.toUInt8 = c from by simp, show (⟨#[48, 49, 50, 51, 52, 53, 54, 55, 56, 57, 97, 98, 99, 100, 101, 102]⟩ : ByteArray).data.toList = digitsL from rfl, indexByte_digits, hexI_yes c hx2] at hcall
      have HC := Lib.hid hcall
      clear hcall hx2
      go_wp2_with fail
      refine (HC.out _).mono ?_
      rintro e w' ⟨rfl, rfl⟩
      have e0 : decide ((hexV c : Int) < 0) = false := by rw [decide_eq_false_iff_not]; omega
      go_wp2
      go_round
      case rel => exact ⟨k + 1, by omega, by go_num⟩
      case measure => simp [intOf]; omega
    · have hkk : ¬ (k : Int) < (s.size : Int) := by omega
      clear heq
      go_wp2
      go_ret
      exact ⟨rfl, rfl⟩
set_option maxHeartbeats 1000000 in
theorem prefix_any (s : ByteArray) (w : World) (hs : s.size ≤ 100000) : Calls Tryd.prog 43 #[.string s] w fun e w' => e = .returned (.bool (prefixL s.data.toList)) ∧ Below w.heap.size w w' := by
  have hsl : s.data.toList.length = s.size := by cases s; simp [ByteArray.size]
  have HS := Lib.hid hsl
  obtain ⟨r, hr⟩ : ∃ r, r = prefixL s.data.toList := ⟨_, rfl⟩
  have HR := Lib.hid hr
  rw [← hr]
  clear hr
  have HT := Lib.hid (fun w => trim_hexG s w (by omega))
  by_cases h0 : s.toList = []
  · have HI : Hid (r = false) := by show _ = _; rw [HR.out]; unfold prefixL; rw [← Lib.toList_data, h0]; rfl
    have hb : s.toList.isEmpty = true := by rw [h0]; rfl
    clear hsl
    go_enter Tryd.func43, Tryd.ntmps43
    go_wp2
    go_ret
    exact ⟨by rw [HI.out]; rfl, Below.refl _ _⟩
  · have hb : s.toList.isEmpty = false := by rw [List.isEmpty_eq_false_iff]; exact h0
    rcases (by omega : 64 < s.size ∨ s.size ≤ 64) with g | g
    · have HI : Hid (r = false) := by show _ = _; rw [HR.out]; unfold prefixL; rw [hsl, decide_eq_false (by omega : ¬ s.size ≤ 64)]; simp
      have e1 : decide ((s.size : Int) ≤ 64) = false := by rw [decide_eq_false_iff_not]; omega
      clear hsl
      go_enter Tryd.func43, Tryd.ntmps43
      go_wp2
      go_ret
      exact ⟨by rw [HI.out]; rfl, Below.refl _ _⟩
    · have e1 : decide ((s.size : Int) ≤ 64) = true := by rw [decide_eq_true_iff]; omega
      have HI : Hid (r = s.data.toList.all isHex) := by show _ = _; rw [HR.out]; unfold prefixL; rw [hsl, decide_eq_true g, ← Lib.toList_data, hb]; rfl
      have ht := trim_digits s.data.toList
      obtain ⟨t, htt⟩ : ∃ t, t = Lib.trimS s.data.toList digitsL := ⟨_, rfl⟩
      rw [← htt] at ht HT
      clear htt
      cases hx : s.data.toList.all isHex with
      | false =>
        have htne : t.isEmpty = false := by
          rw [List.isEmpty_eq_false_iff]
          intro e
          rw [ht.1 e] at hx; cases hx
        rw [hx] at HI
        clear hsl ht hx
        go_enter Tryd.func43, Tryd.ntmps43
        go_wp2_with fail
        refine (HT.out _).mono ?_
        rintro e w' ⟨rfl, hb1⟩
        go_wp2
        go_ret
        exact ⟨by rw [HI.out]; rfl, hb1⟩
      | true =>
        obtain rfl : t = [] := ht.2 hx
        have HE := Lib.hid (fun w => even_yes s w hs hx)
        rw [hx] at HI
        clear hsl ht hx
        go_enter Tryd.func43, Tryd.ntmps43
        go_wp2_with fail
        refine (HT.out _).mono ?_
        rintro e w' ⟨rfl, hb1⟩
        go_wp2_with fail
        refine (HE.out _).mono ?_
        rintro e w2 ⟨rfl, rfl⟩
        go_wp2
        go_ret
        exact ⟨by rw [HI.out]; rfl, hb1⟩
theorem hex_why (c : UInt8) : (isHex c = true → (48 ≤ c.toNat ∧ c.toNat ≤ 57) ∨ (97 ≤ c.toNat ∧ c.toNat ≤ 102 ∧ 57 < c.toNat)) ∧ (isHex c = false → c.toNat < 48 ∨ (57 < c.toNat ∧ c.toNat < 97) ∨ 102 < c.toNat) := by
  refine all_u8 (p := fun c => (isHex c = true → (48 ≤ c.toNat ∧ c.toNat ≤ 57) ∨ (97 ≤ c.toNat ∧ c.toNat ≤ 102 ∧ 57 < c.toNat)) ∧ (isHex c = false → c.toNat < 48 ∨ (57 < c.toNat ∧ c.toNat < 97) ∨ 102 < c.toNat)) ?_ c
  decide +kernel
set_option maxHeartbeats 1000000 in
theorem rprefix_any (s : ByteArray) (w : World) (hs : s.size ≤ 100000) : Calls Tryd.prog 54 #[.string s] w fun e w' => e = .returned (.bool (prefixL s.data.toList)) ∧ w' = w := by
  have hsl : s.data.toList.length = s.size := by cases s; simp [ByteArray.size]
  have HS := Lib.hid hsl
  obtain ⟨r, hr⟩ : ∃ r, r = prefixL s.data.toList := ⟨_, rfl⟩
  have HR := Lib.hid hr
  rw [← hr]
  clear hr
  rcases (by omega : s.size < 1 ∨ 64 < s.size ∨ (1 ≤ s.size ∧ s.size ≤ 64)) with g | g | ⟨g1, g2⟩
  · have HI : Hid (r = false) := by show _ = _; rw [HR.out, List.eq_nil_of_length_eq_zero (by omega : s.data.toList.length = 0)]; rfl
    have e1 : decide ((s.size : Int) < 1) = true := by rw [decide_eq_true_iff]; omega
    clear hsl
    go_enter Tryd.func54, Tryd.ntmps54
    go_wp2
    go_ret
    exact ⟨by rw [HI.out]; rfl, rfl⟩
  · have HI : Hid (r = false) := by show _ = _; rw [HR.out]; unfold prefixL; rw [hsl, decide_eq_false (by omega : ¬ s.size ≤ 64)]; simp
    have e1 : decide ((s.size : Int) < 1) = false := by rw [decide_eq_false_iff_not]; omega
    have e2 : decide (64 < (s.size : Int)) = true := by rw [decide_eq_true_iff]; omega
    clear hsl
    go_enter Tryd.func54, Tryd.ntmps54
    go_wp2
    go_ret
    exact ⟨by rw [HI.out]; rfl, rfl⟩
  · have HI : Hid (r = s.data.toList.all isHex) := by
      show _ = _; rw [HR.out]; unfold prefixL
      rw [hsl, decide_eq_true g2, show s.data.toList.isEmpty = false from by rw [List.isEmpty_eq_false_iff]; intro e; rw [e] at hsl; simp at hsl; omega]; rfl
    have e1 : decide ((s.size : Int) < 1) = false := by rw [decide_eq_false_iff_not]; omega
    have e2 : decide (64 < (s.size : Int)) = false := by rw [decide_eq_false_iff_not]; omega
    clear hsl
    go_enter Tryd.func54, Tryd.ntmps54
    go_wp2
    go_loop [3] (fun i => ∃ k : Nat, k ≤ s.size ∧ i = .int .i64 k ∧ Hid ((s.data.toList.take k).all isHex = true)) (fun i => s.size - (intOf i).toNat)
    case atStart => exact ⟨0, Nat.zero_le _, rfl, Lib.hid rfl⟩
    case round =>
      obtain ⟨k, hk, rfl, HK⟩ := hrel
      rcases (by omega : k < s.size ∨ k = s.size) with hlt | heq
      · obtain ⟨c, hc⟩ : ∃ c, c = s[k] := ⟨_, rfl⟩
        have hc' := hc.symm
        have HC := Lib.hid hc
        clear hc
        have hkk : (k : Int) < (s.size : Int) := by omega
        have hw := hex_why c
        cases ho : isHex c with
        | true =>
          have HK' : Hid ((s.data.toList.take (k + 1)).all isHex = true) := by
            show _ = _
            rw [List.take_succ_eq_append_getElem (by rw [HS.out]; exact hlt), List.all_append, HK.out]
            show (isHex s[k] && true) = true
            rw [← HC.out, ho]; rfl
          have hw1 := hw.1 ho
          clear hw ho
          rcases hw1 with ⟨a1, a2⟩ | ⟨a1, a2, a3⟩
          · have f1 : decide (48 ≤ (c.toNat : Int)) = true := by rw [decide_eq_true_iff]; omega
            have f2 : decide ((c.toNat : Int) ≤ 57) = true := by rw [decide_eq_true_iff]; omega
            go_wp2
            go_round
            case rel => exact ⟨k + 1, by omega, by go_num, HK'⟩
            case measure => simp [intOf]; omega
          · have f1 : decide (48 ≤ (c.toNat : Int)) = true := by rw [decide_eq_true_iff]; omega
            have f2 : decide ((c.toNat : Int) ≤ 57) = false := by rw [decide_eq_false_iff_not]; omega
            have f3 : decide (97 ≤ (c.toNat : Int)) = true := by rw [decide_eq_true_iff]; omega
            have f4 : decide ((c.toNat : Int) ≤ 102) = true := by rw [decide_eq_true_iff]; omega
            go_wp2
            go_round
            case rel => exact ⟨k + 1, by omega, by go_num, HK'⟩
            case measure => simp [intOf]; omega
        | false =>
          have HF : Hid (r = false) := by
            show _ = _
            rw [HI.out]
            refine List.all_eq_false.2 ⟨s[k], mem_at s k hlt, ?_⟩
            rw [← HC.out, ho]; simp
          have hw1 := hw.2 ho
          clear hw ho HK HC
          rcases hw1 with a1 | ⟨a1, a2⟩ | a1
          · have f1 : decide (48 ≤ (c.toNat : Int)) = false := by rw [decide_eq_false_iff_not]; omega
            have f3 : decide (97 ≤ (c.toNat : Int)) = false := by rw [decide_eq_false_iff_not]; omega
            go_wp2; go_ret; exact ⟨by rw [HF.out]; rfl, rfl⟩
          · have f1 : decide (48 ≤ (c.toNat : Int)) = true := by rw [decide_eq_true_iff]; omega
            have f2 : decide ((c.toNat : Int) ≤ 57) = false := by rw [decide_eq_false_iff_not]; omega
            have f3 : decide (97 ≤ (c.toNat : Int)) = false := by rw [decide_eq_false_iff_not]; omega
            go_wp2; go_ret; exact ⟨by rw [HF.out]; rfl, rfl⟩
          · have f1 : decide (48 ≤ (c.toNat : Int)) = true := by rw [decide_eq_true_iff]; omega
            have f2 : decide ((c.toNat : Int) ≤ 57) = false := by rw [decide_eq_false_iff_not]; omega
            have f3 : decide (97 ≤ (c.toNat : Int)) = true := by rw [decide_eq_true_iff]; omega
            have f4 : decide ((c.toNat : Int) ≤ 102) = false := by rw [decide_eq_false_iff_not]; omega
            go_wp2; go_ret; exact ⟨by rw [HF.out]; rfl, rfl⟩
      · have hkk : ¬ (k : Int) < (s.size : Int) := by omega
        have HV : Hid (r = true) := by
          show _ = _
          have := HK.out
          rw [List.take_of_length_le (by rw [HS.out]; omega)] at this
          rw [HI.out, this]
        clear heq
        go_wp2; go_ret; exact ⟨by rw [HV.out]; rfl, rfl⟩
end Go.Proofs.YtcndkkagnobpmaaDoor
