/-
  The walk of pursuivantlaw01.OctetHexes.
-/
import Derived.Test.YtleancgkincenaaDoorRefHex
import Derived.Test.YtleancgkincenaaDoorOctLives
namespace Go.Proofs.YtleancgkincenaaDoor
open Go.RowKit
set_option linter.unusedVariables false

theorem okHex_hexL (l : List UInt8) : okHex (hexL l) = true := by
  have h := all_u8 (p := fun c => (isHex (hexDigit (c.toNat / 16)) && isHex (hexDigit (c.toNat % 16))) = true) (by decide +kernel)
  simp only [okHex, Bool.and_eq_true, decide_eq_true_iff, hexL_length]
  refine ⟨by omega, ?_⟩
  induction l with
  | nil => rfl
  | cons a l ih =>
    have := h a
    simp only [Bool.and_eq_true] at this
    simp only [hexL, List.flatMap_cons, List.all_append, List.all_cons, List.all_nil, Bool.and_true, Bool.and_eq_true] at *
    exact ⟨this, ih⟩
theorem unhexL_hexL (l : List UInt8) : unhexL (hexL l) = l := by
  have h := all_u8 (p := fun c => UInt8.ofNat (16 * hexV (hexDigit (c.toNat / 16)) + hexV (hexDigit (c.toNat % 16))) = c) (by decide +kernel)
  induction l with
  | nil => rfl
  | cons a l ih =>
    have e : hexL (a :: l) = hexDigit (a.toNat / 16) :: hexDigit (a.toNat % 16) :: hexL l := by simp [hexL]
    rw [e, unhexL, ih, h a]
theorem str_eq_self (l : List UInt8) : (l.toArray == l.toArray) = true := by simp

set_option maxRecDepth 1000000 in
set_option maxHeartbeats 2000000 in
theorem octetHexes_walk (A : Option Addr) (c : Nat) (l : List UInt8) (W : World) (hr : RB W A l) (hc : l.length ≤ c) (hm : c ≤ maxLen) (hz : l.length ≤ 140737488351232) :
    Calls Tryd.prog 5 #[.slice A l.length c] W fun e w' => e = .returned (.bool true) ∧ Below W.heap.size W w' := by
  unfold maxLen at hm
  rcases (by omega : 5000 < l.length ∨ l.length ≤ 5000) with h1 | h1
  · have d1 : decide (5000 < (l.length : Int)) = true := by rw [decide_eq_true_iff]; omega
    go_enter Tryd.func5, Tryd.ntmps5
    go_wp2_with fail
    refine (lives_any _).mono ?_
    rintro e w1 ⟨rfl, hb⟩
    go_wp2
    go_ret
    exact ⟨rfl, hb⟩
  · have d1 : decide (5000 < (l.length : Int)) = false := by rw [decide_eq_false_iff_not]; omega
    go_enter Tryd.func5, Tryd.ntmps5
    go_wp2_with fail
    refine (hex_any A _ c l _ (by omega) hr).mono ?_
    rintro e w1 ⟨rfl, hb1⟩
    go_wp2_with fail
    refine (unhex_ok _ _ (by show (hexL l).toArray.size ≤ _; rw [List.size_toArray, hexL_length]; omega) (okHex_hexL l)).mono ?_
    rintro e w2 ⟨v, rfl, hv, hb2⟩
    replace hv : OB w2 w1.heap.size v l := by have := hv; rwa [show unhexL (({ data := (hexL l).toArray } : ByteArray).data.toList) = l from unhexL_hexL l] at this
    obtain ⟨A2, c2, rfl, _, _, hk⟩ := hv.kb
    clear hv
    have hb02 := hb1.trans (hb2.mono hb1.size)
    go_wp2_with fail
    refine (lives_any _).mono ?_
    rintro e w3 ⟨rfl, hb3⟩
    have hb03 := hb02.trans (hb3.mono hb02.size)
    go_wp2_with fail
    refine (refHex_any A _ c l _ rfl (by omega) ((hr.below hb03))).mono ?_
    rintro e w4 ⟨rfl, hb4⟩
    have hb04 := hb03.trans (hb4.mono hb03.size)
    have s1 := run_string (hr.below hb04) _ c rfl
    have s2 := run_string ((hk.below hb3).below hb4).1 _ c2 rfl
    have e1 := str_eq_self (hexL l)
    have e2 := str_eq_self l
    clear hb1 hb2 hb02 hb3 hb03 hb4
    go_wp2
    go_ret
    exact ⟨rfl, hb04⟩

end Go.Proofs.YtleancgkincenaaDoor
