/-
  The walk of pursuivantlaw01.OctetPuts.
-/
import Derived.Test.YtleancgkincenaaDoorRefPut
import Derived.Test.YtleancgkincenaaDoorOctJoinsW
import Derived.Deep.RegionWith
namespace Go.Proofs.YtleancgkincenaaDoor
open Go.RowKit
set_option linter.unusedVariables false

theorem KB.drew {w : World} {B : Nat} {A : Option Addr} {l : List UInt8} (h : KB w B A l) : KB w.drew B A l := h
theorem int_be (w : World) (r n z : Nat) (h : RD w r (beBytes n z) false) (hz1 : 1 ≤ z) (hz2 : z ≤ 8) (hn : n ≤ 9223372036854775807) (hq : n / 256 ^ z = 0) :
    Calls Tryd.prog 34 #[.pointer (some ⟨r, 0, none⟩), .int .i64 z] w fun e w' => e = .returned (.int .i64 n) ∧ RD w' r [] false ∧ Fr (· = r) w w' := by
  have hlt : n < 256 ^ z := by
    rcases Nat.lt_or_ge n (256 ^ z) with h1 | h1
    · exact h1
    · have := Nat.div_pos h1 (Nat.pow_pos (by omega)); omega
  have hv : beVal (beBytes n z) = n := by rw [beVal_beBytes, Nat.mod_eq_of_lt hlt]
  have hl := beBytes_length n z
  rcases (by omega : z < 8 ∨ z = 8) with h8 | h8
  · refine (int_ok w r (beBytes n z) z h hz1 h8 (by omega)).mono ?_
    rw [List.take_of_length_le (by omega), List.drop_of_length_le (by omega), hv]
    exact fun _ _ x => x
  · subst h8
    obtain ⟨c0, l, hcl⟩ : ∃ c0 l, beBytes n 8 = c0 :: l := by
      rcases hb : beBytes n 8 with _ | ⟨c0, l⟩
      · rw [hb] at hl; simp at hl
      · exact ⟨c0, l, rfl⟩
    have hc0 : c0.toNat ≤ 127 := by
      have e1 : (beBytes n 8)[0]? = some (byteAt n 8 0) := by simp [beBytes]
      rw [hcl] at e1
      simp at e1
      rw [e1]
      unfold byteAt
      rw [UInt8.toNat_ofNat']
      show n / 72057594037927936 % 256 ≤ 127
      omega
    rw [hcl] at h hl hv
    refine (int8_ok w r c0 l h (by simp at hl; omega) hc0).mono ?_
    rw [List.take_of_length_le (by omega), List.drop_of_length_le (by omega), hv]
    exact fun _ _ x => x
theorem rtext_s (w : World) (r : Nat) (s : ByteArray) (h : RD w r (textBytes s.data.toList ++ []) false) (hs : s.size ≤ 1048576) :
    Calls Tryd.prog 38 #[.pointer (some ⟨r, 0, none⟩), .int .i64 s.size] w fun e w' => e = .returned (.string s) ∧ RD w' r [] false ∧ Fr (· = r) w w' := by
  have hl : s.data.toList.length = s.size := rfl
  refine (rtext_next w r s.data.toList [] s.size h (by omega) (by omega)).mono ?_
  rw [show ({ data := s.data.toList.toArray } : ByteArray) = s from by simp]
  exact fun _ _ x => x

set_option maxRecDepth 1000000 in
set_option maxHeartbeats 1000000 in
theorem puts_bad (n size : Int) (s : ByteArray) (W : World) (hs : s.size ≤ 140737488351232)
    (hp1 : ∀ w, Calls Tryd.prog 31 #[.int .i64 n, .int .i64 size] w fun e w' => e = .returned (.tuple #[.slice none 0 0, .int .i64 1]) ∧ w = w')
    (hp2 : ∀ w, Calls Tryd.prog 32 #[.int .i64 n, .int .i64 size] w fun e w' => e = .returned (.tuple #[.slice none 0 0, .bool false]) ∧ Below w.heap.size w w') :
    Calls Tryd.prog 8 #[.int .i64 n, .int .i64 size, .string s] W fun e w' => e = .returned (.bool true) ∧ Below W.heap.size W w' := by
  have HP1 := Lib.hid hp1
  have HP2 := Lib.hid hp2
  clear hp1 hp2
  rcases (by omega : 1048576 < s.size ∨ s.size ≤ 1048576) with h9 | h9
  · have d9 : decide (1048576 < (s.size : Int)) = true := by rw [decide_eq_true_iff]; omega
    go_enter Tryd.func8, Tryd.ntmps8
    go_wp2_with fail
    refine (HP1.out _).mono ?_
    rintro e w' ⟨rfl, rfl⟩
    go_wp2_with fail
    refine (HP2.out _).mono ?_
    rintro e w1 ⟨rfl, hb1⟩
    go_wp2_with fail
    refine (lives_any _).mono ?_
    rintro e w2 ⟨rfl, hb2⟩
    have HB := Lib.hid (hb1.trans (hb2.mono hb1.size))
    have s1 := run_string (RB.nil w2) 0 0 rfl
    clear hb1 hb2
    go_wp2_with fail
    refine (text_no s _ (by omega)).mono ?_
    rintro e w' ⟨rfl, rfl⟩
    go_wp2
    go_ret
    exact ⟨rfl, HB.out⟩
  · have d9 : decide (1048576 < (s.size : Int)) = false := by rw [decide_eq_false_iff_not]; omega
    go_enter Tryd.func8, Tryd.ntmps8
    go_wp2_with fail
    refine (HP1.out _).mono ?_
    rintro e w' ⟨rfl, rfl⟩
    go_wp2_with fail
    refine (HP2.out _).mono ?_
    rintro e w1 ⟨rfl, hb1⟩
    go_wp2_with fail
    refine (lives_any _).mono ?_
    rintro e w2 ⟨rfl, hb2⟩
    have HB := Lib.hid (hb1.trans (hb2.mono hb1.size))
    have s1 := run_string (RB.nil w2) 0 0 rfl
    clear hb1 hb2
    go_wp2_with fail
    refine (text_ok s _ (by omega)).mono ?_
    rintro e w10 ⟨v, rfl, hv, hb10⟩
    obtain ⟨A5, c5, rfl, _, _, k5⟩ := hv.kb_n (n := 4 + s.size) (by rw [textBytes_length]; rfl)
    clear hv
    have HB2 := Lib.hid (HB.out.trans (hb10.mono HB.out.size))
    clear hb10
    go_wp2_with fail
    refine (from_n A5 _ c5 (textBytes s.data.toList) _ (by rw [textBytes_length]; rfl) (by omega) k5.1).mono ?_
    rintro e w11 ⟨r2, rfl, hr11, hrd11, hb11⟩
    have hbs10 := HB2.out.size
    have K5 := Lib.hid (k5.below hb11)
    have HRD := Lib.hid hrd11
    have HB3 := Lib.hid (HB2.out.trans (hb11.mono HB2.out.size))
    have hbs11 := HB3.out.size
    clear k5 hrd11 hb11
    have hl5 : Hid ((textBytes s.data.toList).length = 4 + s.size) := by show _ = _; rw [textBytes_length]; rfl
    have htx : Hid (textBytes s.data.toList = textBytes s.data.toList ++ []) := by show _ = _; simp
    have hbb : Hid (s.data.toList.toArray = s.data) := by show _ = _; simp
    go_wp2_with fail
    go_region_held (fun w' => (convert 22 9 (.slice A5 (4 + s.size) c5)).run Tryd.prog w' = .ok (.string ⟨(textBytes s.data.toList).toArray⟩) w')
      (first | exact run_string K5.out.drew.1 _ c5 hl5.out | exact run_string (K5.out.drew.below hb12).1 _ c5 hl5.out | exact run_string ((K5.out.drew.below hb12).fr hf13 (by omega)).1 _ c5 hl5.out)
      (first | (go_at_call 37; (with_reducible refine (refText_ok s _ (by omega)).mono ?_); rintro e w12 ⟨v, rfl, hv12, hb12⟩; obtain ⟨A6, c6, rfl, hh1, hh2, k6⟩ := hv12.kb_n hl5.out; have hs6 := run_string k6.1 _ c6 hl5.out; clear hv12 k6)
             | (go_at_call 38; (with_reducible refine (rtext_s _ r2 s (by rw [← htx.out]; exact HRD.out.drew.below hb12) (by omega)).mono ?_); rintro e w13 ⟨rfl, hrd13, hf13⟩)
             | (go_at_call 35; (with_reducible refine (done_any _ r2 [] (by exact hrd13)).mono ?_); rintro e w' ⟨rfl, rfl⟩))
    all_goals
      have hb9 := HB3.out.drew.trans (hb12.mono (by simpa using hbs11))
      have hbe : Below W.heap.size W w13 := Fr.below_trans hb9 hf13 hb9.size (by omega)
      go_wp2
      go_ret
      exact ⟨rfl, hbe⟩

set_option maxRecDepth 1000000 in
set_option maxHeartbeats 1000000 in
theorem puts_ok (n z : Nat) (s : ByteArray) (W : World) (hs : s.size ≤ 140737488351232) (hz1 : 1 ≤ z) (hz2 : z ≤ 8) (hn0 : n ≤ 9223372036854775807) (hq0 : n / 256 ^ z = 0) :
    Calls Tryd.prog 8 #[.int .i64 n, .int .i64 z, .string s] W fun e w' => e = .returned (.bool true) ∧ Below W.heap.size W w' := by
  have hq10 : z < 8 → n / 2 ^ (8 * z) = 0 := fun _ => by rw [Nat.pow_mul]; exact hq0
  have HN := Lib.hid hn0
  have HQ := Lib.hid hq0
  have HQ1 := Lib.hid hq10
  clear hn0 hq0 hq10
  rcases (by omega : 1048576 < s.size ∨ s.size ≤ 1048576) with h9 | h9
  · have d9 : decide (1048576 < (s.size : Int)) = true := by rw [decide_eq_true_iff]; omega
    go_enter Tryd.func8, Tryd.ntmps8
    go_wp2_with fail
    refine (put_ok n z _ hz1 hz2 HQ1.out).mono ?_
    rintro e w1 ⟨v, rfl, hv, hb1⟩
    obtain ⟨A1, c1, rfl, _, _, k1⟩ := hv.kb_n (beBytes_length n z)
    clear hv
    go_wp2_with fail
    refine (refPut_any n z _ hz1 hz2 HN.out).mono ?_
    rintro e w2 (⟨_, v, rfl, hv, hb2⟩ | ⟨h0, _⟩)
    rotate_left
    · exact absurd HQ.out h0
    obtain ⟨A2, c2, rfl, _, _, k2⟩ := hv.kb_n (beBytes_length n z)
    clear hv
    have hb02 := hb1.trans (hb2.mono hb1.size)
    go_wp2_with fail
    refine (lives_any _).mono ?_
    rintro e w3 ⟨rfl, hb3⟩
    have hb03 := hb02.trans (hb3.mono hb02.size)
    have kk1 := (k1.below hb2).below hb3
    have s1 := run_string kk1.1 _ c1 (beBytes_length n z)
    have s2 := run_string (k2.below hb3).1 _ c2 (beBytes_length n z)
    have e1 := arr_ne_self (beBytes n z)
    clear k1 k2 hb1 hb2 hb02 hb3
    go_wp2_with fail
    clear s1 s2 e1
    refine (from_n A1 _ c1 (beBytes n z) _ (beBytes_length n z) (by omega) kk1.1).mono ?_
    rintro e w4 ⟨r, rfl, hr4, hrd4, hb4⟩
    have hb04 := hb03.trans (hb4.mono hb03.size)
    have hbs3 := hb03.size
    clear hb03 hb4 kk1
    go_wp2_with fail
    refine (int_be _ r n z hrd4 hz1 hz2 HN.out HQ.out).mono ?_
    rintro e w5 ⟨rfl, hrd5, hf5⟩
    go_wp2_with fail
    refine (done_any _ r [] hrd5).mono ?_
    rintro e w' ⟨rfl, rfl⟩
    have HB : Hid (Below W.heap.size W w5) := Fr.below_trans hb04 hf5 hb04.size (by omega)
    clear hb04 hf5 hrd5 hrd4
    go_wp2_with fail
    refine (text_no s _ (by omega)).mono ?_
    rintro e w' ⟨rfl, rfl⟩
    go_wp2
    go_ret
    exact ⟨rfl, HB.out⟩
  · have d9 : decide (1048576 < (s.size : Int)) = false := by rw [decide_eq_false_iff_not]; omega
    go_enter Tryd.func8, Tryd.ntmps8
    go_wp2_with fail
    refine (put_ok n z _ hz1 hz2 HQ1.out).mono ?_
    rintro e w1 ⟨v, rfl, hv, hb1⟩
    obtain ⟨A1, c1, rfl, _, _, k1⟩ := hv.kb_n (beBytes_length n z)
    clear hv
    go_wp2_with fail
    refine (refPut_any n z _ hz1 hz2 HN.out).mono ?_
    rintro e w2 (⟨_, v, rfl, hv, hb2⟩ | ⟨h0, _⟩)
    rotate_left
    · exact absurd HQ.out h0
    obtain ⟨A2, c2, rfl, _, _, k2⟩ := hv.kb_n (beBytes_length n z)
    clear hv
    have hb02 := hb1.trans (hb2.mono hb1.size)
    go_wp2_with fail
    refine (lives_any _).mono ?_
    rintro e w3 ⟨rfl, hb3⟩
    have hb03 := hb02.trans (hb3.mono hb02.size)
    have kk1 := (k1.below hb2).below hb3
    have s1 := run_string kk1.1 _ c1 (beBytes_length n z)
    have s2 := run_string (k2.below hb3).1 _ c2 (beBytes_length n z)
    have e1 := arr_ne_self (beBytes n z)
    clear k1 k2 hb1 hb2 hb02 hb3
    go_wp2_with fail
    clear s1 s2 e1
    refine (from_n A1 _ c1 (beBytes n z) _ (beBytes_length n z) (by omega) kk1.1).mono ?_
    rintro e w4 ⟨r, rfl, hr4, hrd4, hb4⟩
    have hb04 := hb03.trans (hb4.mono hb03.size)
    have hbs3 := hb03.size
    clear hb03 hb4 kk1
    go_wp2_with fail
    refine (int_be _ r n z hrd4 hz1 hz2 HN.out HQ.out).mono ?_
    rintro e w5 ⟨rfl, hrd5, hf5⟩
    go_wp2_with fail
    refine (done_any _ r [] hrd5).mono ?_
    rintro e w' ⟨rfl, rfl⟩
    have HB : Hid (Below W.heap.size W w5) := Fr.below_trans hb04 hf5 hb04.size (by omega)
    clear hb04 hf5 hrd5 hrd4
    go_wp2_with fail
    refine (text_ok s _ (by omega)).mono ?_
    rintro e w10 ⟨v, rfl, hv, hb10⟩
    obtain ⟨A5, c5, rfl, _, _, k5⟩ := hv.kb_n (n := 4 + s.size) (by rw [textBytes_length]; rfl)
    clear hv
    have HB2 := Lib.hid (HB.out.trans (hb10.mono HB.out.size))
    clear hb10
    go_wp2_with fail
    refine (from_n A5 _ c5 (textBytes s.data.toList) _ (by rw [textBytes_length]; rfl) (by omega) k5.1).mono ?_
    rintro e w11 ⟨r2, rfl, hr11, hrd11, hb11⟩
    have hbs10 := HB2.out.size
    have K5 := Lib.hid (k5.below hb11)
    have HRD := Lib.hid hrd11
    have HB3 := Lib.hid (HB2.out.trans (hb11.mono HB2.out.size))
    have hbs11 := HB3.out.size
    clear k5 hrd11 hb11
    have hl5 : Hid ((textBytes s.data.toList).length = 4 + s.size) := by show _ = _; rw [textBytes_length]; rfl
    have htx : Hid (textBytes s.data.toList = textBytes s.data.toList ++ []) := by show _ = _; simp
    have hbb : Hid (s.data.toList.toArray = s.data) := by show _ = _; simp
    go_wp2_with fail
    go_region_held (fun w' => (convert 22 9 (.slice A5 (4 + s.size) c5)).run Tryd.prog w' = .ok (.string ⟨(textBytes s.data.toList).toArray⟩) w')
      (first | exact run_string K5.out.drew.1 _ c5 hl5.out | exact run_string (K5.out.drew.below hb12).1 _ c5 hl5.out | exact run_string ((K5.out.drew.below hb12).fr hf13 (by omega)).1 _ c5 hl5.out)
      (first | (go_at_call 37; (with_reducible refine (refText_ok s _ (by omega)).mono ?_); rintro e w12 ⟨v, rfl, hv12, hb12⟩; obtain ⟨A6, c6, rfl, hh1, hh2, k6⟩ := hv12.kb_n hl5.out; have hs6 := run_string k6.1 _ c6 hl5.out; clear hv12 k6)
             | (go_at_call 38; (with_reducible refine (rtext_s _ r2 s (by rw [← htx.out]; exact HRD.out.drew.below hb12) (by omega)).mono ?_); rintro e w13 ⟨rfl, hrd13, hf13⟩)
             | (go_at_call 35; (with_reducible refine (done_any _ r2 [] (by exact hrd13)).mono ?_); rintro e w' ⟨rfl, rfl⟩))
    all_goals
      have hb9 := HB3.out.drew.trans (hb12.mono (by simpa using hbs11))
      have hbe : Below W.heap.size W w13 := Fr.below_trans hb9 hf13 hb9.size (by omega)
      go_wp2
      go_ret
      exact ⟨rfl, hbe⟩

theorem octetPuts_walk (n size : Int) (s : ByteArray) (W : World) (hn : (Lit.int .i64 n).wf = true) (hsz : (Lit.int .i64 size).wf = true) (hs : s.size ≤ 140737488351232) :
    Calls Tryd.prog 8 #[.int .i64 n, .int .i64 size, .string s] W fun e w' => e = .returned (.bool true) ∧ Below W.heap.size W w' := by
  rcases (by omega : (size < 1 ∨ 8 < size ∨ n < 0) ∨ (1 ≤ size ∧ size ≤ 8 ∧ 0 ≤ n)) with h | ⟨h1, h2, h3⟩
  · exact puts_bad n size s W hs (fun w => put_no1 n size w h) (fun w => (refPut_no n size w h).mono fun e w' ⟨h1, h2⟩ => ⟨h1, by rw [h2]; exact Below.refl _ _⟩)
  · obtain ⟨n, rfl⟩ : ∃ m : Nat, n = m := ⟨n.toNat, by omega⟩
    obtain ⟨z, rfl⟩ : ∃ m : Nat, size = m := ⟨size.toNat, by omega⟩
    have hn' : n ≤ 9223372036854775807 := by have := bounds_i64 hn; omega
    by_cases hq : n / 256 ^ z = 0
    · exact puts_ok n z s W hs (by omega) (by omega) hn' hq
    · have hz8 : z < 8 := by
        rcases (by omega : z < 8 ∨ z = 8) with h | rfl
        · exact h
        · exact absurd (by show n / 18446744073709551616 = 0; omega) hq
      refine puts_bad n z s W hs (fun w => put_no2 n z w (by omega) hz8 (by rw [Nat.pow_mul]; exact hq)) (fun w => (refPut_any n z w (by omega) (by omega) hn').mono ?_)
      rintro e w' (⟨h0, _⟩ | ⟨_, rfl, hb⟩)
      · exact absurd h0 hq
      · exact ⟨rfl, hb⟩

end Go.Proofs.YtleancgkincenaaDoor
