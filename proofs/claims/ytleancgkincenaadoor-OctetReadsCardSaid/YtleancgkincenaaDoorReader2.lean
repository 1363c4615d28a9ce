/-
  octet.Reader.Text, and the nil reader.
-/
import Derived.Test.YtleancgkincenaaDoorReader
import Derived.Lib.BufferRead
import Derived.Lib.ConvBytes
namespace Go.Proofs.YtleancgkincenaaDoor
open Go.RowKit
set_option linter.unusedVariables false

theorem run_string {w : World} {A : Option Addr} {l : List UInt8} (h : RB w A l) (n c : Nat) (hn : l.length = n) :
    (convert 22 9 (.slice A n c)).run Tryd.prog w = .ok (.string ⟨l.toArray⟩) w := by
  subst hn
  rcases A with _ | ad
  · have hl : l = [] := by
      rcases Nat.eq_zero_or_pos l.length with h0 | h0
      · exact List.eq_nil_of_length_eq_zero h0
      · obtain ⟨ad, h, _⟩ := h.2 h0; cases h
    subst hl
    exact Lib.run_convert_nil_bytes w _ _ _ c Tryd.underlying22 Tryd.underlying5 Tryd.underlying9
  · refine run_convert_bytes_back w _ _ _ ad c l Tryd.underlying22 Tryd.underlying5 Tryd.underlying9 (fun j hj => ?_)
    obtain ⟨a', e, _, hc⟩ := h.at_ hj
    cases e
    exact hc

theorem int4_ok (w : World) (r : Nat) (l : List UInt8) (h : RD w r l false) (hnl : 4 ≤ l.length) :
    Calls Tryd.prog 34 #[.pointer (some ⟨r, 0, none⟩), .int .i64 4] w fun e w' => e = .returned (.int .i64 (beVal (l.take 4))) ∧ RD w' r (l.drop 4) false ∧ Fr (· = r) w w' :=
  int_ok w r l 4 h (by omega) (by omega) hnl
theorem int4_no (w : World) (r : Nat) (l : List UInt8) (bad : Bool) (h : RD w r l bad) (hnl : l.length < 4) :
    Calls Tryd.prog 34 #[.pointer (some ⟨r, 0, none⟩), .int .i64 4] w fun e w' => e = .returned (.int .i64 0) ∧ RD w' r [] true ∧ Fr (· = r) w w' :=
  int_no w r l bad 4 h (by omega)

set_option maxRecDepth 100000 in
set_option maxHeartbeats 400000 in
theorem rtext_no (w : World) (r : Nat) (l : List UInt8) (bad : Bool) (most : Int) (h : RD w r l bad) (hnl : l.length < 4) :
    Calls Tryd.prog 38 #[.pointer (some ⟨r, 0, none⟩), .int .i64 most] w fun e w' => e = .returned (.string ⟨#[]⟩) ∧ RD w' r [] true ∧ Fr (· = r) w w' := by
  go_enter Tryd.func38, Tryd.ntmps38
  go_wp2_with fail
  refine (int4_no _ r l bad h hnl).mono ?_
  rintro e w1 ⟨rfl, h1, hf1⟩
  go_wp2_with fail
  refine (bad_any _ r [] true h1).mono ?_
  rintro e w' ⟨rfl, rfl⟩
  go_wp2_with fail
  refine (spoil_any _ r [] true h1).mono ?_
  rintro e w2 ⟨rfl, h2, hf2⟩
  go_wp2
  go_ret
  exact ⟨rfl, h2, hf1.trans hf2⟩
set_option maxRecDepth 100000 in
set_option maxHeartbeats 400000 in
theorem rtext_long (w : World) (r : Nat) (l : List UInt8) (most : Int) (h : RD w r l false) (hnl : 4 ≤ l.length) (hm : most < beVal (l.take 4)) :
    Calls Tryd.prog 38 #[.pointer (some ⟨r, 0, none⟩), .int .i64 most] w fun e w' => e = .returned (.string ⟨#[]⟩) ∧ RD w' r [] true ∧ Fr (· = r) w w' := by
  have d1 : decide (most < (beVal (l.take 4) : Int)) = true := by rw [decide_eq_true_iff]; exact hm
  go_enter Tryd.func38, Tryd.ntmps38
  go_wp2_with fail
  refine (int4_ok _ r l h hnl).mono ?_
  rintro e w1 ⟨rfl, h1, hf1⟩
  go_wp2_with fail
  refine (bad_any _ r _ false h1).mono ?_
  rintro e w' ⟨rfl, rfl⟩
  go_wp2_with fail
  refine (spoil_any _ r _ false h1).mono ?_
  rintro e w2 ⟨rfl, h2, hf2⟩
  go_wp2
  go_ret
  exact ⟨rfl, h2, hf1.trans hf2⟩
set_option maxRecDepth 100000 in
set_option maxHeartbeats 400000 in
theorem rtext_short (w : World) (r : Nat) (l : List UInt8) (most : Int) (h : RD w r l false) (hnl : 4 ≤ l.length) (hm : (beVal (l.take 4) : Int) ≤ most) (hs : l.length - 4 < beVal (l.take 4)) :
    Calls Tryd.prog 38 #[.pointer (some ⟨r, 0, none⟩), .int .i64 most] w fun e w' => e = .returned (.string ⟨#[]⟩) ∧ RD w' r [] true ∧ Fr (· = r) w w' := by
  have d1 : decide (most < (beVal (l.take 4) : Int)) = false := by rw [decide_eq_false_iff_not]; omega
  have hsn := fun W => run_string (RB.nil W) 0 0 rfl
  go_enter Tryd.func38, Tryd.ntmps38
  go_wp2_with fail
  refine (int4_ok _ r l h hnl).mono ?_
  rintro e w1 ⟨rfl, h1, hf1⟩
  go_wp2_with fail
  refine (bad_any _ r _ false h1).mono ?_
  rintro e w' ⟨rfl, rfl⟩
  go_wp2_with fail
  refine (bytes_no _ r _ false _ h1 (.inr (.inl (by rw [List.length_drop]; omega)))).mono ?_
  rintro e w2 ⟨rfl, h2, hf2⟩
  go_wp2
  go_ret
  exact ⟨rfl, h2, hf1.trans hf2⟩
set_option maxRecDepth 100000 in
set_option maxHeartbeats 400000 in
theorem rtext_ok (w : World) (r : Nat) (l : List UInt8) (most : Int) (h : RD w r l false) (hnl : 4 ≤ l.length) (hm : (beVal (l.take 4) : Int) ≤ most) (hs : beVal (l.take 4) ≤ l.length - 4) :
    Calls Tryd.prog 38 #[.pointer (some ⟨r, 0, none⟩), .int .i64 most] w fun e w' => e = .returned (.string ⟨((l.drop 4).take (beVal (l.take 4))).toArray⟩) ∧ RD w' r ((l.drop 4).drop (beVal (l.take 4))) false ∧ Fr (· = r) w w' := by
  have d1 : decide (most < (beVal (l.take 4) : Int)) = false := by rw [decide_eq_false_iff_not]; omega
  go_enter Tryd.func38, Tryd.ntmps38
  go_wp2_with fail
  refine (int4_ok _ r l h hnl).mono ?_
  rintro e w1 ⟨rfl, h1, hf1⟩
  have HTL : Hid (((l.drop 4).take (beVal (l.take 4))).length = beVal (l.take 4)) := by show _ = _; rw [List.length_take, List.length_drop]; omega
  go_wp2_with fail
  refine (bad_any _ r _ false h1).mono ?_
  rintro e w' ⟨rfl, rfl⟩
  go_wp2_with fail
  refine (bytes_ok _ r _ _ h1 (by rw [List.length_drop]; omega)).mono ?_
  rintro e w2 ⟨v, rfl, hv, h2, hf2⟩
  obtain ⟨A, c, rfl, hcl, hcm, hRB, hAd⟩ := hv.shape_n HTL.out
  have hstr := run_string hRB _ c HTL.out
  have HRD := Lib.hid h2
  clear hv hAd h2 hRB
  go_wp2
  go_ret
  exact ⟨rfl, HRD.out, hf1.trans hf2⟩

set_option maxRecDepth 100000 in
set_option maxHeartbeats 400000 in
theorem bytes_nil (w : World) (n : Int) : Calls Tryd.prog 41 #[.pointer none, .int .i64 n] w fun e w' => e = .returned (.slice none 0 0) ∧ w = w' := by
  rcases (by omega : n < 0 ∨ 0 ≤ n) with h1 | h1
  · have d1 : decide (n < 0) = true := by rw [decide_eq_true_iff]; omega
    go_enter Tryd.func41, Tryd.ntmps41
    go_wp2_with (first | (go_at_call 43; refine (bad_nil _).mono ?_; rintro e w' ⟨rfl, rfl⟩) | (go_at_call 39; refine (left_nil _).mono ?_; rintro e w' ⟨rfl, rfl⟩) | (go_at_call 42; refine (spoil_nil _).mono ?_; rintro e w' ⟨rfl, rfl⟩))
    go_ret
    exact ⟨rfl, rfl⟩
  · have d1 : decide (n < 0) = false := by rw [decide_eq_false_iff_not]; omega
    rcases (by omega : 0 < n ∨ n = 0) with h2 | h2
    · have d2 : decide (0 < n) = true := by rw [decide_eq_true_iff]; omega
      go_enter Tryd.func41, Tryd.ntmps41
      go_wp2_with (first | (go_at_call 43; refine (bad_nil _).mono ?_; rintro e w' ⟨rfl, rfl⟩) | (go_at_call 39; refine (left_nil _).mono ?_; rintro e w' ⟨rfl, rfl⟩) | (go_at_call 42; refine (spoil_nil _).mono ?_; rintro e w' ⟨rfl, rfl⟩))
      go_ret
      exact ⟨rfl, rfl⟩
    · subst h2
      go_enter Tryd.func41, Tryd.ntmps41
      go_wp2_with (first | (go_at_call 43; refine (bad_nil _).mono ?_; rintro e w' ⟨rfl, rfl⟩) | (go_at_call 39; refine (left_nil _).mono ?_; rintro e w' ⟨rfl, rfl⟩) | (go_at_call 42; refine (spoil_nil _).mono ?_; rintro e w' ⟨rfl, rfl⟩))
      go_ret
      exact ⟨rfl, rfl⟩
set_option maxRecDepth 100000 in
set_option maxHeartbeats 400000 in
theorem int_nil (w : World) (n : Int) : Calls Tryd.prog 34 #[.pointer none, .int .i64 n] w fun e w' => e = .returned (.int .i64 0) ∧ w = w' := by
  rcases (by omega : n < 1 ∨ 1 ≤ n) with h1 | h1
  · have d1 : decide (n < 1) = true := by rw [decide_eq_true_iff]; omega
    go_enter Tryd.func34, Tryd.ntmps34
    go_wp2_with (first | (go_at_call 39; refine (left_nil _).mono ?_; rintro e w' ⟨rfl, rfl⟩) | (go_at_call 42; refine (spoil_nil _).mono ?_; rintro e w' ⟨rfl, rfl⟩))
    go_ret
    exact ⟨rfl, rfl⟩
  · have d1 : decide (n < 1) = false := by rw [decide_eq_false_iff_not]; omega
    rcases (by omega : 8 < n ∨ n ≤ 8) with h2 | h2
    · have d2 : decide (8 < n) = true := by rw [decide_eq_true_iff]; omega
      go_enter Tryd.func34, Tryd.ntmps34
      go_wp2_with (first | (go_at_call 39; refine (left_nil _).mono ?_; rintro e w' ⟨rfl, rfl⟩) | (go_at_call 42; refine (spoil_nil _).mono ?_; rintro e w' ⟨rfl, rfl⟩))
      go_ret
      exact ⟨rfl, rfl⟩
    · have d2 : decide (8 < n) = false := by rw [decide_eq_false_iff_not]; omega
      have d3 : decide (0 < n) = true := by rw [decide_eq_true_iff]; omega
      go_enter Tryd.func34, Tryd.ntmps34
      go_wp2_with (first | (go_at_call 39; refine (left_nil _).mono ?_; rintro e w' ⟨rfl, rfl⟩) | (go_at_call 42; refine (spoil_nil _).mono ?_; rintro e w' ⟨rfl, rfl⟩))
      go_ret
      exact ⟨rfl, rfl⟩
set_option maxRecDepth 100000 in
set_option maxHeartbeats 400000 in
theorem rtext_nil (w : World) (n : Int) : Calls Tryd.prog 38 #[.pointer none, .int .i64 n] w fun e w' => e = .returned (.string ⟨#[]⟩) ∧ w = w' := by
  go_enter Tryd.func38, Tryd.ntmps38
  go_wp2_with (first | (go_at_call 34; refine (int_nil _ _).mono ?_; rintro e w' ⟨rfl, rfl⟩) | (go_at_call 43; refine (bad_nil _).mono ?_; rintro e w' ⟨rfl, rfl⟩) | (go_at_call 42; refine (spoil_nil _).mono ?_; rintro e w' ⟨rfl, rfl⟩))
  go_ret
  exact ⟨rfl, rfl⟩

end Go.Proofs.YtleancgkincenaaDoor
