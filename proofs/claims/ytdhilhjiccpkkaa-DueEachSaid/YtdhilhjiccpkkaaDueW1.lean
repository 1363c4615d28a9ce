/-
  cmp.Compare, cmp.Or, due.compare.
-/
import Derived.Test.YtdhilhjiccpkkaaDuePlain
import Derived.Test.YtdhilhjiccpkkaaSMap
import Derived.Deep.RegionHeld3
namespace Go.Proofs.Ytdhilhjiccpkkaa
open Go.RowKit
set_option linter.unusedVariables false

def cmpI (a b : Int) : Int := if a < b then -1 else if b < a then 1 else 0
def cmpS (a b : ByteArray) : Int := if bl a b then -1 else if bl b a then 1 else 0
theorem cmpD_eq (a b : Du) : cmpD a b = if cmpI a.2 b.2 = 0 then cmpS a.1 b.1 else cmpI a.2 b.2 := by
  unfold cmpD cmpI cmpS
  by_cases h1 : a.2 < b.2
  · simp [h1]
  · by_cases h2 : b.2 < a.2
    · simp [h1, h2]
    · simp [h1, h2]
theorem nan_int (x : Int) (w : World) : Calls Try.prog 46 #[.int .i64 x] w fun e w' => e = .returned (.bool false) ∧ w' = w := by
  have h : (x != x) = false := by simp
  go_enter Try.func46, Try.ntmps46
  go_wp2
  go_ret
  exact ⟨rfl, rfl⟩
theorem nan_str (x : ByteArray) (w : World) : Calls Try.prog 47 #[.string x] w fun e w' => e = .returned (.bool false) ∧ w' = w := by
  have h : (x.toList != x.toList) = false := by simp
  have h2 : (x.toList == x.toList) = true := by simp
  go_enter Try.func47, Try.ntmps47
  go_wp2
  go_ret
  exact ⟨rfl, rfl⟩
theorem compare_int (a b : Int) (w : World) : Calls Try.prog 39 #[.int .i64 a, .int .i64 b] w fun e w' => e = .returned (.int .i64 (cmpI a b)) ∧ w' = w := by
  obtain ⟨r, hr⟩ : ∃ r, r = cmpI a b := ⟨_, rfl⟩
  rw [← hr]
  have HR := Lib.hid hr
  clear hr
  rcases (by omega : a < b ∨ b < a ∨ a = b) with h | h | h
  · have d1 : decide (a < b) = true := decide_eq_true h
    have HV : Hid (r = -1) := by show _ = _; rw [HR.out]; unfold cmpI; rw [if_pos h]
    go_enter Try.func39, Try.ntmps39
    go_wp2_with (go_at_call 46; refine (nan_int _ _).mono ?_; rintro e w ⟨rfl, rfl⟩)
    go_ret
    exact ⟨by rw [HV.out]; rfl, rfl⟩
  · have d1 : decide (a < b) = false := decide_eq_false (by omega)
    have d2 : decide (b < a) = true := decide_eq_true h
    have HV : Hid (r = 1) := by show _ = _; rw [HR.out]; unfold cmpI; rw [if_neg (by omega), if_pos h]
    go_enter Try.func39, Try.ntmps39
    go_wp2_with (go_at_call 46; refine (nan_int _ _).mono ?_; rintro e w ⟨rfl, rfl⟩)
    go_ret
    exact ⟨by rw [HV.out]; rfl, rfl⟩
  · have d1 : decide (a < b) = false := decide_eq_false (by omega)
    have d2 : decide (b < a) = false := decide_eq_false (by omega)
    have HV : Hid (r = 0) := by show _ = _; rw [HR.out]; unfold cmpI; rw [if_neg (by omega), if_neg (by omega)]
    clear h
    go_enter Try.func39, Try.ntmps39
    go_wp2_with (go_at_call 46; refine (nan_int _ _).mono ?_; rintro e w ⟨rfl, rfl⟩)
    go_ret
    exact ⟨by rw [HV.out]; rfl, rfl⟩
theorem gtr_str {a b : ByteArray} : (Op.bytesLess a.toList b.toList || a.toList == b.toList) = !bl b a := by
  unfold bl
  cases h : Op.bytesLess a.toList b.toList with
  | true => rw [bytesLess_asym _ _ h]; rfl
  | false =>
    rw [Bool.false_or]
    cases h2 : Op.bytesLess b.toList a.toList with
    | true => rw [beq_eq_false_iff_ne.2]; · rfl
              · intro e; rw [e, bytesLess_irrefl] at h2; cases h2
    | false => rw [bytesLess_tri _ _ h h2]; simp
theorem compare_str (a b : ByteArray) (w : World) : Calls Try.prog 40 #[.string a, .string b] w fun e w' => e = .returned (.int .i64 (cmpS a b)) ∧ w' = w := by
  obtain ⟨r, hr⟩ : ∃ r, r = cmpS a b := ⟨_, rfl⟩
  rw [← hr]
  have HR := Lib.hid hr
  have hg := @gtr_str a b
  clear hr
  cases h : bl a b with
  | true =>
    have HV : Hid (r = -1) := by show _ = _; rw [HR.out]; unfold cmpS; rw [h]; rfl
    have d1 : Op.bytesLess a.toList b.toList = true := h
    clear hg h
    go_enter Try.func40, Try.ntmps40
    go_wp2_with (go_at_call 47; refine (nan_str _ _).mono ?_; rintro e w ⟨rfl, rfl⟩)
    go_ret
    exact ⟨by rw [HV.out]; rfl, rfl⟩
  | false =>
    cases h2 : bl b a with
    | true =>
      have HV : Hid (r = 1) := by show _ = _; rw [HR.out]; unfold cmpS; rw [h, h2]; rfl
      have d1 : Op.bytesLess a.toList b.toList = false := h
      have d2 : (a.toList == b.toList) = false := by
        rw [h2, show Op.bytesLess a.toList b.toList = false from h, Bool.false_or] at hg; exact hg
      clear hg h h2
      go_enter Try.func40, Try.ntmps40
      go_wp2_with (go_at_call 47; refine (nan_str _ _).mono ?_; rintro e w ⟨rfl, rfl⟩)
      go_ret
      exact ⟨by rw [HV.out]; rfl, rfl⟩
    | false =>
      have HV : Hid (r = 0) := by show _ = _; rw [HR.out]; unfold cmpS; rw [h, h2]; rfl
      have d1 : Op.bytesLess a.toList b.toList = false := h
      have d2 : (a.toList == b.toList) = true := by
        rw [h2, show Op.bytesLess a.toList b.toList = false from h, Bool.false_or] at hg; exact hg
      clear hg h h2
      go_enter Try.func40, Try.ntmps40
      go_wp2_with (go_at_call 47; refine (nan_str _ _).mono ?_; rintro e w ⟨rfl, rfl⟩)
      go_ret
      exact ⟨by rw [HV.out]; rfl, rfl⟩
theorem cmpOr_two (g : Nat) (x y r : Int) (w : World) (hr : r = if x = 0 then y else x) (h0 : w.cell? ⟨g, 0, none⟩ = some (.int .i64 x)) (h1 : w.cell? ⟨g, 1, none⟩ = some (.int .i64 y)) :
    Calls Try.prog 38 #[.slice (some ⟨g, 0, none⟩) 2 2] w fun e w' => e = .returned (.int .i64 r) ∧ w' = w := by
  by_cases hx : x = 0
  · have HV : Hid (r = y) := by show _ = _; rw [hr, if_pos hx]
    subst hx
    clear hr
    by_cases hy : y = 0
    · have HV : Hid (r = 0) := by show _ = _; rw [HV.out, hy]
      have d2 : (y != 0) = false := by rw [hy]; rfl
      clear hy
      go_enter Try.func38, Try.ntmps38
      go_wp2_with fail
      refine wp_loop_rounds 3 ?_
      rw [rounds_succ]
      go_wp2
      rw [rounds_succ]
      go_wp2
      rw [rounds_succ]
      go_wp2
      go_ret
      exact ⟨by rw [HV.out]; rfl, rfl⟩
    · have d2 : (y != 0) = true := by rw [bne_iff_ne]; exact hy
      clear hy
      go_enter Try.func38, Try.ntmps38
      go_wp2_with fail
      refine wp_loop_rounds 2 ?_
      rw [rounds_succ]
      go_wp2
      rw [rounds_succ]
      go_wp2
      go_ret
      exact ⟨by rw [HV.out]; rfl, rfl⟩
  · have HV : Hid (r = x) := by show _ = _; rw [hr, if_neg hx]
    have d2 : (x != 0) = true := by rw [bne_iff_ne]; exact hx
    clear hx hr
    go_enter Try.func38, Try.ntmps38
    go_wp2_with fail
    refine wp_loop_rounds 1 ?_
    rw [rounds_succ]
    go_wp2
    go_ret
    exact ⟨by rw [HV.out]; rfl, rfl⟩
end Go.Proofs.Ytdhilhjiccpkkaa
