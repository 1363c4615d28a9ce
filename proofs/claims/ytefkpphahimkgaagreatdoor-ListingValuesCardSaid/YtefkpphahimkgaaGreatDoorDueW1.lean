/-
 cmp.Compare, cmp.Or, due.compare.
-/
import Derived.Test.YtefkpphahimkgaaGreatDoorTk
import Derived.Test.YtefkpphahimkgaaGreatDoorGP
import Derived.Test.YtefkpphahimkgaaGreatDoorSMap
import Derived.Deep.RegionHeld3
namespace Go.Proofs.YtefkpphahimkgaaGreatDoor
open Go.RowKit
set_option linter.unusedVariables false
def cmpS (a b : ByteArray) : Int := if bl a b then -1 else if bl b a then 1 else 0
theorem nan_str (x : ByteArray) (w : World) : Calls Tryz.prog 128 #[.string x] w fun e w' => e = .returned (.bool false) ∧ w' = w := by
 have h : (x.toList != x.toList) = false := by simp
 have h2 : (x.toList == x.toList) = true := by simp
 go_enter Tryz.func128, Tryz.ntmps128
 go_wp2
 go_ret
 exact ⟨rfl, rfl⟩
theorem gtr_str {a b : ByteArray} : (Op.bytesLess a.toList b.toList || a.toList == b.toList) = !bl b a := by
  unfold bl
  cases h : Op.bytesLess a.toList b.toList with
  | true => rw [bytesLess_asym _ _ h]; rfl
  | false =>
    rw [Bool.false_or]
    cases h2 : Op.bytesLess b.toList a.toList with
    | true => rw [beq_eq_false_iff_ne.2]; · rfl
              · intro e; rw [e, bytesLess_irrefl] at h2; cases h2
    | false => rw [bytesLess_tri _ _ h h2]; simp
theorem compare_str (a b : ByteArray) (w : World) : Calls Tryz.prog 91 #[.string a, .string b] w fun e w' => e = .returned (.int .i64 (cmpS a b)) ∧ w' = w := by
 obtain ⟨r, hr⟩ : ∃ r, r = cmpS a b := ⟨_, rfl⟩
 rw [← hr]
 have HR := Ld hr
 have hg := @gtr_str a b
 clear hr
 cases h : bl a b with
 | true =>
  have HV : Hid (r = -1) := by show _ = _; rw [HR.out]; unfold cmpS; rw [h]; rfl
  have d1 : Op.bytesLess a.toList b.toList = true := h
  clear hg h
  go_enter Tryz.func91, Tryz.ntmps91
  go_wp2_with (go_at_call 128; refine (nan_str _ _).mono ?_; rintro e w ⟨rfl, rfl⟩)
  go_ret
  exact ⟨by rw [HV.out]; rfl, rfl⟩
 | false =>
  cases h2 : bl b a with
  | true =>
   have HV : Hid (r = 1) := by show _ = _; rw [HR.out]; unfold cmpS; rw [h, h2]; rfl
   have d1 : Op.bytesLess a.toList b.toList = false := h
   have d2 : (a.toList == b.toList) = false := by
    rw [h2, show Op.bytesLess a.toList b.toList = false from h, Bool.false_or] at hg; exact hg
   clear hg h h2
   go_enter Tryz.func91, Tryz.ntmps91
   go_wp2_with (go_at_call 128; refine (nan_str _ _).mono ?_; rintro e w ⟨rfl, rfl⟩)
   go_ret
   exact ⟨by rw [HV.out]; rfl, rfl⟩
  | false =>
   have HV : Hid (r = 0) := by show _ = _; rw [HR.out]; unfold cmpS; rw [h, h2]; rfl
   have d1 : Op.bytesLess a.toList b.toList = false := h
   have d2 : (a.toList == b.toList) = true := by
    rw [h2, show Op.bytesLess a.toList b.toList = false from h, Bool.false_or] at hg; exact hg
   clear hg h h2
   go_enter Tryz.func91, Tryz.ntmps91
   go_wp2_with (go_at_call 128; refine (nan_str _ _).mono ?_; rintro e w ⟨rfl, rfl⟩)
   go_ret
   exact ⟨by rw [HV.out]; rfl, rfl⟩
end Go.Proofs.YtefkpphahimkgaaGreatDoor
