/-
  slices.Contains at strings.
-/
import Derived.Test.YthidjdjcjjbpbaaGreatDoorSeW5
namespace Go.Proofs.YthidjdjcjjbpbaaGreatDoor
open Go.RowKit Sea
set_option linter.unusedVariables false
set_option linter.unusedSimpArgs false

/-- strings in a row that begins at a block's cell -/
def StrV (w : World) (A : Option Addr) (l : List ByteArray) : Prop := SS w A l ∧ ∀ ad, A = some ad → ∃ b o, ad = ⟨b, o, none⟩
theorem hasB_contains (l : List ByteArray) (x : ByteArray) : Lib.containsS l x = hasB l x := by
  rw [Bool.eq_iff_iff, Lib.containsS_iff, hasB_mem]
theorem contains_any (A : Option Addr) (n c : Nat) (l : List ByteArray) (x : ByteArray) (w : World) (h : StrV w A l) (hn : l.length = n) (hs : n ≤ 1000000) :
    Calls Tryz.prog 29 #[.slice A n c, .string x] w fun e w' => e = .returned (.bool (hasB l x)) ∧ w' = w := by
  rcases Nat.eq_zero_or_pos n with h0 | h0
  · have hl : l = [] := List.eq_nil_of_length_eq_zero (by omega)
    rw [hl, h0]
    exact Tryz.slices_Contains_string_empty A c x w
  · obtain ⟨ad, hA, _⟩ := h.1.at_ (k := 0) (by omega)
    obtain ⟨b, o, hab⟩ := h.2 ad hA
    subst hab
    subst hA
    have hc := Tryz.slices_Contains_string b o n c l x w (by omega) (by omega) (fun j hj => by
      obtain ⟨ad, hA, _, hc⟩ := h.1.at_ hj
      cases hA
      rw [Addr.add_lit] at hc
      rw [hc, List.getD_eq_getElem?_getD, List.getElem?_eq_getElem hj]
      rfl)
    rw [List.take_of_length_le (by omega), hasB_contains] at hc
    exact hc
end Go.Proofs.YthidjdjcjjbpbaaGreatDoor
