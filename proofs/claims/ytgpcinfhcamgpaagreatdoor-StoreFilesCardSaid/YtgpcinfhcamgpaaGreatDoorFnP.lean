/-
  A file's name, plainly.
-/
import Derived.Test.YtgpcinfhcamgpaaGreatDoorGA
import Derived.Lib.TrimByte
namespace Go.Proofs.YtgpcinfhcamgpaaGreatDoor
set_option linter.unusedVariables false
set_option linter.unusedSimpArgs false

def signZ (z : Int) : Bool := (decide (97 ≤ z) && decide (z ≤ 122)) || ((decide (48 ≤ z) && decide (z ≤ 57)) || (z == 45 || (z == 95 || z == 46)))
def signB (c : UInt8) : Bool := signZ (c.toNat : Int)
def endsOK (l : List UInt8) : Bool := (l.head? != some 46) && (l.getLast? != some 46)
def fnameL (l : List UInt8) : Bool := !l.isEmpty && (decide (l.length ≤ 64) && (endsOK l && l.all signB))
theorem dropWhile_self {p : UInt8 → Bool} : ∀ (l : List UInt8), l.dropWhile p = l ↔ ∀ c, l.head? = some c → p c = false
  | [] => by simp
  | c :: l => by
    rw [List.dropWhile_cons]
    simp only [List.head?_cons, Option.some.injEq, forall_eq']
    cases h : p c with
    | true =>
      simp only [if_true, Bool.true_eq_false, iff_false]
      intro e
      have h1 := congrArg List.length e
      have h2 : (l.dropWhile p).length ≤ l.length := (List.dropWhile_sublist p).length_le
      simp at h1
      omega
    | false => simp
theorem trim_ends (l : List UInt8) : Lib.trimB l 46 = l ↔ endsOK l = true := by
  unfold Lib.trimB Lib.trimLeftB Lib.trimRightB endsOK
  have hR : (l.reverse.dropWhile (· == 46)).reverse = l ↔ l.getLast? ≠ some 46 := by
    rw [show ((l.reverse.dropWhile (· == 46)).reverse = l ↔ l.reverse.dropWhile (· == 46) = l.reverse) from ⟨fun e => by rw [← List.reverse_reverse (List.dropWhile _ _), e], fun e => by rw [e, List.reverse_reverse]⟩, dropWhile_self, List.head?_reverse]
    constructor
    · intro h e
      have := h 46 e
      simp at this
    · intro h c e
      rw [beq_eq_false_iff_ne]
      rintro rfl
      exact h e
  have hL : ∀ m : List UInt8, m.dropWhile (· == 46) = m ↔ m.head? ≠ some 46 := fun m => by
    rw [dropWhile_self]
    constructor
    · intro h e
      have := h 46 e
      simp at this
    · intro h c e
      rw [beq_eq_false_iff_ne]
      rintro rfl
      exact h e
  simp only [Bool.and_eq_true, bne_iff_ne]
  constructor
  · intro e
    have h1 := (List.dropWhile_sublist (· == (46 : UInt8)) (l := (l.reverse.dropWhile (· == 46)).reverse)).length_le
    have h2 := (List.dropWhile_sublist (· == (46 : UInt8)) (l := l.reverse)).length_le
    have h3 := congrArg List.length e
    simp only [List.length_reverse] at h1 h2
    have h4 : (l.reverse.dropWhile (· == (46 : UInt8))).length = l.reverse.length := by simp only [List.length_reverse]; omega
    have h5 := (List.dropWhile_sublist (· == (46 : UInt8)) (l := l.reverse)).eq_of_length h4
    have h6 : (l.reverse.dropWhile (· == (46 : UInt8))).reverse = l := by rw [h5, List.reverse_reverse]
    rw [h6] at e
    exact ⟨(hL l).1 e, hR.1 h6⟩
  · rintro ⟨h1, h2⟩
    rw [hR.2 h2]
    exact (hL l).2 h1
theorem fname_size (l : List UInt8) (h : fnameL l = true) : l.length ≤ 1048576 := by
  unfold fnameL at h
  simp only [Bool.and_eq_true, decide_eq_true_eq] at h
  omega
end Go.Proofs.YtgpcinfhcamgpaaGreatDoor
