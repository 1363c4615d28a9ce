/-
  Hex digits: plain facts, no program.
-/
import Derived.Lib.SlTrimSet
import Derived.Lib.Strings
import Derived.Lib.Bytealg
set_option linter.unusedVariables false
set_option linter.unusedSimpArgs false
namespace Go.Proofs.YteofdpogjnojnaaGreatDoor
open Go

def isHex (c : UInt8) : Bool := (decide (48 ≤ c) && decide (c ≤ 57)) || (decide (97 ≤ c) && decide (c ≤ 102))
def hexV (c : UInt8) : Nat := if c ≤ 57 then c.toNat - 48 else c.toNat - 87
def hexI (c : UInt8) : Int := if isHex c then (hexV c : Int) else -1
def digitsL : List UInt8 := [48, 49, 50, 51, 52, 53, 54, 55, 56, 57, 97, 98, 99, 100, 101, 102]
def unhexL : List UInt8 → List UInt8
  | a :: b :: t => UInt8.ofNat (16 * hexV a + hexV b) :: unhexL t
  | _ => []
/-- the text is hex digits -/
def okHex (l : List UInt8) : Bool := decide (l.length % 2 = 0) && l.all isHex

theorem ofNat_toNat (c : UInt8) : UInt8.ofNat c.toNat = c := by simp
theorem all_u8 {p : UInt8 → Prop} (h : ∀ n : Fin 256, p (UInt8.ofNat n.1)) (c : UInt8) : p c := by
  have := h ⟨c.toNat, c.toNat_lt⟩
  simpa using this
theorem indexByte_digits (c : UInt8) : Lib.indexByte digitsL c = hexI c :=
  all_u8 (p := fun c => Lib.indexByte digitsL c = hexI c) (by decide +kernel) c
theorem contains_digits (c : UInt8) : digitsL.contains c = isHex c :=
  all_u8 (p := fun c => digitsL.contains c = isHex c) (by decide +kernel) c
theorem hexI_yes (c : UInt8) (h : isHex c = true) : hexI c = (hexV c : Int) := by simp [hexI, h]
theorem hexI_no (c : UInt8) (h : isHex c = false) : hexI c = -1 := by simp [hexI, h]
theorem hexV_lt (c : UInt8) (h : isHex c = true) : hexV c < 16 := by
  have := all_u8 (p := fun c => isHex c = true → hexV c < 16) (by decide +kernel) c
  exact this h
theorem dropWhile_nil_iff {p : UInt8 → Bool} (l : List UInt8) : l.dropWhile p = [] ↔ l.all p = true := by
  induction l with
  | nil => simp
  | cons a l ih =>
    by_cases h : p a <;> simp [List.dropWhile_cons, h, ih]
theorem trim_digits (l : List UInt8) : Lib.trimS l digitsL = [] ↔ l.all isHex = true := by
  have e : (fun x => digitsL.contains x) = isHex := funext contains_digits
  unfold Lib.trimS Lib.trimLeftS Lib.trimRightS
  rw [dropWhile_nil_iff, e, List.all_reverse]
  constructor
  · intro h
    have h1 : (l.reverse.dropWhile isHex).all isHex = true := h
    have h2 : l.reverse.dropWhile isHex = [] := by
      rcases hd : l.reverse.dropWhile isHex with _ | ⟨a, t⟩
      · rfl
      · have := List.head?_dropWhile_not isHex l.reverse
        rw [hd] at this h1
        simp at this
        simp [this] at h1
    rw [dropWhile_nil_iff] at h2
    rwa [List.all_reverse] at h2
  · intro h
    have : l.reverse.dropWhile isHex = [] := by rw [dropWhile_nil_iff, List.all_reverse]; exact h
    rw [this]
    rfl
theorem unhexL_length (l : List UInt8) : (unhexL l).length = l.length / 2 := by
  induction l using unhexL.induct with
  | case1 a b t ih => simp only [unhexL, List.length_cons, ih]; omega
  | case2 l h =>
    match l, h with
    | [], _ => rfl
    | [a], _ => simp [unhexL]
    | a :: b :: t, h => exact absurd rfl (h a b t)
theorem unhexL_take (l : List UInt8) (k : Nat) (h : 2 * k + 1 < l.length) : unhexL (l.take (2 * k + 2)) = unhexL (l.take (2 * k)) ++ [UInt8.ofNat (16 * hexV l[2 * k] + hexV l[2 * k + 1])] := by
  induction k generalizing l with
  | zero =>
    match l, h with
    | a :: b :: t, _ => simp [unhexL]
  | succ k ih =>
    match l, h with
    | a :: b :: t, h =>
      have h' : 2 * k + 1 < t.length := by simp at h; omega
      have := ih t h'
      have e1 : (a :: b :: t).take (2 * (k + 1) + 2) = a :: b :: t.take (2 * k + 2) := rfl
      have e2 : (a :: b :: t).take (2 * (k + 1)) = a :: b :: t.take (2 * k) := rfl
      have e3 : (a :: b :: t)[2 * (k + 1)] = t[2 * k] := rfl
      have e4 : (a :: b :: t)[2 * (k + 1) + 1] = t[2 * k + 1] := rfl
      rw [e1, e2, e3, e4, unhexL, unhexL, this, List.cons_append]
theorem all_getElem {p : UInt8 → Bool} {l : List UInt8} (h : l.all p = true) (k : Nat) (hk : k < l.length) : p l[k] = true :=
  List.all_eq_true.1 h _ (List.getElem_mem hk)

end Go.Proofs.YteofdpogjnojnaaGreatDoor
