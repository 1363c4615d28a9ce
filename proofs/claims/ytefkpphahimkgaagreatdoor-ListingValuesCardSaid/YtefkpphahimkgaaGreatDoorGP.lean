/-
 A binary heap, plainly: what one step up, and one step down, keep.
 due, plainly: the order of names, what one change does to a heap of them, and what a list in the order says.
 A file's name, plainly.
 Hex digits: plain facts, no program.
-/
import Derived.Test.YtefkpphahimkgaaGreatDoorGA
import Derived.Lib.Strings
import Derived.Lib.TrimByte
import Derived.Lib.SlTrimSet
import Derived.Lib.Bytealg
namespace Go.Proofs.YtefkpphahimkgaaGreatDoor
set_option linter.unusedVariables false
section
variable {α : Type} {lt : α → α → Bool}
structure Ord (lt : α → α → Bool) : Prop where
 asym : ∀ a b, lt a b = true → lt b a = false
 ntr : ∀ a b c, lt a b = false → lt b c = false → lt a c = false
end
end Go.Proofs.YtefkpphahimkgaaGreatDoor
namespace Go.Proofs.YtefkpphahimkgaaGreatDoor
set_option linter.unusedVariables false
set_option linter.unusedSimpArgs false
abbrev Du := ByteArray × Int
def du0 : Du := (⟨#[]⟩, 0)
def bl (a b : ByteArray) : Bool := Op.bytesLess a.toList b.toList
theorem bytesLess_irrefl : ∀ l : List UInt8, Op.bytesLess l l = false
 | [] => rfl
 | a :: l => by rw [Op.bytesLess, bytesLess_irrefl l]; simp
theorem bytesLess_asym : ∀ l m : List UInt8, Op.bytesLess l m = true → Op.bytesLess m l = false
 | [], [], _ => rfl
 | [], _ :: _, _ => by rw [Op.bytesLess]
 | _ :: _, [], h => by rw [Op.bytesLess] at h; cases h
 | a :: l, b :: m, h => by
  rw [Op.bytesLess] at h ⊢
  simp only [Bool.or_eq_true, Bool.and_eq_true, decide_eq_true_eq, beq_iff_eq, Bool.or_eq_false_iff, Bool.and_eq_false_iff, decide_eq_false_iff_not, beq_eq_false_iff_ne, UInt8.lt_iff_toNat_lt] at h ⊢
  rcases h with h | ⟨rfl, h⟩
  ·exact ⟨by omega, .inl (fun e => by subst e; omega)⟩
  ·exact ⟨by omega, .inr (bytesLess_asym l m h)⟩
theorem bytesLess_ntr : ∀ l m n : List UInt8, Op.bytesLess l m = false → Op.bytesLess m n = false → Op.bytesLess l n = false
 | _, _, [], _, _ => by rw [Op.bytesLess]
 | [], [], _ :: _, _, h => by rw [Op.bytesLess] at h; cases h
 | [], _ :: _, _ :: _, h, _ => by rw [Op.bytesLess] at h; cases h
 | _ :: _, [], _ :: _, _, h => by rw [Op.bytesLess] at h; cases h
 | a :: l, b :: m, c :: n, h1, h2 => by
  rw [Op.bytesLess] at h1 h2 ⊢
  simp only [Bool.or_eq_false_iff, Bool.and_eq_false_iff, decide_eq_false_iff_not, beq_eq_false_iff_ne, UInt8.lt_iff_toNat_lt] at h1 h2 ⊢
  obtain ⟨h1, h3⟩ := h1
  obtain ⟨h2, h4⟩ := h2
  refine ⟨by omega, ?_⟩
  by_cases e : a = c
  ·right
   have e1 : a = b := UInt8.toNat_inj.1 (by subst e; omega)
   have e2 : b = c := by rw [← e1]; exact e
   exact bytesLess_ntr l m n (h3.resolve_left (fun x => x e1)) (h4.resolve_left (fun x => x e2))
  ·exact .inl e
theorem bytesLess_tri : ∀ l m : List UInt8, Op.bytesLess l m = false → Op.bytesLess m l = false → l = m
 | [], [], _, _ => rfl
 | [], _ :: _, h, _ => by rw [Op.bytesLess] at h; cases h
 | _ :: _, [], _, h => by rw [Op.bytesLess] at h; cases h
 | a :: l, b :: m, h1, h2 => by
  rw [Op.bytesLess] at h1 h2
  simp only [Bool.or_eq_false_iff, Bool.and_eq_false_iff, decide_eq_false_iff_not, beq_eq_false_iff_ne, UInt8.lt_iff_toNat_lt] at h1 h2
  obtain ⟨h1, h3⟩ := h1
  obtain ⟨h2, h4⟩ := h2
  have e : a = b := UInt8.toNat_inj.1 (by omega)
  subst e
  rw [bytesLess_tri l m (h3.resolve_left (fun x => x rfl)) (h4.resolve_left (fun x => x rfl))]
theorem toList_inj {a b : ByteArray} (h : a.toList = b.toList) : a = b := by
 rw [Lib.toList_data, Lib.toList_data] at h
 obtain ⟨a⟩ := a
 obtain ⟨b⟩ := b
 congr 1
 exact Array.toList_inj.1 h
def gd (l : List Du) : Nat → Du := fun k => l.getD k du0
section
variable {α : Type} {lt : α → α → Bool}
end
def Nm (l : List Du) : List ByteArray := l.map (·.1)
theorem nm_append (l : List Du) (d : Du) : Nm (l ++ [d]) = Nm l ++ [d.1] := by simp [Nm]
theorem nodup_append {l : List Du} {d : Du} (hn : (Nm l).Nodup) (hd : d.1 ∉ Nm l) : (Nm (l ++ [d])).Nodup := by
 rw [nm_append]
 refine List.nodup_append.2 ⟨hn, by simp, fun a ha b hb e => ?_⟩
 rw [List.mem_singleton] at hb
 subst hb
 exact hd (e ▸ ha)
end Go.Proofs.YtefkpphahimkgaaGreatDoor
namespace Go.Proofs.YtefkpphahimkgaaGreatDoor
set_option linter.unusedVariables false
set_option linter.unusedSimpArgs false
def signZ (z : Int) : Bool := (decide (97 ≤ z) && decide (z ≤ 122)) || ((decide (48 ≤ z) && decide (z ≤ 57)) || (z == 45 || (z == 95 || z == 46)))
def signB (c : UInt8) : Bool := signZ (c.toNat : Int)
def endsOK (l : List UInt8) : Bool := (l.head? != some 46) && (l.getLast? != some 46)
def fnameL (l : List UInt8) : Bool := !l.isEmpty && (decide (l.length ≤ 64) && (endsOK l && l.all signB))
theorem dropWhile_self {p : UInt8 → Bool} : ∀ (l : List UInt8), l.dropWhile p = l ↔ ∀ c, l.head? = some c → p c = false
 | [] => by simp
 | c :: l => by
  rw [List.dropWhile_cons]
  simp only [List.head?_cons, Option.some.injEq, forall_eq']
  cases h : p c with
  | true =>
   simp only [if_true, Bool.true_eq_false, iff_false]
   intro e
   have h1 := congrArg List.length e
   have h2 : (l.dropWhile p).length ≤ l.length := (List.dropWhile_sublist p).length_le
   simp at h1
   omega
  | false => simp
theorem trim_ends (l : List UInt8) : Lib.trimB l 46 = l ↔ endsOK l = true := by
 unfold Lib.trimB Lib.trimLeftB Lib.trimRightB endsOK
 have hR : (l.reverse.dropWhile (· == 46)).reverse = l ↔ l.getLast? ≠ some 46 := by
  rw [show ((l.reverse.dropWhile (· == 46)).reverse = l ↔ l.reverse.dropWhile (· == 46) = l.reverse) from ⟨fun e => by rw [← List.reverse_reverse (List.dropWhile _ _), e], fun e => by rw [e, List.reverse_reverse]⟩, dropWhile_self, List.head?_reverse]
  constructor
  ·intro h e
   have := h 46 e
   simp at this
  ·intro h c e
   rw [beq_eq_false_iff_ne]
   rintro rfl
   exact h e
 have hL : ∀ m : List UInt8, m.dropWhile (· == 46) = m ↔ m.head? ≠ some 46 := fun m => by
  rw [dropWhile_self]
  constructor
  ·intro h e
   have := h 46 e
   simp at this
  ·intro h c e
   rw [beq_eq_false_iff_ne]
   rintro rfl
   exact h e
 simp only [Bool.and_eq_true, bne_iff_ne]
 constructor
 ·intro e
  have h1 := (List.dropWhile_sublist (· == (46 : UInt8)) (l := (l.reverse.dropWhile (· == 46)).reverse)).length_le
  have h2 := (List.dropWhile_sublist (· == (46 : UInt8)) (l := l.reverse)).length_le
  have h3 := congrArg List.length e
  simp only [List.length_reverse] at h1 h2
  have h4 : (l.reverse.dropWhile (· == (46 : UInt8))).length = l.reverse.length := by simp only [List.length_reverse]; omega
  have h5 := (List.dropWhile_sublist (· == (46 : UInt8)) (l := l.reverse)).eq_of_length h4
  have h6 : (l.reverse.dropWhile (· == (46 : UInt8))).reverse = l := by rw [h5, List.reverse_reverse]
  rw [h6] at e
  exact ⟨(hL l).1 e, hR.1 h6⟩
 ·rintro ⟨h1, h2⟩
  rw [hR.2 h2]
  exact (hL l).2 h1
end Go.Proofs.YtefkpphahimkgaaGreatDoor
set_option linter.unusedVariables false
set_option linter.unusedSimpArgs false
namespace Go.Proofs.YtefkpphahimkgaaGreatDoor
open Go
def isHex (c : UInt8) : Bool := (decide (48 ≤ c) && decide (c ≤ 57)) || (decide (97 ≤ c) && decide (c ≤ 102))
def hexV (c : UInt8) : Nat := if c ≤ 57 then c.toNat - 48 else c.toNat - 87
def hexI (c : UInt8) : Int := if isHex c then (hexV c : Int) else -1
def digitsL : List UInt8 := [48, 49, 50, 51, 52, 53, 54, 55, 56, 57, 97, 98, 99, 100, 101, 102]
def unhexL : List UInt8 → List UInt8
 | a :: b :: t => UInt8.ofNat (16 * hexV a + hexV b) :: unhexL t
 | _ => []
def okHex (l : List UInt8) : Bool := decide (l.length % 2 = 0) && l.all isHex
theorem all_u8 {p : UInt8 → Prop} (h : ∀ n : Fin 256, p (UInt8.ofNat n.1)) (c : UInt8) : p c := by
 have := h ⟨c.toNat, c.toNat_lt⟩
 simpa using this
theorem indexByte_digits (c : UInt8) : Lib.indexByte digitsL c = hexI c :=
 all_u8 (p := fun c => Lib.indexByte digitsL c = hexI c) (by decide +kernel) c
theorem contains_digits (c : UInt8) : digitsL.contains c = isHex c :=
 all_u8 (p := fun c => digitsL.contains c = isHex c) (by decide +kernel) c
theorem hexI_yes (c : UInt8) (h : isHex c = true) : hexI c = (hexV c : Int) := by simp [hexI, h]
theorem hexI_no (c : UInt8) (h : isHex c = false) : hexI c = -1 := by simp [hexI, h]
theorem hexV_lt (c : UInt8) (h : isHex c = true) : hexV c < 16 := by
 have := all_u8 (p := fun c => isHex c = true → hexV c < 16) (by decide +kernel) c
 exact this h
theorem dropWhile_nil_iff {p : UInt8 → Bool} (l : List UInt8) : l.dropWhile p = [] ↔ l.all p = true := by
 induction l with
 | nil => simp
 | cons a l ih =>
  by_cases h : p a <;> simp [List.dropWhile_cons, h, ih]
theorem trim_digits (l : List UInt8) : Lib.trimS l digitsL = [] ↔ l.all isHex = true := by
 have e : (fun x => digitsL.contains x) = isHex := funext contains_digits
 unfold Lib.trimS Lib.trimLeftS Lib.trimRightS
 rw [dropWhile_nil_iff, e, List.all_reverse]
 constructor
 ·intro h
  have h1 : (l.reverse.dropWhile isHex).all isHex = true := h
  have h2 : l.reverse.dropWhile isHex = [] := by
   rcases hd : l.reverse.dropWhile isHex with _ | ⟨a, t⟩
   ·rfl
   ·have := List.head?_dropWhile_not isHex l.reverse
    rw [hd] at this h1
    simp at this
    simp [this] at h1
  rw [dropWhile_nil_iff] at h2
  rwa [List.all_reverse] at h2
 ·intro h
  have : l.reverse.dropWhile isHex = [] := by rw [dropWhile_nil_iff, List.all_reverse]; exact h
  rw [this]
  rfl
theorem unhexL_length (l : List UInt8) : (unhexL l).length = l.length / 2 := by
 induction l using unhexL.induct with
 | case1 a b t ih => simp only [unhexL, List.length_cons, ih]; omega
 | case2 l h =>
  match l, h with
  | [], _ => rfl
  | [a], _ => simp [unhexL]
  | a :: b :: t, h => exact absurd rfl (h a b t)
theorem unhexL_take (l : List UInt8) (k : Nat) (h : 2 * k + 1 < l.length) : unhexL (l.take (2 * k + 2)) = unhexL (l.take (2 * k)) ++ [UInt8.ofNat (16 * hexV l[2 * k] + hexV l[2 * k + 1])] := by
 induction k generalizing l with
 | zero =>
  match l, h with
  | a :: b :: t, _ => simp [unhexL]
 | succ k ih =>
  match l, h with
  | a :: b :: t, h =>
   have h' : 2 * k + 1 < t.length := by simp at h; omega
   have := ih t h'
   have e1 : (a :: b :: t).take (2 * (k + 1) + 2) = a :: b :: t.take (2 * k + 2) := rfl
   have e2 : (a :: b :: t).take (2 * (k + 1)) = a :: b :: t.take (2 * k) := rfl
   have e3 : (a :: b :: t)[2 * (k + 1)] = t[2 * k] := rfl
   have e4 : (a :: b :: t)[2 * (k + 1) + 1] = t[2 * k + 1] := rfl
   rw [e1, e2, e3, e4, unhexL, unhexL, this, List.cons_append]
theorem all_getElem {p : UInt8 → Bool} {l : List UInt8} (h : l.all p = true) (k : Nat) (hk : k < l.length) : p l[k] = true :=
 List.all_eq_true.1 h _ (List.getElem_mem hk)
end Go.Proofs.YtefkpphahimkgaaGreatDoor
