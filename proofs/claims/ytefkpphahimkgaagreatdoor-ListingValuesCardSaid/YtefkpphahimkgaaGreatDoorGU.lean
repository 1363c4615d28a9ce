/-
 UTF-8: which bytes are a character's; plain facts, no program in sight.
 The reference's characters: May, Bytes, code.
 utf.Next, utf.Valid, utf.Encode; the reference's Valid.
 The plain law of validity: two valid texts together; a valid text cut within.
-/
import Derived.Test.YtefkpphahimkgaaGreatDoorTk
import Derived.Shelf.Unicode.DecodeSlow
import Derived.Lib.RuneBytes
import Derived.Lib.ValidU
import Derived.Test.YtefkpphahimkgaaGreatDoorGA
import Derived.Lib.BufferRead
import Derived.Lib.ConvBytes
import Derived.LoopTactic
import Derived.Deep.RegionHeld
import Derived.Deep.RegionHeld3
import Derived.Deep.QuietTactic
import Derived.BigQuiet
import Derived.Outline
import Derived.Test.YtefkpphahimkgaaGreatDoorShelf
namespace Go.Proofs.YtefkpphahimkgaaGreatDoor.Utf
open Go
def g (l : List UInt8) (k : Nat) : Nat := (l.getD k 0).toNat
theorem g_lt (l : List UInt8) (k : Nat) : g l k < 256 := UInt8.toNat_lt _
theorem get_g (s : ByteArray) (k : Nat) : (s.get! k).toNat = g s.data.toList k := by
 cases s with
 | mk a =>
  show (a[k]!).toNat = _
  unfold g
  rw [List.getD_eq_getElem?_getD, getElem!_def, Array.getElem?_toList]
  cases a[k]? <;> rfl
def mayU (c : Int) : Bool := decide (0 ≤ c ∧ c ≤ 1114111 ∧ (c < 55296 ∨ 57343 < c))
def encU (c : Int) : List UInt8 := Lib.encodeRune c
theorem toNat_toUInt8 {x : Int} (h0 : 0 ≤ x) (h1 : x < 256) : (x.toNat.toUInt8.toNat : Int) = x := by
 rw [Nat.toUInt8, UInt8.toNat_ofNat']
 omega
def codeU (l : List UInt8) (n : Nat) : Int :=
 if n = 1 then g l 0 else if n = 2 then 64 * ((g l 0 : Int) - 192) + g l 1 - 128
 else if n = 3 then 64 * (64 * ((g l 0 : Int) - 224) + g l 1 - 128) + g l 2 - 128
 else 64 * (64 * (64 * ((g l 0 : Int) - 240) + g l 1 - 128) + g l 2 - 128) + g l 3 - 128
def decL (l : List UInt8) : Nat × Nat :=
 if g l 0 < 128 then (g l 0, 1)
 else if g l 0 / 32 = 6 ∧ 1 < l.length ∧ g l 1 / 64 = 2 then
  if 128 ≤ g l 0 % 32 * 64 + g l 1 % 64 then (g l 0 % 32 * 64 + g l 1 % 64, 2) else (65533, 1)
 else if g l 0 / 16 = 14 ∧ (1 < l.length ∧ g l 1 / 64 = 2) ∧ (2 < l.length ∧ g l 2 / 64 = 2) then
  if 2048 ≤ g l 0 % 16 * 4096 + g l 1 % 64 * 64 + g l 2 % 64 ∧ mayU ((g l 0 % 16 * 4096 + g l 1 % 64 * 64 + g l 2 % 64 : Nat) : Int) = true then (g l 0 % 16 * 4096 + g l 1 % 64 * 64 + g l 2 % 64, 3) else (65533, 1)
 else if g l 0 / 8 = 30 ∧ (1 < l.length ∧ g l 1 / 64 = 2) ∧ (2 < l.length ∧ g l 2 / 64 = 2) ∧ (3 < l.length ∧ g l 3 / 64 = 2) then
  if 65536 ≤ g l 0 % 8 * 262144 + g l 1 % 64 * 4096 + g l 2 % 64 * 64 + g l 3 % 64 ∧ mayU ((g l 0 % 8 * 262144 + g l 1 % 64 * 4096 + g l 2 % 64 * 64 + g l 3 % 64 : Nat) : Int) = true then (g l 0 % 8 * 262144 + g l 1 % 64 * 4096 + g l 2 % 64 * 64 + g l 3 % 64, 4) else (65533, 1)
 else (65533, 1)
theorem valid_may (c : Nat) : Utf8.valid c = mayU (c : Int) := by
 unfold Utf8.valid mayU
 rw [Bool.eq_iff_iff]
 simp
 omega
theorem dec_eq (s : ByteArray) (h : s.size ≠ 0) : Lib.decodeGo s = decL s.data.toList := by
 have hsz : s.size = s.data.toList.length := by cases s; simp [ByteArray.size]
 unfold Lib.decodeGo
 rw [if_neg h]
 unfold Utf8.decode decL
 simp only [Nat.zero_add, get_g, hsz, valid_may, Bool.and_eq_true, decide_eq_true_iff, beq_iff_eq, ge_iff_le, and_assoc, Utf8.runeError]
def nxt (l : List UInt8) : Int × Nat := if l = [] then (-1, 0) else if (decL l).1 = 65533 ∧ (decL l).2 = 1 then (-1, 0) else (((decL l).1 : Int), (decL l).2)
theorem enc_one {c : Int} (h0 : 0 ≤ c) (h1 : c ≤ 127) : encU c = [c.toNat.toUInt8] := by
 unfold encU Lib.encodeRune; rw [Lib.encodeRuneZ_one h0 h1]; rfl
theorem enc_two {c : Int} (h0 : 128 ≤ c) (h1 : c ≤ 2047) : encU c = [(192 + c / 64).toNat.toUInt8, (128 + c % 64).toNat.toUInt8] := by
 unfold encU Lib.encodeRune; rw [Lib.encodeRuneZ_two h0 h1]; rfl
theorem enc_three {c : Int} (h : (2048 ≤ c ∧ c < 55296) ∨ (57343 < c ∧ c ≤ 65535)) : encU c = [(224 + c / 4096).toNat.toUInt8, (128 + c / 64 % 64).toNat.toUInt8, (128 + c % 64).toNat.toUInt8] := by
 unfold encU Lib.encodeRune; rw [Lib.encodeRuneZ_three h]; rfl
theorem enc_four {c : Int} (h0 : 65536 ≤ c) (h1 : c ≤ 1114111) : encU c = [(240 + c / 262144).toNat.toUInt8, (128 + c / 4096 % 64).toNat.toUInt8, (128 + c / 64 % 64).toNat.toUInt8, (128 + c % 64).toNat.toUInt8] := by
 unfold encU Lib.encodeRune; rw [Lib.encodeRuneZ_four h0 h1]; rfl
theorem may_iff {c : Int} : mayU c = true ↔ 0 ≤ c ∧ c ≤ 1114111 ∧ (c < 55296 ∨ 57343 < c) := by unfold mayU; simp
theorem byte_eq {x : Int} {b : UInt8} (h0 : 0 ≤ x) (h1 : x < 256) : x.toNat.toUInt8 = b ↔ x = (b.toNat : Int) := by
 rw [← UInt8.toNat_inj]
 have := toNat_toUInt8 h0 h1
 omega
theorem enc_is {c : Int} {l : List UInt8} {n : Nat} (hm : mayU c = true) (hn : n ≤ l.length) : encU c = l.take n ↔
  (n = 1 ∧ c = g l 0 ∧ g l 0 < 128) ∨ (n = 2 ∧ 128 ≤ c ∧ c ≤ 2047 ∧ 192 + c / 64 = g l 0 ∧ 128 + c % 64 = g l 1) ∨ (n = 3 ∧ 2048 ≤ c ∧ c ≤ 65535 ∧ 224 + c / 4096 = g l 0 ∧ 128 + c / 64 % 64 = g l 1 ∧ 128 + c % 64 = g l 2) ∨
  (n = 4 ∧ 65536 ≤ c ∧ 240 + c / 262144 = g l 0 ∧ 128 + c / 4096 % 64 = g l 1 ∧ 128 + c / 64 % 64 = g l 2 ∧ 128 + c % 64 = g l 3) := by
 rw [may_iff] at hm
 have key : ∀ (m : Nat) (xs : List UInt8), xs.length = m → n ≠ m → xs ≠ l.take n := by
  intro m xs hx hnm e
  rw [e, List.length_take] at hx
  omega
 have gk : ∀ k, k < l.length → ∀ (h : k < l.length), (l[k]'h).toNat = g l k := by
  intro k _ h
  unfold g
  rw [List.getD_eq_getElem?_getD, List.getElem?_eq_getElem h]
  rfl
 rcases (by omega : (0 ≤ c ∧ c ≤ 127) ∨ (128 ≤ c ∧ c ≤ 2047) ∨ ((2048 ≤ c ∧ c < 55296) ∨ (57343 < c ∧ c ≤ 65535)) ∨ (65536 ≤ c ∧ c ≤ 1114111)) with h | h | h | h
 ·rw [enc_one h.1 h.2]
  by_cases e : n = 1
  ·subst e
   match l, hn with
   | a :: t, _ => 
    simp only [List.take_succ_cons, List.take_zero, List.cons.injEq, and_true]
    rw [byte_eq (by omega) (by omega)]
    have h0 : g (a :: t) 0 = a.toNat := rfl
    rw [h0]
    constructor
    ·intro e; exact .inl ⟨trivial, e, by omega⟩
    ·rintro (⟨_, e, _⟩ | ⟨e, _⟩ | ⟨e, _⟩ | ⟨e, _⟩)
     ·exact e
     ·omega
     ·omega
     ·omega
  ·exact ⟨fun x => absurd x (key 1 _ rfl e), fun x => by omega⟩
 ·rw [enc_two h.1 h.2]
  by_cases e : n = 2
  ·subst e
   match l, hn with
   | a :: b :: t, _ =>
    simp only [List.take_succ_cons, List.take_zero, List.cons.injEq, and_true]
    rw [byte_eq (by omega) (by omega), byte_eq (by omega) (by omega)]
    have h0 : g (a :: b :: t) 0 = a.toNat := rfl
    have h1 : g (a :: b :: t) 1 = b.toNat := rfl
    rw [h0, h1]
    constructor
    ·rintro ⟨e1, e2⟩; exact .inr (.inl ⟨trivial, h.1, h.2, e1, e2⟩)
    ·rintro (⟨e, _⟩ | ⟨_, _, _, e1, e2⟩ | ⟨e, _⟩ | ⟨e, _⟩)
     ·omega
     ·exact ⟨e1, e2⟩
     ·omega
     ·omega
  ·exact ⟨fun x => absurd x (key 2 _ rfl e), fun x => by omega⟩
 ·rw [enc_three h]
  by_cases e : n = 3
  ·subst e
   match l, hn with
   | a :: b :: d :: t, _ =>
    simp only [List.take_succ_cons, List.take_zero, List.cons.injEq, and_true]
    rw [byte_eq (by omega) (by omega), byte_eq (by omega) (by omega), byte_eq (by omega) (by omega)]
    have h0 : g (a :: b :: d :: t) 0 = a.toNat := rfl
    have h1 : g (a :: b :: d :: t) 1 = b.toNat := rfl
    have h2 : g (a :: b :: d :: t) 2 = d.toNat := rfl
    rw [h0, h1, h2]
    constructor
    ·rintro ⟨e1, e2, e3⟩; exact .inr (.inr (.inl ⟨trivial, by omega, by omega, e1, e2, e3⟩))
    ·rintro (⟨e, _⟩ | ⟨e, _⟩ | ⟨_, _, _, e1, e2, e3⟩ | ⟨e, _⟩)
     ·omega
     ·omega
     ·exact ⟨e1, e2, e3⟩
     ·omega
  ·exact ⟨fun x => absurd x (key 3 _ rfl e), fun x => by omega⟩
 ·rw [enc_four h.1 h.2]
  by_cases e : n = 4
  ·subst e
   match l, hn with
   | a :: b :: d :: f :: t, _ =>
    simp only [List.take_succ_cons, List.take_zero, List.cons.injEq, and_true]
    rw [byte_eq (by omega) (by omega), byte_eq (by omega) (by omega), byte_eq (by omega) (by omega), byte_eq (by omega) (by omega)]
    have h0 : g (a :: b :: d :: f :: t) 0 = a.toNat := rfl
    have h1 : g (a :: b :: d :: f :: t) 1 = b.toNat := rfl
    have h2 : g (a :: b :: d :: f :: t) 2 = d.toNat := rfl
    have h3 : g (a :: b :: d :: f :: t) 3 = f.toNat := rfl
    rw [h0, h1, h2, h3]
    constructor
    ·rintro ⟨e1, e2, e3, e4⟩; exact .inr (.inr (.inr ⟨trivial, by omega, e1, e2, e3, e4⟩))
    ·rintro (⟨e, _⟩ | ⟨e, _⟩ | ⟨e, _⟩ | ⟨_, _, e1, e2, e3, e4⟩)
     ·omega
     ·omega
     ·omega
     ·exact ⟨e1, e2, e3, e4⟩
  ·exact ⟨fun x => absurd x (key 4 _ rfl e), fun x => by omega⟩
theorem nxt_enc {c : Int} {l : List UInt8} {n : Nat} (hm : mayU c = true) (hn : n ≤ l.length) (he : encU c = l.take n) : nxt l = (c, n) ∧ codeU l n = c ∧ 1 ≤ n ∧ n ≤ 4 := by
 rw [enc_is hm hn] at he
 have hm' := may_iff.1 hm
 have hl : l ≠ [] := by rintro rfl; simp at hn; omega
 have c0 := g_lt l 0; have c1 := g_lt l 1; have c2 := g_lt l 2; have c3 := g_lt l 3
 have fin : ∀ k : Nat, (k : Int) = c → decL l = (k, n) → ¬ (k = 65533 ∧ n = 1) → nxt l = (c, n) := by
  intro k hk hd hx
  unfold nxt
  rw [if_neg hl, hd, if_neg hx, hk]
 rcases he with ⟨rfl, h1, h2⟩ | ⟨rfl, h1, h2, h3, h4⟩ | ⟨rfl, h1, h2, h3, h4, h5⟩ | ⟨rfl, h1, h2, h3, h4, h5⟩
 ·refine ⟨fin (g l 0) (by omega) ?_ (by omega), by unfold codeU; rw [if_pos rfl]; omega, by omega, by omega⟩
  unfold decL
  rw [if_pos h2]
 ·refine ⟨fin (g l 0 % 32 * 64 + g l 1 % 64) (by omega) ?_ (by omega), by unfold codeU; rw [if_neg (by omega), if_pos rfl]; omega, by omega, by omega⟩
  unfold decL
  rw [if_neg (by omega), if_pos (by omega), if_pos (by omega)]
 ·have e : ((g l 0 % 16 * 4096 + g l 1 % 64 * 64 + g l 2 % 64 : Nat) : Int) = c := by omega
  refine ⟨fin (g l 0 % 16 * 4096 + g l 1 % 64 * 64 + g l 2 % 64) e ?_ (by omega), by unfold codeU; rw [if_neg (by omega), if_neg (by omega), if_pos rfl]; omega, by omega, by omega⟩
  unfold decL
  rw [if_neg (by omega), if_neg (by omega), if_pos (by omega), if_pos ⟨by omega, by rw [e]; exact hm⟩]
 ·have e : ((g l 0 % 8 * 262144 + g l 1 % 64 * 4096 + g l 2 % 64 * 64 + g l 3 % 64 : Nat) : Int) = c := by omega
  refine ⟨fin (g l 0 % 8 * 262144 + g l 1 % 64 * 4096 + g l 2 % 64 * 64 + g l 3 % 64) e ?_ (by omega), by unfold codeU; rw [if_neg (by omega), if_neg (by omega), if_neg (by omega)]; omega, by omega, by omega⟩
  unfold decL
  rw [if_neg (by omega), if_neg (by omega), if_neg (by omega), if_pos (by omega), if_pos ⟨by omega, by rw [e]; exact hm⟩]
theorem nxt_is {l : List UInt8} {c : Int} {n : Nat} (h : nxt l = (c, n)) (hn : n ≠ 0) : mayU c = true ∧ n ≤ l.length ∧ encU c = l.take n := by
 have c0 := g_lt l 0; have c1 := g_lt l 1; have c2 := g_lt l 2; have c3 := g_lt l 3
 unfold nxt at h
 by_cases hl : l = []
 ·rw [if_pos hl] at h; injection h with _ h; omega
 ·rw [if_neg hl] at h
  have h0 : 0 < l.length := List.length_pos_iff.2 hl
  by_cases hx : (decL l).1 = 65533 ∧ (decL l).2 = 1
  ·rw [if_pos hx] at h; injection h with _ h; omega
  ·rw [if_neg hx] at h
   injection h with ha hb
   have done : ∀ m, mayU c = true → n = m → m ≤ l.length → ((m = 1 ∧ c = g l 0 ∧ g l 0 < 128) ∨ (m = 2 ∧ 128 ≤ c ∧ c ≤ 2047 ∧ 192 + c / 64 = g l 0 ∧ 128 + c % 64 = g l 1) ∨ (m = 3 ∧ 2048 ≤ c ∧ c ≤ 65535 ∧ 224 + c / 4096 = g l 0 ∧ 128 + c / 64 % 64 = g l 1 ∧ 128 + c % 64 = g l 2) ∨
     (m = 4 ∧ 65536 ≤ c ∧ 240 + c / 262144 = g l 0 ∧ 128 + c / 4096 % 64 = g l 1 ∧ 128 + c / 64 % 64 = g l 2 ∧ 128 + c % 64 = g l 3)) → mayU c = true ∧ n ≤ l.length ∧ encU c = l.take n := by
    intro m h1 h2 h3 h4
    subst h2
    exact ⟨h1, h3, (enc_is h1 h3).2 h4⟩
   unfold decL at ha hb hx
   by_cases k1 : g l 0 < 128
   ·simp only [if_pos k1] at ha hb
    exact done 1 (may_iff.2 (by omega)) (by omega) (by omega) (.inl (by omega))
   ·simp only [if_neg k1] at ha hb hx
    by_cases k2 : g l 0 / 32 = 6 ∧ 1 < l.length ∧ g l 1 / 64 = 2
    ·simp only [if_pos k2] at ha hb hx
     by_cases k3 : 128 ≤ g l 0 % 32 * 64 + g l 1 % 64
     ·simp only [if_pos k3] at ha hb
      exact done 2 (may_iff.2 (by omega)) (by omega) (by omega) (.inr (.inl (by omega)))
     ·simp [if_neg k3] at hx
    ·simp only [if_neg k2] at ha hb hx
     by_cases k4 : g l 0 / 16 = 14 ∧ (1 < l.length ∧ g l 1 / 64 = 2) ∧ (2 < l.length ∧ g l 2 / 64 = 2)
     ·simp only [if_pos k4] at ha hb hx
      by_cases k5 : 2048 ≤ g l 0 % 16 * 4096 + g l 1 % 64 * 64 + g l 2 % 64 ∧ mayU ((g l 0 % 16 * 4096 + g l 1 % 64 * 64 + g l 2 % 64 : Nat) : Int) = true
      ·simp only [if_pos k5] at ha hb
       have k6 := k5.2
       rw [ha] at k6
       exact done 3 k6 (by omega) (by omega) (.inr (.inr (.inl (by omega))))
      ·rw [if_neg k5] at hx; exact absurd ⟨rfl, rfl⟩ hx
     ·simp only [if_neg k4] at ha hb hx
      by_cases k7 : g l 0 / 8 = 30 ∧ (1 < l.length ∧ g l 1 / 64 = 2) ∧ (2 < l.length ∧ g l 2 / 64 = 2) ∧ (3 < l.length ∧ g l 3 / 64 = 2)
      ·simp only [if_pos k7] at ha hb hx
       by_cases k8 : 65536 ≤ g l 0 % 8 * 262144 + g l 1 % 64 * 4096 + g l 2 % 64 * 64 + g l 3 % 64 ∧ mayU ((g l 0 % 8 * 262144 + g l 1 % 64 * 4096 + g l 2 % 64 * 64 + g l 3 % 64 : Nat) : Int) = true
       ·simp only [if_pos k8] at ha hb
        have k9 := k8.2
        rw [ha] at k9
        exact done 4 k9 (by omega) (by omega) (.inr (.inr (.inr (by omega))))
       ·rw [if_neg k8] at hx; exact absurd ⟨rfl, rfl⟩ hx
      ·simp [if_neg k7] at hx
theorem nxt_size {l : List UInt8} {c : Int} {n : Nat} (h : nxt l = (c, n)) : n ≤ 4 ∧ (n = 0 → c = -1) := by
 by_cases hn : n = 0
 ·refine ⟨by omega, fun _ => ?_⟩
  by_cases hl : l = []
  ·unfold nxt at h; rw [if_pos hl] at h; injection h with h _; exact h.symm
  ·unfold nxt at h
   rw [if_neg hl] at h
   by_cases hx : (decL l).1 = 65533 ∧ (decL l).2 = 1
   ·rw [if_pos hx] at h; injection h with h _; exact h.symm
   ·rw [if_neg hx] at h
    injection h with _ h
    exfalso
    unfold decL at h
    repeat' split at h
    all_goals omega
 ·obtain ⟨h1, h2, h3⟩ := nxt_is h hn
  have := (nxt_enc h1 h2 h3).2.2
  exact ⟨this.2, fun e => absurd e hn⟩
end Go.Proofs.YtefkpphahimkgaaGreatDoor.Utf
namespace Go.Proofs.YtefkpphahimkgaaGreatDoor
open Go.RowKit Utf
set_option linter.unusedVariables false
theorem ret_int {k : IntKind} {a b : Int} (h : a = b) : Ending.returned (.int k a) = .returned (.int k b) := by rw [h]
theorem ret_bool {a b : Bool} (h : a = b) : Ending.returned (.bool a) = .returned (.bool b) := by rw [h]
theorem below_al {w w1 : World} (o : Obj) (h1 : Below w.heap.size w w1) : Below w.heap.size w (w1.alloc o) := h1.alloc h1.size _
theorem below_new (w : World) (o : Obj) : Below w.heap.size w (w.alloc o) := (Below.refl _ _).alloc (Nat.le_refl _) _
theorem dnU {B : Nat} {w w' : World} (h : Below B w w') (n : Nat) : Below B w (w'.drewN n) :=
 ⟨h.os, h.tape, h.output, h.size, h.block⟩
theorem run_string {w : World} {A : Option Addr} {l : List UInt8} (h : RB w A l) (n c : Nat) (hn : l.length = n) :
  (convert 45 9 (.slice A n c)).run Tryz.prog w = .ok (.string ⟨l.toArray⟩) w := by
 subst hn
 rcases A with _ | ad
 ·have hl : l = [] := by
   rcases Nat.eq_zero_or_pos l.length with h0 | h0
   ·exact List.eq_nil_of_length_eq_zero h0
   ·obtain ⟨ad, h, _⟩ := h.2 h0; cases h
  subst hl
  exact Lib.run_convert_nil_bytes w _ _ _ c Tryz.underlying45 Tryz.underlying5 Tryz.underlying9
 ·refine run_convert_bytes_back w _ _ _ ad c l Tryz.underlying45 Tryz.underlying5 Tryz.underlying9 (fun j hj => ?_)
  obtain ⟨a', e, _, hc⟩ := h.at_ hj
  cases e
  exact hc
set_option maxHeartbeats 400000 in
theorem rmay_any (c : Int) (w : World) : Calls Tryz.prog 148 #[.int .i64 c] w fun e w' => e = .returned (.bool (mayU c)) ∧ w = w' := by
 have cs : decide (0 ≤ c) = false ∧ mayU c = false ∨ decide (0 ≤ c) = true ∧ (decide (c ≤ 1114111) = false ∧ mayU c = false ∨ decide (c ≤ 1114111) = true ∧ (decide (c < 55296) = true ∧ mayU c = true ∨ decide (c < 55296) = false ∧ (decide (57343 < c) = true ∧ mayU c = true ∨ decide (57343 < c) = false ∧ mayU c = false))) := by
  unfold mayU
  simp only [decide_eq_true_iff, decide_eq_false_iff_not]
  omega
 rcases cs with ⟨a, h⟩ | ⟨a, ⟨b, h⟩ | ⟨b, ⟨d, h⟩ | ⟨d, ⟨f, h⟩ | ⟨f, h⟩⟩⟩⟩
 all_goals
  have H := Ld h
  clear h
  go_enter Tryz.func148, Tryz.ntmps148
  go_wp2
  go_ret
  exact ⟨ret_bool H.out.symm, rfl⟩
def BytesW (c : Int) (w : World) (e : Ending) (w' : World) : Prop :=
 e = .returned (.slice (some ⟨w.heap.size, 0, none⟩) (encU c).length (encU c).length) ∧ w' = w.alloc (.cells (Lib.byteCells (encU c)).toArray 5)
set_option maxHeartbeats 800000 in
theorem rbytes_any (c : Int) (w : World) (hm : mayU c = true) : Calls Tryz.prog 149 #[.int .i64 c] w (BytesW c w) := by
 have h := may_iff.1 hm
 clear hm
 rcases (by omega : (0 ≤ c ∧ c ≤ 127) ∨ (128 ≤ c ∧ c ≤ 2047) ∨ ((2048 ≤ c ∧ c ≤ 65535) ∧ ((2048 ≤ c ∧ c < 55296) ∨ (57343 < c ∧ c ≤ 65535))) ∨ (65536 ≤ c ∧ c ≤ 1114111)) with ⟨h1, h2⟩ | ⟨h1, h2⟩ | ⟨⟨h1, h2⟩, h3⟩ | ⟨h1, h2⟩
 ·have HE := Ld (enc_one h1 h2)
  go_enter Tryz.func149, Tryz.ntmps149
  go_wp2
  go_ret
  unfold BytesW
  rw [HE.out]
  exact ⟨rfl, by simp only [Lib.byteCells, List.map_cons, List.map_nil]; rw [toNat_toUInt8 (by omega) (by omega)]⟩
 ·have HE := Ld (enc_two h1 h2)
  go_enter Tryz.func149, Tryz.ntmps149
  go_wp2
  go_ret
  unfold BytesW
  rw [HE.out]
  exact ⟨rfl, by simp only [Lib.byteCells, List.map_cons, List.map_nil]; rw [toNat_toUInt8 (by omega) (by omega), toNat_toUInt8 (by omega) (by omega)]⟩
 ·have HE := Ld (enc_three h3)
  clear h3
  go_enter Tryz.func149, Tryz.ntmps149
  go_wp2
  go_ret
  unfold BytesW
  rw [HE.out]
  exact ⟨rfl, by simp only [Lib.byteCells, List.map_cons, List.map_nil]; rw [toNat_toUInt8 (by omega) (by omega), toNat_toUInt8 (by omega) (by omega), toNat_toUInt8 (by omega) (by omega)]⟩
 ·have HE := Ld (enc_four h1 h2)
  go_enter Tryz.func149, Tryz.ntmps149
  go_wp2
  go_ret
  unfold BytesW
  rw [HE.out]
  exact ⟨rfl, by simp only [Lib.byteCells, List.map_cons, List.map_nil]; rw [toNat_toUInt8 (by omega) (by omega), toNat_toUInt8 (by omega) (by omega), toNat_toUInt8 (by omega) (by omega), toNat_toUInt8 (by omega) (by omega)]⟩
theorem at_g {s : ByteArray} {k : Nat} (h : k < s.size) : (s[k]).toNat = g s.data.toList k := by
 unfold g
 rw [List.getD_eq_getElem?_getD, List.getElem?_eq_getElem (by simpa using h)]
 rfl
def par (l : List UInt8) (B : Int) (i : Nat) : Int := if i = 1 then g l 0 - B else if i = 2 then 64 * (g l 0 - B) + g l 1 - 128 else if i = 3 then 64 * (64 * (g l 0 - B) + g l 1 - 128) + g l 2 - 128 else 64 * (64 * (64 * (g l 0 - B) + g l 1 - 128) + g l 2 - 128) + g l 3 - 128
theorem par1 (l : List UInt8) (B : Int) : par l B 1 = g l 0 - B := rfl
theorem par2 (l : List UInt8) (B : Int) : par l B 2 = 64 * (g l 0 - B) + g l 1 - 128 := rfl
theorem par3 (l : List UInt8) (B : Int) : par l B 3 = 64 * (64 * (g l 0 - B) + g l 1 - 128) + g l 2 - 128 := rfl
theorem par4 (l : List UInt8) (B : Int) : par l B 4 = 64 * (64 * (64 * (g l 0 - B) + g l 1 - 128) + g l 2 - 128) + g l 3 - 128 := rfl
set_option maxHeartbeats 400000 in
theorem rcode_1 (s : ByteArray) (w : World) (h : 1 ≤ s.size) : Calls Tryz.prog 147 #[.string s, .int .i64 1] w fun e w' => e = .returned (.int .i64 (codeU s.data.toList 1)) ∧ w = w' := by
 have e0 := at_g (s := s) (k := 0) (by omega)
 have b0 := g_lt s.data.toList 0
 have HC : Hid (codeU s.data.toList 1 = g s.data.toList 0) := rfl
 go_enter Tryz.func147, Tryz.ntmps147
 go_wp2
 go_ret
 exact ⟨ret_int HC.out.symm, rfl⟩
set_option maxHeartbeats 800000 in
theorem rcode_2 (s : ByteArray) (w : World) (h : 2 ≤ s.size) : Calls Tryz.prog 147 #[.string s, .int .i64 2] w fun e w' => e = .returned (.int .i64 (codeU s.data.toList 2)) ∧ w = w' := by
 have e0 := at_g (s := s) (k := 0) (by omega)
 have e1 := at_g (s := s) (k := 1) (by omega)
 have b0 := g_lt s.data.toList 0
 have b1 := g_lt s.data.toList 1
 have HC : Hid (codeU s.data.toList 2 = par s.data.toList 192 2) := rfl
 have HP1 := Ld (par1 s.data.toList 192)
 have HP2 := Ld (par2 s.data.toList 192)
 go_enter Tryz.func147, Tryz.ntmps147
 go_wp2
 go_loop [5, 6] (fun x i => ∃ k : Nat, 1 ≤ k ∧ k ≤ 2 ∧ i = .int .i64 k ∧ x = .int .i64 (par s.data.toList 192 k)) (fun _ i => 4 - (intOf i).toNat)
 case atStart => exact ⟨1, by omega, by omega, rfl, by rw [HP1.out]⟩
 case round =>
  obtain ⟨k, hk1, hk2, rfl, rfl⟩ := hrel
  rcases (by omega : k = 1 ∨ k = 2) with rfl | rfl
  ·rw [HP1.out]
   go_wp2
   go_round
   case rel => exact ⟨2, by omega, by omega, rfl, by rw [HP2.out]⟩
   case measure => simp [intOf]
  ·go_wp2
   go_ret
   exact ⟨ret_int HC.out.symm, rfl⟩
set_option maxHeartbeats 800000 in
theorem rcode_3 (s : ByteArray) (w : World) (h : 3 ≤ s.size) : Calls Tryz.prog 147 #[.string s, .int .i64 3] w fun e w' => e = .returned (.int .i64 (codeU s.data.toList 3)) ∧ w = w' := by
 have e0 := at_g (s := s) (k := 0) (by omega)
 have b0 := g_lt s.data.toList 0
 have e1 := at_g (s := s) (k := 1) (by omega)
 have b1 := g_lt s.data.toList 1
 have e2 := at_g (s := s) (k := 2) (by omega)
 have b2 := g_lt s.data.toList 2
 have HC : Hid (codeU s.data.toList 3 = par s.data.toList 224 3) := rfl
 have HP1 := Ld (par1 s.data.toList 224)
 have HP2 := Ld (par2 s.data.toList 224)
 have HP3 := Ld (par3 s.data.toList 224)
 go_enter Tryz.func147, Tryz.ntmps147
 go_wp2
 go_loop [5, 6] (fun x i => ∃ k : Nat, 1 ≤ k ∧ k ≤ 3 ∧ i = .int .i64 k ∧ x = .int .i64 (par s.data.toList 224 k)) (fun _ i => 5 - (intOf i).toNat)
 case atStart => exact ⟨1, by omega, by omega, rfl, by rw [HP1.out]⟩
 case round =>
  obtain ⟨k, hk1, hk2, rfl, rfl⟩ := hrel
  rcases (by omega : k = 1 ∨ k = 2 ∨ k = 3) with rfl | rfl | rfl
  ·rw [HP1.out]
   go_wp2
   go_round
   case rel => exact ⟨2, by omega, by omega, rfl, by rw [HP2.out]⟩
   case measure => simp [intOf]
  ·rw [HP2.out]
   go_wp2
   go_round
   case rel => exact ⟨3, by omega, by omega, rfl, by rw [HP3.out]⟩
   case measure => simp [intOf]
  ·go_wp2
   go_ret
   exact ⟨ret_int HC.out.symm, rfl⟩
set_option maxHeartbeats 800000 in
theorem rcode_4 (s : ByteArray) (w : World) (h : 4 ≤ s.size) : Calls Tryz.prog 147 #[.string s, .int .i64 4] w fun e w' => e = .returned (.int .i64 (codeU s.data.toList 4)) ∧ w = w' := by
 have e0 := at_g (s := s) (k := 0) (by omega)
 have b0 := g_lt s.data.toList 0
 have e1 := at_g (s := s) (k := 1) (by omega)
 have b1 := g_lt s.data.toList 1
 have e2 := at_g (s := s) (k := 2) (by omega)
 have b2 := g_lt s.data.toList 2
 have e3 := at_g (s := s) (k := 3) (by omega)
 have b3 := g_lt s.data.toList 3
 have HC : Hid (codeU s.data.toList 4 = par s.data.toList 240 4) := rfl
 have HP1 := Ld (par1 s.data.toList 240)
 have HP2 := Ld (par2 s.data.toList 240)
 have HP3 := Ld (par3 s.data.toList 240)
 have HP4 := Ld (par4 s.data.toList 240)
 go_enter Tryz.func147, Tryz.ntmps147
 go_wp2
 go_loop [5, 6] (fun x i => ∃ k : Nat, 1 ≤ k ∧ k ≤ 4 ∧ i = .int .i64 k ∧ x = .int .i64 (par s.data.toList 240 k)) (fun _ i => 5 - (intOf i).toNat)
 case atStart => exact ⟨1, by omega, by omega, rfl, by rw [HP1.out]⟩
 case round =>
  obtain ⟨k, hk1, hk2, rfl, rfl⟩ := hrel
  rcases (by omega : k = 1 ∨ k = 2 ∨ k = 3 ∨ k = 4) with rfl | rfl | rfl | rfl
  ·rw [HP1.out]
   go_wp2
   go_round
   case rel => exact ⟨2, by omega, by omega, rfl, by rw [HP2.out]⟩
   case measure => simp [intOf]
  ·rw [HP2.out]
   go_wp2
   go_round
   case rel => exact ⟨3, by omega, by omega, rfl, by rw [HP3.out]⟩
   case measure => simp [intOf]
  ·rw [HP3.out]
   go_wp2
   go_round
   case rel => exact ⟨4, by omega, by omega, rfl, by rw [HP4.out]⟩
   case measure => simp [intOf]
  ·go_wp2
   go_ret
   exact ⟨ret_int HC.out.symm, rfl⟩
theorem rcode_any (s : ByteArray) (n : Nat) (w : World) (h1 : 1 ≤ n) (h4 : n ≤ 4) (h : n ≤ s.size) : Calls Tryz.prog 147 #[.string s, .int .i64 n] w fun e w' => e = .returned (.int .i64 (codeU s.data.toList n)) ∧ w = w' := by
 rcases (by omega : n = 1 ∨ n = 2 ∨ n = 3 ∨ n = 4) with rfl | rfl | rfl | rfl
 ·exact rcode_1 s w h
 ·exact rcode_2 s w h
 ·exact rcode_3 s w h
 ·exact rcode_4 s w h
theorem nxt_yes {l : List UInt8} {n : Nat} (h1 : 1 ≤ n) (hn : n ≤ l.length) (h : n = (nxt l).2) : mayU (codeU l n) = true ∧ encU (codeU l n) = l.take n ∧ codeU l n = (nxt l).1 := by
 obtain ⟨a, b, c⟩ := nxt_is (l := l) (c := (nxt l).1) (n := n) (by rw [h]) (by omega)
 obtain ⟨d, e, _⟩ := nxt_enc a b c
 rw [e]
 exact ⟨a, c, rfl⟩
theorem nxt_not {l : List UInt8} {n : Nat} (hn : n ≤ l.length) (h : n ≠ (nxt l).2) : mayU (codeU l n) = false ∨ mayU (codeU l n) = true ∧ encU (codeU l n) ≠ l.take n := by
 cases hm : mayU (codeU l n)
 ·exact .inl rfl
 ·refine .inr ⟨rfl, fun e => h ?_⟩
  rw [(nxt_enc hm hn e).1]
theorem ext_take (s : ByteArray) (k : Nat) : (s.extract 0 k).toList = s.data.toList.take k := by
 rw [ByteArray.toList_eq]; simp
theorem mk_list (l : List UInt8) : (ByteArray.mk l.toArray).toList = l := by
 rw [ByteArray.toList_eq]
theorem bytesW_str {c : Int} {w w1 : World} {E : ByteArray} (hE : E = ByteArray.mk (encU c).toArray) (hw : w1 = w.alloc (.cells (Lib.byteCells (encU c)).toArray 5)) (n m : Nat) (hn : (encU c).length = n) :
  (convert 45 9 (.slice (some ⟨w.heap.size, 0, none⟩) n m)).run Tryz.prog w1 = .ok (.string E) w1 := by
 subst hE; subst hw
 exact run_string (lit_rb w (encU c) _ rfl) n m hn
theorem rbytes_s (c : Int) (E : ByteArray) (n : Nat) (hE : E = ByteArray.mk (encU c).toArray) (hn : (encU c).length = n) (w : World) (hm : mayU c = true) : Calls Tryz.prog 149 #[.int .i64 c] w fun e w' =>
  ∃ g, e = .returned (.slice (some ⟨g, 0, none⟩) n n) ∧ (convert 45 9 (.slice (some ⟨g, 0, none⟩) n n)).run Tryz.prog w' = .ok (.string E) w' ∧ Below w.heap.size w w' := by
 subst hn
 refine (rbytes_any c w hm).mono fun e w' ⟨he, hw⟩ => ⟨_, he, bytesW_str hE hw _ _ rfl, ?_⟩
 rw [hw]; exact below_new _ _
theorem quiet_l {P : Program} {f : FuncId} {args : Array Value} {w : World} {n : Nat} {v : Value}
  (h : Calls P f args (w.drewN n) fun e w' => e = .returned v ∧ w.drewN n = w') : Calls P f args (w.drewN n) fun e w'' => e = .returned v ∧ ∃ m, w'' = w.drewN m :=
 h.mono fun _ _ ⟨he, hm⟩ => ⟨he, n, hm.symm⟩
set_option maxRecDepth 100000 in
set_option maxHeartbeats 1600000 in
theorem rnext_any (s : ByteArray) (w : World) (hs : s.size ≤ 9223372036854775807) : Calls Tryz.prog 112 #[.string s] w fun e w' => e = .returned (.tuple #[.int .i64 (nxt s.data.toList).1, .int .i64 ((nxt s.data.toList).2 : Nat)]) ∧ Below w.heap.size w w' := by
  have hsz : s.size = s.data.toList.length := by cases s; simp [ByteArray.size]
  have HSZ := Ld hsz
  clear hsz
  obtain ⟨M, hM⟩ : ∃ M, M = (nxt s.data.toList).2 := ⟨_, rfl⟩
  obtain ⟨C, hC⟩ : ∃ C, C = (nxt s.data.toList).1 := ⟨_, rfl⟩
  rw [← hM, ← hC]
  have h4 : M ≤ 4 := by rw [hM]; exact (nxt_size (l := s.data.toList) rfl).1
  have hMs : M ≤ s.size := by
    rcases Nat.eq_zero_or_pos M with h0 | h0
    · omega
    · rw [HSZ.out]
      have := (nxt_is (l := s.data.toList) (c := C) (n := M) (by rw [hM, hC]) (by omega)).2.1
      exact this
  have hM0 : M = 0 → C = -1 := fun h => (nxt_size (l := s.data.toList) (c := C) (n := M) (by rw [hM, hC])).2 h
  have HM := Ld hM
  have HC := Ld hC
  have HM0 := Ld hM0
  clear hM hC hM0
  go_enter Tryz.func112, Tryz.ntmps112
  go_wp2
  go_loopw [4] (fun i wr => ∃ k : Nat, 1 ≤ k ∧ k ≤ 5 ∧ (M = 0 ∨ k ≤ M) ∧ i = .int .i64 k ∧ Below w.heap.size w wr) (fun i _ => 6 - (intOf i).toNat)
  case atStart => exact ⟨1, by omega, by omega, by omega, rfl, Below.refl _ _⟩
  case round =>
    obtain ⟨k, hk1, hk2, hkM, rfl, hbw⟩ := hrel
    have HB := Ld hbw
    clear hbw
    rcases (by omega : 4 < k ∨ k ≤ 4 ∧ s.size < k ∨ k ≤ 4 ∧ k ≤ s.size) with g1 | ⟨g1, g2⟩ | ⟨g1, g2⟩
    · have hM : M = 0 := by omega
      have e1 : decide ((k : Int) ≤ 4) = false := by rw [decide_eq_false_iff_not]; omega
      have HR : Hid ((C = -1) ∧ ((M : Nat) : Int) = 0) := ⟨HM0.out hM, by omega⟩
      clear hM
      go_wp2
      go_ret2
      exact ⟨by rw [HR.out.1, HR.out.2]; rfl, HB.out⟩
    · have hM : M = 0 := by omega
      have e1 : decide ((k : Int) ≤ 4) = true := by rw [decide_eq_true_iff]; omega
      have e2 : decide (k ≤ s.size) = false := by rw [decide_eq_false_iff_not]; omega
      have HR : Hid ((C = -1) ∧ ((M : Nat) : Int) = 0) := ⟨HM0.out hM, by omega⟩
      clear hM
      go_wp2
      go_ret2
      exact ⟨by rw [HR.out.1, HR.out.2]; rfl, HB.out⟩
    · have e1 : decide ((k : Int) ≤ 4) = true := by rw [decide_eq_true_iff]; omega
      have e2 : decide (k ≤ s.size) = true := by rw [decide_eq_true_iff]; omega
      obtain ⟨c, hc⟩ : ∃ c, c = codeU s.data.toList k := ⟨_, rfl⟩
      have HCD := Ld (fun w => rcode_any s k w hk1 g1 g2)
      rw [← hc] at HCD
      have HCC := Ld hc
      rcases (by omega : k = M ∨ k ≠ M) with hkm | hkm
      · have hy := nxt_yes hk1 (by rw [← HSZ.out]; exact g2) (hkm.trans HM.out)
        rw [← hc, ← HC.out] at hy
        obtain ⟨y1, y2, y3⟩ := hy
        have HE : Hid ((ByteArray.mk (encU c).toArray).toList = (s.extract 0 k).toList) := by show _ = _; rw [mk_list, ext_take, y2]
        have hkc : c = C ∧ k = M := ⟨y3, hkm⟩
        have HKC := Ld hkc
        clear hc hkm y2 y3 hkc
        obtain ⟨E, hE⟩ : ∃ E, E = ByteArray.mk (encU c).toArray := ⟨_, rfl⟩
        rw [← hE] at HE
        have HEE := Ld hE
        have e3 : (E.toList == (s.extract 0 k).toList) = true := by rw [HE.out]; simp
        clear hE
        go_wp2_with fail
        refine (HCD.out _).mono ?_
        rintro e w' ⟨rfl, rfl⟩
        go_wp2_with fail
        obtain ⟨n, hn⟩ : ∃ n, n = (encU c).length := ⟨_, rfl⟩
        have HN := Ld hn.symm
        clear hn
        have hB := HB.out.drew
        go_region_held (fun w' => True) (trivial)
          (first | (go_at_call 148; (refine (rmay_any c _).mono ?_); rintro e w' ⟨rfl, rfl⟩)
                 | (go_at_call 149; (refine (rbytes_s c E n HEE.out HN.out _ y1).mono ?_); rintro e w1 ⟨g, rfl, hs1, hb1⟩; have hB := hB.trans (hb1.mono hB.size); clear hb1))
        clear hs1
        go_wp2
        go_ret2
        exact ⟨by rw [HKC.out.1, HKC.out.2]; rfl, hB⟩
      · have hx := nxt_not (l := s.data.toList) (n := k) (by rw [← HSZ.out]; exact g2) (by rw [← HM.out]; exact hkm)
        rw [← hc] at hx
        have hkM2 : M = 0 ∨ k + 1 ≤ M := by omega
        clear hkM hkm hc
        rcases hx with hx | ⟨hx, hne⟩
        · go_wp2_with fail
          refine (HCD.out _).mono ?_
          rintro e w' ⟨rfl, rfl⟩
          go_wp2_with fail
          go_quiet ((go_at_call 148; exact quiet_l (rmay_any c _)))
          go_wp2
          go_roundw
          case rel => exact ⟨k + 1, by omega, by omega, hkM2, by go_num, dnU HB.out _⟩
          case measure => simp [intOf]; omega
        · obtain ⟨E, hE⟩ : ∃ E, E = ByteArray.mk (encU c).toArray := ⟨_, rfl⟩
          have HEE := Ld hE
          have e3 : (E.toList == (s.extract 0 k).toList) = false := by
            rw [beq_eq_false_iff_ne, hE, mk_list, ext_take]
            exact hne
          clear hE hne
          go_wp2_with fail
          refine (HCD.out _).mono ?_
          rintro e w' ⟨rfl, rfl⟩
          go_wp2_with fail
          obtain ⟨n, hn⟩ : ∃ n, n = (encU c).length := ⟨_, rfl⟩
          have HN := Ld hn.symm
          clear hn
          have hB := HB.out.drew
          go_region_held (fun w' => True) (trivial)
            (first | (go_at_call 148; (refine (rmay_any c _).mono ?_); rintro e w' ⟨rfl, rfl⟩)
                   | (go_at_call 149; (refine (rbytes_s c E n HEE.out HN.out _ hx).mono ?_); rintro e w1 ⟨g, rfl, hs1, hb1⟩; have hB := hB.trans (hb1.mono hB.size); clear hb1))
          clear hs1
          go_wp2
          go_roundw
          case rel => exact ⟨k + 1, by omega, by omega, hkM2, by go_num, hB⟩
          case measure => simp [intOf]; omega
end Go.Proofs.YtefkpphahimkgaaGreatDoor
namespace Go.Proofs.YtefkpphahimkgaaGreatDoor
open Go.RowKit Utf
set_option linter.unusedVariables false
def tabU (w : World) : Prop := Lib.Utf8Tabs 0 1 w
theorem lt_of_cell {w : World} {a : Addr} {v : Value} (h : w.cell? a = some v) : a.block < w.heap.size := by
 rcases Nat.lt_or_ge a.block w.heap.size with h1 | h1
 ·exact h1
 ·simp [World.cell?, Array.getElem?_eq_none h1] at h
theorem tabU.below {w w' : World} (h : tabU w) (hb : Below w.heap.size w w') : tabU w' := by
 refine ⟨fun c hc => ?_, fun i hi => ⟨?_, ?_⟩⟩
 ·have := h.1 c hc
  rw [hb.cell (lt_of_cell this)]; exact this
 ·have := (h.2 i hi).1
  rw [hb.cell (lt_of_cell this)]; exact this
 ·have := (h.2 i hi).2
  rw [hb.cell (lt_of_cell this)]; exact this
theorem tabU.drew {w : World} (h : tabU w) : tabU w.drew := h
theorem dec_bd (l : List UInt8) : (decL l).1 ≤ 1114111 ∧ (decL l).2 ≤ 4 ∧ 1 ≤ (decL l).2 := by
 have c0 := g_lt l 0; have c1 := g_lt l 1; have c2 := g_lt l 2; have c3 := g_lt l 3
 unfold decL
 split
 ·simp; omega
 ·split
  ·split <;> simp; omega
  ·split
   ·split <;> simp; omega
   ·split
    ·split
     ·rename_i h; have := may_iff.1 h.2; simp; omega
     ·simp
    ·simp
theorem valid_any (s : ByteArray) (w : World) (ht : tabU w) (hs : s.size ≤ 9223372036854775807) : Calls Tryz.prog 67 #[.string s] w fun e w' => e = .returned (.bool (Lib.validD s.data.toList)) ∧ Below w.heap.size w w' := by
 have HD := Ld (fun w ht => Tryz.utf8_ValidString s w hs ht)
 have HT := Ld ht
 clear ht
 go_enter Tryz.func67, Tryz.ntmps67
 go_wp2_with fail
 refine (HD.out _ HT.out).mono ?_
 rintro e w1 ⟨rfl, hb⟩
 go_wp2
 go_ret
 exact ⟨rfl, hb⟩
theorem decodeL_eq (l : List UInt8) (h : l ≠ []) : Lib.decodeL l = decL l := by
 have h1 : (ByteArray.mk l.toArray).size ≠ 0 := by simpa [ByteArray.size] using h
 have := dec_eq ⟨l.toArray⟩ h1
 unfold Lib.decodeGo at this
 rw [if_neg h1] at this
 simpa [Lib.decodeL] using this
theorem vgo_fuel (n : Nat) : ∀ (l : List UInt8) (m : Nat), l.length ≤ n → l.length ≤ m → Lib.validGoD n l = Lib.validGoD m l := by
 induction n with
 | zero =>
  intro l m h1 h2
  have : l = [] := List.eq_nil_of_length_eq_zero (by omega)
  subst this
  cases m <;> simp [Lib.validGoD]
 | succ n ih =>
  intro l m h1 h2
  by_cases hl : l = []
  ·subst hl
   cases m <;> simp [Lib.validGoD]
  ·have hp := List.length_pos_iff.2 hl
   obtain ⟨m, rfl⟩ : ∃ k, m = k + 1 := ⟨m - 1, by omega⟩
   rw [Lib.validGoD, Lib.validGoD, if_neg hl, if_neg hl]
   split
   ·rfl
   ·have hd := dec_bd l
    rw [decodeL_eq l hl]
    exact ih _ _ (by rw [List.length_drop]; omega) (by rw [List.length_drop]; omega)
theorem valid_step (l : List UInt8) (hl : l ≠ []) : Lib.validD l = if (nxt l).2 = 0 then false else Lib.validD (l.drop (nxt l).2) := by
 have hp := List.length_pos_iff.2 hl
 have hd := dec_bd l
 unfold Lib.validD
 obtain ⟨k, hk⟩ : ∃ k, l.length = k + 1 := ⟨l.length - 1, by omega⟩
 rw [hk, Lib.validGoD, if_neg hl, decodeL_eq l hl]
 have hN : nxt l = if (decL l).1 = 65533 ∧ (decL l).2 = 1 then (-1, 0) else (((decL l).1 : Int), (decL l).2) := by unfold nxt; rw [if_neg hl]
 by_cases hx : (decL l).1 = 65533 ∧ (decL l).2 = 1
 ·rw [if_pos hx] at hN
  rw [if_pos hx, hN]
  rfl
 ·rw [if_neg hx] at hN
  rw [if_neg hx, hN]
  rw [if_neg (by simp; omega)]
  exact vgo_fuel _ _ _ (by rw [List.length_drop]; omega) (by simp)
theorem ext_drop (t : ByteArray) (K : Nat) : (t.extract K t.size).data.toList = t.data.toList.drop K := by
 simp [← ByteArray.size_data]
 exact List.take_of_length_le (by simp)
set_option maxHeartbeats 800000 in
theorem rvalid_any (s : ByteArray) (w : World) (hs : s.size ≤ 9223372036854775807) : Calls Tryz.prog 73 #[.string s] w fun e w' => e = .returned (.bool (Lib.validD s.data.toList)) ∧ Below w.heap.size w w' := by
 obtain ⟨V, hV⟩ : ∃ V, V = Lib.validD s.data.toList := ⟨_, rfl⟩
 rw [← hV]
 have HV := Ld hV.symm
 clear hV
 go_enter Tryz.func73, Tryz.ntmps73
 go_wp2
 go_loopg [0] (s.size + 1) (fun gk x wr => ∃ t : ByteArray, x = .string t ∧ t.size < gk ∧ t.size ≤ 9223372036854775807 ∧ Lib.validD t.data.toList = V ∧ Below w.heap.size w wr)
 case atStart => exact ⟨s, rfl, by omega, hs, HV.out, Below.refl _ _⟩
 case round =>
  obtain ⟨t, rfl, hg, hts, hv, hbw⟩ := hrel
  obtain ⟨g', rfl⟩ : ∃ g', gk = g' + 1 := ⟨gk - 1, by omega⟩
  have hlen : t.size = t.data.toList.length := by cases t; simp [ByteArray.size]
  have HB := Ld hbw
  have HVV := Ld hv
  clear hv hbw
  rcases (by omega : t.size = 0 ∨ 0 < t.size) with h0 | h0
  ·have hl : t.data.toList = [] := List.eq_nil_of_length_eq_zero (by omega)
   have hV1 : Hid (V = true) := by show _ = _; rw [← HVV.out, hl]; rfl
   have e1 : decide (0 < t.size) = false := by rw [decide_eq_false_iff_not]; omega
   clear hl hlen h0
   go_wp2
   go_ret
   exact ⟨ret_bool hV1.out.symm, HB.out⟩
  ·have hl : t.data.toList ≠ [] := fun e => by have h2 : t.data.toList.length = 0 := (congrArg List.length e).trans rfl; omega
   have hst := valid_step t.data.toList hl
   have e1 : decide (0 < t.size) = true := by rw [decide_eq_true_iff]; omega
   obtain ⟨C, hC⟩ : ∃ C, C = (nxt t.data.toList).1 := ⟨_, rfl⟩
   obtain ⟨K, hK⟩ : ∃ K, K = (nxt t.data.toList).2 := ⟨_, rfl⟩
   have HN := Ld (fun w => rnext_any t w hts)
   rw [← hC, ← hK] at HN
   rw [← hK] at hst
   have hKs : K ≤ t.size := by
    rcases Nat.eq_zero_or_pos K with x | x
    ·omega
    ·rw [hlen]; exact (nxt_is (l := t.data.toList) (c := C) (n := K) (by rw [hC, hK]) (by omega)).2.1
   have HST := Ld hst
   clear hC hK hst hl hlen
   rcases (by omega : K = 0 ∨ 0 < K) with k0 | k0
   ·have hV1 : Hid (V = false) := by show _ = _; rw [← HVV.out, HST.out, if_pos k0]
    have f0 : ((K : Int) == 0) = true := by rw [beq_iff_eq]; omega
    clear k0
    go_wp2_with fail
    refine (HN.out _).mono ?_
    rintro e w1 ⟨rfl, hb1⟩
    go_wp2
    go_ret
    exact ⟨ret_bool hV1.out.symm, HB.out.trans (hb1.mono HB.out.size)⟩
   ·have hV1 : Hid (Lib.validD (t.data.toList.drop K) = V) := by show _ = _; rw [← HVV.out, HST.out, if_neg (by omega)]
    have f0 : ((K : Int) == 0) = false := by rw [beq_eq_false_iff_ne]; omega
    go_wp2_with fail
    refine (HN.out _).mono ?_
    rintro e w1 ⟨rfl, hb1⟩
    go_wp2
    go_roundg g'
    case measure => omega
    case rel => exact ⟨_, rfl, by rw [ByteArray.size_extract]; omega, by rw [ByteArray.size_extract]; omega, by rw [ext_drop]; exact hV1.out, HB.out.trans (hb1.mono HB.out.size)⟩
end Go.Proofs.YtefkpphahimkgaaGreatDoor
