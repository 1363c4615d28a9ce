/-
  Big-endian numbers: plain facts.
-/
import Derived.Test.YtleancgkincenaaDoorReader2
namespace Go.Proofs.YtleancgkincenaaDoor
open Go.RowKit
set_option linter.unusedVariables false

theorem byteAt_succ (n s k : Nat) (h : k < s) : byteAt n (s + 1) k = byteAt (n / 256) s k := by
  unfold byteAt
  congr 1
  rw [show s + 1 - 1 - k = (s - 1 - k) + 1 from by omega, Nat.mul_add, Nat.pow_add, Nat.mul_comm (2 ^ _) (2 ^ _), ← Nat.div_div_eq_div_mul]
theorem beBytes_succ (n s : Nat) : beBytes n (s + 1) = beBytes (n / 256) s ++ [UInt8.ofNat n] := by
  unfold beBytes
  rw [List.range_succ, List.map_append]
  congr 1
  · apply List.map_congr_left
    intro k hk
    simp at hk
    exact byteAt_succ n s k hk
  · simp [byteAt]
theorem beVal_beBytes (n s : Nat) : beVal (beBytes n s) = n % 256 ^ s := by
  induction s generalizing n with
  | zero => simp [beBytes, beVal, Nat.mod_one]
  | succ s ih =>
    have e1 : (UInt8.ofNat n).toNat = n % 256 := UInt8.toNat_ofNat'
    have e2 : 256 ^ (s + 1) = 256 * 256 ^ s := by rw [Nat.pow_succ, Nat.mul_comm]
    rw [beBytes_succ, beVal_snoc, ih, e1, e2, Nat.mod_mul]
    omega
theorem beVal_text (s rest : List UInt8) (h : s.length < 4294967296) : beVal ((textBytes s ++ rest).take 4) = s.length := by
  have e : (textBytes s ++ rest).take 4 = beBytes s.length 4 := by
    unfold textBytes
    rw [List.append_assoc, List.take_append_of_le_length (by rw [beBytes_length]; exact Nat.le_refl _), List.take_of_length_le (by rw [beBytes_length]; exact Nat.le_refl _)]
  rw [e, beVal_beBytes]
  exact Nat.mod_eq_of_lt h
theorem drop_text (s rest : List UInt8) : (textBytes s ++ rest).drop 4 = s ++ rest := by
  unfold textBytes
  rw [List.append_assoc, List.drop_append_of_le_length (by rw [beBytes_length]; exact Nat.le_refl _), List.drop_of_length_le (by rw [beBytes_length]; exact Nat.le_refl _), List.nil_append]
theorem textBytes_length (s : List UInt8) : (textBytes s).length = 4 + s.length := by unfold textBytes; rw [List.length_append, beBytes_length]

/-- a text that stands next is read, whatever stands behind it -/
theorem rtext_next (w : World) (r : Nat) (s rest : List UInt8) (most : Int) (h : RD w r (textBytes s ++ rest) false) (hs : s.length < 4294967296) (hm : (s.length : Int) ≤ most) :
    Calls Tryd.prog 38 #[.pointer (some ⟨r, 0, none⟩), .int .i64 most] w fun e w' => e = .returned (.string ⟨s.toArray⟩) ∧ RD w' r rest false ∧ Fr (· = r) w w' := by
  have e1 := beVal_text s rest hs
  have e2 := drop_text s rest
  have hl : (textBytes s ++ rest).length = 4 + s.length + rest.length := by rw [List.length_append, textBytes_length]
  refine (rtext_ok w r (textBytes s ++ rest) most h (by omega) (by rw [e1]; exact hm) (by rw [e1]; omega)).mono ?_
  rw [e1, e2]
  rintro e w' ⟨rfl, h1, h2⟩
  refine ⟨?_, ?_, h2⟩
  · rw [List.take_left' rfl]
  · rwa [List.drop_left' rfl] at h1

/-- Bytes that stay, whose block (if there is a byte) lies below B. -/
def KZ (w : World) (B : Nat) (A : Option Addr) (l : List UInt8) : Prop := RB w A l ∧ (0 < l.length → ∀ ad, A = some ad → ad.block < B)
theorem RB.kz {w : World} {A : Option Addr} {l : List UInt8} (h : RB w A l) : KZ w w.heap.size A l :=
  ⟨h, fun hn ad e => by
    obtain ⟨ad', e', hb, _⟩ := h.2 hn
    rw [e] at e'
    cases e'
    exact hb⟩
theorem KZ.fr {S : Nat → Prop} {w w' : World} {B : Nat} {A : Option Addr} {l : List UInt8} (h : KZ w B A l) (hf : Fr S w w') (hS : ∀ k, S k → B ≤ k) : KZ w' B A l := by
  refine ⟨⟨h.1.1, fun hn => ?_⟩, h.2⟩
  obtain ⟨ad, e, hb, hc⟩ := h.1.2 hn
  have hlt := h.2 hn ad e
  have hs : ¬ S ad.block := fun hs => by have := hS _ hs; omega
  exact ⟨ad, e, Nat.lt_of_lt_of_le hb hf.size, fun j u hu => (hf.cell (by rw [block_of_add]; exact hb) (by rw [block_of_add]; exact hs)).trans (hc j u hu)⟩
theorem KZ.below {w w' : World} {B : Nat} {A : Option Addr} {l : List UInt8} (h : KZ w B A l) (hb : Below w.heap.size w w') : KZ w' B A l := ⟨h.1.below hb, h.2⟩
theorem KZ.drew {w : World} {B : Nat} {A : Option Addr} {l : List UInt8} (h : KZ w B A l) : KZ w.drew B A l := h
theorem KZ.drewN {w : World} {B : Nat} {A : Option Addr} {l : List UInt8} (h : KZ w B A l) (n : Nat) : KZ (w.drewN n) B A l := h
theorem RD.drew {w : World} {r : Nat} {l : List UInt8} {b : Bool} (h : RD w r l b) : RD w.drew r l b := h
theorem RD.drewN {w : World} {r : Nat} {l : List UInt8} {b : Bool} (h : RD w r l b) (n : Nat) : RD (w.drewN n) r l b := h

end Go.Proofs.YtleancgkincenaaDoor
