/-
  SHA-256 on words that are numbers: the plain mirror of the code's arithmetic.
-/
import Derived.Test.YtcndkkagnobpmaaDoorSha1
namespace Go.Proofs.YtcndkkagnobpmaaDoor
open Go.RowKit
set_option linter.unusedVariables false

def xorI (a b : Int) : Int := bits .xor .u32 a b
def s0I (x : Int) : Int := xorI (xorI (rotI x 7) (rotI x 18)) (x / 8)
def s1I (x : Int) : Int := xorI (xorI (rotI x 17) (rotI x 19)) (x / 1024)
def byteI (b : List UInt8) (k : Nat) : Int := ((b.getD k 0).toNat : Int)
/-- the first j bytes of word t -/
def partI (b : List UInt8) (t : Nat) : Nat → Int
  | 0 => 0
  | j + 1 => partI b t j * 256 + byteI b (4 * t + j)
def moreI (W : List Int) (t : Nat) : Int := (((W.getD (t - 16) 0 + s0I (W.getD (t - 15) 0)) % 4294967296 + W.getD (t - 7) 0) % 4294967296 + s1I (W.getD (t - 2) 0)) % 4294967296
def stepW (b : List UInt8) (W : List Int) (t : Nat) : Int := if t < 16 then partI b t 4 else moreI W t
def schedN (b : List UInt8) : Nat → List Int
  | 0 => []
  | t + 1 => schedN b t ++ [stepW b (schedN b t) t]
def isW (x : Int) : Prop := 0 ≤ x ∧ x < 4294967296
theorem schedN_len (b : List UInt8) : ∀ t, (schedN b t).length = t
  | 0 => rfl
  | t + 1 => by unfold schedN; rw [List.length_append, schedN_len b t]; rfl
theorem byteI_bd (b : List UInt8) (k : Nat) : 0 ≤ byteI b k ∧ byteI b k < 256 := by
  unfold byteI
  have := (b.getD k 0).toNat_lt
  omega
theorem part_bd (b : List UInt8) (t : Nat) : (0 ≤ partI b t 1 ∧ partI b t 1 < 256) ∧ (0 ≤ partI b t 2 ∧ partI b t 2 < 65536) ∧ (0 ≤ partI b t 3 ∧ partI b t 3 < 16777216) ∧ (0 ≤ partI b t 4 ∧ partI b t 4 < 4294967296) := by
  have h0 := byteI_bd b (4 * t + 0)
  have h1 := byteI_bd b (4 * t + 1)
  have h2 := byteI_bd b (4 * t + 2)
  have h3 := byteI_bd b (4 * t + 3)
  simp only [partI]
  omega
theorem part_lt (b : List UInt8) (t j : Nat) (hj : j < 4) : 0 ≤ partI b t j ∧ partI b t j < 16777216 := by
  have h := part_bd b t
  rcases (by omega : j = 0 ∨ j = 1 ∨ j = 2 ∨ j = 3) with rfl | rfl | rfl | rfl
  · simp [partI]
  · omega
  · omega
  · omega
theorem moreI_bd (W : List Int) (t : Nat) : isW (moreI W t) := by unfold isW moreI; omega
theorem stepW_bd (b : List UInt8) (W : List Int) (t : Nat) : isW (stepW b W t) := by
  unfold stepW
  split
  · exact (part_bd b t).2.2.2
  · exact moreI_bd W t
theorem schedN_bd (b : List UInt8) : ∀ t x, x ∈ schedN b t → isW x
  | 0, x, h => by cases h
  | t + 1, x, h => by
    unfold schedN at h
    rcases List.mem_append.1 h with h | h
    · exact schedN_bd b t x h
    · rw [List.mem_singleton] at h; rw [h]; exact stepW_bd _ _ _
theorem getD_bd {W : List Int} (h : ∀ x ∈ W, isW x) (k : Nat) : isW (W.getD k 0) := by
  rw [List.getD_eq_getElem?_getD]
  rcases Nat.lt_or_ge k W.length with hk | hk
  · rw [List.getElem?_eq_getElem hk]; exact h _ (List.getElem_mem hk)
  · rw [List.getElem?_eq_none hk]; unfold isW; simp
/-- a byte behind a word's bytes -/
theorem or_byte (v c : Int) (hv : 0 ≤ v) (hv2 : v < 16777216) (hc : 0 ≤ c) (hc2 : c < 256) : bits .or .u32 (v * 256 % 4294967296) c = v * 256 + c := by
  rw [show v * 256 % 4294967296 = v * 256 from by omega]
  exact bits_join .u32 32 (by decide) (fun n h0 h1 => by rw [IntKind.wrap_u32]; have h2 : n < 4294967296 := h1; omega) 8 (v * 256) c (by omega) (by show v * 256 % 256 = 0; omega) (by show v * 256 < 4294967296; omega) hc (by show c < 256; omega) (by show c < 4294967296; omega)
end Go.Proofs.YtcndkkagnobpmaaDoor
