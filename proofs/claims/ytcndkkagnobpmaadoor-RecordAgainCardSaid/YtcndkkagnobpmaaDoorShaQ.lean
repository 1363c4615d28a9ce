/-
  SHA-256 of a text, plainly.
-/
import Derived.Test.YtcndkkagnobpmaaDoorSha5
import Derived.Test.YtcndkkagnobpmaaDoorOctPut
import Derived.Test.YtcndkkagnobpmaaDoorAppend
namespace Go.Proofs.YtcndkkagnobpmaaDoor
open Go.RowKit
set_option linter.unusedVariables false

theorem eatN_pre (s : St) (T b : List UInt8) : ∀ j, 64 * j ≤ T.length → eatN s (T ++ b) j = eatN s T j
  | 0, _ => rfl
  | j + 1, h => by
    unfold eatN
    rw [eatN_pre s T b j (by omega)]
    congr 1
    rw [List.drop_append_of_le_length (by omega), List.take_append_of_le_length (by rw [List.length_drop]; omega)]
theorem eatN_more (s : St) (L : List UInt8) (j : Nat) : ∀ k, eatN (eatN s L j) (L.drop (64 * j)) k = eatN s L (j + k)
  | 0 => rfl
  | k + 1 => by
    show blockI (eatN (eatN s L j) (L.drop (64 * j)) k) (((L.drop (64 * j)).drop (64 * k)).take 64) = blockI (eatN s L (j + k)) ((L.drop (64 * (j + k))).take 64)
    rw [eatN_more s L j k, List.drop_drop, Nat.mul_add]
def startS : St := ⟨0x6a09e667, 0xbb67ae85, 0x3c6ef372, 0xa54ff53a, 0x510e527f, 0x9b05688c, 0x1f83d9ab, 0x5be0cd19⟩
theorem startS_isW : startS.isW := by
  unfold startS St.isW
  simp only [isW]
  omega
/-- the blocks of a text that are whole -/
def eat (T : List UInt8) : St := eatN startS T (T.length / 64)
def restL (T : List UInt8) : List UInt8 := T.drop (64 * (T.length / 64))
theorem restL_len (T : List UInt8) : (restL T).length = T.length % 64 := by unfold restL; rw [List.length_drop]; omega
theorem eat_more (T b : List UInt8) : eatN (eat T) (restL T ++ b) ((restL T ++ b).length / 64) = eat (T ++ b) := by
  have h1 : restL T ++ b = (T ++ b).drop (64 * (T.length / 64)) := by unfold restL; rw [List.drop_append_of_le_length (by omega)]
  have h2 : eat T = eatN startS (T ++ b) (T.length / 64) := (eatN_pre startS T b (T.length / 64) (by omega)).symm
  unfold eat at h2 ⊢
  rw [h1, h2, eatN_more, List.length_drop]
  congr 1
  have : (T ++ b).length = T.length + b.length := List.length_append
  omega
theorem rest_more (T b : List UInt8) : (restL T ++ b).drop (64 * ((restL T ++ b).length / 64)) = restL (T ++ b) := by
  have h1 : restL T ++ b = (T ++ b).drop (64 * (T.length / 64)) := by unfold restL; rw [List.drop_append_of_le_length (by omega)]
  rw [h1, List.drop_drop, List.length_drop]
  unfold restL
  congr 1
  have : (T ++ b).length = T.length + b.length := List.length_append
  omega
def padZ (n : Nat) : Nat := (119 - n % 64) % 64
def padL (n : Nat) : List UInt8 := [128] ++ List.replicate (padZ n) 0 ++ beBytes (8 * n) 8
theorem padL_len (n : Nat) : (n + (padL n).length) % 64 = 0 := by
  unfold padL padZ
  rw [List.length_append, List.length_append, beBytes_length, List.length_replicate]
  simp only [List.length_cons, List.length_nil]
  omega
/-- a byte of the sum -/
def sumB (s : St) (i : Nat) : UInt8 := UInt8.ofNat (((stL s).getD (i / 4) 0).toNat / 2 ^ (24 - 8 * (i % 4)))
def sumL (s : St) : List UInt8 := (List.range 32).map (sumB s)
def shaL (T : List UInt8) : List UInt8 := sumL (eat (T ++ padL T.length))
theorem sumL_len (s : St) : (sumL s).length = 32 := by simp [sumL]
theorem shaL_len (T : List UInt8) : (shaL T).length = 32 := sumL_len _
end Go.Proofs.YtcndkkagnobpmaaDoor
