/-
  The record on a disk, plainly: what its blocks hold, what is found, what a commit makes of the disk.
-/
import Derived.Test.YtcndkkagnobpmaaDoorDisk6
import Derived.Test.YtcndkkagnobpmaaDoorShaQ
import Derived.Test.YtcndkkagnobpmaaDoorRdR
namespace Go.Proofs.YtcndkkagnobpmaaDoor
open Go.RowKit
set_option linter.unusedVariables false

theorem beBytes_snoc (n s : Nat) : beBytes n (s + 1) = beBytes (n / 256) s ++ [UInt8.ofNat n] := by
  unfold beBytes
  rw [List.range_succ, List.map_append]
  congr 1
  · apply List.map_congr_left
    intro k hk
    simp at hk
    unfold byteAt
    congr 1
    rw [show s + 1 - 1 - k = (s - 1 - k) + 1 from by omega, Nat.mul_add, Nat.pow_add, Nat.mul_comm (2 ^ _) (2 ^ _), ← Nat.div_div_eq_div_mul]
  · simp [byteAt]
theorem beVal_be (n s : Nat) : beVal (beBytes n s) = n % 256 ^ s := by
  induction s generalizing n with
  | zero => simp [beBytes, beVal, Nat.mod_one]
  | succ s ih =>
    have e1 : (UInt8.ofNat n).toNat = n % 256 := UInt8.toNat_ofNat'
    have e2 : 256 ^ (s + 1) = 256 * 256 ^ s := by rw [Nat.pow_succ, Nat.mul_comm]
    rw [beBytes_snoc, beVal_snoc, ih, e1, e2, Nat.mod_mul]
    omega
/-- a head's block -/
def hdL (N : Nat) (T : List UInt8) : List UInt8 := beBytes N 8 ++ beBytes T.length 8 ++ (shaL T).take 16 ++ List.replicate 24 0 ++ beBytes N 8
theorem hdL_len (N : Nat) (T : List UInt8) : (hdL N T).length = 64 := by
  simp only [hdL, List.length_append, beBytes_length, List.length_take, shaL_len, List.length_replicate]; omega
theorem hdL_num (N : Nat) (T : List UInt8) : (hdL N T).take 8 = beBytes N 8 := by
  unfold hdL
  simp only [List.append_assoc]
  exact List.take_left' (beBytes_length _ _)
theorem hdL_long (N : Nat) (T : List UInt8) : ((hdL N T).drop 8).take 8 = beBytes T.length 8 := by
  unfold hdL
  simp only [List.append_assoc]
  rw [List.drop_left' (beBytes_length _ _)]
  exact List.take_left' (beBytes_length _ _)
/-- so many blocks, one behind the other -/
def allL (K : Dk) (from_ n : Nat) : List UInt8 := (List.range n).flatMap fun i => K.now (from_ + i)
theorem allL_succ (K : Dk) (f n : Nat) : allL K f (n + 1) = allL K f n ++ K.now (f + n) := by unfold allL; rw [List.range_succ, List.flatMap_append]; simp
theorem allL_len (K : Dk) (f n : Nat) (h : ∀ i, i < n → (K.now (f + i)).length = 64) : (allL K f n).length = 64 * n := by
  induction n with
  | zero => rfl
  | succ n ih => rw [allL_succ, List.length_append, ih (fun i hi => h i (by omega)), h n (by omega)]; omega
theorem allL_congr {K K' : Dk} {f n : Nat} (h : ∀ i, i < n → K'.now (f + i) = K.now (f + i)) : allL K' f n = allL K f n := by
  induction n with
  | zero => rfl
  | succ n ih => rw [allL_succ, allL_succ, ih (fun i hi => h i (by omega)), h n (by omega)]
theorem allL_cons (K : Dk) (f n : Nat) : allL K f (n + 1) = K.now f ++ allL K (f + 1) n := by
  unfold allL
  rw [List.range_succ_eq_map, List.flatMap_cons, List.flatMap_map]
  congr 1
  apply congrArg (fun g => List.flatMap g (List.range n))
  funext i
  show K.now (f + (i + 1)) = K.now (f + 1 + i)
  congr 1; omega
/-- the number and the text of a half -/
def standsP (all : List UInt8) (h : Nat) : Prop :=
  1 ≤ beVal (all.take 8) ∧ beVal (all.take 8) ≤ 1152921504606846976 ∧ beVal (all.take 8) % 2 = h ∧ beVal ((all.drop 8).take 8) ≤ (all.drop 64).length ∧ all.take 64 = hdL (beVal (all.take 8)) ((all.drop 64).take (beVal ((all.drop 8).take 8)))
instance (all : List UInt8) (h : Nat) : Decidable (standsP all h) := by unfold standsP; infer_instance
def standsL (all : List UInt8) (h : Nat) : Option (Nat × List UInt8) := if standsP all h then some (beVal (all.take 8), (all.drop 64).take (beVal ((all.drop 8).take 8))) else none
theorem stands_new (N : Nat) (T room : List UInt8) (h1 : 1 ≤ N) (h2 : N ≤ 1152921504606846976) (hT : T.length < 9223372036854775808) (hr : T.length ≤ room.length) (ht : room.take T.length = T) : standsL (hdL N T ++ room) (N % 2) = some (N, T) := by
  have e1 : (hdL N T ++ room).take 64 = hdL N T := List.take_left' (hdL_len _ _)
  have e2 : (hdL N T ++ room).drop 64 = room := List.drop_left' (hdL_len _ _)
  have e3 : (hdL N T ++ room).take 8 = beBytes N 8 := by
    rw [List.take_append_of_le_length (by rw [hdL_len]; omega), hdL_num]
  have e4 : ((hdL N T ++ room).drop 8).take 8 = beBytes T.length 8 := by
    rw [List.drop_append_of_le_length (by rw [hdL_len]; omega), List.take_append_of_le_length (by rw [List.length_drop, hdL_len]; omega), hdL_long]
  have e5 : beVal (beBytes N 8) = N := by rw [beVal_be]; exact Nat.mod_eq_of_lt (by omega)
  have e6 : beVal (beBytes T.length 8) = T.length := by rw [beVal_be]; exact Nat.mod_eq_of_lt (by omega)
  have hs : standsP (hdL N T ++ room) (N % 2) := by
    unfold standsP
    rw [e1, e2, e3, e4, e5, e6, ht]
    exact ⟨h1, h2, rfl, hr, rfl⟩
  unfold standsL
  rw [if_pos hs, e2, e3, e4, e5, e6, ht]
theorem stands_zero (all : List UInt8) (h : Nat) (hz : beVal (all.take 8) = 0) : standsL all h = none := by
  unfold standsL
  rw [if_neg (fun hs => by unfold standsP at hs; rw [hz] at hs; omega)]
/-- what is found in a half -/
def stK (K : Dk) (first half h : Nat) : Option (Nat × List UInt8) := standsL (allL K (first + h * half) half) h
def best (a : Nat × List UInt8) (b : Option (Nat × List UInt8)) : Nat × List UInt8 := match b with
  | some x => if a.1 < x.1 then x else a
  | none => a
/-- what is found -/
def openL (K : Dk) (first half : Nat) : Nat × List UInt8 := best (best (0, []) (stK K first half 0)) (stK K first half 1)
/-- the number N with the text T is found -/
def RecOK (K : Dk) (first half N : Nat) (T : List UInt8) : Prop :=
  (N = 0 ∧ T = [] ∧ stK K first half 0 = none ∧ stK K first half 1 = none) ∨
  (1 ≤ N ∧ stK K first half (N % 2) = some (N, T) ∧ ∀ m t, stK K first half ((N + 1) % 2) = some (m, t) → m < N)
theorem RecOK.open_ {K : Dk} {first half N : Nat} {T : List UInt8} (h : RecOK K first half N T) : openL K first half = (N, T) := by
  unfold openL
  rcases h with ⟨rfl, rfl, h0, h1⟩ | ⟨h1, h2, h3⟩
  · rw [h0, h1]; rfl
  · rcases (by omega : N % 2 = 0 ∨ N % 2 = 1) with e | e
    · rw [e] at h2
      rw [show (N + 1) % 2 = 1 from by omega] at h3
      rw [h2]
      have e1 : best (0, []) (some (N, T)) = (N, T) := if_pos (by show 0 < N; omega)
      rw [e1]
      cases hb : stK K first half 1 with
      | none => rfl
      | some x => have := h3 x.1 x.2 hb; exact if_neg (by show ¬ N < x.1; omega)
    · rw [e] at h2
      rw [show (N + 1) % 2 = 0 from by omega] at h3
      rw [h2]
      cases hb : stK K first half 0 with
      | none => exact if_pos (by show 0 < N; omega)
      | some x =>
        have := h3 x.1 x.2 hb
        by_cases hx : 0 < x.1
        · have e1 : best (0, []) (some x) = x := if_pos hx
          rw [e1]; exact if_pos this
        · have e1 : best (0, []) (some x) = (0, []) := if_neg hx
          rw [e1]; exact if_pos (by show 0 < N; omega)
/-- blocks of a text -/
def pad64 (c : List UInt8) : List UInt8 := c ++ List.replicate (64 - c.length) 0
def chunk (T : List UInt8) (k : Nat) : List UInt8 := (T.drop (64 * k)).take 64
def chunksN (T : List UInt8) : Nat := (T.length + 63) / 64
theorem pad64_len (T : List UInt8) (k : Nat) : (pad64 (chunk T k)).length = 64 := by
  unfold pad64 chunk; rw [List.length_append, List.length_replicate, List.length_take]; omega
/-- the disk behind k of the body's writes (none behind the power's end) -/
def bodyK (K : Dk) (at_ : Nat) (T : List UInt8) : Nat → Dk
  | 0 => K
  | k + 1 => if (bodyK K at_ T k).off then bodyK K at_ T k else (bodyK K at_ T k).write (at_ + 1 + k) (pad64 (chunk T k))
def Dk.syncK (K : Dk) : Dk := if K.go.off then K.go else K.sync
def ifOn (K : Dk) (f : Dk → Dk) : Dk := if K.off then K else f K
/-- the disk behind a commit -/
def commitK (K : Dk) (at_ N : Nat) (T : List UInt8) : Dk :=
  ifOn (ifOn (ifOn (bodyK K at_ T (chunksN T)) Dk.syncK) fun K => K.write at_ (hdL N T)) Dk.syncK
def offE (K : Dk) : Int := if K.off then 210 else 0
end Go.Proofs.YtcndkkagnobpmaaDoor
