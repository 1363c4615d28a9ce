/-
  The record on a disk, plainly: what its blocks hold, what is found, what a commit makes of the disk.
  A commit that goes well, plainly.
  record: the head of a text.
  record: Read of so many blocks.
  record: what stands in a half.
  record: Open, Text, Number, Dead, Room.
  slices.Chunk at []byte, 64 at a time: what its closure hands to a loop's body.
  A region that draws, in a round of a range over a function: by the laws of a region outside of rounds.
-/
import Derived.Test.YtgpcinfhcamgpaaGreatDoorGD
import Derived.Test.YtgpcinfhcamgpaaGreatDoorGS
import Derived.Test.YtgpcinfhcamgpaaGreatDoorGA
import Derived.Deep.RegionHeld3
import Derived.RangeFuncNested
import Derived.RangeFuncBound
import Derived.RangeFuncCalls
import Derived.RangeFuncLeaves
import Derived.Shelf.Abstract
import Derived.Shelf.RegionOpen
import Derived.WalkKit
import Derived.OwnWalkIn
import Derived.TacticsInMore
import Derived.LoopNIn
import Derived.LoopIn
import Derived.OrdersIn
import Derived.Deep.RegionHeld
namespace Go.Proofs.YtgpcinfhcamgpaaGreatDoor
open Go.RowKit
set_option linter.unusedVariables false

theorem beBytes_snoc (n s : Nat) : beBytes n (s + 1) = beBytes (n / 256) s ++ [UInt8.ofNat n] := by
  unfold beBytes
  rw [List.range_succ, List.map_append]
  congr 1
  · apply List.map_congr_left
    intro k hk
    simp at hk
    unfold byteAt
    congr 1
    rw [show s + 1 - 1 - k = (s - 1 - k) + 1 from by omega, Nat.mul_add, Nat.pow_add, Nat.mul_comm (2 ^ _) (2 ^ _), ← Nat.div_div_eq_div_mul]
  · simp [byteAt]
theorem beVal_be (n s : Nat) : beVal (beBytes n s) = n % 256 ^ s := by
  induction s generalizing n with
  | zero => simp [beBytes, beVal, Nat.mod_one]
  | succ s ih =>
    have e1 : (UInt8.ofNat n).toNat = n % 256 := UInt8.toNat_ofNat'
    have e2 : 256 ^ (s + 1) = 256 * 256 ^ s := by rw [Nat.pow_succ, Nat.mul_comm]
    rw [beBytes_snoc, beVal_snoc, ih, e1, e2, Nat.mod_mul]
    omega
/-- a head's block -/
def hdL (N : Nat) (T : List UInt8) : List UInt8 := beBytes N 8 ++ beBytes T.length 8 ++ (shaL T).take 16 ++ List.replicate 24 0 ++ beBytes N 8
theorem hdL_len (N : Nat) (T : List UInt8) : (hdL N T).length = 64 := by
  simp only [hdL, List.length_append, beBytes_length, List.length_take, shaL_len, List.length_replicate]; omega
theorem hdL_num (N : Nat) (T : List UInt8) : (hdL N T).take 8 = beBytes N 8 := by
  unfold hdL
  simp only [List.append_assoc]
  exact List.take_left' (beBytes_length _ _)
theorem hdL_long (N : Nat) (T : List UInt8) : ((hdL N T).drop 8).take 8 = beBytes T.length 8 := by
  unfold hdL
  simp only [List.append_assoc]
  rw [List.drop_left' (beBytes_length _ _)]
  exact List.take_left' (beBytes_length _ _)
/-- so many blocks, one behind the other -/
def allL (K : Dk) (from_ n : Nat) : List UInt8 := (List.range n).flatMap fun i => K.now (from_ + i)
theorem allL_succ (K : Dk) (f n : Nat) : allL K f (n + 1) = allL K f n ++ K.now (f + n) := by unfold allL; rw [List.range_succ, List.flatMap_append]; simp
theorem allL_len (K : Dk) (f n : Nat) (h : ∀ i, i < n → (K.now (f + i)).length = 64) : (allL K f n).length = 64 * n := by
  induction n with
  | zero => rfl
  | succ n ih => rw [allL_succ, List.length_append, ih (fun i hi => h i (by omega)), h n (by omega)]; omega
theorem allL_congr {K K' : Dk} {f n : Nat} (h : ∀ i, i < n → K'.now (f + i) = K.now (f + i)) : allL K' f n = allL K f n := by
  induction n with
  | zero => rfl
  | succ n ih => rw [allL_succ, allL_succ, ih (fun i hi => h i (by omega)), h n (by omega)]
theorem allL_cons (K : Dk) (f n : Nat) : allL K f (n + 1) = K.now f ++ allL K (f + 1) n := by
  unfold allL
  rw [List.range_succ_eq_map, List.flatMap_cons, List.flatMap_map]
  congr 1
  apply congrArg (fun g => List.flatMap g (List.range n))
  funext i
  show K.now (f + (i + 1)) = K.now (f + 1 + i)
  congr 1; omega
/-- the number and the text of a half -/
def standsP (all : List UInt8) (h : Nat) : Prop :=
  1 ≤ beVal (all.take 8) ∧ beVal (all.take 8) ≤ 1152921504606846976 ∧ beVal (all.take 8) % 2 = h ∧ beVal ((all.drop 8).take 8) ≤ (all.drop 64).length ∧ all.take 64 = hdL (beVal (all.take 8)) ((all.drop 64).take (beVal ((all.drop 8).take 8)))
instance (all : List UInt8) (h : Nat) : Decidable (standsP all h) := by unfold standsP; infer_instance
def standsL (all : List UInt8) (h : Nat) : Option (Nat × List UInt8) := if standsP all h then some (beVal (all.take 8), (all.drop 64).take (beVal ((all.drop 8).take 8))) else none
theorem stands_new (N : Nat) (T room : List UInt8) (h1 : 1 ≤ N) (h2 : N ≤ 1152921504606846976) (hT : T.length < 9223372036854775808) (hr : T.length ≤ room.length) (ht : room.take T.length = T) : standsL (hdL N T ++ room) (N % 2) = some (N, T) := by
  have e1 : (hdL N T ++ room).take 64 = hdL N T := List.take_left' (hdL_len _ _)
  have e2 : (hdL N T ++ room).drop 64 = room := List.drop_left' (hdL_len _ _)
  have e3 : (hdL N T ++ room).take 8 = beBytes N 8 := by
    rw [List.take_append_of_le_length (by rw [hdL_len]; omega), hdL_num]
  have e4 : ((hdL N T ++ room).drop 8).take 8 = beBytes T.length 8 := by
    rw [List.drop_append_of_le_length (by rw [hdL_len]; omega), List.take_append_of_le_length (by rw [List.length_drop, hdL_len]; omega), hdL_long]
  have e5 : beVal (beBytes N 8) = N := by rw [beVal_be]; exact Nat.mod_eq_of_lt (by omega)
  have e6 : beVal (beBytes T.length 8) = T.length := by rw [beVal_be]; exact Nat.mod_eq_of_lt (by omega)
  have hs : standsP (hdL N T ++ room) (N % 2) := by
    unfold standsP
    rw [e1, e2, e3, e4, e5, e6, ht]
    exact ⟨h1, h2, rfl, hr, rfl⟩
  unfold standsL
  rw [if_pos hs, e2, e3, e4, e5, e6, ht]
theorem stands_zero (all : List UInt8) (h : Nat) (hz : beVal (all.take 8) = 0) : standsL all h = none := by
  unfold standsL
  rw [if_neg (fun hs => by unfold standsP at hs; rw [hz] at hs; omega)]
/-- what is found in a half -/
def stK (K : Dk) (first half h : Nat) : Option (Nat × List UInt8) := standsL (allL K (first + h * half) half) h
def best (a : Nat × List UInt8) (b : Option (Nat × List UInt8)) : Nat × List UInt8 := match b with
  | some x => if a.1 < x.1 then x else a
  | none => a
/-- what is found -/
def openL (K : Dk) (first half : Nat) : Nat × List UInt8 := best (best (0, []) (stK K first half 0)) (stK K first half 1)
/-- the number N with the text T is found -/
def RecOK (K : Dk) (first half N : Nat) (T : List UInt8) : Prop :=
  (N = 0 ∧ T = [] ∧ stK K first half 0 = none ∧ stK K first half 1 = none) ∨
  (1 ≤ N ∧ stK K first half (N % 2) = some (N, T) ∧ ∀ m t, stK K first half ((N + 1) % 2) = some (m, t) → m < N)
theorem RecOK.open_ {K : Dk} {first half N : Nat} {T : List UInt8} (h : RecOK K first half N T) : openL K first half = (N, T) := by
  unfold openL
  rcases h with ⟨rfl, rfl, h0, h1⟩ | ⟨h1, h2, h3⟩
  · rw [h0, h1]; rfl
  · rcases (by omega : N % 2 = 0 ∨ N % 2 = 1) with e | e
    · rw [e] at h2
      rw [show (N + 1) % 2 = 1 from by omega] at h3
      rw [h2]
      have e1 : best (0, []) (some (N, T)) = (N, T) := if_pos (by show 0 < N; omega)
      rw [e1]
      cases hb : stK K first half 1 with
      | none => rfl
      | some x => have := h3 x.1 x.2 hb; exact if_neg (by show ¬ N < x.1; omega)
    · rw [e] at h2
      rw [show (N + 1) % 2 = 0 from by omega] at h3
      rw [h2]
      cases hb : stK K first half 0 with
      | none => exact if_pos (by show 0 < N; omega)
      | some x =>
        have := h3 x.1 x.2 hb
        by_cases hx : 0 < x.1
        · have e1 : best (0, []) (some x) = x := if_pos hx
          rw [e1]; exact if_pos this
        · have e1 : best (0, []) (some x) = (0, []) := if_neg hx
          rw [e1]; exact if_pos (by show 0 < N; omega)
/-- blocks of a text -/
def pad64 (c : List UInt8) : List UInt8 := c ++ List.replicate (64 - c.length) 0
def chunk (T : List UInt8) (k : Nat) : List UInt8 := (T.drop (64 * k)).take 64
def chunksN (T : List UInt8) : Nat := (T.length + 63) / 64
theorem pad64_len (T : List UInt8) (k : Nat) : (pad64 (chunk T k)).length = 64 := by
  unfold pad64 chunk; rw [List.length_append, List.length_replicate, List.length_take]; omega
/-- the disk behind k of the body's writes (none behind the power's end) -/
def bodyK (K : Dk) (at_ : Nat) (T : List UInt8) : Nat → Dk
  | 0 => K
  | k + 1 => if (bodyK K at_ T k).off then bodyK K at_ T k else (bodyK K at_ T k).write (at_ + 1 + k) (pad64 (chunk T k))
def Dk.syncK (K : Dk) : Dk := if K.go.off then K.go else K.sync
def ifOn (K : Dk) (f : Dk → Dk) : Dk := if K.off then K else f K
/-- the disk behind a commit -/
def commitK (K : Dk) (at_ N : Nat) (T : List UInt8) : Dk :=
  ifOn (ifOn (ifOn (bodyK K at_ T (chunksN T)) Dk.syncK) fun K => K.write at_ (hdL N T)) Dk.syncK
def offE (K : Dk) : Int := if K.off then 210 else 0
end Go.Proofs.YtgpcinfhcamgpaaGreatDoor

namespace Go.Proofs.YtgpcinfhcamgpaaGreatDoor
open Go.RowKit
set_option linter.unusedVariables false

theorem write_len (K : Dk) (i : Nat) (b : List UInt8) : (K.write i b).sure.length = K.sure.length := by
  unfold Dk.write Dk.put
  split <;> simp only [go_sure]
theorem write_off_eq (K : Dk) (i : Nat) (b : List UInt8) : (K.write i b).off = K.go.off := by
  unfold Dk.write Dk.put
  split <;> rfl
theorem write_bytes (K : Dk) (i : Nat) (b : List UInt8) : (K.write i b).bytes = K.bytes := by
  unfold Dk.write Dk.put
  split <;> exact go_bytes K
theorem go_left (K : Dk) (h : K.left < 0) : K.go = K := by
  unfold Dk.go
  rw [if_neg (by omega), if_neg (by omega)]
theorem write_left (K : Dk) (i : Nat) (b : List UInt8) (h : K.left < 0) : (K.write i b).left = K.left := by
  unfold Dk.write Dk.put
  rw [go_left K h]
  split <;> rfl
theorem put_now (K : Dk) (i : Nat) (b : List UInt8) (j : Nat) : (K.put i b).now j = if j = i then b else K.now j := by
  unfold Dk.now Dk.put
  dsimp only
  by_cases e : j = i
  · rw [if_pos e, if_pos e]; rfl
  · rw [if_neg e, if_neg e]
theorem write_now (K : Dk) (i : Nat) (b : List UInt8) (h : (K.write i b).off = false) (j : Nat) : (K.write i b).now j = if j = i then b else K.now j := by
  rw [write_off_eq] at h
  unfold Dk.write
  rw [h]
  rw [if_neg (by simp), put_now, go_now]
theorem sync_len (K : Dk) : K.sync.sure.length = K.sure.length := by simp [Dk.sync]
theorem sync_now (K : Dk) {j : Nat} (hj : j < K.sure.length) : K.sync.now j = K.now j := by
  show (none : Option (List UInt8)).getD (((List.range K.sure.length).map K.now).getD j []) = K.now j
  rw [Option.getD_none, List.getD_eq_getElem?_getD, List.getElem?_map, List.getElem?_range hj]
  rfl
theorem syncK_len (K : Dk) : K.syncK.sure.length = K.sure.length := by
  unfold Dk.syncK; split
  · rw [go_sure]
  · exact sync_len K
theorem syncK_off (K : Dk) : K.syncK.off = K.go.off := by
  unfold Dk.syncK; split
  · rfl
  · rfl
theorem syncK_now (K : Dk) {j : Nat} (hj : j < K.sure.length) : K.syncK.now j = K.now j := by
  unfold Dk.syncK; split
  · exact go_now K j
  · exact sync_now K hj
theorem body_len (K : Dk) (a : Nat) (T : List UInt8) (k : Nat) : (bodyK K a T k).sure.length = K.sure.length := by
  induction k with
  | zero => rfl
  | succ k ih =>
    unfold bodyK
    split
    · exact ih
    · rw [write_len, ih]
theorem body_on (K : Dk) (a : Nat) (T : List UInt8) (k : Nat) (h : (bodyK K a T (k + 1)).off = false) : (bodyK K a T k).off = false ∧ bodyK K a T (k + 1) = (bodyK K a T k).write (a + 1 + k) (pad64 (chunk T k)) := by
  cases e : (bodyK K a T k).off with
  | true => rw [bodyK, if_pos e, e] at h; cases h
  | false => exact ⟨rfl, by rw [bodyK, if_neg (by rw [e]; simp)]⟩
theorem body_now (K : Dk) (a : Nat) (T : List UInt8) (k : Nat) (h : (bodyK K a T k).off = false) (j : Nat) : (bodyK K a T k).now j = if a + 1 ≤ j ∧ j < a + 1 + k then pad64 (chunk T (j - a - 1)) else K.now j := by
  induction k with
  | zero => rw [if_neg (by omega)]; rfl
  | succ k ih =>
    obtain ⟨h1, h2⟩ := body_on K a T k h
    rw [h2] at h ⊢
    rw [write_now _ _ _ h, ih h1]
    by_cases e : j = a + 1 + k
    · rw [if_pos e, if_pos (by omega)]
      congr 2; omega
    · rw [if_neg e]
      by_cases e2 : a + 1 ≤ j ∧ j < a + 1 + k
      · rw [if_pos e2, if_pos (by omega)]
      · rw [if_neg e2, if_neg (by omega)]
theorem body_left (K : Dk) (a : Nat) (T : List UInt8) (k : Nat) (h : K.left < 0) (ho : K.off = false) : (bodyK K a T k).left = K.left ∧ (bodyK K a T k).off = false ∧ (bodyK K a T k).bytes = K.bytes := by
  induction k with
  | zero => exact ⟨rfl, ho, rfl⟩
  | succ k ih =>
    obtain ⟨h1, h2, h3⟩ := ih
    have hl : (bodyK K a T k).left < 0 := by omega
    rw [bodyK, if_neg (by rw [h2]; simp), write_off_eq, write_left _ _ _ hl, go_left _ hl, write_bytes]
    exact ⟨h1, h2, h3⟩
/-- what a commit that goes well makes of the blocks -/
theorem commit_now (K : Dk) (a N : Nat) (T : List UInt8) (h : (commitK K a N T).off = false) {j : Nat} (hj : j < K.sure.length) : (commitK K a N T).now j = if j = a then hdL N T else if a + 1 ≤ j ∧ j < a + 1 + chunksN T then pad64 (chunk T (j - a - 1)) else K.now j := by
  unfold commitK ifOn at h ⊢
  have hl := body_len K a T (chunksN T)
  cases e1 : (bodyK K a T (chunksN T)).off with
  | true => simp [e1] at h
  | false =>
    simp only [e1, Bool.false_eq_true, if_false] at h ⊢
    cases e2 : (bodyK K a T (chunksN T)).syncK.off with
    | true => simp [e2] at h
    | false =>
      simp only [e2, Bool.false_eq_true, if_false] at h ⊢
      cases e3 : ((bodyK K a T (chunksN T)).syncK.write a (hdL N T)).off with
      | true => simp [e3] at h
      | false =>
        simp only [e3, Bool.false_eq_true, if_false] at h ⊢
        rw [syncK_now _ (by rw [write_len, syncK_len, hl]; exact hj), write_now _ _ _ e3, syncK_now _ (by rw [hl]; exact hj), body_now _ _ _ _ e1]
theorem ifOn_len (K : Dk) (f : Dk → Dk) (h : ∀ K, (f K).sure.length = K.sure.length) : (ifOn K f).sure.length = K.sure.length := by
  unfold ifOn; split
  · rfl
  · exact h K
theorem commit_len (K : Dk) (a N : Nat) (T : List UInt8) : (commitK K a N T).sure.length = K.sure.length := by
  unfold commitK
  rw [ifOn_len _ _ syncK_len, ifOn_len _ _ (fun K => write_len K _ _), ifOn_len _ _ syncK_len, body_len]
theorem syncK_left (K : Dk) (h : K.left < 0) (ho : K.off = false) : K.syncK.left = K.left ∧ K.syncK.off = false ∧ K.syncK.bytes = K.bytes := by
  unfold Dk.syncK Dk.sync
  rw [go_left K h, ho]
  exact ⟨rfl, ho, rfl⟩
theorem commit_left (K : Dk) (a N : Nat) (T : List UInt8) (h : K.left < 0) (ho : K.off = false) : (commitK K a N T).left = K.left ∧ (commitK K a N T).off = false ∧ (commitK K a N T).bytes = K.bytes := by
  unfold commitK ifOn
  obtain ⟨a1, a2, a3⟩ := body_left K a T (chunksN T) h ho
  simp only [a2, Bool.false_eq_true, if_false]
  obtain ⟨b1, b2, b3⟩ := syncK_left _ (by omega) a2
  simp only [b2, Bool.false_eq_true, if_false]
  have hl : (bodyK K a T (chunksN T)).syncK.left < 0 := by omega
  have c1 := write_left (bodyK K a T (chunksN T)).syncK a (hdL N T) hl
  have c2 := write_off_eq (bodyK K a T (chunksN T)).syncK a (hdL N T)
  rw [go_left _ hl, b2] at c2
  have c3 := write_bytes (bodyK K a T (chunksN T)).syncK a (hdL N T)
  simp only [c2, Bool.false_eq_true, if_false]
  obtain ⟨d1, d2, d3⟩ := syncK_left _ (by omega) c2
  exact ⟨by omega, d2, by omega⟩
theorem commit_loose (K : Dk) (a N : Nat) (T : List UInt8) (h : (commitK K a N T).off = false) : (commitK K a N T).loose = fun _ => none := by
  unfold commitK at h ⊢
  generalize ifOn (ifOn (bodyK K a T (chunksN T)) Dk.syncK) (fun K => K.write a (hdL N T)) = X at h ⊢
  unfold ifOn at h ⊢
  cases e : X.off with
  | true => simp [e] at h
  | false =>
    simp only [e, Bool.false_eq_true, if_false] at h ⊢
    rw [syncK_off] at h
    unfold Dk.syncK
    rw [h]
    rfl
/-- the blocks of a text that lies on the disk -/
theorem chunks_take (K : Dk) (f : Nat) (T : List UInt8) (n : Nat) (hn : chunksN T ≤ n) (hl : ∀ i, i < n → (K.now (f + i)).length = 64) (h : ∀ i, i < chunksN T → K.now (f + i) = pad64 (chunk T i)) : (allL K f n).take T.length = T := by
  have hstep : ∀ k, k ≤ chunksN T → (allL K f k).take T.length = T.take (64 * k) := by
    intro k
    induction k with
    | zero => intro _; simp [allL]
    | succ k ih =>
      intro hk
      have hk2 : 64 * k < T.length := by unfold chunksN at hk; omega
      have hlk : (allL K f k).length = 64 * k := allL_len K f k (fun i hi => hl i (by omega))
      have ih := ih (by omega)
      rw [List.take_of_length_le (by omega)] at ih
      rw [allL_succ, h k (by omega), List.take_append, hlk, ih, List.take_of_length_le (by rw [List.length_take]; omega)]
      have e : T.take (64 * (k + 1)) = T.take (64 * k) ++ (T.drop (64 * k)).take 64 := by
        rw [show 64 * (k + 1) = 64 * k + 64 from by omega, List.take_add]
      rw [e]
      congr 1
      unfold pad64 chunk
      rcases Nat.le_total 64 (T.length - 64 * k) with hc | hc
      · have hcl : ((T.drop (64 * k)).take 64).length = 64 := by rw [List.length_take, List.length_drop]; omega
        rw [hcl, Nat.sub_self, List.replicate_zero, List.append_nil, List.take_of_length_le (by omega)]
      · have hcl : ((T.drop (64 * k)).take 64).length = T.length - 64 * k := by rw [List.length_take, List.length_drop]; omega
        exact List.take_left' hcl
  have hc := hstep (chunksN T) (Nat.le_refl _)
  rw [List.take_of_length_le (i := 64 * chunksN T) (by unfold chunksN; omega)] at hc
  have hall : ∀ m, allL K f (chunksN T + m) = allL K f (chunksN T) ++ allL K (f + chunksN T) m := by
    intro m
    induction m with
    | zero => simp [allL]
    | succ m ih => rw [← Nat.add_assoc, allL_succ, ih, allL_succ, List.append_assoc, Nat.add_assoc]
  obtain ⟨m, rfl⟩ := Nat.le.dest hn
  rw [hall, List.take_append_of_le_length (by rw [allL_len K f _ (fun i hi => hl i (by omega))]; unfold chunksN; omega)]
  exact hc
/-- a disk whose blocks have 64 bytes -/
def Full (K : Dk) : Prop := ∀ i, i < K.sure.length → (K.now i).length = 64
theorem commit_full (K : Dk) (a N : Nat) (T : List UInt8) (h : (commitK K a N T).off = false) (hf : Full K) : Full (commitK K a N T) := by
  intro i hi
  rw [commit_len] at hi
  rw [commit_now K a N T h hi]
  split
  · exact hdL_len _ _
  · split
    · exact pad64_len _ _
    · exact hf i hi
/-- a commit that goes well is found -/
theorem commit_ok (K : Dk) (first half N : Nat) (T0 T : List UInt8) (hr : RecOK K first half N T0) (hf : Full K) (hin : first + 2 * half ≤ K.sure.length) (hh : 2 ≤ half) (hT : T.length ≤ 64 * (half - 1)) (hTm : T.length < 9223372036854775808) (hN : N < 1152921504606846976)
    (h : (commitK K (first + (N + 1) % 2 * half) (N + 1) T).off = false) : RecOK (commitK K (first + (N + 1) % 2 * half) (N + 1) T) first half (N + 1) T := by
  have hfull := commit_full K (first + (N + 1) % 2 * half) (N + 1) T h hf
  have hlen := commit_len K (first + (N + 1) % 2 * half) (N + 1) T
  have hnow := fun j hj => commit_now K (first + (N + 1) % 2 * half) (N + 1) T h (j := j) hj
  generalize commitK K (first + (N + 1) % 2 * half) (N + 1) T = K' at h hfull hlen hnow ⊢
  have hch : chunksN T ≤ half - 1 := by unfold chunksN; omega
  have hat : first + (N + 1) % 2 * half + half ≤ K.sure.length := by
    rcases (by omega : (N + 1) % 2 = 0 ∨ (N + 1) % 2 = 1) with e | e
    · rw [e]; omega
    · rw [e]; omega
  refine .inr ⟨by omega, ?_, ?_⟩
  · unfold stK
    obtain ⟨m, hm⟩ : ∃ m, half = m + 1 := ⟨half - 1, by omega⟩
    have hat' := hat
    generalize first + (N + 1) % 2 * half = a at hnow hat ⊢
    rw [show allL K' a half = K'.now a ++ allL K' (a + 1) m from by rw [hm]; exact allL_cons K' a m]
    rw [hnow a (by omega), if_pos rfl]
    have htk : (allL K' (a + 1) m).take T.length = T := by
      refine chunks_take K' (a + 1) T m (by omega) (fun i hi => hfull _ (by omega)) (fun i hi => ?_)
      rw [hnow _ (by omega), if_neg (by omega), if_pos (by omega)]
      congr 2; omega
    exact stands_new (N + 1) T _ (by omega) (by omega) hTm (by rw [allL_len K' _ _ (fun i hi => hfull _ (by omega))]; omega) htk
  · intro m t hmt
    have hsame : stK K' first half ((N + 1 + 1) % 2) = stK K first half ((N + 1 + 1) % 2) := by
      unfold stK
      congr 1
      refine allL_congr (fun i hi => ?_)
      rcases (by omega : (N + 1) % 2 = 0 ∨ (N + 1) % 2 = 1) with e | e
      · rw [e] at hnow
        rw [show (N + 1 + 1) % 2 = 1 from by omega]
        rw [hnow _ (by omega), if_neg (by omega), if_neg (by omega)]
      · rw [e] at hnow
        rw [show (N + 1 + 1) % 2 = 0 from by omega]
        rw [hnow _ (by omega), if_neg (by omega), if_neg (by omega)]
    rw [hsame, show (N + 1 + 1) % 2 = N % 2 from by omega] at hmt
    rcases hr with ⟨rfl, rfl, h0, h1⟩ | ⟨h1, h2, h3⟩
    · rw [show 0 % 2 = 0 from rfl, h0] at hmt; cases hmt
    · rw [h2] at hmt
      cases hmt
      omega
end Go.Proofs.YtgpcinfhcamgpaaGreatDoor

namespace Go.Proofs.YtgpcinfhcamgpaaGreatDoor
open Go.RowKit
attribute [local go_sem ↓] Go.wp_at_zero Go.wp_at_succ
set_option linter.unusedVariables false

theorem concat3 (g : Nat) (A B C : Option Addr) (n m q c d f : Nat) (x y z : List UInt8) (W : World) (hB : Blk W g 22 #[.slice A n c, .slice B m d, .slice C q f]) (hx : RB W A x) (hy : RB W B y) (hz : RB W C z) (hxn : x.length = n) (hym : y.length = m) (hzq : z.length = q) (r : Nat) (hr : n + m + q = r) (hrm : r ≤ 140737488355328) :
    Calls Tryz.prog 63 #[.slice (some ⟨g, 0, none⟩) 3 3] W fun e w' => ∃ A5 c5, e = .returned (.slice A5 r c5) ∧ r ≤ c5 ∧ c5 ≤ 9223372036854775807 ∧ RB w' A5 (x ++ y ++ z) ∧ (x ++ y ++ z).length = r ∧ OB w' W.heap.size (.slice A5 r c5) (x ++ y ++ z) ∧ Below W.heap.size W w' := by
  have hps : Pts W (some ⟨g, 0, none⟩) [⟨A, c, x⟩, ⟨B, d, y⟩, ⟨C, f, z⟩] := by
    refine Pts.of_block (t := 22) ?_ ?_
    · simpa [Pt.v, hxn, hym, hzq] using hB
    · intro p hp
      simp only [List.mem_cons, List.not_mem_nil, or_false] at hp
      rcases hp with rfl | rfl | rfl
      · exact hx
      · exact hy
      · exact hz
  have hcat : catP [⟨A, c, x⟩, ⟨B, d, y⟩, ⟨C, f, z⟩] = x ++ y ++ z := by simp [catP]
  have hl : (x ++ y ++ z).length = r := by simp only [List.length_append]; omega
  refine (concat_any _ 3 3 _ _ hps rfl (by omega) (by rw [hcat]; omega)).mono ?_
  rintro e w' ⟨v, rfl, hv, hb⟩
  rw [hcat] at hv
  obtain ⟨A5, c5, rfl, k1, k2, k3, _⟩ := hv.shape
  rw [hl] at k1 hv
  exact ⟨A5, c5, by rw [hl], k1, by unfold maxLen at k2; omega, k3, hl, hv, hb⟩
set_option maxRecDepth 100000 in
set_option maxHeartbeats 2000000 in
theorem head_any (N : Nat) (A : Option Addr) (n c : Nat) (T : List UInt8) (w : World) (hK : TabK w) (hN : N < 9223372036854775808) (hT : RB w A T) (hn : T.length = n) (hnb : n ≤ 35184372088832) (hc : n ≤ c) (hcm : c ≤ 9223372036854775807) :
    Calls Tryz.prog 94 #[.int .i64 (N : Int), .slice A n c] w fun e w' => ∃ v, e = .returned v ∧ OB w' w.heap.size v (hdL N T) ∧ Below w.heap.size w w' := by
  have HP1 := Lib.hid (put_ok N 8 w (by omega) (by omega) (by omega))
  have HNB := Lib.hid hnb
  go_enter Tryz.func94, Tryz.ntmps94
  go_wp2_with fail
  refine HP1.out.mono ?_
  rintro e w1 ⟨v1, rfl, hv1, hb1⟩
  obtain ⟨A1, c1, rfl, p1, p2, p3, _⟩ := hv1.shape_n (beBytes_length N 8)
  have HR1 := Lib.hid p3
  have BW1 := Lib.hid hb1
  clear hv1 hb1 p3 HP1
  have HP2 := Lib.hid (put_ok n 8 w1 (by omega) (by omega) (by omega))
  go_wp2_with fail
  refine HP2.out.mono ?_
  rintro e w2 ⟨v2, rfl, hv2, hb2⟩
  obtain ⟨A2, c2, rfl, r1, r2, r3, _⟩ := hv2.shape_n (beBytes_length n 8)
  have HR2 := Lib.hid r3
  have HR1 := Lib.hid (HR1.out.below hb2)
  have BW2 := Lib.hid (BW1.out.trans (hb2.mono BW1.out.size))
  have hT2 := hT.below BW2.out
  have hK2 := TabK.below hK BW2.out
  clear hv2 hb2 r3 HP2
  have hal : Below w2.heap.size w2 (w2.alloc (.cells #[.slice A n c] 22)) := (Below.refl _ _).alloc (Nat.le_refl _) _
  have HPS : Hid (Pts (w2.alloc (.cells #[.slice A n c] 22)) (some ⟨w2.heap.size, 0, none⟩) [⟨A, c, T⟩]) := by
    refine Pts.of_block (t := 22) ?_ ?_
    · have := Blk.new w2 22 #[.slice A n c]
      simpa [Pt.v, hn] using this
    · intro p hp
      rw [List.mem_singleton] at hp
      subst hp
      exact hT2.below hal
  have HOF := Lib.hid (of_any (some ⟨w2.heap.size, 0, none⟩) 1 1 [⟨A, c, T⟩] _ (TabK.below hK2 hal) HPS.out rfl (by omega) (by simp [catP, hn]; omega) (by intro p hp; rw [List.mem_singleton] at hp; subst hp; exact ⟨by rw [hn]; exact hc, by unfold maxLen; omega⟩))
  have hcat : catP [⟨A, c, T⟩] = T := by simp [catP]
  rw [hcat] at HOF
  have BW3 := Lib.hid (BW2.out.trans (hal.mono BW2.out.size))
  have HR1 := Lib.hid (HR1.out.below hal)
  have HR2 := Lib.hid (HR2.out.below hal)
  have HTN := Lib.hid hn
  clear hal HPS hcat hT2 hT hK2 hK hn
  go_wp2_with fail
  refine HOF.out.mono ?_
  rintro e w4 ⟨rfl, hb4⟩
  have BW4 := Lib.hid (BW3.out.trans (hb4.mono BW3.out.size))
  have HR1 := Lib.hid (HR1.out.below hb4)
  have HR2 := Lib.hid (HR2.out.below hb4)
  obtain ⟨D, hD⟩ : ∃ D, D = shaL T := ⟨_, rfl⟩
  have hDl : D.length = 32 := by rw [hD, shaL_len]
  obtain ⟨V, hV⟩ : ∃ V, V = (Lib.byteCells D).toArray := ⟨_, rfl⟩
  rw [← hD, ← hV]
  have HHD : Hid (hdL N T = beBytes N 8 ++ beBytes n 8 ++ D.take 16 ++ List.replicate 24 0 ++ beBytes N 8) := by show _ = _; rw [hD]; unfold hdL; rw [HTN.out]
  have hVs : V.size = 32 := by rw [hV]; simp [Lib.byteCells, hDl]
  obtain ⟨Z, hZ⟩ : ∃ Z : Array Value, Z = #[.int .u8 0, .int .u8 0, .int .u8 0, .int .u8 0, .int .u8 0, .int .u8 0, .int .u8 0, .int .u8 0, .int .u8 0, .int .u8 0, .int .u8 0, .int .u8 0, .int .u8 0, .int .u8 0, .int .u8 0, .int .u8 0, .int .u8 0, .int .u8 0, .int .u8 0, .int .u8 0, .int .u8 0, .int .u8 0, .int .u8 0, .int .u8 0, .int .u8 0, .int .u8 0, .int .u8 0, .int .u8 0, .int .u8 0, .int .u8 0, .int .u8 0, .int .u8 0] := ⟨_, rfl⟩
  have HIV : Hid ((Tryz.prog.info? 144).map (·.size) = some V.size) := by show _ = _; rw [hVs]; kernel_rfl
  have HOC : Hid (V.all (·.oneCell') = true) := by show _ = _; rw [hV]; simp [Lib.byteCells, Value.oneCell']
  have HS0 : Hid (Z.size = V.size) := by show _ = _; rw [hVs, hZ]; rfl
  have HZB := Lib.hid (Blk.new w4 144 Z)
  have ha4 : Below w4.heap.size w4 ((w4.alloc (.cells Z 144)).setRow w4.heap.size V) := below_setRow ((Below.refl _ _).alloc (Nat.le_refl _) _) (Nat.le_refl _)
  have BW5 := Lib.hid (BW4.out.trans (ha4.mono BW4.out.size))
  have HR1 := Lib.hid (HR1.out.below ha4)
  have HR2 := Lib.hid (HR2.out.below ha4)
  have HRB : Hid (RB ((w4.alloc (.cells Z 144)).setRow w4.heap.size V) (some ⟨w4.heap.size, 0, none⟩) D) := by
    have := setRow_at HZB.out V
    rw [hV] at this ⊢
    exact RB.of_blk this
  have HDL := Lib.hid hDl
  rw [hZ] at HZB BW5 HR1 HR2 HRB
  rw [hZ] at HS0
  clear hD hDl hV hVs BW3 HOF hb4 ha4 hZ
  go_wp2_with (refine wpList_store_row rfl 144 _ _ rfl w4.heap.size V rfl rfl 144 _ HZB.out HIV.out HS0.out HOC.out ?_)
  have hw5 : ((w4.alloc (.cells (#[.int .u8 0, .int .u8 0, .int .u8 0, .int .u8 0, .int .u8 0, .int .u8 0, .int .u8 0, .int .u8 0, .int .u8 0, .int .u8 0, .int .u8 0, .int .u8 0, .int .u8 0, .int .u8 0, .int .u8 0, .int .u8 0, .int .u8 0, .int .u8 0, .int .u8 0, .int .u8 0, .int .u8 0, .int .u8 0, .int .u8 0, .int .u8 0, .int .u8 0, .int .u8 0, .int .u8 0, .int .u8 0, .int .u8 0, .int .u8 0, .int .u8 0, .int .u8 0] : Array Value) 144)).setRow w4.heap.size V).heap.size = w4.heap.size + 1 := by simp
  generalize ((w4.alloc (.cells (#[.int .u8 0, .int .u8 0, .int .u8 0, .int .u8 0, .int .u8 0, .int .u8 0, .int .u8 0, .int .u8 0, .int .u8 0, .int .u8 0, .int .u8 0, .int .u8 0, .int .u8 0, .int .u8 0, .int .u8 0, .int .u8 0, .int .u8 0, .int .u8 0, .int .u8 0, .int .u8 0, .int .u8 0, .int .u8 0, .int .u8 0, .int .u8 0, .int .u8 0, .int .u8 0, .int .u8 0, .int .u8 0, .int .u8 0, .int .u8 0, .int .u8 0, .int .u8 0] : Array Value) 144)).setRow w4.heap.size V) = w5 at BW5 HR1 HR2 HRB hw5 ⊢
  have HC1 := Lib.hid (concat3 (w4.heap.size + 1) A1 A2 (some ⟨w4.heap.size, 0, none⟩) 8 8 16 c1 c2 32 (beBytes N 8) (beBytes n 8) (D.take 16) (w5.alloc (.cells #[.slice A1 8 c1, .slice A2 8 c2, .slice (some ⟨w4.heap.size, 0, none⟩) 16 32] 22)) (by rw [← hw5]; exact Blk.new _ _ _)
    (HR1.out.below ((Below.refl _ _).alloc (Nat.le_refl _) _)) (HR2.out.below ((Below.refl _ _).alloc (Nat.le_refl _) _)) ((HRB.out.take (by rw [HDL.out]; omega)).below ((Below.refl _ _).alloc (Nat.le_refl _) _)) (beBytes_length _ _) (beBytes_length _ _) (by rw [List.length_take, HDL.out]; rfl) 32 rfl (by omega))
  have HR1 := Lib.hid (HR1.out.below ((Below.refl _ _).alloc (Nat.le_refl _) (.cells #[.slice A1 8 c1, .slice A2 8 c2, .slice (some ⟨w4.heap.size, 0, none⟩) 16 32] 22)))
  have BW6 := Lib.hid (BW5.out.alloc BW5.out.size (.cells #[.slice A1 8 c1, .slice A2 8 c2, .slice (some ⟨w4.heap.size, 0, none⟩) 16 32] 22))
  go_wp2_with fail
  refine HC1.out.mono ?_
  rintro e w7 ⟨A5, c5, rfl, k1, k2, k3, k4, _, k6⟩
  have HR1 := Lib.hid (HR1.out.below k6)
  have BW7 := Lib.hid (BW6.out.trans (k6.mono BW6.out.size))
  have HR5 := Lib.hid k3
  have HL5 := Lib.hid k4
  clear k3 k4 k6
  obtain ⟨Q, hQ⟩ : ∃ Q, Q = (Lib.byteCells (List.replicate 24 0)).toArray := ⟨_, rfl⟩
  have RM : ∀ w, (Instr.makeSlice 22 (.int .i64 24) (.int .i64 24)).run Tryz.prog w = .ok (.slice (some ⟨w.heap.size, 0, none⟩) 24 24) (w.alloc (.cells Q 5)) := fun w => by
    have := run_make_bytes 24 (by omega) w
    rw [made_zeros] at this
    rw [hQ]
    exact this
  have HQ : Hid (RB (w7.alloc (.cells Q 5)) (some ⟨w7.heap.size, 0, none⟩) (List.replicate 24 0)) := Lib.hid (RB.of_blk (t := 5) (by rw [hQ]; exact Blk.new _ _ _))
  have ha7 : Below w7.heap.size w7 (w7.alloc (.cells Q 5)) := (Below.refl _ _).alloc (Nat.le_refl _) _
  have HR1 := Lib.hid (HR1.out.below ha7)
  have HR5 := Lib.hid (HR5.out.below ha7)
  have BW8 := Lib.hid (BW7.out.trans (ha7.mono BW7.out.size))
  clear hQ ha7
  have hw8 : (w7.alloc (.cells Q 5)).heap.size = w7.heap.size + 1 := by simp
  have ha8 : ∀ o, Below (w7.alloc (.cells Q 5)).heap.size (w7.alloc (.cells Q 5)) ((w7.alloc (.cells Q 5)).alloc o) := fun o => (Below.refl _ _).alloc (Nat.le_refl _) o
  have HC2 := Lib.hid (concat3 (w7.heap.size + 1) A5 (some ⟨w7.heap.size, 0, none⟩) A1 32 24 8 c5 24 c1 (beBytes N 8 ++ beBytes n 8 ++ D.take 16) (List.replicate 24 0) (beBytes N 8) ((w7.alloc (.cells Q 5)).alloc (.cells #[.slice A5 32 c5, .slice (some ⟨w7.heap.size, 0, none⟩) 24 24, .slice A1 8 c1] 22)) (by rw [← hw8]; exact Blk.new _ _ _)
    (HR5.out.below (ha8 _)) (HQ.out.below (ha8 _)) (HR1.out.below (ha8 _)) HL5.out (by simp) (beBytes_length _ _) 64 rfl (by omega))
  have BW9 := Lib.hid (BW8.out.alloc BW8.out.size (.cells #[.slice A5 32 c5, .slice (some ⟨w7.heap.size, 0, none⟩) 24 24, .slice A1 8 c1] 22))
  have HSZ : Hid (w.heap.size ≤ ((w7.alloc (.cells Q 5)).alloc (.cells #[.slice A5 32 c5, .slice (some ⟨w7.heap.size, 0, none⟩) 24 24, .slice A1 8 c1] 22)).heap.size) := BW9.out.size
  clear hw8 ha8
  go_wp2_with fail
  refine HC2.out.mono ?_
  rintro e w10 ⟨A9, c9, rfl, k1, k2, k3, k4, k5, k6⟩
  have BW10 := Lib.hid (BW9.out.trans (k6.mono BW9.out.size))
  have HO := Lib.hid (k5.mono HSZ.out)
  clear k3 k4 k5 k6
  go_wp2
  go_ret
  exact ⟨_, rfl, by rw [HHD.out]; exact HO.out, BW10.out⟩
end Go.Proofs.YtgpcinfhcamgpaaGreatDoor

namespace Go.Proofs.YtgpcinfhcamgpaaGreatDoor
open Go.RowKit
attribute [local go_sem ↓] Go.wp_at_zero Go.wp_at_succ
set_option linter.unusedVariables false

/-- a record's block -/
def recV (d first half : Nat) (t : Value) (num : Nat) (dead : Bool) : Array Value := #[.pointer (some ⟨d, 0, none⟩), .int .i64 (first : Int), .int .i64 (half : Int), t, .int .i64 (num : Int), .bool dead]
theorem allL_zero (K : Dk) (f : Nat) : allL K f 0 = [] := rfl
set_option maxRecDepth 100000 in
set_option maxHeartbeats 2000000 in
theorem rread_ok {r d s M n first half num : Nat} {t : Value} {dead : Bool} {K : Dk} (f m : Nat) (w : World) (h : DiskAt w d s M n K) (hr : Blk w r 119 (recV d first half t num dead)) (ho : K.off = false) (hfm : f + m ≤ K.sure.length) (hF : Full K) :
    Calls Tryz.prog 114 #[.pointer (some ⟨r, 0, none⟩), .int .i64 (f : Int), .int .i64 (m : Int)] w fun e w' => ∃ v, e = .returned (.tuple #[v, .int .i64 0]) ∧ OB w' w.heap.size v (allL K f m) ∧ Below w.heap.size w w' := by
  have hfew := h.few.2
  have HO := Lib.hid ho
  have HFM := Lib.hid hfm
  have HL : ∀ k, k ≤ m → (allL K f k).length = 64 * k := fun k hk => allL_len K f k (fun i hi => hF _ (by omega))
  have HLL := Lib.hid HL
  have HD := Lib.hid h
  have HR := Lib.hid hr
  have hmb : m ≤ 16384 := by omega
  have hfb : f ≤ 16384 := by omega
  clear h ho hfm hfew HL hr hF
  go_enter Tryz.func114, Tryz.ntmps114
  go_wp2
  go_loopw [8, 13] (fun v i wr => ∃ k : Nat, k ≤ m ∧ i = .int .i64 (k : Int) ∧ Hid (OB wr w.heap.size v (allL K f k)) ∧ Hid (Below w.heap.size w wr)) (fun _ i _ => m - (intOf i).toNat)
  case atStart => exact ⟨0, Nat.zero_le _, rfl, Lib.hid (OB.nil _ _), Lib.hid (Below.refl _ _)⟩
  case round =>
    obtain ⟨k, hk, rfl, HV, HB⟩ := hrel
    rcases (by omega : k < m ∨ k = m) with hlt | heq
    · have hki : decide ((k : Int) < (m : Int)) = true := by rw [decide_eq_true_iff]; omega
      have hkn : decide (k < m) = true := by rw [decide_eq_true_iff]; omega
      have c0 := (HR.out.below HB.out HR.out.lt).cell 0
      simp only [recV, List.getElem?_toArray, List.getElem?_cons_zero] at c0
      have hfi : f + k < K.sure.length := by have := HFM.out; omega
      have HRD := Lib.hid (read_ok (f + k) wr (HD.out.below HB.out) HO.out hfi)
      have HLk := Lib.hid (HLL.out k hk)
      have hbase := HB.out.size
      clear hfi
      go_wp2_with fail
      refine HRD.out.mono ?_
      rintro e w2 ⟨A, c, rfl, q1, q2, q3, q4, q5⟩
      have HV2 := Lib.hid (HV.out.below q5)
      have HB2 := Lib.hid (HB.out.trans (q5.mono HB.out.size))
      have HGE := Lib.hid HV2.out.grown_ge
      have HR2 := Lib.hid q3
      have HQ4 := Lib.hid q4
      have hbase2 := HB2.out.size
      clear q3 q4 q5 c0
      go_wp2_with (at_builtin; refine app_bytes _ rfl _ _ rfl w.heap.size _ _ rfl HV2.out _ _ _ _ rfl HQ4.out HR2.out (by rw [HLk.out]; omega) hbase2 ?_; intro v' w' hown hg _)
      have HN2 := Lib.hid hown
      have HB3 := Lib.hid (below_grown' HB2.out hg hbase2 HGE.out)
      clear hown hg
      rw [← allL_succ] at HN2
      go_wp2
      go_roundw
      case rel => exact ⟨k + 1, by omega, by go_num, HN2, HB3⟩
      case measure => simp [intOf]; omega
    · have hki : decide ((k : Int) < (m : Int)) = false := by rw [decide_eq_false_iff_not]; omega
      have hkn : decide (k < m) = false := by rw [decide_eq_false_iff_not]; omega
      have HK : Hid (k = m) := heq
      clear heq
      go_wp2
      go_ret2
      exact ⟨_, rfl, by rw [← HK.out]; exact HV.out, HB.out⟩
set_option maxRecDepth 100000 in
set_option maxHeartbeats 2000000 in
theorem rread_off {r d s M n first half num : Nat} {t : Value} {dead : Bool} {K : Dk} (f m : Nat) (w : World) (h : DiskAt w d s M n K) (hr : Blk w r 119 (recV d first half t num dead)) (ho : K.off = true) (hm : 1 ≤ m) (hfb : f ≤ 16384) (hmb : m ≤ 16384) :
    Calls Tryz.prog 114 #[.pointer (some ⟨r, 0, none⟩), .int .i64 (f : Int), .int .i64 (m : Int)] w fun e w' => e = .returned (.tuple #[.slice none 0 0, .int .i64 210]) ∧ w' = w := by
  have c0 := hr.cell 0
  simp only [recV, List.getElem?_toArray, List.getElem?_cons_zero] at c0
  have HRD := Lib.hid (read_no (K := K) (d := d) (s := s) (M := M) (n := n) (f : Int) 210 w h (by unfold mayE; rw [ho]; rfl) (by decide))
  have hki : decide ((0 : Int) < (m : Int)) = true := by rw [decide_eq_true_iff]; omega
  have hkn : decide (0 < m) = true := by rw [decide_eq_true_iff]; omega
  clear h hr ho
  go_enter Tryz.func114, Tryz.ntmps114
  go_wp2
  go_loopw [13] (fun i wr => i = .int .i64 0 ∧ wr = w) (fun _ _ => 0)
  case atStart => exact ⟨rfl, rfl⟩
  case round =>
    obtain ⟨rfl, rfl⟩ := hrel
    go_wp2_with fail
    refine HRD.out.mono ?_
    rintro e w2 ⟨rfl, rfl⟩
    go_wp2
    go_ret2
    exact ⟨rfl, rfl⟩
end Go.Proofs.YtgpcinfhcamgpaaGreatDoor

namespace Go.Proofs.YtgpcinfhcamgpaaGreatDoor
open Go.RowKit
attribute [local go_sem ↓] Go.wp_at_zero Go.wp_at_succ
set_option linter.unusedVariables false

theorem from_nR (A : Option Addr) (n c : Nat) (l : List UInt8) (w : World) (hl : l.length = n) (hn : n ≤ 70368744177664) (hr : RB w A l) :
    Calls Tryz.prog 37 #[.slice A n c] w fun e w' => ∃ r, e = .returned (.pointer (some ⟨r, 0, none⟩)) ∧ w.heap.size ≤ r ∧ RD w' r l false ∧ Below w.heap.size w w' := by
  subst hl; exact from_any A c l w hn hr
/-- a number of eight bytes: read, or bad -/
def Int8R (l : List UInt8) (v : Nat) (l' : List UInt8) (bad : Bool) : Prop :=
  (bad = false ∧ v = beVal (l.take 8) ∧ l' = l.drop 8 ∧ v < 9223372036854775808) ∨ (bad = true ∧ v = 0 ∧ l' = [] ∧ 9223372036854775808 ≤ beVal (l.take 8))
theorem int8_any (w : World) (r : Nat) (l : List UInt8) (h : RD w r l false) (hn : 8 ≤ l.length) :
    Calls Tryz.prog 74 #[.pointer (some ⟨r, 0, none⟩), .int .i64 8] w fun e w' => ∃ (v : Nat) (l' : List UInt8) (bad : Bool), e = .returned (.int .i64 (v : Int)) ∧ RD w' r l' bad ∧ Fr (· = r) w w' ∧ Int8R l v l' bad := by
  cases l with
  | nil => simp at hn
  | cons c0 l =>
    have hn7 : 7 ≤ l.length := by simp at hn; omega
    have e8 : (c0 :: l).take 8 = c0 :: l.take 7 := rfl
    have hv : beVal ((c0 :: l).take 8) = c0.toNat * 72057594037927936 + beVal (l.take 7) := by
      rw [e8, beVal_cons, List.length_take, Nat.min_eq_left hn7]
    have hlt := beVal_lt (l.take 7)
    rw [List.length_take, Nat.min_eq_left hn7] at hlt
    by_cases hc : c0.toNat ≤ 127
    · refine (int8_ok w r c0 l h hn7 hc).mono ?_
      rintro e w' ⟨rfl, h1, h2⟩
      exact ⟨_, _, _, rfl, h1, h2, .inl ⟨rfl, rfl, rfl, by rw [hv]; omega⟩⟩
    · refine (int_big w r c0 l false h hn7 (by omega)).mono ?_
      rintro e w' ⟨rfl, h1, h2⟩
      exact ⟨0, _, _, rfl, h1, h2, .inr ⟨rfl, rfl, rfl, by rw [hv]; omega⟩⟩
/-- what comes of both numbers of a head -/
def Two8R (h : List UInt8) (a b : Nat) (bad : Bool) : Prop :=
  (bad = false ∧ a = beVal (h.take 8) ∧ b = beVal ((h.drop 8).take 8) ∧ a < 9223372036854775808 ∧ b < 9223372036854775808) ∨ (bad = true ∧ (9223372036854775808 ≤ beVal (h.take 8) ∨ 9223372036854775808 ≤ beVal ((h.drop 8).take 8)))
theorem int8_second (w : World) (r : Nat) (h l : List UInt8) (a : Nat) (bad : Bool) (hR : RD w r l bad) (hn : 16 ≤ h.length) (h8 : Int8R h a l bad) :
    Calls Tryz.prog 74 #[.pointer (some ⟨r, 0, none⟩), .int .i64 8] w fun e w' => ∃ (b : Nat) (l' : List UInt8) (bad' : Bool), e = .returned (.int .i64 (b : Int)) ∧ RD w' r l' bad' ∧ Fr (· = r) w w' ∧ Two8R h a b bad' := by
  rcases h8 with ⟨rfl, rfl, rfl, hlt⟩ | ⟨rfl, rfl, rfl, hge⟩
  · refine (int8_any w r _ hR (by rw [List.length_drop]; omega)).mono ?_
    rintro e w' ⟨v, l', bad, rfl, h1, h2, h3⟩
    refine ⟨v, l', bad, rfl, h1, h2, ?_⟩
    rcases h3 with ⟨rfl, rfl, rfl, h4⟩ | ⟨rfl, rfl, rfl, h4⟩
    · exact .inl ⟨rfl, rfl, rfl, hlt, h4⟩
    · exact .inr ⟨rfl, .inr h4⟩
  · refine (int_no w r [] true 8 hR (.inr (.inr (by simp)))).mono ?_
    rintro e w' ⟨rfl, h1, h2⟩
    exact ⟨0, _, _, rfl, h1, h2, .inr ⟨rfl, .inl hge⟩⟩
/-- what stands returns -/
def StPost (w' : World) (e : Ending) (o : Option (Nat × List UInt8)) : Prop := match o with
  | none => e = .returned (.tuple #[.int .i64 0, .slice none 0 0, .int .i64 0])
  | some x => ∃ A c, e = .returned (.tuple #[.int .i64 (x.1 : Int), .slice A x.2.length c, .int .i64 0]) ∧ x.2.length ≤ c ∧ c ≤ 9223372036854775807 ∧ RB w' A x.2
set_option maxRecDepth 100000 in
set_option maxHeartbeats 2000000 in
theorem stands_any {r d s M n first half num : Nat} {t : Value} {dead : Bool} {K : Dk} (g : Nat) (w : World) (hK : TabK w) (h : DiskAt w d s M n K) (hr : Blk w r 119 (recV d first half t num dead)) (ho : K.off = false) (hg : g < 2) (hh : 2 ≤ half) (hin : first + g * half + half ≤ K.sure.length) (hF : Full K) :
    Calls Tryz.prog 89 #[.pointer (some ⟨r, 0, none⟩), .int .i64 (g : Int)] w fun e w' => StPost w' e (stK K first half g) ∧ Below w.heap.size w w' := by
  have hfew := h.few.2
  have HRD := Lib.hid (rread_ok (first + g * half) half w.drew h.drew hr.drew ho (by omega) hF)
  have hal : (allL K (first + g * half) half).length = 64 * half := allL_len _ _ _ (fun i hi => hF _ (by omega))
  have HST : Hid (stK K first half g = standsL (allL K (first + g * half) half) g) := rfl
  obtain ⟨al, hall⟩ : ∃ al, al = allL K (first + g * half) half := ⟨_, rfl⟩
  rw [← hall] at HRD hal HST
  have c1 := hr.cell 1
  have c2 := hr.cell 2
  simp only [recV, List.getElem?_toArray, List.getElem?_cons_succ, List.getElem?_cons_zero] at c1 c2
  have HCC : Hid (∀ w1, Below w.drew.heap.size w.drew w1 → w1.cell? ⟨r, 1, none⟩ = some (.int .i64 (first : Int)) ∧ w1.cell? ⟨r, 2, none⟩ = some (.int .i64 (half : Int))) :=
    Lib.hid (fun w1 hb => ⟨(hb.cell (p := ⟨r, 1, none⟩) hr.lt).trans c1, (hb.cell (p := ⟨r, 2, none⟩) hr.lt).trans c2⟩)
  have hgh : g * half ≤ 16384 := by omega
  obtain ⟨q, hq⟩ : ∃ q, q = g * half := ⟨_, rfl⟩
  have hmul : (g : Int) * (half : Int) = (q : Int) := by rw [hq]; simp
  rw [← hq] at HRD hgh
  have hfb : first ≤ 16384 := by omega
  have hhb : half ≤ 16384 := by omega
  rw [show ((first + q : Nat) : Int) = (first : Int) + (q : Int) from by simp] at HRD
  have wq : IntKind.i64.wrap (q : Int) = (q : Int) := IntWalk.i64_in _ (by omega)
  have wf : IntKind.i64.wrap ((first : Int) + (q : Int)) = (first : Int) + (q : Int) := IntWalk.i64_in _ (by omega)
  have HAL := Lib.hid hal
  have HTK := Lib.hid hK
  clear hal hall hq hin hfew hF h ho hK
  go_enter Tryz.func89, Tryz.ntmps89
  go_wp2
  go_region_held3 (fun w' => w'.cell? ⟨r, 1, none⟩ = some (.int .i64 (first : Int)) ∧ w'.cell? ⟨r, 2, none⟩ = some (.int .i64 (half : Int)))
    (first | exact ⟨c1, c2⟩ | exact hk1 | go_keep)
    (first | (go_at_call 114; refine HRD.out.mono ?_; rintro e w1 ⟨v1, rfl, hv1, hb1⟩; have hk1 := HCC.out w1 hb1))
  obtain ⟨z, hz⟩ : ∃ z, z = 64 * half - 64 := ⟨_, rfl⟩
  obtain ⟨A, c, rfl, p1, p2, p3, p4⟩ := hv1.shape_n (show al.length = 64 + z by rw [HAL.out]; omega)
  have HALZ : Hid (al.length = 64 + z) := by show _ = _; rw [HAL.out]; omega
  have hzb : z ≤ 1048576 := by omega
  have hz64 : 64 ≤ z := by omega
  obtain ⟨b, rfl⟩ : ∃ b, A = some ⟨b, 0, none⟩ := by
    obtain ⟨ad, e, _⟩ := p3.at_ (k := 0) (by rw [HALZ.out]; omega)
    subst e
    exact ⟨ad.block, by rw [(p4 ad rfl).2.2]⟩
  have HR := Lib.hid p3
  have HB1 : Hid (Below w.heap.size w w1) := Lib.hid (((Below.refl w.heap.size w).drew).trans hb1)
  have q1 : (64 : Int) ≤ (c : Int) := by omega
  have q2 : (64 : Int) ≤ ((64 + z : Nat) : Int) := by omega
  have q3 : ((64 + z : Nat) : Int) ≤ (c : Int) := by omega
  have q4 : 64 ≤ c := by omega
  unfold maxLen at p2
  clear hv1 hb1 hk1 p3 p4 HRD HCC c1 c2 hmul wq wf HAL hz hr
  go_wp2
  go_region
  have HRh : Hid (RB w1.drew (some ⟨b, 0, none⟩) (al.take 64)) := Lib.hid (HR.out.drew'.take (by rw [HALZ.out]; omega))
  have hlh : (al.take 64).length = 64 := by rw [List.length_take, HALZ.out]; omega
  have HFR := Lib.hid (from_nR (some ⟨b, 0, none⟩) 64 c (al.take 64) w1.drew hlh (by omega) HRh.out)
  have HLH := Lib.hid hlh
  clear hlh
  go_wp2_with fail
  refine HFR.out.mono ?_
  rintro e w2 ⟨x, rfl, hx, hrd, hb2⟩
  have HB2 : Hid (Below w.heap.size w w2) := Lib.hid (HB1.out.drew.trans (hb2.mono HB1.out.size))
  have HX : Hid (w.heap.size ≤ x) := Lib.hid (Nat.le_trans HB1.out.size hx)
  have HRR : Hid (RB w2 (some ⟨b, 64, none⟩) (al.drop 64)) := by
    have h1 := (HR.out.drew'.cut (k := 64) (cap := c) (by rw [HALZ.out]; omega) (by rw [HALZ.out]; omega)).below hb2
    rw [if_neg (by omega), Option.map_some, Addr.add_lit] at h1
    exact Lib.hid h1
  have HRh2 : Hid (RB w2 (some ⟨b, 0, none⟩) (al.take 64)) := Lib.hid (HRh.out.below hb2)
  have HNX : Hid (∀ k, k = x → w.heap.size ≤ k) := Lib.hid (fun k e => by subst e; exact HX.out)
  have hnox : NoBy w2 x := by
    obtain ⟨A', c', hbx, _⟩ := hrd
    refine NoBy.of_blk hbx (fun k y => ?_)
    rcases (by omega : k = 0 ∨ k = 1 ∨ 2 ≤ k) with rfl | rfl | hk
    · intro e; cases e
    · intro e; cases e
    · rw [Array.getElem?_eq_none (by simpa using hk)]; intro e; cases e
  have HI1 := Lib.hid (int8_any w2 x (al.take 64) hrd (by rw [HLH.out]; omega))
  clear hrd hb2 hx
  go_wp2_with fail
  refine HI1.out.mono ?_
  rintro e w3 ⟨a, l1, bad1, rfl, hrd, hf3, h8⟩
  have HI2 := Lib.hid (int8_second w3 x (al.take 64) l1 a bad1 hrd (by rw [HLH.out]; omega) h8)
  have hnox3 : NoBy w3 x := by
    obtain ⟨A', c', hbx, _⟩ := hrd
    refine NoBy.of_blk hbx (fun k y => ?_)
    rcases (by omega : k = 0 ∨ k = 1 ∨ 2 ≤ k) with rfl | rfl | hk
    · intro e; cases e
    · intro e; cases e
    · rw [Array.getElem?_eq_none (by simpa using hk)]; intro e; cases e
  have HF3 := Lib.hid hf3
  clear hrd hf3 h8
  go_wp2_with fail
  refine HI2.out.mono ?_
  rintro e w4 ⟨bb, l2, bad, rfl, hrd, hf4, h8⟩
  have HB4 : Hid (Below w.heap.size w w4) := Lib.hid (Fr.below_trans (Fr.below_trans HB2.out HF3.out HB2.out.size HNX.out) hf4 (Nat.le_trans HB2.out.size HF3.out.size) HNX.out)
  have HRR4 := Lib.hid ((HRR.out.fr2 HF3.out (fun k e _ => e ▸ hnox)).fr2 hf4 (fun k e _ => e ▸ hnox3))
  have HRh4 := Lib.hid ((HRh2.out.fr2 HF3.out (fun k e _ => e ▸ hnox)).fr2 hf4 (fun k e _ => e ▸ hnox3))
  have HBAD := Lib.hid (bad_any w4 x l2 bad hrd)
  have H8 := Lib.hid h8
  clear hrd hf4 h8 hnox hnox3
  go_wp2_with fail
  refine HBAD.out.mono ?_
  rintro e w5 ⟨rfl, rfl⟩
  have HST2 := Lib.hid HST.out
  rcases H8.out with ⟨rfl, ha, hb, ha2, hb2⟩ | ⟨rfl, hbig⟩
  case inr =>
    have HN : Hid (stK K first half g = none) := by
      show _ = _
      rw [HST.out]
      unfold standsL
      rw [if_neg]
      rintro ⟨k1, k2, k3, k4, k5⟩
      rw [List.take_take, List.drop_take, List.take_take] at hbig
      rw [List.length_drop, HALZ.out] at k4
      simp only [Nat.reduceSub, Nat.min_eq_left (show 8 ≤ 64 from by omega), Nat.min_eq_left (show 8 ≤ 56 from by omega)] at hbig
      omega
    clear H8 hbig HBAD HI1 HI2 HFR
    go_wp2
    go_ret3
    exact ⟨by rw [HN.out]; rfl, HB4.out⟩
  rw [List.take_take, Nat.min_eq_left (show 8 ≤ 64 from by omega)] at ha
  rw [List.drop_take, List.take_take, Nat.min_eq_left (show 8 ≤ 64 - 8 from by omega)] at hb
  have HP : Hid (standsP al g ↔ 1 ≤ a ∧ a ≤ 1152921504606846976 ∧ a % 2 = g ∧ bb ≤ z ∧ al.take 64 = hdL a ((al.drop 64).take bb)) := by
    refine Lib.hid ?_
    unfold standsP
    rw [← ha, ← hb, List.length_drop, HALZ.out, Nat.add_sub_cancel_left]
  have HSO : Hid (standsP al g → stK K first half g = some (a, (al.drop 64).take bb)) := by
    refine Lib.hid (fun h => ?_)
    rw [HST.out]
    unfold standsL
    rw [if_pos h, ← ha, ← hb]
  have HNO : Hid (¬ standsP al g → stK K first half g = none) := by
    refine Lib.hid (fun h => ?_)
    rw [HST.out]
    unfold standsL
    rw [if_neg h]
  clear ha hb H8 HBAD HI1 HI2 HFR HST2
  by_cases c1 : a < 1
  · have d1 : decide ((a : Int) < 1) = true := by rw [decide_eq_true_iff]; omega
    have HN : Hid (stK K first half g = none) := Lib.hid (HNO.out (fun h => by have := HP.out.1 h; omega))
    clear c1
    go_wp2
    go_ret3
    exact ⟨by rw [HN.out]; rfl, HB4.out⟩
  have d1 : decide ((a : Int) < 1) = false := by rw [decide_eq_false_iff_not]; omega
  by_cases c2 : 1152921504606846976 < a
  · have d2 : decide (1152921504606846976 < (a : Int)) = true := by rw [decide_eq_true_iff]; omega
    have d2' : decide (1152921504606846976 < a) = true := by rw [decide_eq_true_iff]; omega
    have HN : Hid (stK K first half g = none) := Lib.hid (HNO.out (fun h => by have := HP.out.1 h; omega))
    clear c2
    go_wp2
    go_ret3
    exact ⟨by rw [HN.out]; rfl, HB4.out⟩
  have d2 : decide (1152921504606846976 < (a : Int)) = false := by rw [decide_eq_false_iff_not]; omega
  have d2' : decide (1152921504606846976 < a) = false := by rw [decide_eq_false_iff_not]; omega
  by_cases c3 : a % 2 = g
  case neg =>
    have d3 : ¬ ((a : Int) % 2 = (g : Int)) := by omega
    have HN : Hid (stK K first half g = none) := Lib.hid (HNO.out (fun h => c3 (HP.out.1 h).2.2.1))
    clear c3
    go_wp2
    go_ret3
    exact ⟨by rw [HN.out]; rfl, HB4.out⟩
  have d3 : (a : Int) % 2 = (g : Int) := by omega
  by_cases c4 : z < bb
  · have d4 : decide ((z : Int) < (bb : Int)) = true := by rw [decide_eq_true_iff]; omega
    have d4' : decide (z < bb) = true := by rw [decide_eq_true_iff]; omega
    have HN : Hid (stK K first half g = none) := Lib.hid (HNO.out (fun h => by have := HP.out.1 h; omega))
    clear c4 c3
    go_wp2
    go_ret3
    exact ⟨by rw [HN.out]; rfl, HB4.out⟩
  have d4 : decide ((z : Int) < (bb : Int)) = false := by rw [decide_eq_false_iff_not]; omega
  have d4' : decide (z < bb) = false := by rw [decide_eq_false_iff_not]; omega
  have hbz : (bb : Int) ≤ (z : Int) := by omega
  have hbc : (bb : Int) ≤ ((c - 64 : Nat) : Int) := by omega
  have hbl : ((al.drop 64).take bb).length = bb := by rw [List.length_take, List.length_drop, HALZ.out]; omega
  have hab : a ≤ 1152921504606846976 := by omega
  have HTK4 := Lib.hid (TabK.below HTK.out HB4.out)
  have HHD := Lib.hid (head_any a (some ⟨b, 64, none⟩) bb (c - 64) ((al.drop 64).take bb) w4 HTK4.out (by omega) (HRR4.out.take (by rw [List.length_drop, HALZ.out]; omega)) hbl (by omega) (by omega) (by omega))
  have HG3 : Hid (a % 2 = g) := c3
  have HA1 : Hid (1 ≤ a ∧ bb ≤ z) := Lib.hid ⟨by omega, by omega⟩
  clear c3 hbl
  go_wp2_with fail
  refine HHD.out.mono ?_
  rintro e w5 ⟨v, rfl, hv, hb5⟩
  obtain ⟨A9, c9, rfl, k1, k2, k3, _⟩ := hv.shape_n (hdL_len _ _)
  have HB5 : Hid (Below w.heap.size w w5) := Lib.hid (HB4.out.trans (hb5.mono HB4.out.size))
  have h1 : Reads w5 w5.heap.size 1 (some ⟨b, 0, none⟩) 64 (Lib.byteCells (al.take 64)) := by
    have := HRh4.out.below hb5
    unfold RB at this
    rw [HLH.out] at this
    exact this
  have h2 : Reads w5 w5.heap.size 1 A9 64 (Lib.byteCells (hdL a ((al.drop 64).take bb))) := by
    have := k3
    unfold RB at this
    rw [hdL_len] at this
    exact this
  have HEQ := Lib.hid (equal_any (some ⟨b, 0, none⟩) A9 64 c c9 (al.take 64) (hdL a ((al.drop 64).take bb)) w5 (by omega) h1 h2)
  have HRR5 := Lib.hid ((HRR4.out.below hb5).take (k := bb) (by rw [List.length_drop, HALZ.out]; omega))
  have HBL : Hid (((al.drop 64).take bb).length = bb) := by show _ = _; rw [List.length_take, List.length_drop, HALZ.out]; omega
  clear h1 h2 k3 hv hb5 HHD
  go_wp2_with fail
  refine HEQ.out.mono ?_
  by_cases c5 : al.take 64 = hdL a ((al.drop 64).take bb)
  · have HS : Hid (stK K first half g = some (a, (al.drop 64).take bb)) := Lib.hid (HSO.out (HP.out.2 ⟨HA1.out.1, hab, HG3.out, HA1.out.2, c5⟩))
    rw [decide_eq_true c5]
    rintro e w6 ⟨rfl, nq, rfl⟩
    have HB6 : Hid (Below w.heap.size w (w5.drewN nq)) := Lib.hid ⟨HB5.out.os, HB5.out.tape, HB5.out.output, HB5.out.size, HB5.out.block⟩
    have HR6 := Lib.hid (show RB (w5.drewN nq) (some ⟨b, 64, none⟩) ((al.drop 64).take bb) from HRR5.out)
    clear c5 HEQ HRR5 HB5
    go_wp2
    go_region
    go_wp2
    go_ret3
    refine ⟨?_, ⟨HB6.out.os, HB6.out.tape, HB6.out.output, HB6.out.size, HB6.out.block⟩⟩
    rw [HS.out]
    refine ⟨some ⟨b, 64, none⟩, c - 64, ?_, ?_, ?_, HR6.out.drew'⟩
    · show _ = Ending.returned (.tuple #[.int .i64 (a : Int), .slice (some ⟨b, 64, none⟩) ((al.drop 64).take bb).length (c - 64), .int .i64 0])
      rw [HBL.out]; rfl
    · show ((al.drop 64).take bb).length ≤ c - 64
      rw [HBL.out]; omega
    · omega
  · have HN : Hid (stK K first half g = none) := Lib.hid (HNO.out (fun h => c5 (HP.out.1 h).2.2.2.2))
    rw [decide_eq_false c5]
    rintro e w6 ⟨rfl, nq, rfl⟩
    have HB6 : Hid (Below w.heap.size w (w5.drewN nq)) := Lib.hid ⟨HB5.out.os, HB5.out.tape, HB5.out.output, HB5.out.size, HB5.out.block⟩
    clear c5 HEQ HRR5 HB5
    go_wp2
    go_ret3
    exact ⟨by rw [HN.out]; rfl, HB6.out⟩
end Go.Proofs.YtgpcinfhcamgpaaGreatDoor

namespace Go.Proofs.YtgpcinfhcamgpaaGreatDoor
open Go.RowKit
attribute [local go_sem ↓] Go.wp_at_zero Go.wp_at_succ
set_option linter.unusedVariables false

/-- a record in memory -/
def RecAt (w : World) (r d first half N : Nat) (T : List UInt8) (dead : Bool) : Prop :=
  ∃ A c, Blk w r 119 (recV d first half (.slice A T.length c) N dead) ∧ T.length ≤ c ∧ c ≤ 9223372036854775807 ∧ RB w A T
theorem recV_noBy (d first half : Nat) (A : Option Addr) (n c N : Nat) (dead : Bool) (k : Nat) (x : Int) : (recV d first half (.slice A n c) N dead)[k]? ≠ some (.int .u8 x) := by
  unfold recV
  rcases (by omega : k = 0 ∨ k = 1 ∨ k = 2 ∨ k = 3 ∨ k = 4 ∨ k = 5 ∨ 6 ≤ k) with rfl | rfl | rfl | rfl | rfl | rfl | h
  all_goals first | (intro h; cases h) | (rw [Array.getElem?_eq_none (by simpa using h)]; intro h; cases h)
theorem RecAt.noBy {w : World} {r d first half N : Nat} {T : List UInt8} {dead : Bool} (h : RecAt w r d first half N T dead) : NoBy w r := by
  obtain ⟨A, c, hb, _⟩ := h
  exact NoBy.of_blk hb (recV_noBy _ _ _ _ _ _ _ _)
theorem RecAt.lt {w : World} {r d first half N : Nat} {T : List UInt8} {dead : Bool} (h : RecAt w r d first half N T dead) : r < w.heap.size := by
  obtain ⟨A, c, hb, _⟩ := h
  exact hb.lt
theorem RecAt.fr {S : Nat → Prop} {w w' : World} {r d first half N : Nat} {T : List UInt8} {dead : Bool} (h : RecAt w r d first half N T dead) (hf : Fr S w w') (hr : ¬ S r) (hN : ∀ g, S g → g < w.heap.size → NoBy w g) : RecAt w' r d first half N T dead := by
  obtain ⟨A, c, hb, h1, h2, h3⟩ := h
  exact ⟨A, c, hb.fr hf hr, h1, h2, h3.fr2 hf hN⟩
theorem RecAt.below {w w' : World} {r d first half N : Nat} {T : List UInt8} {dead : Bool} (h : RecAt w r d first half N T dead) (hb : Below w.heap.size w w') : RecAt w' r d first half N T dead :=
  h.fr (S := fun _ => False) (Fr.of_below hb) (fun x => x) (fun _ x => x.elim)
/-- another text, and another number -/
theorem RecAt.set {w : World} {r d first half N : Nat} {T : List UInt8} {dead : Bool} (h : RecAt w r d first half N T dead) {N' : Nat} {T' : List UInt8} {A : Option Addr} {c : Nat} (hc : T'.length ≤ c) (hcm : c ≤ 9223372036854775807) (hR : RB w A T') :
    RecAt ((w.setCell ⟨r, 4, none⟩ (.int .i64 (N' : Int))).setCell ⟨r, 3, none⟩ (.slice A T'.length c)) r d first half N' T' dead ∧ Fr (· = r) w ((w.setCell ⟨r, 4, none⟩ (.int .i64 (N' : Int))).setCell ⟨r, 3, none⟩ (.slice A T'.length c)) := by
  have hnb := h.noBy
  obtain ⟨A0, c0, hb, _⟩ := h
  have hf : Fr (· = r) w ((w.setCell ⟨r, 4, none⟩ (.int .i64 (N' : Int))).setCell ⟨r, 3, none⟩ (.slice A T'.length c)) := ((Fr.refl (fun x => x = r) w).setCell (p := ⟨r, 4, none⟩) (fun _ => rfl) _).setCell (p := ⟨r, 3, none⟩) (fun _ => rfl) _
  refine ⟨⟨A, c, ?_, hc, hcm, hR.fr2 hf (fun g e _ => e ▸ hnb)⟩, hf⟩
  have h2 := (hb.set_ 4 (.int .i64 (N' : Int))).set_ 3 (.slice A T'.length c)
  exact h2
theorem RecAt.set' {w : World} {r d first half N : Nat} {T : List UInt8} {dead : Bool} (h : RecAt w r d first half N T dead) {N' : Nat} {T' : List UInt8} {A : Option Addr} {c : Nat} (hc : T'.length ≤ c) (hcm : c ≤ 9223372036854775807) (hR : RB w A T') :
    RecAt ((w.setCell ⟨r, 3, none⟩ (.slice A T'.length c)).setCell ⟨r, 4, none⟩ (.int .i64 (N' : Int))) r d first half N' T' dead ∧ Fr (· = r) w ((w.setCell ⟨r, 3, none⟩ (.slice A T'.length c)).setCell ⟨r, 4, none⟩ (.int .i64 (N' : Int))) := by
  have hnb := h.noBy
  obtain ⟨A0, c0, hb, _⟩ := h
  have hf : Fr (· = r) w ((w.setCell ⟨r, 3, none⟩ (.slice A T'.length c)).setCell ⟨r, 4, none⟩ (.int .i64 (N' : Int))) := ((Fr.refl (fun x => x = r) w).setCell (p := ⟨r, 3, none⟩) (fun _ => rfl) _).setCell (p := ⟨r, 4, none⟩) (fun _ => rfl) _
  refine ⟨⟨A, c, ?_, hc, hcm, hR.fr2 hf (fun g e _ => e ▸ hnb)⟩, hf⟩
  have h2 := (hb.set_ 3 (.slice A T'.length c)).set_ 4 (.int .i64 (N' : Int))
  exact h2
set_option maxRecDepth 100000 in
set_option maxHeartbeats 1000000 in
theorem open_nil (first count : Int) (w : World) : Calls Tryz.prog 54 #[.pointer none, .int .i64 first, .int .i64 count] w fun e w' => e = .returned (.tuple #[.pointer none, .int .i64 1]) ∧ w' = w := by
  go_enter Tryz.func54, Tryz.ntmps54
  go_wp2
  go_ret2
  exact ⟨rfl, rfl⟩
/-- too few blocks behind the first -/
theorem open_few {d s M n : Nat} {K : Dk} (first count half : Nat) (w : World) (h : DiskAt w d s M n K) (hc : count = 2 * half) (hh : 2 ≤ half) (hf : first ≤ K.sure.length) (hb : K.sure.length < first + count) (hcb : count ≤ 1000000) :
    Calls Tryz.prog 54 #[.pointer (some ⟨d, 0, none⟩), .int .i64 (first : Int), .int .i64 (count : Int)] w fun e w' => e = .returned (.tuple #[.pointer none, .int .i64 1]) ∧ w' = w := by
  have HL := Lib.hid (dlen_any w h)
  have hlb := h.few.2
  obtain ⟨L, hL⟩ : ∃ L, L = K.sure.length := ⟨_, rfl⟩
  rw [← hL] at HL hf hb hlb
  have d1 : decide ((count : Int) < 4) = false := by rw [decide_eq_false_iff_not]; omega
  have d2 : (count : Int) % 2 = 0 := by omega
  have d3 : decide ((L : Int) < (first : Int)) = false := by rw [decide_eq_false_iff_not]; omega
  have d3' : decide (L < first) = false := by rw [decide_eq_false_iff_not]; omega
  have d4 : decide ((L : Int) - (first : Int) < (count : Int)) = true := by rw [decide_eq_true_iff]; omega
  have hfb : first ≤ 1000000 := by omega
  clear h hc hL hb hf
  go_enter Tryz.func54, Tryz.ntmps54
  go_wp2_with (first | (go_at_call 53; refine HL.out.mono ?_; rintro e w ⟨rfl, rfl⟩))
  go_ret2
  exact ⟨rfl, rfl⟩
/-- what is found behind so many halves -/
def openK (K : Dk) (first half : Nat) : Nat → Nat × List UInt8
  | 0 => (0, [])
  | k + 1 => best (openK K first half k) (stK K first half k)
theorem openK_two (K : Dk) (first half : Nat) : openK K first half 2 = openL K first half := rfl
theorem st_bound {K : Dk} {first half g : Nat} {x : Nat × List UInt8} (h : stK K first half g = some x) : 1 ≤ x.1 ∧ x.1 ≤ 1152921504606846976 := by
  unfold stK standsL at h
  split at h
  · rename_i hs
    cases h
    exact ⟨hs.1, hs.2.1⟩
  · cases h
theorem openK_bound (K : Dk) (first half k : Nat) : (openK K first half k).1 ≤ 1152921504606846976 := by
  induction k with
  | zero => simp [openK]
  | succ k ih =>
    unfold openK best
    split
    · rename_i x hx
      have := (st_bound hx).2
      split <;> omega
    · exact ih
set_option maxRecDepth 100000 in
set_option maxHeartbeats 4000000 in
theorem open_ok {d s M n : Nat} {K : Dk} (first count half : Nat) (w : World) (hK : TabK w) (h : DiskAt w d s M n K) (ho : K.off = false) (hc : count = 2 * half) (hh : 2 ≤ half) (hin : first + count ≤ K.sure.length) (hF : Full K) :
    Calls Tryz.prog 54 #[.pointer (some ⟨d, 0, none⟩), .int .i64 (first : Int), .int .i64 (count : Int)] w fun e w' => ∃ r, e = .returned (.tuple #[.pointer (some ⟨r, 0, none⟩), .int .i64 0]) ∧ w.heap.size ≤ r ∧ RecAt w' r d first half (openL K first half).1 (openL K first half).2 false ∧ Below w.heap.size w w' := by
  have HL := Lib.hid (dlen_any w h)
  have hlb := h.few.2
  have HIN : Hid (first + 2 * half ≤ K.sure.length) := by show _ ≤ _; omega
  obtain ⟨L, hL⟩ : ∃ L, L = K.sure.length := ⟨_, rfl⟩
  rw [← hL] at HL hin hlb
  have d1 : decide ((count : Int) < 4) = false := by rw [decide_eq_false_iff_not]; omega
  have d2 : (count : Int) % 2 = 0 := by omega
  have d2' : (count : Int) / 2 = (half : Int) := by omega
  have d3 : decide ((L : Int) < (first : Int)) = false := by rw [decide_eq_false_iff_not]; omega
  have d3' : decide (L < first) = false := by rw [decide_eq_false_iff_not]; omega
  have d4 : decide ((L : Int) - (first : Int) < (count : Int)) = false := by rw [decide_eq_false_iff_not]; omega
  have hfb : first ≤ 1000000 := by omega
  have hcb : count ≤ 1000000 := by omega
  have HC : Hid (count = 2 * half) := hc
  have HD := Lib.hid h
  have HTK := Lib.hid hK
  have HO := Lib.hid ho
  have HFU := Lib.hid hF
  clear h hL hc hin hK ho hF
  go_enter Tryz.func54, Tryz.ntmps54
  go_wp2_with (first | (go_at_call 53; refine HL.out.mono ?_; rintro e w ⟨rfl, rfl⟩))
  have HR0 : Hid (RecAt (w.alloc (.cells #[.pointer (some ⟨d, 0, none⟩), .int .i64 (first : Int), .int .i64 (half : Int), .slice none 0 0, .int .i64 0, .bool false] 119)) w.heap.size d first half 0 [] false) := Lib.hid ⟨none, 0, Blk.new _ _ _, by simp, by omega, RB.nil _⟩
  have HB0 : Hid (Below w.heap.size w (w.alloc (.cells #[.pointer (some ⟨d, 0, none⟩), .int .i64 (first : Int), .int .i64 (half : Int), .slice none 0 0, .int .i64 0, .bool false] 119))) := Lib.hid ((Below.refl _ _).alloc (Nat.le_refl _) _)
  have HSZ : Hid (w.heap.size < (w.alloc (.cells #[.pointer (some ⟨d, 0, none⟩), .int .i64 (first : Int), .int .i64 (half : Int), .slice none 0 0, .int .i64 0, .bool false] 119)).heap.size) := by show _ < _; simp
  generalize w.alloc (.cells #[.pointer (some ⟨d, 0, none⟩), .int .i64 (first : Int), .int .i64 (half : Int), .slice none 0 0, .int .i64 0, .bool false] 119) = w1 at HR0 HB0 HSZ ⊢
  go_loopw [48] (fun i wr => ∃ k : Nat, k ≤ 2 ∧ i = .int .i64 (k : Int) ∧ Hid (RecAt wr w.heap.size d first half (openK K first half k).1 (openK K first half k).2 false) ∧ Hid (Below w.heap.size w wr)) (fun i _ => 2 - (intOf i).toNat)
  case atStart => exact ⟨0, by omega, rfl, HR0, HB0⟩
  case round =>
    obtain ⟨k, hk, rfl, HR, HB⟩ := hrel
    clear HR0 HB0
    rcases (by omega : k < 2 ∨ k = 2) with hlt | heq
    · have hki : decide ((k : Int) < 2) = true := by rw [decide_eq_true_iff]; omega
      have hkn : decide (k < 2) = true := by rw [decide_eq_true_iff]; omega
      have hdw := HD.out.below HB.out
      have HST : Hid (∃ A c, Blk wr w.heap.size 119 (recV d first half (.slice A (openK K first half k).2.length c) (openK K first half k).1 false)) := by
        obtain ⟨A, c, hb, _⟩ := HR.out
        exact Lib.hid ⟨A, c, hb⟩
      obtain ⟨A0, c0, hblk⟩ := HST.out
      have HSN := Lib.hid (stands_any k wr (TabK.below HTK.out HB.out) hdw hblk HO.out hlt hh (by
        have := HIN.out
        rcases (by omega : k = 0 ∨ k = 1) with rfl | rfl <;> omega) HFU.out)
      have HNB := openK_bound K first half k
      clear hdw hblk HST
      go_wp2_with fail
      refine HSN.out.mono ?_
      rintro e w2 ⟨he, hb2⟩
      have HR2 := Lib.hid (HR.out.below hb2)
      have HB2 := Lib.hid (HB.out.trans (hb2.mono HB.out.size))
      have HK1 : Hid (openK K first half (k + 1) = best (openK K first half k) (stK K first half k)) := rfl
      obtain ⟨A1, c1, hb1, _⟩ := HR2.out
      have n4 := hb1.cell 4
      have n3 := hb1.cell 3
      have f4 := hb1.frozen 4
      have f3 := hb1.frozen 3
      simp only [recV, List.getElem?_toArray, List.getElem?_cons_succ, List.getElem?_cons_zero] at n4 n3
      obtain ⟨N0, hN0⟩ : ∃ N0, N0 = (openK K first half k).1 := ⟨_, rfl⟩
      rw [← hN0] at n4 HNB
      cases hst : stK K first half k with
      | none =>
        rw [hst] at he
        simp only [StPost] at he
        subst he
        have HKE : Hid (openK K first half (k + 1) = openK K first half k) := by show _ = _; rw [HK1.out, hst]; rfl
        have t1 : decide ((N0 : Int) < 0) = false := by rw [decide_eq_false_iff_not]; omega
        clear hst hN0 hb1 hb2 HSN
        go_wp2
        go_roundw
        case rel => exact ⟨k + 1, by omega, by go_num, by rw [HKE.out]; exact HR2, HB2⟩
        case measure => simp [intOf]; omega
      | some x =>
        rw [hst] at he
        obtain ⟨A, c, rfl, x1, x2, hRx⟩ := he
        have hxb := st_bound hst
        have HX := Lib.hid hRx
        have HKE : Hid (openK K first half (k + 1) = if (openK K first half k).1 < x.1 then x else openK K first half k) := by show _ = _; rw [HK1.out, hst]; rfl
        obtain ⟨X, TX⟩ := x
        simp only at x1 x2 HX HKE hxb ⊢
        by_cases hgt : N0 < X
        · have t1 : decide ((N0 : Int) < (X : Int)) = true := by rw [decide_eq_true_iff]; omega
          have t1' : decide (N0 < X) = true := by rw [decide_eq_true_iff]; exact hgt
          have HKT : Hid (openK K first half (k + 1) = (X, TX)) := by show _ = _; rw [HKE.out, if_pos (by rw [← hN0]; exact hgt)]
          have hset := HR2.out.set (N' := X) x1 x2 HX.out
          have HS1 := Lib.hid hset.1
          have HS2 := Lib.hid hset.2
          clear hst hN0 hb1 hb2 HSN hgt hset hRx
          go_wp2
          go_roundw
          case rel => exact ⟨k + 1, by omega, by go_num, by rw [HKT.out]; exact HS1, Lib.hid (Fr.below_trans HB2.out HS2.out HB2.out.size (fun j e => by rw [e]; exact Nat.le_refl _))⟩
          case measure => simp [intOf]; omega
        · have t1 : decide ((N0 : Int) < (X : Int)) = false := by rw [decide_eq_false_iff_not]; omega
          have t1' : decide (N0 < X) = false := by rw [decide_eq_false_iff_not]; exact hgt
          have HKT : Hid (openK K first half (k + 1) = openK K first half k) := by show _ = _; rw [HKE.out, if_neg (by rw [← hN0]; exact hgt)]
          clear hst hN0 hb1 hb2 HSN hgt hRx
          go_wp2
          go_roundw
          case rel => exact ⟨k + 1, by omega, by go_num, by rw [HKT.out]; exact HR2, HB2⟩
          case measure => simp [intOf]; omega
    · have hki : decide ((k : Int) < 2) = false := by rw [decide_eq_false_iff_not]; omega
      have hkn : decide (k < 2) = false := by rw [decide_eq_false_iff_not]; omega
      have HR2 : Hid (RecAt wr w.heap.size d first half (openL K first half).1 (openL K first half).2 false) := by rw [← openK_two, ← heq]; exact HR
      clear heq
      go_wp2
      go_ret2
      exact ⟨_, rfl, Nat.le_refl _, HR2.out, HB.out⟩
set_option maxRecDepth 100000 in
set_option maxHeartbeats 1000000 in
theorem rtext_nil (w : World) : Calls Tryz.prog 55 #[.pointer none] w fun e w' => e = .returned (.slice none 0 0) ∧ w' = w := by
  go_enter Tryz.func55, Tryz.ntmps55
  go_wp2
  go_ret
  exact ⟨rfl, rfl⟩
set_option maxRecDepth 100000 in
set_option maxHeartbeats 1000000 in
theorem rtext_any {r d first half N : Nat} {T : List UInt8} {dead : Bool} (w : World) (h : RecAt w r d first half N T dead) (hT : T.length ≤ 140737488355328) : Calls Tryz.prog 55 #[.pointer (some ⟨r, 0, none⟩)] w fun e w' => ∃ v, e = .returned v ∧ OB w' w.heap.size v T ∧ Below w.heap.size w w' := by
  obtain ⟨A, c, hb, h1, h2, h3⟩ := h
  have n3 := hb.cell 3
  simp only [recV, List.getElem?_toArray, List.getElem?_cons_succ, List.getElem?_cons_zero] at n3
  have HC := Lib.hid (clone_any A c T w hT h3)
  clear h3 hb
  go_enter Tryz.func55, Tryz.ntmps55
  go_wp2_with fail
  refine HC.out.mono ?_
  rintro e w1 ⟨v, rfl, hv, hb⟩
  have HV := Lib.hid hv
  have HB := Lib.hid hb
  clear hv hb
  go_wp2
  go_ret
  exact ⟨_, rfl, HV.out, HB.out⟩
set_option maxRecDepth 100000 in
set_option maxHeartbeats 1000000 in
theorem rnumber_nil (w : World) : Calls Tryz.prog 58 #[.pointer none] w fun e w' => e = .returned (.int .i64 0) ∧ w' = w := by
  go_enter Tryz.func58, Tryz.ntmps58
  go_wp2
  go_ret
  exact ⟨rfl, rfl⟩
set_option maxRecDepth 100000 in
set_option maxHeartbeats 1000000 in
theorem rnumber_any {r d first half N : Nat} {T : List UInt8} {dead : Bool} (w : World) (h : RecAt w r d first half N T dead) : Calls Tryz.prog 58 #[.pointer (some ⟨r, 0, none⟩)] w fun e w' => e = .returned (.int .i64 (N : Int)) ∧ w' = w := by
  obtain ⟨A, c, hb, h1, h2, h3⟩ := h
  have n4 := hb.cell 4
  simp only [recV, List.getElem?_toArray, List.getElem?_cons_succ, List.getElem?_cons_zero] at n4
  clear h3 hb
  go_enter Tryz.func58, Tryz.ntmps58
  go_wp2
  go_ret
  exact ⟨rfl, rfl⟩
set_option maxRecDepth 100000 in
set_option maxHeartbeats 1000000 in
theorem rdead_nil (w : World) : Calls Tryz.prog 60 #[.pointer none] w fun e w' => e = .returned (.bool false) ∧ w' = w := by
  go_enter Tryz.func60, Tryz.ntmps60
  go_wp2
  go_ret
  exact ⟨rfl, rfl⟩
set_option maxRecDepth 100000 in
set_option maxHeartbeats 1000000 in
theorem rdead_any {r d first half N : Nat} {T : List UInt8} {dead : Bool} (w : World) (h : RecAt w r d first half N T dead) : Calls Tryz.prog 60 #[.pointer (some ⟨r, 0, none⟩)] w fun e w' => e = .returned (.bool dead) ∧ w' = w := by
  obtain ⟨A, c, hb, h1, h2, h3⟩ := h
  have n5 := hb.cell 5
  simp only [recV, List.getElem?_toArray, List.getElem?_cons_succ, List.getElem?_cons_zero] at n5
  clear h3 hb
  go_enter Tryz.func60, Tryz.ntmps60
  go_wp2
  go_ret
  exact ⟨rfl, rfl⟩
set_option maxRecDepth 100000 in
set_option maxHeartbeats 1000000 in
theorem rroom_nil (w : World) : Calls Tryz.prog 59 #[.pointer none] w fun e w' => e = .returned (.int .i64 0) ∧ w' = w := by
  go_enter Tryz.func59, Tryz.ntmps59
  go_wp2
  go_ret
  exact ⟨rfl, rfl⟩
set_option maxRecDepth 100000 in
set_option maxHeartbeats 1000000 in
theorem rroom_any {r d first half N : Nat} {T : List UInt8} {dead : Bool} (w : World) (h : RecAt w r d first half N T dead) (hh : 1 ≤ half) (hb : half ≤ 16384) : Calls Tryz.prog 59 #[.pointer (some ⟨r, 0, none⟩)] w fun e w' => e = .returned (.int .i64 (64 * ((half : Int) - 1))) ∧ w' = w := by
  obtain ⟨A, c, hb, h1, h2, h3⟩ := h
  have n2 := hb.cell 2
  simp only [recV, List.getElem?_toArray, List.getElem?_cons_succ, List.getElem?_cons_zero] at n2
  clear h3 hb
  go_enter Tryz.func59, Tryz.ntmps59
  go_wp2
  go_ret
  exact ⟨rfl, rfl⟩
end Go.Proofs.YtgpcinfhcamgpaaGreatDoor

namespace Go.Proofs.YtgpcinfhcamgpaaGreatDoor
open Go.RowKit Go.Shelf
attribute [local go_sem] Oper.semAt_some
set_option linter.unusedVariables false

/-- what may not turn while the loop runs: the closure's two boxes -/
def KeepTwo (g1 g2 : Nat) (W W' : World) : Prop := W'.heap[g1]? = W.heap[g1]? ∧ W'.heap[g2]? = W.heap[g2]?
theorem KeepTwo.trans {g1 g2 : Nat} {A B C : World} (h : KeepTwo g1 g2 A B) (k : KeepTwo g1 g2 B C) : KeepTwo g1 g2 A C := ⟨k.1.trans h.1, k.2.trans h.2⟩
theorem KeepTwo.refl (g1 g2 : Nat) (A : World) : KeepTwo g1 g2 A A := ⟨rfl, rfl⟩
/-- chunk k of n bytes at address b, off -/
def chunkV (b off n : Nat) (k : Nat) : Value := .slice (some ⟨b, off + 64 * k, none⟩) (min 64 (n - 64 * k)) (min 64 (n - 64 * k))
set_option maxRecDepth 100000 in
set_option maxHeartbeats 2000000 in
theorem chunk1_in (l g1 g2 b off n c : Nat) (hn : n ≤ 35184372088832) (hc : n ≤ c) (J Jx : List Nat → World → Prop) (W : World) (hJ : AbidesFrom W.heap.size J)
    (hY : ∀ pre x W1, J pre W1 → pre.length < (n + 63) / 64 → YieldAt Fence.wide 2 Tryz.prog l #[chunkV b off n x] W1 fun e W' =>
      (e = .returned (.bool true) ∧ J (pre ++ [x]) W' ∧ KeepTwo g1 g2 W1 W') ∨ (e = .returned (.bool false) ∧ Jx (pre ++ [x]) W'))
    (h1 : Blk W g1 22 #[.slice (some ⟨b, off, none⟩) n c]) (h2 : Blk W g2 3 #[.int .i64 64]) (h0 : J [] W) :
    CallsIn Fence.wide 3 Tryz.prog 130 #[.func (.yield l) #[] #[], .pointer (some ⟨g1, 0, none⟩), .pointer (some ⟨g2, 0, none⟩)] W fun e W' => (∃ v, e = .returned v) ∧
      ((∃ ys, ys = List.range ((n + 63) / 64) ∧ J ys W') ∨ (∃ pre, (∃ k, k ≤ (n + 63) / 64 ∧ pre = List.range k) ∧ Jx pre W')) := by
  refine callsIn_of_wp Tryz.func130 rfl trivial ?_ rfl
  simp only [Tryz.ntmps130, List.size_toArray, List.length_cons, List.length_nil, Nat.reduceAdd, Nat.reduceSub, Array.replicate_succ, Array.replicate_zero, List.push_toArray, List.append_toArray, List.nil_append, List.cons_append]
  gi_wp2
  gi_loopw [4] (fun i wr => ∃ k : Nat, k ≤ (n + 63) / 64 ∧ i = .int .i64 ((64 * k : Nat) : Int) ∧ J (List.range k) wr ∧ KeepTwo g1 g2 W wr) (fun i _ => (n + 64) - (intOf i).toNat)
  case atStart => exact ⟨0, Nat.zero_le _, rfl, h0, KeepTwo.refl _ _ _⟩
  case round =>
    obtain ⟨k, hk, rfl, hJs, hkt⟩ := hrel
    have c1 : wr.cell? ⟨g1, 0, none⟩ = some (.slice (some ⟨b, off, none⟩) n c) := by
      have := Blk.cell (show Blk wr g1 22 #[.slice (some ⟨b, off, none⟩) n c] from hkt.1.trans h1) 0
      simpa using this
    have c2 : wr.cell? ⟨g2, 0, none⟩ = some (.int .i64 64) := by
      have := Blk.cell (show Blk wr g2 3 #[.int .i64 64] from hkt.2.trans h2) 0
      simpa using this
    by_cases hlt : 64 * k < n
    · obtain ⟨fn, tmps, assign, body, hy, hR⟩ := hY (List.range k) k wr.drew (hJ _ _ _ none hJs ⟨rfl, rfl, rfl, Nat.le_refl _, fun _ _ _ => rfl⟩ (fun r e => by cases e)) (by rw [List.length_range]; omega)
      have HR := Lib.hid hR
      clear hR hY
      obtain ⟨p, hp⟩ : ∃ p, p = 64 * k := ⟨_, rfl⟩
      rw [← hp] at hlt ⊢
      rcases (by omega : 64 ≤ n - p ∨ n - p < 64) with hfull | hpart
      · have hm : min 64 (n - 64 * k) = 64 := by omega
        unfold chunkV at hy
        rw [hm, ← hp] at hy
        have HP := Lib.hid hp
        have hki : decide ((p : Int) < (n : Int)) = true := by rw [decide_eq_true_iff]; omega
        have hki' : decide (p < n) = true := by rw [decide_eq_true_iff]; omega
        have q1 : (p : Int) ≤ (n : Int) := by omega
        have q2 : (p : Int) ≤ (c : Int) := by omega
        have d1 : (64 : Int) ≤ ((n - p : Nat) : Int) := by omega
        have d2 : ((p : Int) + 64).toNat - p = 64 := by omega
        have d3 : (p : Int) + 64 ≤ (c : Int) := by omega
        have d4 : (p : Int) ≤ (p : Int) + 64 := by omega
        clear hp hm
        gi_wp2
        gi_region
        gi_wp2
        refine HR.out.mono ?_
        rintro e W3 (⟨rfl, hJ3, hk3⟩ | ⟨rfl, hJx3⟩)
        · have hJ4 : J (List.range (k + 1)) W3 := by rw [List.range_succ]; exact hJ3
          have hk4 : KeepTwo g1 g2 W W3 := hkt.trans hk3
          have d1 := Blk.cell (show Blk W3 g1 22 #[.slice (some ⟨b, off, none⟩) n c] from hk4.1.trans h1) 0
          have d2 := Blk.cell (show Blk W3 g2 3 #[.int .i64 64] from hk4.2.trans h2) 0
          simp only [List.getElem?_toArray, List.getElem?_cons_zero] at d1 d2
          have HJ4 := Lib.hid hJ4
          have HK4 := Lib.hid hk4
          clear hJ3 hk3 hJ4 hk4 hJs hkt
          gi_wp2
          go_roundw
          case rel => exact ⟨k + 1, by have := HP.out; omega, by have := HP.out; go_num, HJ4.out, HK4.out⟩
          case measure => simp [intOf]; omega
        · have HJX := Lib.hid (show Jx (List.range (k + 1)) W3 by rw [List.range_succ]; exact hJx3)
          have HK1 : Hid (k + 1 ≤ (n + 63) / 64) := by show _ ≤ _; have := HP.out; omega
          gi_wp2
          refine bodyPost_ret (results_none rfl _ _ _) rfl ?_
          exact ⟨⟨_, rfl⟩, .inr ⟨_, ⟨k + 1, HK1.out, rfl⟩, HJX.out⟩⟩
      · have hm : min 64 (n - 64 * k) = n - p := by omega
        unfold chunkV at hy
        rw [hm, ← hp] at hy
        have HP := Lib.hid hp
        have hki : decide ((p : Int) < (n : Int)) = true := by rw [decide_eq_true_iff]; omega
        have hki' : decide (p < n) = true := by rw [decide_eq_true_iff]; omega
        have q1 : (p : Int) ≤ (n : Int) := by omega
        have q2 : (p : Int) ≤ (c : Int) := by omega
        have d1 : ¬ ((64 : Int) ≤ ((n - p : Nat) : Int)) := by omega
        have d2 : ((p : Int) + ((n - p : Nat) : Int)).toNat - p = n - p := by omega
        have d3 : (p : Int) + ((n - p : Nat) : Int) ≤ (c : Int) := by omega
        have d4 : (p : Int) ≤ (p : Int) + ((n - p : Nat) : Int) := by omega
        clear hp hm
        gi_wp2
        gi_region
        gi_wp2
        refine HR.out.mono ?_
        rintro e W3 (⟨rfl, hJ3, hk3⟩ | ⟨rfl, hJx3⟩)
        · have hJ4 : J (List.range (k + 1)) W3 := by rw [List.range_succ]; exact hJ3
          have hk4 : KeepTwo g1 g2 W W3 := hkt.trans hk3
          have d1 := Blk.cell (show Blk W3 g1 22 #[.slice (some ⟨b, off, none⟩) n c] from hk4.1.trans h1) 0
          have d2 := Blk.cell (show Blk W3 g2 3 #[.int .i64 64] from hk4.2.trans h2) 0
          simp only [List.getElem?_toArray, List.getElem?_cons_zero] at d1 d2
          have HJ4 := Lib.hid hJ4
          have HK4 := Lib.hid hk4
          clear hJ3 hk3 hJ4 hk4 hJs hkt
          gi_wp2
          go_roundw
          case rel => exact ⟨k + 1, by have := HP.out; omega, by have := HP.out; go_num, HJ4.out, HK4.out⟩
          case measure => simp [intOf]; omega
        · have HJX := Lib.hid (show Jx (List.range (k + 1)) W3 by rw [List.range_succ]; exact hJx3)
          have HK1 : Hid (k + 1 ≤ (n + 63) / 64) := by show _ ≤ _; have := HP.out; omega
          gi_wp2
          refine bodyPost_ret (results_none rfl _ _ _) rfl ?_
          exact ⟨⟨_, rfl⟩, .inr ⟨_, ⟨k + 1, HK1.out, rfl⟩, HJX.out⟩⟩
    · have hkn : k = (n + 63) / 64 := by omega
      have HKN := Lib.hid hkn
      have HJ0 := Lib.hid hJs
      obtain ⟨p, hp⟩ : ∃ p, p = 64 * k := ⟨_, rfl⟩
      rw [← hp] at hlt ⊢
      have hki : decide ((p : Int) < (n : Int)) = false := by rw [decide_eq_false_iff_not]; omega
      have hki' : decide (p < n) = false := by rw [decide_eq_false_iff_not]; omega
      clear hkn hp hJs hY
      gi_wp2
      go_end0
      exact ⟨⟨_, rfl⟩, .inl ⟨_, by rw [← HKN.out], HJ0.out⟩⟩
set_option maxRecDepth 100000 in
set_option maxHeartbeats 2000000 in
theorem chunk0_in (l g1 g2 c : Nat) (A : Option Addr) (J : List Nat → World → Prop) (W : World)
    (h1 : Blk W g1 22 #[.slice A 0 c]) (h0 : J [] W) :
    CallsIn Fence.wide 3 Tryz.prog 130 #[.func (.yield l) #[] #[], .pointer (some ⟨g1, 0, none⟩), .pointer (some ⟨g2, 0, none⟩)] W fun e W' => (∃ v, e = .returned v) ∧ J [] W' := by
  have c1 := h1.cell 0
  simp only [List.getElem?_toArray, List.getElem?_cons_zero] at c1
  refine callsIn_of_wp Tryz.func130 rfl trivial ?_ rfl
  simp only [Tryz.ntmps130, List.size_toArray, List.length_cons, List.length_nil, Nat.reduceAdd, Nat.reduceSub, Array.replicate_succ, Array.replicate_zero, List.push_toArray, List.append_toArray, List.nil_append, List.cons_append]
  gi_wp2
  gi_loopw [4] (fun i wr => i = .int .i64 0 ∧ wr = W) (fun _ _ => 0)
  case atStart => exact ⟨rfl, rfl⟩
  case round =>
    obtain ⟨rfl, rfl⟩ := hrel
    gi_wp2
    go_end0
    exact ⟨⟨_, rfl⟩, h0⟩
/-- the value of a chunk, whatever the slice's address -/
def chunkA (A : Option Addr) (n k : Nat) : Value := match A with
  | some ad => chunkV ad.block ad.off n k
  | none => .slice none 0 0
theorem chunk_stops (g1 g2 n c : Nat) (A : Option Addr) (T : List UInt8) (w : World) (hT : RB w A T) (hTn : T.length = n) (hn : n ≤ 35184372088832) (hc : n ≤ c) (h1 : Blk w g1 22 #[.slice A n c]) (h2 : Blk w g2 3 #[.int .i64 64]) :
    SeqStopsK Fence.wide 3 Tryz.prog 130 #[.pointer (some ⟨g1, 0, none⟩), .pointer (some ⟨g2, 0, none⟩)] (fun x : Nat => #[chunkA A n x]) (KeepTwo g1 g2)
      (fun ys => ys = List.range ((n + 63) / 64)) (fun pre => ∃ k, k ≤ (n + 63) / 64 ∧ pre = List.range k) ((n + 63) / 64) w := fun l J Jx W hW hJ _ hY h0 => by
  have b1 := h1.below hW h1.lt
  have b2 := h2.below hW h2.lt
  rcases Nat.eq_zero_or_pos n with e0 | hpos
  · subst e0
    refine (chunk0_in l g1 g2 c A J W b1 h0).mono ?_
    rintro e W' ⟨he, hj⟩
    exact ⟨he, .inl ⟨[], rfl, hj⟩⟩
  · obtain ⟨ad, rfl, hlt, hcell⟩ := hT.at_ (k := 0) (by omega)
    have hsp := cell_spot hcell
    have had : ad = ⟨ad.block, ad.off, none⟩ := by
      obtain ⟨b, o, sp⟩ := ad
      cases sp with
      | none => rfl
      | some s => simp [Addr.add] at hsp
    refine (chunk1_in l g1 g2 ad.block ad.off n c hn hc J Jx W hJ hY (by rw [had] at b1; exact b1) b2 h0).mono ?_
    rintro e W' ⟨he, h⟩
    exact ⟨he, h⟩
set_option maxRecDepth 100000 in
set_option maxHeartbeats 1000000 in
theorem chunk_any (A : Option Addr) (n c : Nat) (w : World) :
    Calls Tryz.prog 116 #[.slice A n c, .int .i64 64] w fun e w' => e = .returned (.func (.func 130) #[] #[.pointer (some ⟨w.heap.size, 0, none⟩), .pointer (some ⟨w.heap.size + 1, 0, none⟩)]) ∧ w' = (w.alloc (.cells #[.slice A n c] 22)).alloc (.cells #[.int .i64 64] 3) := by
  go_enter Tryz.func116, Tryz.ntmps116
  go_wp2
  go_ret
  exact ⟨rfl, rfl⟩
end Go.Proofs.YtgpcinfhcamgpaaGreatDoor

namespace Go.Proofs.YtgpcinfhcamgpaaGreatDoor
open Go.RowKit
set_option linter.unusedVariables false
variable {P : Program} {ops : Array Oper} {Q : Exit → Act → World → Prop} {md : Region.Mode} {S : World → Prop}

/-- the post of a region that ends as it should -/
def OnlyNormal (Q : Exit → Act → World → Prop) (e : Exit) (a : Act) (w : World) : Prop := e = .normal ∧ Q .normal a w
theorem not_letsOut (Q : Exit → Act → World → Prop) : ¬ LetsOut (OnlyNormal Q) := by
  rintro ⟨a, w, h, _⟩
  cases h
def noDefer (ops : Array Oper) : Bool := ops.all fun o => match o.op with | .defer _ => false | _ => true
theorem noDefer_spec (h : noDefer ops = true) {i : Nat} {o : Oper} (ho : ops[i]? = some o) : ∀ c, o.op ≠ .defer c := by
  intro c e
  unfold noDefer at h
  rw [Array.all_eq_true_iff_forall_mem] at h
  have := h o (Array.mem_of_getElem? ho)
  rw [e] at this
  cases this
theorem rowsIn_of {row : String} {args : Array Value} {w : World} {R : Value → World → Prop} {n l : Nat} (h : Rows P row args w R) : RowsIn (Fence.wide.inRound l) n P row args w R := by
  intro c cs hr
  obtain ⟨v, w', hR, hs⟩ := h c cs
  exact ⟨v, w', hR, stepsIn_wide.2 hs⟩
theorem operIn_of {o : Oper} {a : Act} {w : World} {K : Act → World → Prop} {n l : Nat} (hd : ∀ c, o.op ≠ .defer c) (h : o.wp P a w K (OnlyNormal Q)) : o.wpIn (Fence.wide.inRound l) n P a w K (OnlyNormal Q) := by
  unfold Oper.wpIn
  refine ⟨fun f _ => trivial, ?_⟩
  rw [Fence.inRound_round, Oper.semAt_some l _ _ hd]
  unfold Oper.wp at h
  generalize (execOp a.eval o).run P w = r at *
  cases r with
  | ok x w' =>
    cases x <;> simp only [Oper.upon, Oper.uponIn] at h ⊢
    case value u => exact h
    case skip => exact h
    case defer d => exact h
    case enter f args => exact ⟨fun e => (by cases e), CallsIn.inRound l (callsIn_wide.2 h)⟩
    case row row args => exact ⟨fun e => (by cases e), rowsIn_of h⟩
  | halt x w' =>
    cases x <;> simp only [Oper.upon, Oper.uponIn] at h ⊢
    case panic u => exact h
theorem wpOpIn_of {i : Nat} {a : Act} {w : World} {K : Act → World → Prop} {n l : Nat} (hd : noDefer ops = true) (h : wpOp P ops (OnlyNormal Q) i K a w) : wpOpIn (Fence.wide.inRound l) n P ops (OnlyNormal Q) i K a w := by
  unfold wpOp at h
  unfold wpOpIn
  cases ho : ops[i]? with
  | none => rw [ho] at h; exact h
  | some o =>
    rw [ho] at h
    dsimp only at h ⊢
    split
    · rename_i hw
      rw [if_pos hw] at h
      rcases h with h | ⟨_, h⟩
      · exact operIn_of (noDefer_spec hd ho) h
      · exact absurd h (not_letsOut Q)
    · rename_i hw
      rw [if_neg hw] at h
      exact ⟨fun f _ => trivial, h⟩
theorem wpAnyIn_of {n l : Nat} (hd : noDefer ops = true) : ∀ (fuel : Nat) (listed : Array Bool) (a : Act) (w : World), wpAny P md ops (OnlyNormal Q) fuel listed a w → wpAnyIn (Fence.wide.inRound l) n P md ops (OnlyNormal Q) fuel listed a w
  | 0, _, _, _, h => h
  | fuel + 1, listed, a, w, h => ⟨h.1, fun i hi => wpOpIn_mono (fun a' w' h' => wpAnyIn_of hd fuel _ a' w' h') (wpOpIn_of hd (h.2 i hi))⟩
/-- a region in a round, from the walk outside of one -/
theorem wpIn_region_round {l n id : Nat} {a : Act} {w : World} (S : World → Prop) (hm : P.follows .mixedOrders = true) (hd : noDefer ops = true)
    (h : wpAnyH P .any ops (OnlyNormal Q) S ops.size (Array.replicate ops.size false) a w.drew) : (Code.region id ops true).wpIn (Fence.wide.inRound l) n P Q a w :=
  wpIn_mono (wpIn_region_any (Q := OnlyNormal Q) hm (wpAnyIn_of hd _ _ _ _ (wpAny_of_held _ _ _ _ h))) (fun e a w h => h.1 ▸ h.2)
theorem onlyNormal_panic {c : List PanicEntry} {a a' : Act} {w : World} (h : OnlyNormal Q (.panic c) a w) : OnlyNormal Q (.panic c) a' w := by cases h.1
end Go.Proofs.YtgpcinfhcamgpaaGreatDoor
