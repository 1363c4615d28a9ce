/-
  A commit that a crash cuts, plainly.
-/
import Derived.Test.YtcndkkagnobpmaaDoorRec8
import Derived.Test.YtcndkkagnobpmaaDoorDisk8
namespace Go.Proofs.YtcndkkagnobpmaaDoor
open Go.RowKit
set_option linter.unusedVariables false

theorem lead_zero : ∀ (l : List UInt8), beVal l < 256 → l.take (l.length - 1) = List.replicate (l.length - 1) 0
  | [], _ => rfl
  | c :: l, h => by
    rcases l with _ | ⟨c', l⟩
    · rfl
    · rw [beVal_cons] at h
      have hp : 256 ≤ 256 ^ (c' :: l).length := by
        rw [List.length_cons, Nat.pow_succ]
        have : 0 < 256 ^ l.length := Nat.pow_pos (by omega)
        omega
      have hc : c.toNat = 0 := by
        rcases Nat.eq_zero_or_pos c.toNat with h0 | h0
        · exact h0
        · have : 256 ^ (c' :: l).length ≤ c.toNat * 256 ^ (c' :: l).length := Nat.le_mul_of_pos_left _ h0
          omega
      have hc0 : c = 0 := UInt8.toNat.inj hc
      have ih := lead_zero (c' :: l) (by omega)
      show (c :: c' :: l).take ((c' :: l).length) = List.replicate (c' :: l).length 0
      rw [List.length_cons] at ih ⊢
      rw [List.take_succ_cons, List.replicate_succ, hc0]
      simpa using ih
theorem lead_take {l : List UInt8} (h8 : l.length = 8) (h : beVal l < 256) {j : Nat} (hj : j ≤ 7) : l.take j = List.replicate j 0 := by
  have := lead_zero l h
  rw [h8] at this
  have e : l.take j = (l.take 7).take j := by rw [List.take_take, Nat.min_eq_left hj]
  rw [e, this, List.take_replicate, Nat.min_eq_left hj]
/-- the number at a block's end -/
def endN (X : List UInt8) : Nat := beVal (X.drop 56)
theorem hdL_end (N : Nat) (T : List UInt8) : (hdL N T).drop 56 = beBytes N 8 := by
  unfold hdL
  refine List.drop_left' ?_
  simp only [List.length_append, beBytes_length, List.length_take, shaL_len, List.length_replicate]; omega
theorem endN_hd (N : Nat) (T : List UInt8) (h : N < 18446744073709551616) : endN (hdL N T) = N := by
  unfold endN
  rw [hdL_end, beVal_be]
  exact Nat.mod_eq_of_lt h
theorem endN_torn (N : Nat) (T old : List UInt8) (q : Nat) (hq : q < 64) (hN : N < 256) (ho : old.length = 64) (he : endN old < 256) : endN ((hdL N T).take q ++ old.drop q) = endN old := by
  have hl : (hdL N T).length = 64 := hdL_len N T
  unfold endN at he ⊢
  congr 1
  rcases Nat.le_total q 56 with h | h
  · rw [List.drop_append, List.drop_eq_nil_of_le (by rw [List.length_take]; omega), List.nil_append, List.drop_drop, List.length_take, hl]
    congr 1; omega
  · rw [List.drop_append, List.drop_take, hdL_end, List.length_take, hl, show 56 - min q 64 = 0 from by omega, List.drop_zero]
    have e1 : (beBytes N 8).take (q - 56) = List.replicate (q - 56) 0 := lead_take (beBytes_length _ _) (by rw [beVal_be]; omega) (by omega)
    have e2 : (old.drop 56).take (q - 56) = List.replicate (q - 56) 0 := lead_take (by rw [List.length_drop]; omega) he (by omega)
    have e3 : old.drop q = (old.drop 56).drop (q - 56) := by rw [List.drop_drop]; congr 1; omega
    rw [e1, ← e2, e3, List.take_append_drop]
theorem torn_twice (hd old : List UInt8) (b n : Nat) (h1 : hd.length = 64) (h2 : old.length = 64) (hb : b ≤ 64) (hn : n ≤ 64) : ∃ q, q ≤ 64 ∧ (hd.take b ++ old.drop b).take n ++ old.drop n = hd.take q ++ old.drop q := by
  rcases Nat.le_total n b with h | h
  · refine ⟨n, hn, ?_⟩
    rw [List.take_append_of_le_length (by rw [List.length_take]; omega), List.take_take, Nat.min_eq_left h]
  · refine ⟨b, hb, ?_⟩
    rw [List.take_append, List.length_take, h1, Nat.min_eq_left hb, List.append_assoc]
    congr 1
    · exact List.take_of_length_le (by rw [List.length_take]; omega)
    · have : old.drop n = (old.drop b).drop (n - b) := by rw [List.drop_drop]; congr 1; omega
      rw [this, List.take_append_drop]
/-- the number at the end of a half's head -/
def ZK (K : Dk) (first half g : Nat) : Nat := endN (K.now (first + g * half))
theorem st_end {K : Dk} {first half g m : Nat} {t : List UInt8} (hh : 1 ≤ half) (h64 : (K.now (first + g * half)).length = 64) (h : stK K first half g = some (m, t)) : ZK K first half g = m ∧ 1 ≤ m := by
  have hb := st_bound h
  unfold stK standsL at h
  split at h
  · rename_i hs
    obtain ⟨h1, h2, h3, h4, h5⟩ := hs
    have hm : beVal ((allL K (first + g * half) half).take 8) = m := by injection h with h; exact congrArg Prod.fst h
    unfold ZK
    obtain ⟨k, rfl⟩ : ∃ k, half = k + 1 := ⟨half - 1, by omega⟩
    have e : (allL K (first + g * (k + 1)) (k + 1)).take 64 = K.now (first + g * (k + 1)) := by rw [allL_cons]; exact List.take_left' h64
    rw [e] at h5
    rw [h5, hm]
    exact ⟨endN_hd _ _ (by have := hb.2; simp only at this; omega), hb.1⟩
  · cases h
/-- what holds of the two halves behind every commit and every crash -/
def InvR (K : Dk) (first half N : Nat) (T : List UInt8) : Prop :=
  (N = 0 ∧ T = [] ∧ ZK K first half 0 = 0 ∧ ZK K first half 1 = 0) ∨
  (1 ≤ N ∧ stK K first half (N % 2) = some (N, T) ∧ (ZK K first half ((N + 1) % 2) = 0 ∨ ZK K first half ((N + 1) % 2) < N))
theorem half_in {first half g L : Nat} (hg : g < 2) (hin : first + 2 * half ≤ L) (hh : 2 ≤ half) : first + g * half + half ≤ L := by
  rcases (by omega : g = 0 ∨ g = 1) with rfl | rfl <;> omega
theorem InvR.rec_ {K : Dk} {first half N : Nat} {T : List UInt8} (h : InvR K first half N T) (hf : Full K) (hin : first + 2 * half ≤ K.sure.length) (hh : 2 ≤ half) : RecOK K first half N T := by
  have h64 : ∀ g, g < 2 → (K.now (first + g * half)).length = 64 := fun g hg => hf _ (by have := half_in hg hin hh; omega)
  rcases h with ⟨rfl, rfl, h0, h1⟩ | ⟨h1, h2, h3⟩
  · refine .inl ⟨rfl, rfl, ?_, ?_⟩
    · cases hs : stK K first half 0 with
      | none => rfl
      | some x => have := st_end (by omega) (h64 0 (by omega)) hs; omega
    · cases hs : stK K first half 1 with
      | none => rfl
      | some x => have := st_end (by omega) (h64 1 (by omega)) hs; omega
  · refine .inr ⟨h1, h2, fun m t hs => ?_⟩
    have := st_end (by omega) (h64 _ (by omega)) hs
    omega
/-- a disk with a record: on, nothing loose -/
structure DG (K : Dk) (first half N : Nat) (T : List UInt8) : Prop where
  on : K.off = false
  loo : ∀ i, K.loose i = none
  full : Full K
  inv : InvR K first half N T
  inn : first + 2 * half ≤ K.sure.length
  two : 2 ≤ half
theorem write_sure (K : Dk) (i : Nat) (b : List UInt8) : (K.write i b).sure = K.sure := by
  unfold Dk.write Dk.put
  split <;> simp only [go_sure]
theorem write_loose (K : Dk) (i : Nat) (b : List UInt8) (j : Nat) : (K.write i b).loose j = if j = i then some (if K.go.off then b.take K.bytes ++ (K.now i).drop K.bytes else b) else K.loose j := by
  unfold Dk.write Dk.put
  split <;> simp only [go_loose]
theorem body_gen (K : Dk) (a : Nat) (T : List UInt8) (hl : ∀ i, K.loose i = none) (k : Nat) : (bodyK K a T k).sure = K.sure ∧ (bodyK K a T k).bytes = K.bytes ∧ ∀ i, (bodyK K a T k).loose i ≠ none → a + 1 ≤ i ∧ i < a + 1 + k := by
  induction k with
  | zero => exact ⟨rfl, rfl, fun i h => absurd (hl i) h⟩
  | succ k ih =>
    obtain ⟨h1, h2, h3⟩ := ih
    unfold bodyK
    split
    · exact ⟨h1, h2, fun i h => by have := h3 i h; omega⟩
    · refine ⟨by rw [write_sure, h1], by rw [write_bytes, h2], fun i h => ?_⟩
      rw [write_loose] at h
      split at h
      · omega
      · have := h3 i h; omega
/-- a commit that the power cut: within the body, or within the head -/
def TornA (K Kc : Dk) (a : Nat) (T : List UInt8) : Prop := Kc.sure = K.sure ∧ ∀ i, Kc.loose i ≠ none → a + 1 ≤ i ∧ i < a + 1 + chunksN T
def TornC (K Kc : Dk) (a N : Nat) (T : List UInt8) : Prop :=
  Kc.sure.length = K.sure.length ∧ (∀ j, j < K.sure.length → Kc.sure.getD j [] = if a + 1 ≤ j ∧ j < a + 1 + chunksN T then pad64 (chunk T (j - a - 1)) else K.now j) ∧
  (∀ i, i ≠ a → Kc.loose i = none) ∧ ∃ b, b ≤ 64 ∧ Kc.loose a = some ((hdL N T).take b ++ (K.now a).drop b)
theorem commit_torn (K : Dk) (a N : Nat) (T : List UInt8) (hl : ∀ i, K.loose i = none) (hb : K.bytes ≤ 64) (ha : a < K.sure.length) (hf : (K.now a).length = 64) (h : (commitK K a N T).off = true) : TornA K (commitK K a N T) a T ∨ TornC K (commitK K a N T) a N T := by
  obtain ⟨b1, b2, b3⟩ := body_gen K a T hl (chunksN T)
  have hA1 : (bodyK K a T (chunksN T)).off = true → TornA K (commitK K a N T) a T := fun e1 => by
    have : commitK K a N T = bodyK K a T (chunksN T) := by simp only [commitK, ifOn, e1, if_true]
    rw [this]
    exact ⟨b1, b3⟩
  cases e1 : (bodyK K a T (chunksN T)).off with
  | true => exact .inl (hA1 e1)
  | false =>
    have hnow := body_now K a T (chunksN T) e1
    cases e2 : (bodyK K a T (chunksN T)).syncK.off with
    | true =>
      left
      have : commitK K a N T = (bodyK K a T (chunksN T)).go := by
        have e3 := e2
        rw [syncK_off] at e3
        have e4 : (bodyK K a T (chunksN T)).syncK = (bodyK K a T (chunksN T)).go := by unfold Dk.syncK; rw [e3]; rfl
        simp only [commitK, ifOn, e1, e2, if_true, Bool.false_eq_true, if_false]
        rw [e4]
      rw [this]
      exact ⟨by rw [go_sure, b1], fun i h => b3 i (by rw [go_loose] at h; exact h)⟩
    | false =>
      have e3 := e2
      rw [syncK_off] at e3
      have e4 : (bodyK K a T (chunksN T)).syncK = (bodyK K a T (chunksN T)).sync := by unfold Dk.syncK; rw [e3]; rfl
      have hlen : (bodyK K a T (chunksN T)).sure.length = K.sure.length := by rw [b1]
      obtain ⟨S, hS⟩ : ∃ S, S = (bodyK K a T (chunksN T)).syncK := ⟨_, rfl⟩
      have s1 : S.sure.length = K.sure.length := by rw [hS, syncK_len, hlen]
      have s2 : ∀ j, j < K.sure.length → S.sure.getD j [] = if a + 1 ≤ j ∧ j < a + 1 + chunksN T then pad64 (chunk T (j - a - 1)) else K.now j := fun j hj => by
        rw [hS, e4, ← hnow j]
        show ((List.range (bodyK K a T (chunksN T)).sure.length).map (bodyK K a T (chunksN T)).now).getD j [] = _
        rw [List.getD_eq_getElem?_getD, List.getElem?_map, List.getElem?_range (by rw [hlen]; exact hj)]
        rfl
      have s3 : ∀ i, S.loose i = none := fun i => by rw [hS, e4]; rfl
      have s4 : S.bytes = K.bytes := by
        rw [hS, e4]
        show (bodyK K a T (chunksN T)).go.bytes = _
        rw [go_bytes, b2]
      have s5 : S.now a = K.now a := by
        unfold Dk.now
        rw [s3, Option.getD_none, s2 a ha, if_neg (by omega)]
        rfl
      right
      cases e5 : (S.write a (hdL N T)).off with
      | true =>
        have : commitK K a N T = S.write a (hdL N T) := by
          have := e5
          rw [hS] at this
          simp only [commitK, ifOn, e1, e2, this, if_true, Bool.false_eq_true, if_false]
          rw [hS]
        rw [this]
        have e6 := e5
        rw [write_off_eq] at e6
        refine ⟨by rw [write_sure, s1], fun j hj => by rw [write_sure]; exact s2 j hj, fun i hi => by rw [write_loose, if_neg hi]; exact s3 i, K.bytes, hb, ?_⟩
        rw [write_loose, if_pos rfl, e6, if_pos rfl, s4, s5]
      | false =>
        have e7 : (S.write a (hdL N T)).syncK.off = true := by
          have h' := h
          have := e5
          rw [hS] at this
          simp only [commitK, ifOn, e1, e2, this, Bool.false_eq_true, if_false] at h'
          rw [hS]; exact h'
        have : commitK K a N T = (S.write a (hdL N T)).go := by
          have h9 := e5
          rw [hS] at h9
          have h8 := e7
          rw [syncK_off] at h8
          have h10 : (S.write a (hdL N T)).syncK = (S.write a (hdL N T)).go := by unfold Dk.syncK; rw [h8]; rfl
          simp only [commitK, ifOn, e1, e2, h9, Bool.false_eq_true, if_false]
          rw [← hS, h10]
        rw [this]
        have e6 := e5
        rw [write_off_eq] at e6
        refine ⟨by rw [go_sure, write_sure, s1], fun j hj => by rw [go_sure, write_sure]; exact s2 j hj, fun i hi => by rw [go_loose, write_loose, if_neg hi]; exact s3 i, 64, Nat.le_refl _, ?_⟩
        rw [go_loose, write_loose, if_pos rfl, e6, if_neg (by simp), List.take_of_length_le (by rw [hdL_len]; exact Nat.le_refl _), List.drop_eq_nil_of_le (by omega), List.append_nil]
end Go.Proofs.YtcndkkagnobpmaaDoor
