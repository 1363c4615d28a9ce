/-
  A commit that goes well, plainly.
-/
import Derived.Test.YtcndkkagnobpmaaDoorRecPlain
namespace Go.Proofs.YtcndkkagnobpmaaDoor
open Go.RowKit
set_option linter.unusedVariables false

theorem write_len (K : Dk) (i : Nat) (b : List UInt8) : (K.write i b).sure.length = K.sure.length := by
  unfold Dk.write Dk.put
  split <;> simp only [go_sure]
theorem write_off_eq (K : Dk) (i : Nat) (b : List UInt8) : (K.write i b).off = K.go.off := by
  unfold Dk.write Dk.put
  split <;> rfl
theorem write_bytes (K : Dk) (i : Nat) (b : List UInt8) : (K.write i b).bytes = K.bytes := by
  unfold Dk.write Dk.put
  split <;> exact go_bytes K
theorem go_left (K : Dk) (h : K.left < 0) : K.go = K := by
  unfold Dk.go
  rw [if_neg (by omega), if_neg (by omega)]
theorem write_left (K : Dk) (i : Nat) (b : List UInt8) (h : K.left < 0) : (K.write i b).left = K.left := by
  unfold Dk.write Dk.put
  rw [go_left K h]
  split <;> rfl
theorem put_now (K : Dk) (i : Nat) (b : List UInt8) (j : Nat) : (K.put i b).now j = if j = i then b else K.now j := by
  unfold Dk.now Dk.put
  dsimp only
  by_cases e : j = i
  · rw [if_pos e, if_pos e]; rfl
  · rw [if_neg e, if_neg e]
theorem write_now (K : Dk) (i : Nat) (b : List UInt8) (h : (K.write i b).off = false) (j : Nat) : (K.write i b).now j = if j = i then b else K.now j := by
  rw [write_off_eq] at h
  unfold Dk.write
  rw [h]
  rw [if_neg (by simp), put_now, go_now]
theorem sync_len (K : Dk) : K.sync.sure.length = K.sure.length := by simp [Dk.sync]
theorem sync_now (K : Dk) {j : Nat} (hj : j < K.sure.length) : K.sync.now j = K.now j := by
  show (none : Option (List UInt8)).getD (((List.range K.sure.length).map K.now).getD j []) = K.now j
  rw [Option.getD_none, List.getD_eq_getElem?_getD, List.getElem?_map, List.getElem?_range hj]
  rfl
theorem syncK_len (K : Dk) : K.syncK.sure.length = K.sure.length := by
  unfold Dk.syncK; split
  · rw [go_sure]
  · exact sync_len K
theorem syncK_off (K : Dk) : K.syncK.off = K.go.off := by
  unfold Dk.syncK; split
  · rfl
  · rfl
theorem syncK_now (K : Dk) {j : Nat} (hj : j < K.sure.length) : K.syncK.now j = K.now j := by
  unfold Dk.syncK; split
  · exact go_now K j
  · exact sync_now K hj
theorem body_len (K : Dk) (a : Nat) (T : List UInt8) (k : Nat) : (bodyK K a T k).sure.length = K.sure.length := by
  induction k with
  | zero => rfl
  | succ k ih =>
    unfold bodyK
    split
    · exact ih
    · rw [write_len, ih]
theorem body_on (K : Dk) (a : Nat) (T : List UInt8) (k : Nat) (h : (bodyK K a T (k + 1)).off = false) : (bodyK K a T k).off = false ∧ bodyK K a T (k + 1) = (bodyK K a T k).write (a + 1 + k) (pad64 (chunk T k)) := by
  cases e : (bodyK K a T k).off with
  | true => rw [bodyK, if_pos e, e] at h; cases h
  | false => exact ⟨rfl, by rw [bodyK, if_neg (by rw [e]; simp)]⟩
theorem body_now (K : Dk) (a : Nat) (T : List UInt8) (k : Nat) (h : (bodyK K a T k).off = false) (j : Nat) : (bodyK K a T k).now j = if a + 1 ≤ j ∧ j < a + 1 + k then pad64 (chunk T (j - a - 1)) else K.now j := by
  induction k with
  | zero => rw [if_neg (by omega)]; rfl
  | succ k ih =>
    obtain ⟨h1, h2⟩ := body_on K a T k h
    rw [h2] at h ⊢
    rw [write_now _ _ _ h, ih h1]
    by_cases e : j = a + 1 + k
    · rw [if_pos e, if_pos (by omega)]
      congr 2; omega
    · rw [if_neg e]
      by_cases e2 : a + 1 ≤ j ∧ j < a + 1 + k
      · rw [if_pos e2, if_pos (by omega)]
      · rw [if_neg e2, if_neg (by omega)]
theorem body_left (K : Dk) (a : Nat) (T : List UInt8) (k : Nat) (h : K.left < 0) (ho : K.off = false) : (bodyK K a T k).left = K.left ∧ (bodyK K a T k).off = false ∧ (bodyK K a T k).bytes = K.bytes := by
  induction k with
  | zero => exact ⟨rfl, ho, rfl⟩
  | succ k ih =>
    obtain ⟨h1, h2, h3⟩ := ih
    have hl : (bodyK K a T k).left < 0 := by omega
    rw [bodyK, if_neg (by rw [h2]; simp), write_off_eq, write_left _ _ _ hl, go_left _ hl, write_bytes]
    exact ⟨h1, h2, h3⟩
/-- what a commit that goes well makes of the blocks -/
theorem commit_now (K : Dk) (a N : Nat) (T : List UInt8) (h : (commitK K a N T).off = false) {j : Nat} (hj : j < K.sure.length) : (commitK K a N T).now j = if j = a then hdL N T else if a + 1 ≤ j ∧ j < a + 1 + chunksN T then pad64 (chunk T (j - a - 1)) else K.now j := by
  unfold commitK ifOn at h ⊢
  have hl := body_len K a T (chunksN T)
  cases e1 : (bodyK K a T (chunksN T)).off with
  | true => simp [e1] at h
  | false =>
    simp only [e1, Bool.false_eq_true, if_false] at h ⊢
    cases e2 : (bodyK K a T (chunksN T)).syncK.off with
    | true => simp [e2] at h
    | false =>
      simp only [e2, Bool.false_eq_true, if_false] at h ⊢
      cases e3 : ((bodyK K a T (chunksN T)).syncK.write a (hdL N T)).off with
      | true => simp [e3] at h
      | false =>
        simp only [e3, Bool.false_eq_true, if_false] at h ⊢
        rw [syncK_now _ (by rw [write_len, syncK_len, hl]; exact hj), write_now _ _ _ e3, syncK_now _ (by rw [hl]; exact hj), body_now _ _ _ _ e1]
theorem ifOn_len (K : Dk) (f : Dk → Dk) (h : ∀ K, (f K).sure.length = K.sure.length) : (ifOn K f).sure.length = K.sure.length := by
  unfold ifOn; split
  · rfl
  · exact h K
theorem commit_len (K : Dk) (a N : Nat) (T : List UInt8) : (commitK K a N T).sure.length = K.sure.length := by
  unfold commitK
  rw [ifOn_len _ _ syncK_len, ifOn_len _ _ (fun K => write_len K _ _), ifOn_len _ _ syncK_len, body_len]
theorem syncK_left (K : Dk) (h : K.left < 0) (ho : K.off = false) : K.syncK.left = K.left ∧ K.syncK.off = false ∧ K.syncK.bytes = K.bytes := by
  unfold Dk.syncK Dk.sync
  rw [go_left K h, ho]
  exact ⟨rfl, ho, rfl⟩
theorem commit_left (K : Dk) (a N : Nat) (T : List UInt8) (h : K.left < 0) (ho : K.off = false) : (commitK K a N T).left = K.left ∧ (commitK K a N T).off = false ∧ (commitK K a N T).bytes = K.bytes := by
  unfold commitK ifOn
  obtain ⟨a1, a2, a3⟩ := body_left K a T (chunksN T) h ho
  simp only [a2, Bool.false_eq_true, if_false]
  obtain ⟨b1, b2, b3⟩ := syncK_left _ (by omega) a2
  simp only [b2, Bool.false_eq_true, if_false]
  have hl : (bodyK K a T (chunksN T)).syncK.left < 0 := by omega
  have c1 := write_left (bodyK K a T (chunksN T)).syncK a (hdL N T) hl
  have c2 := write_off_eq (bodyK K a T (chunksN T)).syncK a (hdL N T)
  rw [go_left _ hl, b2] at c2
  have c3 := write_bytes (bodyK K a T (chunksN T)).syncK a (hdL N T)
  simp only [c2, Bool.false_eq_true, if_false]
  obtain ⟨d1, d2, d3⟩ := syncK_left _ (by omega) c2
  exact ⟨by omega, d2, by omega⟩
theorem commit_loose (K : Dk) (a N : Nat) (T : List UInt8) (h : (commitK K a N T).off = false) : (commitK K a N T).loose = fun _ => none := by
  unfold commitK at h ⊢
  generalize ifOn (ifOn (bodyK K a T (chunksN T)) Dk.syncK) (fun K => K.write a (hdL N T)) = X at h ⊢
  unfold ifOn at h ⊢
  cases e : X.off with
  | true => simp [e] at h
  | false =>
    simp only [e, Bool.false_eq_true, if_false] at h ⊢
    rw [syncK_off] at h
    unfold Dk.syncK
    rw [h]
    rfl
/-- the blocks of a text that lies on the disk -/
theorem chunks_take (K : Dk) (f : Nat) (T : List UInt8) (n : Nat) (hn : chunksN T ≤ n) (hl : ∀ i, i < n → (K.now (f + i)).length = 64) (h : ∀ i, i < chunksN T → K.now (f + i) = pad64 (chunk T i)) : (allL K f n).take T.length = T := by
  have hstep : ∀ k, k ≤ chunksN T → (allL K f k).take T.length = T.take (64 * k) := by
    intro k
    induction k with
    | zero => intro _; simp [allL]
    | succ k ih =>
      intro hk
      have hk2 : 64 * k < T.length := by unfold chunksN at hk; omega
      have hlk : (allL K f k).length = 64 * k := allL_len K f k (fun i hi => hl i (by omega))
      have ih := ih (by omega)
      rw [List.take_of_length_le (by omega)] at ih
      rw [allL_succ, h k (by omega), List.take_append, hlk, ih, List.take_of_length_le (by rw [List.length_take]; omega)]
      have e : T.take (64 * (k + 1)) = T.take (64 * k) ++ (T.drop (64 * k)).take 64 := by
        rw [show 64 * (k + 1) = 64 * k + 64 from by omega, List.take_add]
      rw [e]
      congr 1
      unfold pad64 chunk
      rcases Nat.le_total 64 (T.length - 64 * k) with hc | hc
      · have hcl : ((T.drop (64 * k)).take 64).length = 64 := by rw [List.length_take, List.length_drop]; omega
        rw [hcl, Nat.sub_self, List.replicate_zero, List.append_nil, List.take_of_length_le (by omega)]
      · have hcl : ((T.drop (64 * k)).take 64).length = T.length - 64 * k := by rw [List.length_take, List.length_drop]; omega
        exact List.take_left' hcl
  have hc := hstep (chunksN T) (Nat.le_refl _)
  rw [List.take_of_length_le (i := 64 * chunksN T) (by unfold chunksN; omega)] at hc
  have hall : ∀ m, allL K f (chunksN T + m) = allL K f (chunksN T) ++ allL K (f + chunksN T) m := by
    intro m
    induction m with
    | zero => simp [allL]
    | succ m ih => rw [← Nat.add_assoc, allL_succ, ih, allL_succ, List.append_assoc, Nat.add_assoc]
  obtain ⟨m, rfl⟩ := Nat.le.dest hn
  rw [hall, List.take_append_of_le_length (by rw [allL_len K f _ (fun i hi => hl i (by omega))]; unfold chunksN; omega)]
  exact hc
/-- a disk whose blocks have 64 bytes -/
def Full (K : Dk) : Prop := ∀ i, i < K.sure.length → (K.now i).length = 64
theorem commit_full (K : Dk) (a N : Nat) (T : List UInt8) (h : (commitK K a N T).off = false) (hf : Full K) : Full (commitK K a N T) := by
  intro i hi
  rw [commit_len] at hi
  rw [commit_now K a N T h hi]
  split
  · exact hdL_len _ _
  · split
    · exact pad64_len _ _
    · exact hf i hi
/-- a commit that goes well is found -/
theorem commit_ok (K : Dk) (first half N : Nat) (T0 T : List UInt8) (hr : RecOK K first half N T0) (hf : Full K) (hin : first + 2 * half ≤ K.sure.length) (hh : 2 ≤ half) (hT : T.length ≤ 64 * (half - 1)) (hTm : T.length < 9223372036854775808) (hN : N < 1152921504606846976)
    (h : (commitK K (first + (N + 1) % 2 * half) (N + 1) T).off = false) : RecOK (commitK K (first + (N + 1) % 2 * half) (N + 1) T) first half (N + 1) T := by
  have hfull := commit_full K (first + (N + 1) % 2 * half) (N + 1) T h hf
  have hlen := commit_len K (first + (N + 1) % 2 * half) (N + 1) T
  have hnow := fun j hj => commit_now K (first + (N + 1) % 2 * half) (N + 1) T h (j := j) hj
  generalize commitK K (first + (N + 1) % 2 * half) (N + 1) T = K' at h hfull hlen hnow ⊢
  have hch : chunksN T ≤ half - 1 := by unfold chunksN; omega
  have hat : first + (N + 1) % 2 * half + half ≤ K.sure.length := by
    rcases (by omega : (N + 1) % 2 = 0 ∨ (N + 1) % 2 = 1) with e | e
    · rw [e]; omega
    · rw [e]; omega
  refine .inr ⟨by omega, ?_, ?_⟩
  · unfold stK
    obtain ⟨m, hm⟩ : ∃ m, half = m + 1 := ⟨half - 1, by omega⟩
    have hat' := hat
    generalize first + (N + 1) % 2 * half = a at hnow hat ⊢
    rw [show allL K' a half = K'.now a ++ allL K' (a + 1) m from by rw [hm]; exact allL_cons K' a m]
    rw [hnow a (by omega), if_pos rfl]
    have htk : (allL K' (a + 1) m).take T.length = T := by
      refine chunks_take K' (a + 1) T m (by omega) (fun i hi => hfull _ (by omega)) (fun i hi => ?_)
      rw [hnow _ (by omega), if_neg (by omega), if_pos (by omega)]
      congr 2; omega
    exact stands_new (N + 1) T _ (by omega) (by omega) hTm (by rw [allL_len K' _ _ (fun i hi => hfull _ (by omega))]; omega) htk
  · intro m t hmt
    have hsame : stK K' first half ((N + 1 + 1) % 2) = stK K first half ((N + 1 + 1) % 2) := by
      unfold stK
      congr 1
      refine allL_congr (fun i hi => ?_)
      rcases (by omega : (N + 1) % 2 = 0 ∨ (N + 1) % 2 = 1) with e | e
      · rw [e] at hnow
        rw [show (N + 1 + 1) % 2 = 1 from by omega]
        rw [hnow _ (by omega), if_neg (by omega), if_neg (by omega)]
      · rw [e] at hnow
        rw [show (N + 1 + 1) % 2 = 0 from by omega]
        rw [hnow _ (by omega), if_neg (by omega), if_neg (by omega)]
    rw [hsame, show (N + 1 + 1) % 2 = N % 2 from by omega] at hmt
    rcases hr with ⟨rfl, rfl, h0, h1⟩ | ⟨h1, h2, h3⟩
    · rw [show 0 % 2 = 0 from rfl, h0] at hmt; cases hmt
    · rw [h2] at hmt
      cases hmt
      omega
end Go.Proofs.YtcndkkagnobpmaaDoor
