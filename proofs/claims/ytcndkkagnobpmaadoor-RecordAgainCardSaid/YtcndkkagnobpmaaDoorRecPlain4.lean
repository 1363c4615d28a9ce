/-
  What is found behind a crash within a commit.
-/
import Derived.Test.YtcndkkagnobpmaaDoorRecPlain3
namespace Go.Proofs.YtcndkkagnobpmaaDoor
open Go.RowKit
set_option linter.unusedVariables false

theorem DiskAt.full {w : World} {d s M n : Nat} {K : Dk} (h : DiskAt w d s M n K) : Full K := by
  intro i hi
  obtain ⟨cs, _, hr, _⟩ := h.row
  obtain ⟨f, _, _, hf⟩ := h.map
  unfold Dk.now
  cases hl : K.loose i with
  | none =>
    obtain ⟨v, _, A, c, _, _, _, _, h5⟩ := hr i hi
    exact h5
  | some b =>
    obtain ⟨v, _, A, c, _, _, _, _, h5⟩ := hf i b hl
    exact h5
theorem InvR.zbound {K : Dk} {first half N : Nat} {T : List UInt8} (h : InvR K first half N T) : ZK K first half ((N + 1) % 2) ≤ N := by
  rcases h with ⟨rfl, _, _, h1⟩ | ⟨_, _, h3⟩
  · show ZK K first half 1 ≤ 0
    omega
  · omega
/-- the number at the end of the half that is not written next -/
theorem InvR.zother {K : Dk} {first half N : Nat} {T : List UInt8} (h : InvR K first half N T) (hf : Full K) (hin : first + 2 * half ≤ K.sure.length) (hh : 2 ≤ half) : ZK K first half (N % 2) = N := by
  rcases h with ⟨rfl, _, h0, _⟩ | ⟨h1, h2, _⟩
  · exact h0
  · exact (st_end (by omega) (hf _ (by have := half_in (g := N % 2) (by omega) hin hh; omega)) h2).1
theorem half_apart {first half g g' i : Nat} (hg : g < 2) (hg' : g' < 2) (hne : g ≠ g') (hi : i < half) : ¬ (first + g * half ≤ first + g' * half + i ∧ first + g' * half + i < first + g * half + half) := by
  rcases (by omega : (g = 0 ∧ g' = 1) ∨ (g = 1 ∧ g' = 0)) with ⟨rfl, rfl⟩ | ⟨rfl, rfl⟩ <;> omega
/-- the new text is found -/
theorem inv_new {K K2 : Dk} {first half N : Nat} {T0 T : List UInt8} (h : DG K first half N T0) (hlen : K2.sure.length = K.sure.length) (hf2 : Full K2) (hT : T.length ≤ 64 * (half - 1)) (hTm : T.length < 9223372036854775808) (hN : N < 255)
    (hnow : ∀ j, j < K.sure.length → K2.now j = if j = first + (N + 1) % 2 * half then hdL (N + 1) T else if first + (N + 1) % 2 * half + 1 ≤ j ∧ j < first + (N + 1) % 2 * half + 1 + chunksN T then pad64 (chunk T (j - (first + (N + 1) % 2 * half) - 1)) else K.now j) :
    InvR K2 first half (N + 1) T := by
  have hat := half_in (g := (N + 1) % 2) (by omega) h.inn h.two
  have htwo := h.two
  have hch : chunksN T ≤ half - 1 := by unfold chunksN; omega
  refine .inr ⟨by omega, ?_, ?_⟩
  · unfold stK
    obtain ⟨m, hm⟩ : ∃ m, half = m + 1 := ⟨half - 1, by omega⟩
    generalize first + (N + 1) % 2 * half = a at hnow hat ⊢
    rw [show allL K2 a half = K2.now a ++ allL K2 (a + 1) m from by rw [hm]; exact allL_cons K2 a m]
    rw [hnow a (by omega), if_pos rfl]
    have htk : (allL K2 (a + 1) m).take T.length = T := by
      refine chunks_take K2 (a + 1) T m (by omega) (fun i hi => hf2 _ (by omega)) (fun i hi => ?_)
      rw [hnow _ (by omega), if_neg (by omega), if_pos (by omega)]
      congr 2; omega
    exact stands_new (N + 1) T _ (by omega) (by omega) hTm (by rw [allL_len K2 _ _ (fun i hi => hf2 _ (by omega))]; omega) htk
  · right
    have hz := h.inv.zother h.full h.inn h.two
    have hap := half_apart (first := first) (half := half) (g := (N + 1) % 2) (g' := N % 2) (i := 0) (by omega) (by omega) (by omega) (by omega)
    have hat2 := half_in (g := N % 2) (by omega) h.inn h.two
    have : ZK K2 first half ((N + 1 + 1) % 2) = ZK K first half (N % 2) := by
      rw [show (N + 1 + 1) % 2 = N % 2 from by omega]
      unfold ZK
      rw [hnow _ (by omega), if_neg (by omega), if_neg (by omega)]
    rw [this, hz]
    omega
/-- the old text is found -/
theorem inv_old {K K2 : Dk} {first half N : Nat} {T0 T : List UInt8} (h : DG K first half N T0) (hT : T.length ≤ 64 * (half - 1))
    (hsame : ∀ j, j < K.sure.length → ¬ (first + (N + 1) % 2 * half ≤ j ∧ j < first + (N + 1) % 2 * half + half) → K2.now j = K.now j) (hz : ZK K2 first half ((N + 1) % 2) = ZK K first half ((N + 1) % 2)) :
    InvR K2 first half N T0 := by
  have htwo := h.two
  have hat2 := half_in (g := N % 2) (by omega) h.inn h.two
  have hap := fun i hi => half_apart (first := first) (half := half) (g := (N + 1) % 2) (g' := N % 2) (i := i) (by omega) (by omega) (by omega) hi
  have hz2 : ZK K2 first half (N % 2) = ZK K first half (N % 2) := by
    unfold ZK
    rw [hsame _ (by omega) (by have := hap 0 (by omega); simpa using this)]
  rcases h.inv with ⟨rfl, rfl, h0, h1⟩ | ⟨h1, h2, h3⟩
  · exact .inl ⟨rfl, rfl, by rw [show (0 : Nat) = 0 % 2 from rfl, hz2]; exact h0, by rw [show (1 : Nat) = (0 + 1) % 2 from rfl, hz]; exact h1⟩
  · refine .inr ⟨h1, ?_, by rw [hz]; exact h3⟩
    rw [← h2]
    unfold stK
    congr 1
    exact allL_congr (fun i hi => hsame _ (by omega) (hap i hi))
theorem crashed_now (K : Dk) (sure : List (List UInt8)) (i : Nat) : (K.crashed sure).now i = sure.getD i [] := rfl
/-- behind a crash within a commit: the old text, or the new one -/
theorem crash_torn {K : Dk} {first half N : Nat} {T0 T : List UInt8} (h : DG K first half N T0) (hb : K.bytes ≤ 64) (hT : T.length ≤ 64 * (half - 1)) (hTm : T.length < 9223372036854775808) (hN : N < 255) (sure : List (List UInt8))
    (hlen : sure.length = (commitK K (first + (N + 1) % 2 * half) (N + 1) T).sure.length) (htook : ∀ i, i < (commitK K (first + (N + 1) % 2 * half) (N + 1) T).sure.length → Took (commitK K (first + (N + 1) % 2 * half) (N + 1) T) i (sure.getD i []))
    (hf2 : Full ((commitK K (first + (N + 1) % 2 * half) (N + 1) T).crashed sure)) :
    ((commitK K (first + (N + 1) % 2 * half) (N + 1) T).off = false → DG ((commitK K (first + (N + 1) % 2 * half) (N + 1) T).crashed sure) first half (N + 1) T) ∧
    ((commitK K (first + (N + 1) % 2 * half) (N + 1) T).off = true → DG ((commitK K (first + (N + 1) % 2 * half) (N + 1) T).crashed sure) first half N T0 ∨ DG ((commitK K (first + (N + 1) % 2 * half) (N + 1) T).crashed sure) first half (N + 1) T) := by
  have htwo := h.two
  have hch : chunksN T ≤ half - 1 := by unfold chunksN; omega
  have hclen := commit_len K (first + (N + 1) % 2 * half) (N + 1) T
  have hat := half_in (g := (N + 1) % 2) (by omega) h.inn h.two
  have hnew : InvR ((commitK K (first + (N + 1) % 2 * half) (N + 1) T).crashed sure) first half (N + 1) T → DG ((commitK K (first + (N + 1) % 2 * half) (N + 1) T).crashed sure) first half (N + 1) T := fun hi =>
    ⟨rfl, fun _ => rfl, hf2, hi, by show first + 2 * half ≤ sure.length; rw [hlen, hclen]; exact h.inn, h.two⟩
  have hold : InvR ((commitK K (first + (N + 1) % 2 * half) (N + 1) T).crashed sure) first half N T0 → DG ((commitK K (first + (N + 1) % 2 * half) (N + 1) T).crashed sure) first half N T0 := fun hi =>
    ⟨rfl, fun _ => rfl, hf2, hi, by show first + 2 * half ≤ sure.length; rw [hlen, hclen]; exact h.inn, h.two⟩
  have hKn : ∀ j, K.now j = K.sure.getD j [] := fun j => by unfold Dk.now; rw [h.loo]; rfl
  constructor
  · intro hoff
    refine hnew (inv_new h (by show sure.length = _; rw [hlen, hclen]) hf2 hT hTm hN (fun j hj => ?_))
    have hl := commit_loose K _ _ T hoff
    have hc := commit_now K _ (N + 1) T hoff hj
    rw [← hc, crashed_now]
    unfold Dk.now
    rw [hl]
    rcases htook j (by rw [hclen]; exact hj) with e | ⟨l, n, e, _⟩
    · exact e
    · rw [hl] at e; cases e
  · intro hoff
    have h64 : (K.now (first + (N + 1) % 2 * half)).length = 64 := h.full _ (by omega)
    rcases commit_torn K _ (N + 1) T h.loo hb (by omega) h64 hoff with ⟨t1, t2⟩ | ⟨t1, t2, t3, b, t4, t5⟩
    · left
      have hs : ∀ j, j < K.sure.length → ¬ (first + (N + 1) % 2 * half + 1 ≤ j ∧ j < first + (N + 1) % 2 * half + 1 + chunksN T) → ((commitK K (first + (N + 1) % 2 * half) (N + 1) T).crashed sure).now j = K.now j := fun j hj hn => by
        rw [crashed_now, hKn, ← t1]
        rcases htook j (by rw [hclen]; exact hj) with e | ⟨l, n, e, _⟩
        · exact e
        · exact absurd (t2 j (by rw [e]; simp)) hn
      refine hold (inv_old (T := T) h hT (fun j hj hn => hs j hj (by omega)) ?_)
      unfold ZK
      rw [hs _ (by omega) (by omega)]
    · have hs : ∀ j, j < K.sure.length → j ≠ first + (N + 1) % 2 * half → ((commitK K (first + (N + 1) % 2 * half) (N + 1) T).crashed sure).now j = if first + (N + 1) % 2 * half + 1 ≤ j ∧ j < first + (N + 1) % 2 * half + 1 + chunksN T then pad64 (chunk T (j - (first + (N + 1) % 2 * half) - 1)) else K.now j := fun j hj hn => by
        rw [crashed_now, ← t2 j hj]
        rcases htook j (by rw [hclen]; exact hj) with e | ⟨l, n, e, _⟩
        · exact e
        · rw [t3 j hn] at e; cases e
      have hda : ∃ q, q ≤ 64 ∧ ((commitK K (first + (N + 1) % 2 * half) (N + 1) T).crashed sure).now (first + (N + 1) % 2 * half) = (hdL (N + 1) T).take q ++ (K.now (first + (N + 1) % 2 * half)).drop q := by
        rw [crashed_now]
        have ho : (commitK K (first + (N + 1) % 2 * half) (N + 1) T).sure.getD (first + (N + 1) % 2 * half) [] = K.now (first + (N + 1) % 2 * half) := by rw [t2 _ (by omega), if_neg (by omega)]
        rcases htook (first + (N + 1) % 2 * half) (by rw [hclen]; omega) with e | ⟨l, n, e, hn, e2⟩
        · exact ⟨0, by omega, by rw [e, ho]; simp⟩
        · rw [t5] at e
          cases e
          rw [e2, ho]
          exact torn_twice _ _ b n (hdL_len _ _) h64 t4 hn
      obtain ⟨q, hq, hda⟩ := hda
      rcases (by omega : q = 64 ∨ q < 64) with rfl | hlt
      · right
        refine hnew (inv_new h (by show sure.length = _; rw [hlen, hclen]) hf2 hT hTm hN (fun j hj => ?_))
        by_cases e : j = first + (N + 1) % 2 * half
        · rw [if_pos e, e, hda, List.take_of_length_le (by rw [hdL_len]; exact Nat.le_refl _), List.drop_eq_nil_of_le (by omega), List.append_nil]
        · rw [if_neg e]
          exact hs j hj e
      · left
        refine hold (inv_old (T := T) h hT (fun j hj hn => ?_) ?_)
        · rw [hs j hj (by omega), if_neg (by omega)]
        · have hzb := h.inv.zbound
          unfold ZK at hzb ⊢
          rw [hda]
          exact endN_torn (N + 1) T _ q hlt (by omega) h64 (by omega)
end Go.Proofs.YtcndkkagnobpmaaDoor
