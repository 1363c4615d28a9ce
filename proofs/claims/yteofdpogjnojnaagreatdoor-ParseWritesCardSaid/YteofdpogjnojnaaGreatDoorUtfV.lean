/-
  The plain law of validity: two valid texts together; a valid text cut within.
-/
import Derived.Test.YteofdpogjnojnaaGreatDoorUtfN
namespace Go.Proofs.YteofdpogjnojnaaGreatDoor
open Go.RowKit Utf
set_option linter.unusedVariables false

theorem valid_app : ∀ (n : Nat) (a b : List UInt8), a.length ≤ n → Lib.validD a = true → Lib.validD (a ++ b) = Lib.validD b
  | 0, a, b, h, _ => by
    have : a = [] := List.eq_nil_of_length_eq_zero (by omega)
    subst this; rfl
  | n + 1, a, b, h, hv => by
    by_cases ha : a = []
    · subst ha; rfl
    · rw [valid_step a ha] at hv
      obtain ⟨c, hc⟩ : ∃ c, c = (nxt a).1 := ⟨_, rfl⟩
      obtain ⟨k, hk⟩ : ∃ k, k = (nxt a).2 := ⟨_, rfl⟩
      rw [← hk] at hv
      by_cases h0 : k = 0
      · rw [if_pos h0] at hv; cases hv
      · rw [if_neg h0] at hv
        obtain ⟨hm, hkl, he⟩ := nxt_is (l := a) (c := c) (n := k) (by rw [hc, hk]) h0
        have hn : nxt (a ++ b) = (c, k) := (nxt_enc hm (by rw [List.length_append]; omega) (by rw [he, List.take_append_of_le_length hkl])).1
        rw [valid_step (a ++ b) (by simp [ha]), hn]
        simp only [if_neg h0]
        rw [List.drop_append_of_le_length hkl]
        exact valid_app n (a.drop k) b (by rw [List.length_drop]; omega) hv
theorem valid_one {c : Int} (hm : mayU c = true) : Lib.validD (encU c) = true := by
  have hn : nxt (encU c) = (c, (encU c).length) := (nxt_enc (l := encU c) hm (Nat.le_refl _) (by rw [List.take_length])).1
  have h1 := (nxt_enc (l := encU c) hm (Nat.le_refl _) (by rw [List.take_length])).2.2.1
  rw [valid_step _ (by intro e; rw [e] at h1; simp at h1), hn]
  simp only
  rw [if_neg (by omega), List.drop_length]
  rfl
/-- the bytes of a character: the first one, the others -/
theorem enc_bytes {c : Int} (hm : mayU c = true) (i : Nat) (h : i < (encU c).length) : (i = 0 → (encU c)[i].toNat < 128 ∨ 192 ≤ (encU c)[i].toNat) ∧ (i ≠ 0 → 128 ≤ (encU c)[i].toNat ∧ (encU c)[i].toNat < 192) := by
  have hmm := may_iff.1 hm
  rcases (by omega : (0 ≤ c ∧ c ≤ 127) ∨ (128 ≤ c ∧ c ≤ 2047) ∨ (((2048 ≤ c ∧ c < 55296) ∨ (57343 < c ∧ c ≤ 65535)) ∧ (2048 ≤ c ∧ c ≤ 65535)) ∨ (65536 ≤ c ∧ c ≤ 1114111)) with k | k | ⟨k, k'⟩ | k
  · have e := enc_one k.1 k.2
    have t1 := toNat_toUInt8 (x := c) (by omega) (by omega)
    simp only [e] at h ⊢
    match i, h with
    | 0, _ => simp only [List.getElem_cons_zero]; omega
  · have e := enc_two k.1 k.2
    have t1 := toNat_toUInt8 (x := 192 + c / 64) (by omega) (by omega)
    have t2 := toNat_toUInt8 (x := 128 + c % 64) (by omega) (by omega)
    simp only [e] at h ⊢
    match i, h with
    | 0, _ => simp only [List.getElem_cons_zero]; omega
    | 1, _ => simp only [List.getElem_cons_zero, List.getElem_cons_succ]; omega
  · have e := enc_three k
    have t1 := toNat_toUInt8 (x := 224 + c / 4096) (by omega) (by omega)
    have t2 := toNat_toUInt8 (x := 128 + c / 64 % 64) (by omega) (by omega)
    have t3 := toNat_toUInt8 (x := 128 + c % 64) (by omega) (by omega)
    simp only [e] at h ⊢
    match i, h with
    | 0, _ => simp only [List.getElem_cons_zero]; omega
    | 1, _ => simp only [List.getElem_cons_zero, List.getElem_cons_succ]; omega
    | 2, _ => simp only [List.getElem_cons_zero, List.getElem_cons_succ]; omega
  · have e := enc_four k.1 k.2
    have t1 := toNat_toUInt8 (x := 240 + c / 262144) (by omega) (by omega)
    have t2 := toNat_toUInt8 (x := 128 + c / 4096 % 64) (by omega) (by omega)
    have t3 := toNat_toUInt8 (x := 128 + c / 64 % 64) (by omega) (by omega)
    have t4 := toNat_toUInt8 (x := 128 + c % 64) (by omega) (by omega)
    simp only [e] at h ⊢
    match i, h with
    | 0, _ => simp only [List.getElem_cons_zero]; omega
    | 1, _ => simp only [List.getElem_cons_zero, List.getElem_cons_succ]; omega
    | 2, _ => simp only [List.getElem_cons_zero, List.getElem_cons_succ]; omega
    | 3, _ => simp only [List.getElem_cons_zero, List.getElem_cons_succ]; omega
theorem valid_cut : ∀ (n : Nat) (a : List UInt8) (i : Nat) (hi : i < a.length), a.length ≤ n → Lib.validD a = true → (Lib.validD (a.take i) = true ↔ (a[i].toNat < 128 ∨ 192 ≤ a[i].toNat))
  | 0, a, i, hi, h, _ => by omega
  | n + 1, a, i, hi, h, hv => by
    have ha : a ≠ [] := by intro e; rw [e] at hi; simp at hi
    rw [valid_step a ha] at hv
    obtain ⟨c, hc⟩ : ∃ c, c = (nxt a).1 := ⟨_, rfl⟩
    obtain ⟨k, hk⟩ : ∃ k, k = (nxt a).2 := ⟨_, rfl⟩
    rw [← hk] at hv
    by_cases h0 : k = 0
    · rw [if_pos h0] at hv; cases hv
    · rw [if_neg h0] at hv
      have hna : nxt a = (c, k) := by rw [hc, hk]
      obtain ⟨hm, hkl, he⟩ := nxt_is hna h0
      have hel : (encU c).length = k := by rw [he, List.length_take]; omega
      rcases Nat.lt_or_ge i k with hik | hik
      · have hget : (encU c)[i]'(by omega) = a[i] := by simp [he]
        have hb := enc_bytes hm i (by omega)
        rw [hget] at hb
        rcases Nat.eq_zero_or_pos i with hi0 | hi0
        · subst hi0
          exact ⟨fun _ => hb.1 rfl, fun _ => rfl⟩
        · have hf : Lib.validD (a.take i) = false := by
            rw [valid_step _ (by intro e; have := congrArg List.length e; rw [List.length_take, List.length_nil] at this; omega)]
            obtain ⟨m, hm2⟩ : ∃ m, m = (nxt (a.take i)).2 := ⟨_, rfl⟩
            rw [← hm2]
            by_cases hm0 : m = 0
            · rw [if_pos hm0]
            · exfalso
              obtain ⟨g1, g2, g3⟩ := nxt_is (l := a.take i) (c := (nxt (a.take i)).1) (n := m) (by rw [hm2]) hm0
              rw [List.length_take] at g2
              rw [List.take_take, Nat.min_eq_left (by omega)] at g3
              have := (nxt_enc g1 (by omega) g3).1
              rw [hna] at this
              have := congrArg Prod.snd this
              simp only at this
              omega
          have := hb.2 (by omega)
          rw [hf]
          exact ⟨fun h => (by cases h), fun h => (by omega)⟩
      · have hsp : a.take i = encU c ++ (a.drop k).take (i - k) := by
          rw [he]
          conv => lhs; rw [show i = k + (i - k) from by omega, List.take_add]
        rw [hsp, valid_app _ _ _ (Nat.le_refl _) (valid_one hm)]
        have := valid_cut n (a.drop k) (i - k) (by rw [List.length_drop]; omega) (by rw [List.length_drop]; omega) hv
        rw [this]
        have hg : (a.drop k)[i - k]'(by rw [List.length_drop]; omega) = a[i] := by rw [List.getElem_drop]; congr 1; omega
        rw [hg]
end Go.Proofs.YteofdpogjnojnaaGreatDoor
