/-
  Texts cut at each byte c: the plain law (no program in sight).
-/
import Derived.Lib.SplitLaws
namespace Go.Proofs.YtcndkkagnobpmaaDoor.Glob

/-- a text cut at each c -/
def cutS (c : UInt8) : List UInt8 → List (List UInt8)
  | [] => [[]]
  | b :: l => if b = c then [] :: cutS c l else (b :: (cutS c l).headD []) :: (cutS c l).tail

theorem cutS_ne (c : UInt8) (l : List UInt8) : cutS c l ≠ [] := by
  cases l with
  | nil => simp [cutS]
  | cons b l => unfold cutS; split <;> simp
theorem cutS_miss (c : UInt8) : ∀ (l : List UInt8), c ∉ l → cutS c l = [l]
  | [], _ => rfl
  | b :: l, h => by
    have h1 : b ≠ c := fun e => h (by rw [e]; exact .head _)
    have h2 : c ∉ l := fun e => h (.tail _ e)
    unfold cutS
    rw [if_neg h1, cutS_miss c l h2]
    rfl
theorem cutS_hit (c : UInt8) (l : List UInt8) : ∀ (a : List UInt8), c ∉ a → cutS c (a ++ c :: l) = a :: cutS c l
  | [], _ => by show cutS c (c :: l) = _; rw [cutS, if_pos rfl]
  | b :: a, h => by
    have h1 : b ≠ c := fun e => h (by rw [e]; exact .head _)
    have h2 : c ∉ a := fun e => h (.tail _ e)
    show cutS c (b :: (a ++ c :: l)) = _
    rw [cutS, if_neg h1, cutS_hit c l a h2]
    rfl
theorem index_one_eq (c : UInt8) (l : List UInt8) : Lib.index (c :: l) [c] = 0 := by
  unfold Lib.index
  rw [if_pos (by simp [List.isPrefixOf])]
theorem index_one_ne (b c : UInt8) (l : List UInt8) (h : b ≠ c) : Lib.index (b :: l) [c] = if Lib.index l [c] == -1 then -1 else Lib.index l [c] + 1 := by
  conv => lhs; unfold Lib.index
  have : (c == b) = false := beq_eq_false_iff_ne.2 (Ne.symm h)
  rw [if_neg (by simp [List.isPrefixOf, this])]
theorem splitK_cutS (c : UInt8) : ∀ (l : List UInt8), Lib.splitK [c] 0 (Lib.count l [c]) l = cutS c l
  | [] => by
    have : Lib.count [] [c] = 0 := Lib.count_miss (by simp [Lib.index])
    rw [this]; rfl
  | b :: l => by
    have ih := splitK_cutS c l
    by_cases hb : b = c
    · subst hb
      rw [Lib.count_cons_eq, Nat.add_comm, Lib.splitK, index_one_eq, if_neg (by decide)]
      show _ :: Lib.splitK [b] 0 (Lib.count l [b]) l = _
      rw [ih, cutS, if_pos rfl]
      rfl
    · rw [Lib.count_cons_ne _ _ _ hb, cutS, if_neg hb, ← ih]
      cases hk : Lib.count l [c] with
      | zero => rfl
      | succ k =>
        have hi : ¬ (Lib.index l [c] == -1) = true := fun e => by
          have := Lib.count_miss (beq_iff_eq.1 e); omega
        have hge := Lib.index_ge l [c]
        have h0 : 0 ≤ Lib.index l [c] := by
          have : Lib.index l [c] ≠ -1 := fun e => hi (beq_iff_eq.2 e)
          omega
        obtain ⟨i, hii⟩ : ∃ i : Nat, Lib.index l [c] = i := ⟨_, (Int.toNat_of_nonneg h0).symm⟩
        have hj : Lib.index (b :: l) [c] = ((i + 1 : Nat) : Int) := by rw [index_one_ne _ _ _ hb, if_neg hi, hii]; omega
        rw [Lib.splitK, Lib.splitK, if_neg hi, hj, hii, if_neg (by rw [beq_iff_eq]; omega)]
        rfl
/-- what strings.Split hands back at a single byte -/
theorem splitB_cutS (c : UInt8) (s : ByteArray) : (Lib.splitB ⟨#[c]⟩ 0 (Lib.countB s ⟨#[c]⟩) s).map (·.data.toList) = cutS c s.data.toList := by
  rw [Lib.splitB_data]
  exact splitK_cutS c s.data.toList
theorem countB_cutS (c : UInt8) (s : ByteArray) : Lib.countB s ⟨#[c]⟩ + 1 = (cutS c s.data.toList).length := by
  rw [← splitB_cutS, List.length_map]
  exact (Lib.splitB_all ⟨#[c]⟩ (Nat.le_refl 1) 0 _ s rfl).symm
/-- the pieces hold no c, and joined they are the text -/
theorem cutS_none (c : UInt8) : ∀ (l p : List UInt8), p ∈ cutS c l → c ∉ p
  | [], p, h => by simp [cutS] at h; subst h; simp
  | b :: l, p, h => by
    unfold cutS at h
    split at h
    · rcases List.mem_cons.1 h with rfl | h
      · simp
      · exact cutS_none c l p h
    · rename_i hb
      have ⟨q, qs, hq⟩ := List.exists_cons_of_ne_nil (cutS_ne c l)
      rw [hq] at h
      rcases List.mem_cons.1 h with rfl | h
      · intro e
        rcases List.mem_cons.1 e with e | e
        · exact hb e.symm
        · exact cutS_none c l q (by rw [hq]; exact .head _) e
      · exact cutS_none c l p (by rw [hq]; exact .tail _ h)
theorem cutS_inj (c : UInt8) : ∀ (a b : List UInt8), cutS c a = cutS c b → a = b
  | [], [], _ => rfl
  | [], y :: b, h => by
    unfold cutS at h
    split at h
    · have hne := cutS_ne c b; simp only [List.cons.injEq, true_and] at h; exact absurd h.symm hne
    · simp at h
  | x :: a, [], h => by
    unfold cutS at h
    split at h
    · have hne := cutS_ne c a; simp only [List.cons.injEq, true_and] at h; exact absurd h hne
    · simp at h
  | x :: a, y :: b, h => by
    have ⟨p, ps, hp⟩ := List.exists_cons_of_ne_nil (cutS_ne c a)
    have ⟨q, qs, hq⟩ := List.exists_cons_of_ne_nil (cutS_ne c b)
    have ih := cutS_inj c a b
    rw [hp, hq] at ih
    unfold cutS at h
    by_cases hx : x = c <;> by_cases hy : y = c
    · rw [if_pos hx, if_pos hy] at h
      simp only [List.cons.injEq, true_and] at h
      rw [hx, hy, cutS_inj c a b h]
    · rw [if_pos hx, if_neg hy] at h; simp at h
    · rw [if_neg hx, if_pos hy] at h; simp at h
    · rw [if_neg hx, if_neg hy, hp, hq] at h
      simp only [List.headD_cons, List.tail_cons, List.cons.injEq] at h
      rw [h.1.1, ih (by rw [h.1.2, h.2])]
end Go.Proofs.YtcndkkagnobpmaaDoor.Glob
