/-
  A path as a pattern; a star or a question mark in the place of a part: the plain law.
-/
import Derived.Test.YtodkjhbnodcbhaaDoorGlobW7
import Derived.Test.YtodkjhbnodcbhaaDoorGlobNfa
namespace Go.Proofs.YtodkjhbnodcbhaaDoor.Glob
open Go
set_option linter.unusedVariables false

theorem cut_join (c : UInt8) : ∀ (x y : List UInt8) (pre : List (List UInt8)) (a b : List UInt8) (post : List (List UInt8)), cutS c x = pre ++ [a] → cutS c y = b :: post → cutS c (x ++ y) = pre ++ (a ++ b) :: post
  | [], y, pre, a, b, post, h1, h2 => by
    have : pre = [] ∧ a = [] := by
      cases pre with
      | nil => simp [cutS] at h1; exact ⟨rfl, h1⟩
      | cons z pre => simp [cutS] at h1
    rw [this.1, this.2]; exact h2
  | z :: x, y, pre, a, b, post, h1, h2 => by
    show cutS c (z :: (x ++ y)) = _
    unfold cutS at h1 ⊢
    by_cases hz : z = c
    · rw [if_pos hz] at h1 ⊢
      cases pre with
      | nil => simp at h1; exact absurd h1.2 (cutS_ne c x)
      | cons q pre =>
        simp only [List.cons_append, List.cons.injEq] at h1
        rw [cut_join c x y pre a b post h1.2 h2, ← h1.1]; rfl
    · rw [if_neg hz] at h1 ⊢
      have ⟨q, qs, hq⟩ := List.exists_cons_of_ne_nil (cutS_ne c x)
      rw [hq] at h1
      simp only [List.headD_cons, List.tail_cons] at h1
      cases pre with
      | nil =>
        simp only [List.nil_append, List.cons.injEq] at h1
        rw [cut_join c x y [] q b post (by rw [hq, h1.2]; rfl) h2]
        simp only [List.nil_append, List.headD_cons, List.tail_cons]
        rw [← h1.1]; rfl
      | cons p pre =>
        simp only [List.cons_append, List.cons.injEq] at h1
        rw [cut_join c x y (q :: pre) a b post (by rw [hq, h1.2]; rfl) h2]
        simp only [List.cons_append, List.headD_cons, List.tail_cons]
        rw [← h1.1]
theorem cut_last (c : UInt8) (l : List UInt8) : ∃ pre a, cutS c l = pre ++ [a] := ⟨_, _, (List.dropLast_concat_getLast (cutS_ne c l)).symm⟩
theorem cut_first (c : UInt8) (l : List UInt8) : ∃ b post, cutS c l = b :: post := List.exists_cons_of_ne_nil (cutS_ne c l)
theorem cutS_sub (c : UInt8) : ∀ (l p : List UInt8) (x : UInt8), p ∈ cutS c l → x ∈ p → x ∈ l
  | [], p, x, h, hx => by simp [cutS] at h; rw [h] at hx; exact hx
  | z :: l, p, x, h, hx => by
    unfold cutS at h
    split at h
    · rcases List.mem_cons.1 h with rfl | h
      · simp at hx
      · exact .tail _ (cutS_sub c l p x h hx)
    · have ⟨q, qs, hq⟩ := List.exists_cons_of_ne_nil (cutS_ne c l)
      rw [hq] at h
      rcases List.mem_cons.1 h with rfl | h
      · rcases List.mem_cons.1 hx with rfl | hx
        · exact .head _
        · exact .tail _ (cutS_sub c l q x (by rw [hq]; exact .head _) hx)
      · exact .tail _ (cutS_sub c l p x (by rw [hq]; exact .tail _ h) hx)
/-- neither star nor question mark -/
def Bare (l : List UInt8) : Prop := ∀ x ∈ l, x ≠ 42 ∧ x ≠ 63
theorem head_bare : ∀ (a b : List UInt8), Bare a → (headL a b = some [] ↔ a = b)
  | [], b, _ => by simp [headL, eq_comm]
  | x :: a, [], _ => by simp [headL]
  | x :: a, y :: b, h => by
    have hx := h x (.head _)
    have ih := head_bare a b (fun z hz => h z (.tail _ hz))
    unfold headL
    have h63 : (x == 63) = false := beq_eq_false_iff_ne.2 hx.2
    rw [h63, Bool.false_or]
    by_cases e : x = y
    · subst e; simp [ih]
    · simp [e]
theorem one_bare (a b : List UInt8) (h : Bare a) : oneL a b = decide (a = b) := by
  have h42 : (42 : UInt8) ∉ a := fun e => (h 42 e).1 rfl
  unfold oneL
  rw [cutS_miss 42 a h42]
  show (headL a b == some []) = _
  rw [Bool.eq_iff_iff, beq_iff_eq, decide_eq_true_iff, head_bare a b h]
theorem path_bytes (s : List UInt8) (h : pathL s = true) : s.all (okW false) = true ∧ s.length ≤ 128 ∧ s ≠ [] ∧ segsL s = true := by
  rw [← may_path] at h
  unfold mayL at h
  simp only [Bool.and_eq_true, Bool.not_eq_true', decide_eq_true_eq] at h
  exact ⟨h.2.2.1, h.2.1, by intro e; rw [e] at h; simp at h, h.2.2.2⟩
theorem ok_bare (c : UInt8) (h : okW false c = true) : c ≠ 42 ∧ c ≠ 63 := by
  have h2 := (okW_yes false c h).2.2.2.2.2.2.2 rfl
  exact ⟨fun e => h2.1 (by rw [e]; rfl), fun e => h2.2 (by rw [e]; rfl)⟩
theorem path_bare (s : List UInt8) (h : pathL s = true) : Bare s := fun x hx => ok_bare x (List.all_eq_true.1 (path_bytes s h).1 x hx)
theorem bare_segs (s : List UInt8) (h : Bare s) : ∀ p ∈ cutS 47 s, Bare p := fun p hp x hx => h x (cutS_sub 47 s p x hp hx)
theorem all_bare : ∀ (l m : List (List UInt8)), (∀ p ∈ l, Bare p) → allL oneL l m = decide (l = m)
  | [], [], _ => rfl
  | [], _ :: _, _ => rfl
  | _ :: _, [], _ => rfl
  | a :: l, b :: m, h => by
    show (oneL a b && allL oneL l m) = _
    rw [one_bare a b (h a (.head _)), all_bare l m (fun p hp => h p (.tail _ hp)), Bool.eq_iff_iff]
    simp
theorem match_path (s t : List UInt8) (h1 : pathL s = true) (h2 : pathL t = true) : matchL s t = decide (s = t) := by
  unfold matchL
  rw [path_pat s h1, h2, all_bare _ _ (bare_segs s (path_bare s h1))]
  rw [Bool.eq_iff_iff]
  simp only [Bool.true_and, decide_eq_true_iff]
  exact ⟨cutS_inj 47 s t, fun e => by rw [e]⟩
theorem all_app (p : List UInt8 → List UInt8 → Bool) : ∀ (l l' m m' : List (List UInt8)), l.length = m.length → allL p (l ++ l') (m ++ m') = (allL p l m && allL p l' m')
  | [], l', [], m', _ => rfl
  | [], _, _ :: _, _, h => by simp at h
  | _ :: _, _, [], _, h => by simp at h
  | a :: l, l', b :: m, m', h => by
    show (p a b && allL p (l ++ l') (m ++ m')) = ((p a b && allL p l m) && allL p l' m')
    rw [all_app p l l' m m' (by simpa using h), Bool.and_assoc]
theorem mt_self (a : List UInt8) (h : Bare a) : mt a a = true := by rw [← one_mt, one_bare a a h]; simp
/-- a sign in the place of a part -/
theorem wider_match (x m q y : List UInt8) (hs : pathL (x ++ (m ++ y)) = true) (hm : (47 : UInt8) ∉ m) (hq : (47 : UInt8) ∉ q) (hqm : mt q m = true) (hqb : ∀ c ∈ q, okW true c = true) (hqn : ∃ c ∈ q, c = 42 ∨ c = 63)
    (hlen : (x ++ (q ++ y)).length ≤ 128) : matchL (x ++ (q ++ y)) (x ++ (m ++ y)) = true := by
  have hb := path_bytes _ hs
  have hbare := path_bare _ hs
  obtain ⟨pre, a, hx⟩ := cut_last 47 x
  obtain ⟨b, post, hy⟩ := cut_first 47 y
  have e1 : cutS 47 (x ++ (m ++ y)) = pre ++ (a ++ (m ++ b)) :: post := cut_join 47 x (m ++ y) pre a (m ++ b) post hx (cut_join 47 m y [] m b post (cutS_miss 47 m hm) hy)
  have e2 : cutS 47 (x ++ (q ++ y)) = pre ++ (a ++ (q ++ b)) :: post := cut_join 47 x (q ++ y) pre a (q ++ b) post hx (cut_join 47 q y [] q b post (cutS_miss 47 q hq) hy)
  have hseg := bare_segs _ hbare
  rw [e1] at hseg
  obtain ⟨c, hcq, hc⟩ := hqn
  have hpat : patL (x ++ (q ++ y)) = true := by
    rw [← may_pat]
    unfold mayL
    simp only [Bool.and_eq_true, Bool.not_eq_true', decide_eq_true_eq]
    refine ⟨?_, hlen, ?_, ?_⟩
    · rw [List.isEmpty_eq_false_iff]
      intro e
      have : c ∈ x ++ (q ++ y) := List.mem_append.2 (.inr (List.mem_append.2 (.inl hcq)))
      rw [e] at this; cases this
    · rw [List.all_eq_true]
      have hall : ∀ z ∈ x ++ (m ++ y), okW true z = true := fun z hz => by
        have := List.all_eq_true.1 hb.1 z hz
        unfold okW at this ⊢
        simp only [Bool.and_eq_true] at this ⊢
        exact ⟨this.1, this.2.1, by simp⟩
      intro z hz
      rcases List.mem_append.1 hz with h | h
      · exact hall z (List.mem_append.2 (.inl h))
      · rcases List.mem_append.1 h with h | h
        · exact hqb z h
        · exact hall z (List.mem_append.2 (.inr (List.mem_append.2 (.inr h))))
    · have h1 := hb.2.2.2
      unfold segsL at h1 ⊢
      rw [e1] at h1
      rw [e2]
      simp only [List.any_append, List.any_cons, Bool.not_eq_true', Bool.or_eq_false_iff] at h1 ⊢
      refine ⟨h1.1, ?_, h1.2.2⟩
      rw [← Bool.not_eq_true]
      intro hbad
      have hmem : c ∈ a ++ (q ++ b) := List.mem_append.2 (.inr (List.mem_append.2 (.inl hcq)))
      unfold segBad at hbad
      simp only [Bool.or_eq_true, beq_iff_eq] at hbad
      rcases hbad with h | h | h
      · rw [h] at hmem; cases hmem
      · rw [h] at hmem
        rw [List.mem_singleton] at hmem
        rw [hmem] at hc; revert hc; decide
      · rw [h] at hmem
        simp only [List.mem_cons, List.not_mem_nil, or_false, or_self] at hmem
        rw [hmem] at hc; revert hc; decide
  unfold matchL
  rw [hpat, hs, e1, e2, all_app _ _ _ _ _ rfl]
  simp only [Bool.true_and]
  rw [all_bare pre pre (fun p hp => hseg p (List.mem_append.2 (.inl hp)))]
  show (decide (pre = pre) && (oneL (a ++ (q ++ b)) (a ++ (m ++ b)) && allL oneL post post)) = true
  rw [all_bare post post (fun p hp => hseg p (List.mem_append.2 (.inr (.tail _ hp))))]
  have hab : Bare (a ++ (m ++ b)) := hseg _ (List.mem_append.2 (.inr (.head _)))
  have h1 : oneL (a ++ (q ++ b)) (a ++ (m ++ b)) = true := by
    rw [one_mt]
    refine (mt_app a (q ++ b) _).2 ⟨a.length, by simp, by rw [List.take_left]; exact mt_self a (fun z hz => hab z (List.mem_append.2 (.inl hz))), ?_⟩
    rw [List.drop_left]
    refine (mt_app q b _).2 ⟨m.length, by simp, by rw [List.take_left]; exact hqm, ?_⟩
    rw [List.drop_left]
    exact mt_self b (fun z hz => hab z (List.mem_append.2 (.inr (List.mem_append.2 (.inr hz)))))
  rw [h1]; simp
end Go.Proofs.YtodkjhbnodcbhaaDoor.Glob
