/-
  Two segments that meet: what is to be reached, as texts; the plain law.
-/
import Derived.Test.YtodkjhbnodcbhaaDoorGlobM2
import Derived.Test.YtodkjhbnodcbhaaDoorGlobLaw1
namespace Go.Proofs.YtodkjhbnodcbhaaDoor.Glob
open Go
set_option linter.unusedVariables false

inductive OvL : List UInt8 → List UInt8 → Prop
  | nil : OvL [] []
  | starL {p q : List UInt8} : OvL p q → OvL (42 :: p) q
  | starR {p q : List UInt8} : OvL p q → OvL p (42 :: q)
  | eatL {p q : List UInt8} {c : UInt8} : c ≠ 42 → OvL (42 :: p) q → OvL (42 :: p) (c :: q)
  | eatR {p q : List UInt8} {c : UInt8} : c ≠ 42 → OvL p (42 :: q) → OvL (c :: p) (42 :: q)
  | sign {p q : List UInt8} {a b : UInt8} : a ≠ 42 → b ≠ 42 → signB a b = true → OvL p q → OvL (a :: p) (b :: q)
theorem star_drop {l : List UInt8} {i : Nat} (h : star l i = true) : l.drop i = 42 :: l.drop (i + 1) := by
  have hi := star_lt h
  unfold star at h
  rw [List.getElem?_eq_getElem hi, beq_iff_eq] at h
  injection h with h
  rw [List.drop_eq_getElem_cons hi, h]
theorem other_drop {l : List UInt8} {i : Nat} (h : star l i = false) (hi : i < l.length) : l.drop i = l[i] :: l.drop (i + 1) ∧ l[i] ≠ 42 := by
  unfold star at h
  rw [List.getElem?_eq_getElem hi, beq_eq_false_iff_ne] at h
  exact ⟨List.drop_eq_getElem_cons hi, fun e => h (by rw [e])⟩
theorem ov_list {p q : List UInt8} {v : Nat × Nat} (h : Ov p q v) : OvL (p.drop v.1) (q.drop v.2) := by
  induction h with
  | fin => simp; exact .nil
  | step e _ ih =>
    rename_i v u _
    obtain ⟨i, k⟩ := v
    rcases e with ⟨h1, rfl⟩ | ⟨h1, rfl⟩ | ⟨h1, h2, h3, rfl⟩ | ⟨h1, h2, h3, rfl⟩ | ⟨h1, h2, h3, h4, h5, rfl⟩
    · simp only at *; rw [star_drop h1]; exact .starL ih
    · simp only at *; rw [star_drop h1]; exact .starR ih
    · simp only at *
      have o := other_drop h2 h3
      rw [o.1]
      rw [star_drop h1] at ih ⊢
      exact .eatL o.2 ih
    · simp only at *
      have o := other_drop h2 h3
      rw [o.1]
      rw [star_drop h1] at ih ⊢
      exact .eatR o.2 ih
    · simp only at *
      have o := other_drop h1 h3
      have o2 := other_drop h2 h4
      rw [o.1, o2.1]
      exact .sign o.2 o2.2 (by rw [← sign_L p q i k h3 h4]; exact h5) ih
theorem drop_cons {l t : List UInt8} {c : UInt8} {i : Nat} (h : l.drop i = c :: t) : ∃ hi : i < l.length, l[i] = c ∧ l.drop (i + 1) = t := by
  have hi : i < l.length := by
    rcases Nat.lt_or_ge i l.length with h1 | h1
    · exact h1
    · rw [List.drop_eq_nil_of_le h1] at h; cases h
  rw [List.drop_eq_getElem_cons hi] at h
  injection h with h1 h2
  exact ⟨hi, h1, h2⟩
theorem star_of {l : List UInt8} {i : Nat} {hi : i < l.length} (h : l[i] = 42) : star l i = true := by unfold star; rw [List.getElem?_eq_getElem hi, h]; rfl
theorem star_not {l : List UInt8} {i : Nat} {hi : i < l.length} (h : l[i] ≠ 42) : star l i = false := by
  unfold star; rw [List.getElem?_eq_getElem hi, beq_eq_false_iff_ne]; intro e; injection e with e; exact h e
theorem list_ov (p q : List UInt8) {a b : List UInt8} (h : OvL a b) : ∀ i k, i ≤ p.length → k ≤ q.length → p.drop i = a → q.drop k = b → Ov p q (i, k) := by
  induction h with
  | nil =>
    intro i k h1 h2 h3 h4
    have e1 : i = p.length := by have := congrArg List.length h3; rw [List.length_drop, List.length_nil] at this; omega
    have e2 : k = q.length := by have := congrArg List.length h4; rw [List.length_drop, List.length_nil] at this; omega
    rw [e1, e2]; exact .fin
  | starL _ ih =>
    intro i k h1 h2 h3 h4
    obtain ⟨hi, e1, e2⟩ := drop_cons h3
    exact .step (.inl ⟨star_of e1, rfl⟩) (ih (i + 1) k hi h2 e2 h4)
  | starR _ ih =>
    intro i k h1 h2 h3 h4
    obtain ⟨hk, e1, e2⟩ := drop_cons h4
    exact .step (.inr (.inl ⟨star_of e1, rfl⟩)) (ih i (k + 1) h1 hk h3 e2)
  | eatL hc _ ih =>
    intro i k h1 h2 h3 h4
    obtain ⟨hi, e1, e2⟩ := drop_cons h3
    obtain ⟨hk, e3, e4⟩ := drop_cons h4
    exact .step (.inr (.inr (.inl ⟨star_of e1, star_not (by rw [e3]; exact hc), hk, rfl⟩))) (ih i (k + 1) h1 hk h3 e4)
  | eatR hc _ ih =>
    intro i k h1 h2 h3 h4
    obtain ⟨hi, e1, e2⟩ := drop_cons h3
    obtain ⟨hk, e3, e4⟩ := drop_cons h4
    exact .step (.inr (.inr (.inr (.inl ⟨star_of e3, star_not (by rw [e1]; exact hc), hi, rfl⟩)))) (ih (i + 1) k hi h2 e2 h4)
  | sign ha hb hs _ ih =>
    intro i k h1 h2 h3 h4
    obtain ⟨hi, e1, e2⟩ := drop_cons h3
    obtain ⟨hk, e3, e4⟩ := drop_cons h4
    exact .step (.inr (.inr (.inr (.inr ⟨star_not (by rw [e1]; exact ha), star_not (by rw [e3]; exact hb), hi, hk, by rw [sign_L p q i k hi hk, e1, e3]; exact hs, rfl⟩)))) (ih (i + 1) (k + 1) hi hk e2 e4)
theorem both_ovL (p q : List UInt8) : bothL p q = true ↔ OvL p q := by
  unfold bothL
  rw [meet_ov p q _ (by omega)]
  exact ⟨fun h => by simpa using ov_list h, fun h => list_ov p q h 0 0 (Nat.zero_le _) (Nat.zero_le _) rfl rfl⟩
theorem signB_comm (a b : UInt8) : signB a b = signB b a := by
  unfold signB
  rw [show (a == b) = (b == a) from by rw [Bool.eq_iff_iff, beq_iff_eq, beq_iff_eq]; exact eq_comm, Bool.or_comm (a == 63)]
theorem OvL.symm {p q : List UInt8} (h : OvL p q) : OvL q p := by
  induction h with
  | nil => exact .nil
  | starL _ ih => exact .starR ih
  | starR _ ih => exact .starL ih
  | eatL hc _ ih => exact .eatR hc ih
  | eatR hc _ ih => exact .eatL hc ih
  | sign ha hb hs _ ih => exact .sign hb ha (by rw [signB_comm]; exact hs) ih
theorem OvL.refl : ∀ p : List UInt8, OvL p p
  | [] => .nil
  | c :: p => by
    by_cases h : c = 42
    · subst h; exact .starL (.starR (OvL.refl p))
    · exact .sign h h (by unfold signB; simp) (OvL.refl p)
theorem both_symm (p q : List UInt8) : bothL p q = bothL q p := by
  rw [Bool.eq_iff_iff, both_ovL, both_ovL]; exact ⟨OvL.symm, OvL.symm⟩
theorem both_refl (p : List UInt8) : bothL p p = true := (both_ovL p p).2 (OvL.refl p)
theorem allB_symm : ∀ (l m : List (List UInt8)), allL bothL l m = allL bothL m l
  | [], [] => rfl
  | [], _ :: _ => rfl
  | _ :: _, [] => rfl
  | a :: l, b :: m => by
    show (bothL a b && allL bothL l m) = (bothL b a && allL bothL m l)
    rw [both_symm a b, allB_symm l m]
theorem allB_refl : ∀ (l : List (List UInt8)), allL bothL l l = true
  | [] => rfl
  | a :: l => by
    show (bothL a a && allL bothL l l) = true
    rw [both_refl a, allB_refl l]; rfl
theorem over_symm (p q : List UInt8) : overL p q = overL q p := by
  unfold overL
  rw [allB_symm (cutS 47 p) (cutS 47 q)]
  cases patL p <;> cases patL q <;> rfl
theorem over_refl (p : List UInt8) : overL p p = patL p := by
  unfold overL
  rw [allB_refl]
  cases patL p <;> rfl
/-- what matches one text, meets -/
theorem mt_ov : ∀ (n : Nat) (p q s : List UInt8), p.length + q.length + s.length < n → mt p s = true → mt q s = true → OvL p q
  | 0, _, _, _, h, _, _ => by omega
  | n + 1, p, q, s, hn, h1, h2 => by
    cases p with
    | nil =>
      have hs := (mt_nil s).1 h1
      subst hs
      cases q with
      | nil => exact .nil
      | cons c q =>
        rw [mt, Bool.and_eq_true, beq_iff_eq] at h2
        rw [h2.1]
        exact .starR (mt_ov n [] q [] (by simp at hn ⊢; omega) h1 h2.2)
    | cons a p =>
      by_cases ha : a = 42
      · subst ha
        cases s with
        | nil =>
          rw [mt, Bool.and_eq_true] at h1
          exact .starL (mt_ov n p q [] (by simp at hn ⊢; omega) h1.2 h2)
        | cons x t =>
          have h1' := h1
          rw [mt] at h1
          simp only [beq_self_eq_true, if_true, Bool.or_eq_true] at h1
          rcases h1 with h1 | h1
          · exact .starL (mt_ov n p q (x :: t) (by simp at hn ⊢; omega) h1 h2)
          · cases q with
            | nil => rw [mt] at h2; cases h2
            | cons b q =>
              by_cases hb : b = 42
              · subst hb
                rw [mt] at h2
                simp only [beq_self_eq_true, if_true, Bool.or_eq_true] at h2
                rcases h2 with h2 | h2
                · exact .starR (mt_ov n (42 :: p) q (x :: t) (by simp at hn ⊢; omega) h1' h2)
                · exact mt_ov n (42 :: p) (42 :: q) t (by simp at hn ⊢; omega) h1 h2
              · obtain ⟨y, u, e, _, h3⟩ := (mt_other b q hb _).1 h2
                injection e with e1 e2
                subst e2
                exact .eatL hb (mt_ov n (42 :: p) q t (by simp at hn ⊢; omega) h1 h3)
      · obtain ⟨x, t, rfl, hx, h3⟩ := (mt_other a p ha _).1 h1
        cases q with
        | nil => rw [mt] at h2; cases h2
        | cons b q =>
          by_cases hb : b = 42
          · subst hb
            rw [mt] at h2
            simp only [beq_self_eq_true, if_true, Bool.or_eq_true] at h2
            rcases h2 with h2 | h2
            · exact .starR (mt_ov n (a :: p) q (x :: t) (by simp at hn ⊢; omega) h1 h2)
            · exact .eatR ha (mt_ov n p (42 :: q) t (by simp at hn ⊢; omega) h3 h2)
          · obtain ⟨y, u, e, hy, h4⟩ := (mt_other b q hb _).1 h2
            injection e with e1 e2
            subst e1 e2
            refine .sign ha hb ?_ (mt_ov n p q t (by simp at hn ⊢; omega) h3 h4)
            unfold signB
            simp only [Bool.or_eq_true, beq_iff_eq] at hx hy ⊢
            rcases hx with hx | hx
            · exact .inr (.inl hx)
            · rcases hy with hy | hy
              · exact .inr (.inr hy)
              · exact .inl (by rw [hx, hy])
theorem OvL.matches {p q : List UInt8} (h : OvL p q) : Bare p → mt q p = true := by
  induction h with
  | nil => intro _; exact (mt_nil []).2 rfl
  | starL _ _ => intro hb; exact absurd rfl (hb 42 (.head _)).1
  | starR _ ih => intro hb; exact (mt_star _ _).2 ⟨0, Nat.zero_le _, ih hb⟩
  | eatL _ _ _ => intro hb; exact absurd rfl (hb 42 (.head _)).1
  | eatR hc _ ih =>
    intro hb
    have := ih (fun x hx => hb x (.tail _ hx))
    rw [mt]
    simp only [beq_self_eq_true, if_true, Bool.or_eq_true]
    exact .inr this
  | sign ha hb' hs _ ih =>
    rename_i p q a b _
    intro hb
    have ht := ih (fun x hx => hb x (.tail _ hx))
    rw [mt_other b q hb']
    refine ⟨a, p, rfl, ?_, ht⟩
    have h63 := (hb a (.head _)).2
    unfold signB at hs
    simp only [Bool.or_eq_true, beq_iff_eq] at hs ⊢
    rcases hs with h | h | h
    · exact .inr h.symm
    · exact absurd h h63
    · exact .inl h
theorem both_match (p q : List UInt8) (h : Bare p) : bothL p q = oneL q p := by
  rw [Bool.eq_iff_iff, both_ovL, one_mt]
  exact ⟨fun h1 => h1.matches h, fun h1 => mt_ov _ p q p (Nat.lt_succ_self _) (mt_self p h) h1⟩
theorem allB_match : ∀ (l m : List (List UInt8)), (∀ p ∈ l, Bare p) → allL bothL l m = allL oneL m l
  | [], [], _ => rfl
  | [], _ :: _, _ => rfl
  | _ :: _, [], _ => rfl
  | a :: l, b :: m, h => by
    show (bothL a b && allL bothL l m) = (oneL b a && allL oneL m l)
    rw [both_match a b (h a (.head _)), allB_match l m (fun p hp => h p (.tail _ hp))]
/-- a plain pattern overlaps just those that match it -/
theorem over_plain (p q : List UInt8) (hp : pathL p = true) (hq : patL q = true) : overL p q = matchL q p := by
  unfold overL matchL
  rw [path_pat p hp, hp, hq, allB_match _ _ (bare_segs p (path_bare p hp))]
theorem allL_meet : ∀ (l m s : List (List UInt8)), allL oneL l s = true → allL oneL m s = true → allL bothL l m = true
  | [], [], _, _, _ => rfl
  | [], _ :: _, [], _, h => by cases h
  | [], _ :: _, _ :: _, h, _ => by cases h
  | _ :: _, _, [], h, _ => by cases h
  | _ :: _, [], _ :: _, _, h => by cases h
  | a :: l, b :: m, c :: s, h1, h2 => by
    have h1' : (oneL a c && allL oneL l s) = true := h1
    have h2' : (oneL b c && allL oneL m s) = true := h2
    rw [Bool.and_eq_true] at h1' h2'
    show (bothL a b && allL bothL l m) = true
    rw [Bool.and_eq_true]
    refine ⟨(both_ovL a b).2 (mt_ov _ a b c (Nat.lt_succ_self _) (by rw [← one_mt]; exact h1'.1) (by rw [← one_mt]; exact h2'.1)), allL_meet l m s h1'.2 h2'.2⟩
theorem match_meet (p q s : List UInt8) (h1 : matchL p s = true) (h2 : matchL q s = true) : overL p q = true := by
  unfold matchL at h1 h2
  simp only [Bool.and_eq_true] at h1 h2
  unfold overL
  rw [h1.1, h2.1, allL_meet _ _ _ h1.2.2 h2.2.2]; rfl
end Go.Proofs.YtodkjhbnodcbhaaDoor.Glob
