/-
  A segment's pattern, matched piece by piece as the code does, and as the document says: the plain law.
-/
import Derived.Test.YtcndkkagnobpmaaDoorGlobPlain
namespace Go.Proofs.YtcndkkagnobpmaaDoor.Glob

/-- as many bytes: each the same, or a question mark -/
def fitsL : List UInt8 → List UInt8 → Bool
  | [], [] => true
  | a :: p, b :: s => (a == 63 || a == b) && fitsL p s
  | _, _ => false
/-- a piece taken from the beginning -/
def headL : List UInt8 → List UInt8 → Option (List UInt8)
  | [], s => some s
  | a :: p, b :: s => if a == 63 || a == b then headL p s else none
  | _ :: _, [] => none
/-- a piece taken from the end -/
def tailL (p s : List UInt8) : Option (List UInt8) :=
  if p.length ≤ s.length ∧ headL p (s.drop (s.length - p.length)) = some [] then some (s.take (s.length - p.length)) else none
/-- a piece taken as early as it matches -/
def nextL (p : List UInt8) : List UInt8 → Option (List UInt8)
  | [] => headL p []
  | b :: s => match headL p (b :: s) with
    | some r => some r
    | none => nextL p s
def midL : List (List UInt8) → List UInt8 → Bool
  | [], _ => true
  | p :: ps, s => match nextL p s with
    | none => false
    | some r => midL ps r
/-- the code's answer on the pieces -/
def piecesL (l : List (List UInt8)) (s : List UInt8) : Bool :=
  match l with
  | [] => false
  | [p] => headL p s == some []
  | p :: q :: r => match headL p s with
    | none => false
    | some t => match tailL ((q :: r).getLast (by simp)) t with
      | none => false
      | some u => midL (q :: r).dropLast u
def oneL (p s : List UInt8) : Bool := piecesL (cutS 42 p) s
/-- the document's answer -/
def mt : List UInt8 → List UInt8 → Bool
  | [], [] => true
  | [], _ :: _ => false
  | c :: p, [] => c == 42 && mt p []
  | c :: p, x :: s => if c == 42 then mt p (x :: s) || mt (c :: p) s else (c == 63 || c == x) && mt p s
termination_by p s => p.length + s.length

theorem headL_some : ∀ (p s t : List UInt8), headL p s = some t → p.length ≤ s.length ∧ t = s.drop p.length
  | [], s, t, h => by simp [headL] at h; simp [h]
  | a :: p, [], t, h => by simp [headL] at h
  | a :: p, b :: s, t, h => by
    unfold headL at h
    split at h
    · have := headL_some p s t h
      simpa using this
    · cases h
/-- a piece without a star ahead of what is left -/
theorem mt_head : ∀ (p r s : List UInt8), (42 : UInt8) ∉ p → mt (p ++ r) s = match headL p s with | none => false | some t => mt r t
  | [], r, s, _ => rfl
  | a :: p, r, [], h => by
    have h1 : (a == 42) = false := beq_eq_false_iff_ne.2 (fun e => h (by rw [e]; exact .head _))
    show mt (a :: (p ++ r)) [] = _
    rw [mt, h1]; rfl
  | a :: p, r, b :: s, h => by
    have h1 : (a == 42) = false := beq_eq_false_iff_ne.2 (fun e => h (by rw [e]; exact .head _))
    show mt (a :: (p ++ r)) (b :: s) = _
    rw [mt, h1, mt_head p r s (fun e => h (.tail _ e)), show headL (a :: p) (b :: s) = if (a == 63 || a == b) = true then headL p s else none from rfl]
    cases hc : (a == 63 || a == b) <;> rfl
theorem mt_star (r : List UInt8) : ∀ (s : List UInt8), mt (42 :: r) s = true ↔ ∃ k, k ≤ s.length ∧ mt r (s.drop k) = true
  | [] => by
    rw [mt]
    simp
  | x :: s => by
    rw [mt]
    simp only [beq_self_eq_true, if_true, Bool.or_eq_true]
    rw [mt_star r s]
    constructor
    · rintro (h | ⟨k, hk, h⟩)
      · exact ⟨0, Nat.zero_le _, h⟩
      · exact ⟨k + 1, by simp; omega, h⟩
    · rintro ⟨k, hk, h⟩
      cases k with
      | zero => exact .inl h
      | succ k => exact .inr ⟨k, by simp at hk; omega, h⟩
theorem mt_nil (s : List UInt8) : mt [] s = true ↔ s = [] := by cases s <;> simp [mt]
theorem mt_plain (p s : List UInt8) (h : (42 : UInt8) ∉ p) : mt p s = (headL p s == some []) := by
  have := mt_head p [] s h
  rw [List.append_nil] at this
  rw [this]
  cases headL p s with
  | none => rfl
  | some t => cases t <;> simp [mt]
/-- nextL: the least place -/
theorem nextL_some (p : List UInt8) : ∀ (s u : List UInt8), nextL p s = some u → ∃ k, k ≤ s.length ∧ headL p (s.drop k) = some u
  | [], u, h => ⟨0, Nat.le_refl _, h⟩
  | b :: s, u, h => by
    unfold nextL at h
    cases hh : headL p (b :: s) with
    | some r => rw [hh] at h; exact ⟨0, Nat.zero_le _, by rw [List.drop_zero, hh]; exact h⟩
    | none =>
      rw [hh] at h
      obtain ⟨k, hk, h⟩ := nextL_some p s u h
      exact ⟨k + 1, by simp; omega, h⟩
theorem nextL_least (p : List UInt8) : ∀ (s t : List UInt8) (k : Nat), k ≤ s.length → headL p (s.drop k) = some t → ∃ u m, nextL p s = some u ∧ t = u.drop m
  | [], t, k, hk, h => by
    have : k = 0 := by simpa using hk
    subst this
    exact ⟨t, 0, h, rfl⟩
  | b :: s, t, k, hk, h => by
    unfold nextL
    cases hh : headL p (b :: s) with
    | some r =>
      have h1 := headL_some _ _ _ hh
      have h2 := headL_some _ _ _ h
      refine ⟨r, k, rfl, ?_⟩
      rw [h2.2, h1.2, List.drop_drop, List.drop_drop, Nat.add_comm]
    | none =>
      cases k with
      | zero => rw [List.drop_zero, hh] at h; cases h
      | succ k => exact nextL_least p s t k (by simp at hk; omega) h
/-- a longer text's end may be matched where a shorter one's is -/
theorem midL_mono : ∀ (l : List (List UInt8)) (s : List UInt8) (m : Nat), midL l (s.drop m) = true → midL l s = true
  | [], _, _, _ => rfl
  | p :: l, s, m, h => by
    unfold midL at h ⊢
    cases hn : nextL p (s.drop m) with
    | none => rw [hn] at h; cases h
    | some u =>
      rw [hn] at h
      obtain ⟨k, hk, hh⟩ := nextL_some p _ u hn
      rw [List.drop_drop] at hh
      have hle : m + k ≤ s.length ∨ s.length < m + k := by omega
      rcases hle with hle | hle
      · obtain ⟨v, j, hv, hj⟩ := nextL_least p s u (m + k) hle hh
        rw [hv]
        rw [hj] at h
        exact midL_mono l v j h
      · have e : s.drop (m + k) = s.drop s.length := by rw [List.drop_length, List.drop_eq_nil_of_le (by omega)]
        rw [e] at hh
        obtain ⟨v, j, hv, hj⟩ := nextL_least p s u s.length (Nat.le_refl _) hh
        rw [hv]
        rw [hj] at h
        exact midL_mono l v j h
theorem midL_cons (p : List UInt8) (l : List (List UInt8)) (s : List UInt8) : midL (p :: l) s = true ↔ ∃ k t, k ≤ s.length ∧ headL p (s.drop k) = some t ∧ midL l t = true := by
  constructor
  · intro h
    unfold midL at h
    cases hn : nextL p s with
    | none => rw [hn] at h; cases h
    | some u =>
      rw [hn] at h
      obtain ⟨k, hk, hh⟩ := nextL_some p s u hn
      exact ⟨k, u, hk, hh, h⟩
  · rintro ⟨k, t, hk, hh, h⟩
    obtain ⟨u, m, hu, hm⟩ := nextL_least p s t k hk hh
    unfold midL
    rw [hu]
    rw [hm] at h
    exact midL_mono l u m h
theorem tailL_some (q s u : List UInt8) : tailL q s = some u ↔ q.length ≤ s.length ∧ headL q (s.drop (s.length - q.length)) = some [] ∧ u = s.take (s.length - q.length) := by
  unfold tailL
  constructor
  · intro h
    split at h
    · rename_i hc; exact ⟨hc.1, hc.2, (Option.some.inj h).symm⟩
    · cases h
  · rintro ⟨h1, h2, h3⟩
    rw [if_pos ⟨h1, h2⟩, h3]
/-- a piece takes what it takes, whatever stands behind -/
theorem headL_app : ∀ (p s x t : List UInt8), headL p s = some t → headL p (s ++ x) = some (t ++ x)
  | [], s, x, t, h => by simp [headL] at h; simp [headL, h]
  | a :: p, [], x, t, h => by simp [headL] at h
  | a :: p, b :: s, x, t, h => by
    show headL (a :: p) (b :: (s ++ x)) = _
    unfold headL at h ⊢
    split at h
    · rename_i hc; rw [if_pos hc]; exact headL_app p s x t h
    · cases h
theorem headL_take : ∀ (p s t : List UInt8) (n : Nat), headL p s = some t → p.length ≤ n → headL p (s.take n) = some (t.take (n - p.length))
  | [], s, t, n, h, _ => by simp [headL] at h; simp [headL, h]
  | a :: p, [], t, n, h, _ => by simp [headL] at h
  | a :: p, b :: s, t, 0, h, hn => by simp at hn
  | a :: p, b :: s, t, n + 1, h, hn => by
    show headL (a :: p) (b :: s.take n) = _
    unfold headL at h ⊢
    split at h
    · rename_i hc
      rw [if_pos hc, headL_take p s t n h (by simpa using hn)]
      simp
    · cases h
/-- the pieces as a pattern: each behind a star -/
def starred (l : List (List UInt8)) : List UInt8 := l.flatMap fun p => 42 :: p
theorem mt_pieces (q : List UInt8) (hq : (42 : UInt8) ∉ q) : ∀ (l : List (List UInt8)) (s : List UInt8), (∀ p ∈ l, (42 : UInt8) ∉ p) →
    (mt (starred (l ++ [q])) s = true ↔ ∃ u, tailL q s = some u ∧ midL l u = true)
  | [], s, _ => by
    show mt (42 :: (q ++ [])) s = true ↔ _
    rw [List.append_nil, mt_star]
    constructor
    · rintro ⟨k, hk, h⟩
      rw [mt_plain _ _ hq, beq_iff_eq] at h
      have h1 := headL_some _ _ _ h
      have hlen : (s.drop k).length = q.length := by
        have := congrArg List.length h1.2
        rw [List.length_drop, List.length_nil] at this
        omega
      rw [List.length_drop] at hlen
      refine ⟨_, (tailL_some _ _ _).2 ⟨by omega, ?_, rfl⟩, rfl⟩
      rw [show s.length - q.length = k from by omega]
      exact h
    · rintro ⟨u, h, _⟩
      obtain ⟨h1, h2, h3⟩ := (tailL_some _ _ _).1 h
      exact ⟨s.length - q.length, by omega, by rw [mt_plain _ _ hq, beq_iff_eq]; exact h2⟩
  | p :: l, s, hl => by
    have hp : (42 : UInt8) ∉ p := hl p (.head _)
    show mt (42 :: (p ++ starred (l ++ [q]))) s = true ↔ _
    rw [mt_star]
    constructor
    · rintro ⟨k, hk, h⟩
      rw [mt_head _ _ _ hp] at h
      cases hh : headL p (s.drop k) with
      | none => rw [hh] at h; cases h
      | some t =>
        rw [hh] at h
        obtain ⟨u, hu, hm⟩ := (mt_pieces q hq l t (fun x hx => hl x (.tail _ hx))).1 h
        obtain ⟨g1, g2, g3⟩ := (tailL_some _ _ _).1 hu
        have h1 := headL_some _ _ _ hh
        rw [List.length_drop] at h1
        have htl : t.length = s.length - k - p.length := by rw [h1.2, List.length_drop, List.length_drop]
        have hds : s.drop (s.length - q.length) = t.drop (t.length - q.length) := by
          rw [h1.2, List.drop_drop, List.drop_drop]; congr 1; simp; omega
        refine ⟨_, (tailL_some q s _).2 ⟨by omega, by rw [hds]; exact g2, rfl⟩, (midL_cons p l _).2 ⟨k, u, by rw [List.length_take]; omega, ?_, hm⟩⟩
        rw [List.drop_take, headL_take p _ t _ hh (by omega), g3]
        congr 2
        omega
    · rintro ⟨u, hu, hm⟩
      obtain ⟨g1, g2, g3⟩ := (tailL_some _ _ _).1 hu
      obtain ⟨k, t, hk, hh, hm⟩ := (midL_cons p l u).1 hm
      have h1 := headL_some _ _ _ hh
      have hul : u.length = s.length - q.length := by rw [g3, List.length_take]; omega
      rw [List.length_drop, hul] at h1
      have hsu : s = u ++ s.drop (s.length - q.length) := by rw [g3, List.take_append_drop]
      have hdk : s.drop k = u.drop k ++ s.drop (s.length - q.length) := by
        conv => lhs; rw [hsu]
        rw [List.drop_append_of_le_length hk]
      refine ⟨k, by omega, ?_⟩
      rw [mt_head _ _ _ hp, hdk, headL_app p _ _ t hh]
      refine (mt_pieces q hq l _ (fun x hx => hl x (.tail _ hx))).2 ⟨t, (tailL_some _ _ _).2 ⟨?_, ?_, ?_⟩, hm⟩
      · rw [List.length_append, List.length_drop]; omega
      · have e : (s.drop (s.length - q.length)).length = q.length := by rw [List.length_drop]; omega
        rw [List.length_append, e, Nat.add_sub_cancel, List.drop_left]
        exact g2
      · have e : (s.drop (s.length - q.length)).length = q.length := by rw [List.length_drop]; omega
        rw [List.length_append, e, Nat.add_sub_cancel, List.take_left]
theorem cutS_join (c : UInt8) : ∀ (l : List UInt8), ∃ p ps, cutS c l = p :: ps ∧ l = p ++ ps.flatMap fun q => c :: q
  | [] => ⟨[], [], rfl, rfl⟩
  | b :: l => by
    obtain ⟨p, ps, h1, h2⟩ := cutS_join c l
    unfold cutS
    by_cases hb : b = c
    · rw [if_pos hb, h1]
      exact ⟨[], p :: ps, rfl, by rw [hb]; simp [← h2]⟩
    · rw [if_neg hb, h1]
      exact ⟨b :: p, ps, rfl, by conv => lhs; rw [h2]
                                 rfl⟩
/-- the code's answer is the document's -/
theorem one_mt (p s : List UInt8) : oneL p s = mt p s := by
  obtain ⟨a, ps, h1, h2⟩ := cutS_join 42 p
  have hn := cutS_none 42 p
  rw [h1] at hn
  have ha := hn a (.head _)
  unfold oneL
  rw [h1]
  cases ps with
  | nil =>
    rw [show p = a from by rw [h2]; simp]
    rw [mt_plain a s ha]
    rfl
  | cons q r =>
    have hsp : q :: r = (q :: r).dropLast ++ [(q :: r).getLast (by simp)] := (List.dropLast_concat_getLast (by simp)).symm
    have hp : p = a ++ starred ((q :: r).dropLast ++ [(q :: r).getLast (by simp)]) := by rw [← hsp]; exact h2
    have hall : ∀ x ∈ q :: r, (42 : UInt8) ∉ x := fun x hx => hn x (.tail _ hx)
    rw [Bool.eq_iff_iff, hp, mt_head _ _ _ ha]
    unfold piecesL
    cases hh : headL a s with
    | none => simp [hh]
    | some t =>
      simp only [hh]
      rw [mt_pieces _ (hall _ (List.getLast_mem _)) _ _ (fun x hx => hall x (List.dropLast_subset _ hx))]
      cases ht : tailL ((q :: r).getLast (by simp)) t with
      | none => simp
      | some u => simp
end Go.Proofs.YtcndkkagnobpmaaDoor.Glob
