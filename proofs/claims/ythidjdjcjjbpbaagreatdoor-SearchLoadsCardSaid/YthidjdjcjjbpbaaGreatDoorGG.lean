/-
  Texts cut at each byte c: the plain law (no program in sight).
  A segment's pattern, matched piece by piece as the code does, and as the document says: the plain law.
  The document's table of beginnings: one more sign of the pattern, the plain law.
  glob's pieces: fits, head, tail.
  glob's pieces: head, tail.
  glob's pieces: next.
  Rows of strings; slices.IndexFunc, ContainsFunc, EqualFunc at strings, whatever the function value is.
  glob.plain: bytes that may be, and none of some.
  glob.segments, Path, Pattern, Split, Plain.
-/
import Derived.Lib.SplitLaws
import Derived.Test.YthidjdjcjjbpbaaGreatDoorGA
import Derived.Deep.QuietTactic
import Derived.BigQuiet
import Derived.Deep.RegionHeld
import Derived.Test.YthidjdjcjjbpbaaGreatDoorShelf
import Derived.Handy
import Derived.Laws.RangeAny
namespace Go.Proofs.YthidjdjcjjbpbaaGreatDoor.Glob

/-- a text cut at each c -/
def cutS (c : UInt8) : List UInt8 → List (List UInt8)
  | [] => [[]]
  | b :: l => if b = c then [] :: cutS c l else (b :: (cutS c l).headD []) :: (cutS c l).tail

theorem cutS_ne (c : UInt8) (l : List UInt8) : cutS c l ≠ [] := by
  cases l with
  | nil => simp [cutS]
  | cons b l => unfold cutS; split <;> simp
theorem cutS_miss (c : UInt8) : ∀ (l : List UInt8), c ∉ l → cutS c l = [l]
  | [], _ => rfl
  | b :: l, h => by
    have h1 : b ≠ c := fun e => h (by rw [e]; exact .head _)
    have h2 : c ∉ l := fun e => h (.tail _ e)
    unfold cutS
    rw [if_neg h1, cutS_miss c l h2]
    rfl
theorem cutS_hit (c : UInt8) (l : List UInt8) : ∀ (a : List UInt8), c ∉ a → cutS c (a ++ c :: l) = a :: cutS c l
  | [], _ => by show cutS c (c :: l) = _; rw [cutS, if_pos rfl]
  | b :: a, h => by
    have h1 : b ≠ c := fun e => h (by rw [e]; exact .head _)
    have h2 : c ∉ a := fun e => h (.tail _ e)
    show cutS c (b :: (a ++ c :: l)) = _
    rw [cutS, if_neg h1, cutS_hit c l a h2]
    rfl
theorem index_one_eq (c : UInt8) (l : List UInt8) : Lib.index (c :: l) [c] = 0 := by
  unfold Lib.index
  rw [if_pos (by simp [List.isPrefixOf])]
theorem index_one_ne (b c : UInt8) (l : List UInt8) (h : b ≠ c) : Lib.index (b :: l) [c] = if Lib.index l [c] == -1 then -1 else Lib.index l [c] + 1 := by
  conv => lhs; unfold Lib.index
  have : (c == b) = false := beq_eq_false_iff_ne.2 (Ne.symm h)
  rw [if_neg (by simp [List.isPrefixOf, this])]
theorem splitK_cutS (c : UInt8) : ∀ (l : List UInt8), Lib.splitK [c] 0 (Lib.count l [c]) l = cutS c l
  | [] => by
    have : Lib.count [] [c] = 0 := Lib.count_miss (by simp [Lib.index])
    rw [this]; rfl
  | b :: l => by
    have ih := splitK_cutS c l
    by_cases hb : b = c
    · subst hb
      rw [Lib.count_cons_eq, Nat.add_comm, Lib.splitK, index_one_eq, if_neg (by decide)]
      show _ :: Lib.splitK [b] 0 (Lib.count l [b]) l = _
      rw [ih, cutS, if_pos rfl]
      rfl
    · rw [Lib.count_cons_ne _ _ _ hb, cutS, if_neg hb, ← ih]
      cases hk : Lib.count l [c] with
      | zero => rfl
      | succ k =>
        have hi : ¬ (Lib.index l [c] == -1) = true := fun e => by
          have := Lib.count_miss (beq_iff_eq.1 e); omega
        have hge := Lib.index_ge l [c]
        have h0 : 0 ≤ Lib.index l [c] := by
          have : Lib.index l [c] ≠ -1 := fun e => hi (beq_iff_eq.2 e)
          omega
        obtain ⟨i, hii⟩ : ∃ i : Nat, Lib.index l [c] = i := ⟨_, (Int.toNat_of_nonneg h0).symm⟩
        have hj : Lib.index (b :: l) [c] = ((i + 1 : Nat) : Int) := by rw [index_one_ne _ _ _ hb, if_neg hi, hii]; omega
        rw [Lib.splitK, Lib.splitK, if_neg hi, hj, hii, if_neg (by rw [beq_iff_eq]; omega)]
        rfl
/-- what strings.Split hands back at a single byte -/
theorem splitB_cutS (c : UInt8) (s : ByteArray) : (Lib.splitB ⟨#[c]⟩ 0 (Lib.countB s ⟨#[c]⟩) s).map (·.data.toList) = cutS c s.data.toList := by
  rw [Lib.splitB_data]
  exact splitK_cutS c s.data.toList
theorem countB_cutS (c : UInt8) (s : ByteArray) : Lib.countB s ⟨#[c]⟩ + 1 = (cutS c s.data.toList).length := by
  rw [← splitB_cutS, List.length_map]
  exact (Lib.splitB_all ⟨#[c]⟩ (Nat.le_refl 1) 0 _ s rfl).symm
/-- the pieces hold no c, and joined they are the text -/
theorem cutS_none (c : UInt8) : ∀ (l p : List UInt8), p ∈ cutS c l → c ∉ p
  | [], p, h => by simp [cutS] at h; subst h; simp
  | b :: l, p, h => by
    unfold cutS at h
    split at h
    · rcases List.mem_cons.1 h with rfl | h
      · simp
      · exact cutS_none c l p h
    · rename_i hb
      have ⟨q, qs, hq⟩ := List.exists_cons_of_ne_nil (cutS_ne c l)
      rw [hq] at h
      rcases List.mem_cons.1 h with rfl | h
      · intro e
        rcases List.mem_cons.1 e with e | e
        · exact hb e.symm
        · exact cutS_none c l q (by rw [hq]; exact .head _) e
      · exact cutS_none c l p (by rw [hq]; exact .tail _ h)
theorem cutS_inj (c : UInt8) : ∀ (a b : List UInt8), cutS c a = cutS c b → a = b
  | [], [], _ => rfl
  | [], y :: b, h => by
    unfold cutS at h
    split at h
    · have hne := cutS_ne c b; simp only [List.cons.injEq, true_and] at h; exact absurd h.symm hne
    · simp at h
  | x :: a, [], h => by
    unfold cutS at h
    split at h
    · have hne := cutS_ne c a; simp only [List.cons.injEq, true_and] at h; exact absurd h hne
    · simp at h
  | x :: a, y :: b, h => by
    have ⟨p, ps, hp⟩ := List.exists_cons_of_ne_nil (cutS_ne c a)
    have ⟨q, qs, hq⟩ := List.exists_cons_of_ne_nil (cutS_ne c b)
    have ih := cutS_inj c a b
    rw [hp, hq] at ih
    unfold cutS at h
    by_cases hx : x = c <;> by_cases hy : y = c
    · rw [if_pos hx, if_pos hy] at h
      simp only [List.cons.injEq, true_and] at h
      rw [hx, hy, cutS_inj c a b h]
    · rw [if_pos hx, if_neg hy] at h; simp at h
    · rw [if_neg hx, if_pos hy] at h; simp at h
    · rw [if_neg hx, if_neg hy, hp, hq] at h
      simp only [List.headD_cons, List.tail_cons, List.cons.injEq] at h
      rw [h.1.1, ih (by rw [h.1.2, h.2])]
end Go.Proofs.YthidjdjcjjbpbaaGreatDoor.Glob

namespace Go.Proofs.YthidjdjcjjbpbaaGreatDoor.Glob

/-- as many bytes: each the same, or a question mark -/
def fitsL : List UInt8 → List UInt8 → Bool
  | [], [] => true
  | a :: p, b :: s => (a == 63 || a == b) && fitsL p s
  | _, _ => false
/-- a piece taken from the beginning -/
def headL : List UInt8 → List UInt8 → Option (List UInt8)
  | [], s => some s
  | a :: p, b :: s => if a == 63 || a == b then headL p s else none
  | _ :: _, [] => none
/-- a piece taken from the end -/
def tailL (p s : List UInt8) : Option (List UInt8) :=
  if p.length ≤ s.length ∧ headL p (s.drop (s.length - p.length)) = some [] then some (s.take (s.length - p.length)) else none
/-- a piece taken as early as it matches -/
def nextL (p : List UInt8) : List UInt8 → Option (List UInt8)
  | [] => headL p []
  | b :: s => match headL p (b :: s) with
    | some r => some r
    | none => nextL p s
def midL : List (List UInt8) → List UInt8 → Bool
  | [], _ => true
  | p :: ps, s => match nextL p s with
    | none => false
    | some r => midL ps r
/-- the code's answer on the pieces -/
def piecesL (l : List (List UInt8)) (s : List UInt8) : Bool :=
  match l with
  | [] => false
  | [p] => headL p s == some []
  | p :: q :: r => match headL p s with
    | none => false
    | some t => match tailL ((q :: r).getLast (by simp)) t with
      | none => false
      | some u => midL (q :: r).dropLast u
def oneL (p s : List UInt8) : Bool := piecesL (cutS 42 p) s
/-- the document's answer -/
def mt : List UInt8 → List UInt8 → Bool
  | [], [] => true
  | [], _ :: _ => false
  | c :: p, [] => c == 42 && mt p []
  | c :: p, x :: s => if c == 42 then mt p (x :: s) || mt (c :: p) s else (c == 63 || c == x) && mt p s
termination_by p s => p.length + s.length

theorem headL_some : ∀ (p s t : List UInt8), headL p s = some t → p.length ≤ s.length ∧ t = s.drop p.length
  | [], s, t, h => by simp [headL] at h; simp [h]
  | a :: p, [], t, h => by simp [headL] at h
  | a :: p, b :: s, t, h => by
    unfold headL at h
    split at h
    · have := headL_some p s t h
      simpa using this
    · cases h
/-- a piece without a star ahead of what is left -/
theorem mt_head : ∀ (p r s : List UInt8), (42 : UInt8) ∉ p → mt (p ++ r) s = match headL p s with | none => false | some t => mt r t
  | [], r, s, _ => rfl
  | a :: p, r, [], h => by
    have h1 : (a == 42) = false := beq_eq_false_iff_ne.2 (fun e => h (by rw [e]; exact .head _))
    show mt (a :: (p ++ r)) [] = _
    rw [mt, h1]; rfl
  | a :: p, r, b :: s, h => by
    have h1 : (a == 42) = false := beq_eq_false_iff_ne.2 (fun e => h (by rw [e]; exact .head _))
    show mt (a :: (p ++ r)) (b :: s) = _
    rw [mt, h1, mt_head p r s (fun e => h (.tail _ e)), show headL (a :: p) (b :: s) = if (a == 63 || a == b) = true then headL p s else none from rfl]
    cases hc : (a == 63 || a == b) <;> rfl
theorem mt_star (r : List UInt8) : ∀ (s : List UInt8), mt (42 :: r) s = true ↔ ∃ k, k ≤ s.length ∧ mt r (s.drop k) = true
  | [] => by
    rw [mt]
    simp
  | x :: s => by
    rw [mt]
    simp only [beq_self_eq_true, if_true, Bool.or_eq_true]
    rw [mt_star r s]
    constructor
    · rintro (h | ⟨k, hk, h⟩)
      · exact ⟨0, Nat.zero_le _, h⟩
      · exact ⟨k + 1, by simp; omega, h⟩
    · rintro ⟨k, hk, h⟩
      cases k with
      | zero => exact .inl h
      | succ k => exact .inr ⟨k, by simp at hk; omega, h⟩
theorem mt_nil (s : List UInt8) : mt [] s = true ↔ s = [] := by cases s <;> simp [mt]
theorem mt_plain (p s : List UInt8) (h : (42 : UInt8) ∉ p) : mt p s = (headL p s == some []) := by
  have := mt_head p [] s h
  rw [List.append_nil] at this
  rw [this]
  cases headL p s with
  | none => rfl
  | some t => cases t <;> simp [mt]
/-- nextL: the least place -/
theorem nextL_some (p : List UInt8) : ∀ (s u : List UInt8), nextL p s = some u → ∃ k, k ≤ s.length ∧ headL p (s.drop k) = some u
  | [], u, h => ⟨0, Nat.le_refl _, h⟩
  | b :: s, u, h => by
    unfold nextL at h
    cases hh : headL p (b :: s) with
    | some r => rw [hh] at h; exact ⟨0, Nat.zero_le _, by rw [List.drop_zero, hh]; exact h⟩
    | none =>
      rw [hh] at h
      obtain ⟨k, hk, h⟩ := nextL_some p s u h
      exact ⟨k + 1, by simp; omega, h⟩
theorem nextL_least (p : List UInt8) : ∀ (s t : List UInt8) (k : Nat), k ≤ s.length → headL p (s.drop k) = some t → ∃ u m, nextL p s = some u ∧ t = u.drop m
  | [], t, k, hk, h => by
    have : k = 0 := by simpa using hk
    subst this
    exact ⟨t, 0, h, rfl⟩
  | b :: s, t, k, hk, h => by
    unfold nextL
    cases hh : headL p (b :: s) with
    | some r =>
      have h1 := headL_some _ _ _ hh
      have h2 := headL_some _ _ _ h
      refine ⟨r, k, rfl, ?_⟩
      rw [h2.2, h1.2, List.drop_drop, List.drop_drop, Nat.add_comm]
    | none =>
      cases k with
      | zero => rw [List.drop_zero, hh] at h; cases h
      | succ k => exact nextL_least p s t k (by simp at hk; omega) h
/-- a longer text's end may be matched where a shorter one's is -/
theorem midL_mono : ∀ (l : List (List UInt8)) (s : List UInt8) (m : Nat), midL l (s.drop m) = true → midL l s = true
  | [], _, _, _ => rfl
  | p :: l, s, m, h => by
    unfold midL at h ⊢
    cases hn : nextL p (s.drop m) with
    | none => rw [hn] at h; cases h
    | some u =>
      rw [hn] at h
      obtain ⟨k, hk, hh⟩ := nextL_some p _ u hn
      rw [List.drop_drop] at hh
      have hle : m + k ≤ s.length ∨ s.length < m + k := by omega
      rcases hle with hle | hle
      · obtain ⟨v, j, hv, hj⟩ := nextL_least p s u (m + k) hle hh
        rw [hv]
        rw [hj] at h
        exact midL_mono l v j h
      · have e : s.drop (m + k) = s.drop s.length := by rw [List.drop_length, List.drop_eq_nil_of_le (by omega)]
        rw [e] at hh
        obtain ⟨v, j, hv, hj⟩ := nextL_least p s u s.length (Nat.le_refl _) hh
        rw [hv]
        rw [hj] at h
        exact midL_mono l v j h
theorem midL_cons (p : List UInt8) (l : List (List UInt8)) (s : List UInt8) : midL (p :: l) s = true ↔ ∃ k t, k ≤ s.length ∧ headL p (s.drop k) = some t ∧ midL l t = true := by
  constructor
  · intro h
    unfold midL at h
    cases hn : nextL p s with
    | none => rw [hn] at h; cases h
    | some u =>
      rw [hn] at h
      obtain ⟨k, hk, hh⟩ := nextL_some p s u hn
      exact ⟨k, u, hk, hh, h⟩
  · rintro ⟨k, t, hk, hh, h⟩
    obtain ⟨u, m, hu, hm⟩ := nextL_least p s t k hk hh
    unfold midL
    rw [hu]
    rw [hm] at h
    exact midL_mono l u m h
theorem tailL_some (q s u : List UInt8) : tailL q s = some u ↔ q.length ≤ s.length ∧ headL q (s.drop (s.length - q.length)) = some [] ∧ u = s.take (s.length - q.length) := by
  unfold tailL
  constructor
  · intro h
    split at h
    · rename_i hc; exact ⟨hc.1, hc.2, (Option.some.inj h).symm⟩
    · cases h
  · rintro ⟨h1, h2, h3⟩
    rw [if_pos ⟨h1, h2⟩, h3]
/-- a piece takes what it takes, whatever stands behind -/
theorem headL_app : ∀ (p s x t : List UInt8), headL p s = some t → headL p (s ++ x) = some (t ++ x)
  | [], s, x, t, h => by simp [headL] at h; simp [headL, h]
  | a :: p, [], x, t, h => by simp [headL] at h
  | a :: p, b :: s, x, t, h => by
    show headL (a :: p) (b :: (s ++ x)) = _
    unfold headL at h ⊢
    split at h
    · rename_i hc; rw [if_pos hc]; exact headL_app p s x t h
    · cases h
theorem headL_take : ∀ (p s t : List UInt8) (n : Nat), headL p s = some t → p.length ≤ n → headL p (s.take n) = some (t.take (n - p.length))
  | [], s, t, n, h, _ => by simp [headL] at h; simp [headL, h]
  | a :: p, [], t, n, h, _ => by simp [headL] at h
  | a :: p, b :: s, t, 0, h, hn => by simp at hn
  | a :: p, b :: s, t, n + 1, h, hn => by
    show headL (a :: p) (b :: s.take n) = _
    unfold headL at h ⊢
    split at h
    · rename_i hc
      rw [if_pos hc, headL_take p s t n h (by simpa using hn)]
      simp
    · cases h
/-- the pieces as a pattern: each behind a star -/
def starred (l : List (List UInt8)) : List UInt8 := l.flatMap fun p => 42 :: p
theorem mt_pieces (q : List UInt8) (hq : (42 : UInt8) ∉ q) : ∀ (l : List (List UInt8)) (s : List UInt8), (∀ p ∈ l, (42 : UInt8) ∉ p) →
    (mt (starred (l ++ [q])) s = true ↔ ∃ u, tailL q s = some u ∧ midL l u = true)
  | [], s, _ => by
    show mt (42 :: (q ++ [])) s = true ↔ _
    rw [List.append_nil, mt_star]
    constructor
    · rintro ⟨k, hk, h⟩
      rw [mt_plain _ _ hq, beq_iff_eq] at h
      have h1 := headL_some _ _ _ h
      have hlen : (s.drop k).length = q.length := by
        have := congrArg List.length h1.2
        rw [List.length_drop, List.length_nil] at this
        omega
      rw [List.length_drop] at hlen
      refine ⟨_, (tailL_some _ _ _).2 ⟨by omega, ?_, rfl⟩, rfl⟩
      rw [show s.length - q.length = k from by omega]
      exact h
    · rintro ⟨u, h, _⟩
      obtain ⟨h1, h2, h3⟩ := (tailL_some _ _ _).1 h
      exact ⟨s.length - q.length, by omega, by rw [mt_plain _ _ hq, beq_iff_eq]; exact h2⟩
  | p :: l, s, hl => by
    have hp : (42 : UInt8) ∉ p := hl p (.head _)
    show mt (42 :: (p ++ starred (l ++ [q]))) s = true ↔ _
    rw [mt_star]
    constructor
    · rintro ⟨k, hk, h⟩
      rw [mt_head _ _ _ hp] at h
      cases hh : headL p (s.drop k) with
      | none => rw [hh] at h; cases h
      | some t =>
        rw [hh] at h
        obtain ⟨u, hu, hm⟩ := (mt_pieces q hq l t (fun x hx => hl x (.tail _ hx))).1 h
        obtain ⟨g1, g2, g3⟩ := (tailL_some _ _ _).1 hu
        have h1 := headL_some _ _ _ hh
        rw [List.length_drop] at h1
        have htl : t.length = s.length - k - p.length := by rw [h1.2, List.length_drop, List.length_drop]
        have hds : s.drop (s.length - q.length) = t.drop (t.length - q.length) := by
          rw [h1.2, List.drop_drop, List.drop_drop]; congr 1; simp; omega
        refine ⟨_, (tailL_some q s _).2 ⟨by omega, by rw [hds]; exact g2, rfl⟩, (midL_cons p l _).2 ⟨k, u, by rw [List.length_take]; omega, ?_, hm⟩⟩
        rw [List.drop_take, headL_take p _ t _ hh (by omega), g3]
        congr 2
        omega
    · rintro ⟨u, hu, hm⟩
      obtain ⟨g1, g2, g3⟩ := (tailL_some _ _ _).1 hu
      obtain ⟨k, t, hk, hh, hm⟩ := (midL_cons p l u).1 hm
      have h1 := headL_some _ _ _ hh
      have hul : u.length = s.length - q.length := by rw [g3, List.length_take]; omega
      rw [List.length_drop, hul] at h1
      have hsu : s = u ++ s.drop (s.length - q.length) := by rw [g3, List.take_append_drop]
      have hdk : s.drop k = u.drop k ++ s.drop (s.length - q.length) := by
        conv => lhs; rw [hsu]
        rw [List.drop_append_of_le_length hk]
      refine ⟨k, by omega, ?_⟩
      rw [mt_head _ _ _ hp, hdk, headL_app p _ _ t hh]
      refine (mt_pieces q hq l _ (fun x hx => hl x (.tail _ hx))).2 ⟨t, (tailL_some _ _ _).2 ⟨?_, ?_, ?_⟩, hm⟩
      · rw [List.length_append, List.length_drop]; omega
      · have e : (s.drop (s.length - q.length)).length = q.length := by rw [List.length_drop]; omega
        rw [List.length_append, e, Nat.add_sub_cancel, List.drop_left]
        exact g2
      · have e : (s.drop (s.length - q.length)).length = q.length := by rw [List.length_drop]; omega
        rw [List.length_append, e, Nat.add_sub_cancel, List.take_left]
theorem cutS_join (c : UInt8) : ∀ (l : List UInt8), ∃ p ps, cutS c l = p :: ps ∧ l = p ++ ps.flatMap fun q => c :: q
  | [] => ⟨[], [], rfl, rfl⟩
  | b :: l => by
    obtain ⟨p, ps, h1, h2⟩ := cutS_join c l
    unfold cutS
    by_cases hb : b = c
    · rw [if_pos hb, h1]
      exact ⟨[], p :: ps, rfl, by rw [hb]; simp [← h2]⟩
    · rw [if_neg hb, h1]
      exact ⟨b :: p, ps, rfl, by conv => lhs; rw [h2]
                                 rfl⟩
/-- the code's answer is the document's -/
theorem one_mt (p s : List UInt8) : oneL p s = mt p s := by
  obtain ⟨a, ps, h1, h2⟩ := cutS_join 42 p
  have hn := cutS_none 42 p
  rw [h1] at hn
  have ha := hn a (.head _)
  unfold oneL
  rw [h1]
  cases ps with
  | nil =>
    rw [show p = a from by rw [h2]; simp]
    rw [mt_plain a s ha]
    rfl
  | cons q r =>
    have hsp : q :: r = (q :: r).dropLast ++ [(q :: r).getLast (by simp)] := (List.dropLast_concat_getLast (by simp)).symm
    have hp : p = a ++ starred ((q :: r).dropLast ++ [(q :: r).getLast (by simp)]) := by rw [← hsp]; exact h2
    have hall : ∀ x ∈ q :: r, (42 : UInt8) ∉ x := fun x hx => hn x (.tail _ hx)
    rw [Bool.eq_iff_iff, hp, mt_head _ _ _ ha]
    unfold piecesL
    cases hh : headL a s with
    | none => simp [hh]
    | some t =>
      simp only [hh]
      rw [mt_pieces _ (hall _ (List.getLast_mem _)) _ _ (fun x hx => hall x (List.dropLast_subset _ hx))]
      cases ht : tailL ((q :: r).getLast (by simp)) t with
      | none => simp
      | some u => simp
end Go.Proofs.YthidjdjcjjbpbaaGreatDoor.Glob

namespace Go.Proofs.YthidjdjcjjbpbaaGreatDoor.Glob

theorem mt_other (c : UInt8) (p : List UInt8) (h : c ≠ 42) (s : List UInt8) : mt (c :: p) s = true ↔ ∃ x t, s = x :: t ∧ (c == 63 || c == x) = true ∧ mt p t = true := by
  have h1 : (c == 42) = false := beq_eq_false_iff_ne.2 h
  cases s with
  | nil => rw [mt, h1]; simp
  | cons x t =>
    rw [mt, h1]
    simp only [Bool.false_eq_true, if_false, Bool.and_eq_true]
    constructor
    · intro hh; exact ⟨x, t, rfl, hh.1, hh.2⟩
    · rintro ⟨y, u, e, h2, h3⟩
      simp only [List.cons.injEq] at e
      rw [e.1, e.2]; exact ⟨h2, h3⟩
theorem mt_app : ∀ (p r s : List UInt8), mt (p ++ r) s = true ↔ ∃ m, m ≤ s.length ∧ mt p (s.take m) = true ∧ mt r (s.drop m) = true
  | [], r, s => by
    constructor
    · intro h; exact ⟨0, Nat.zero_le _, by rw [List.take_zero]; exact (mt_nil []).2 rfl, h⟩
    · rintro ⟨m, hm, h1, h2⟩
      have h3 := (mt_nil _).1 h1
      have : m = 0 := by
        have := congrArg List.length h3
        rw [List.length_take, List.length_nil] at this
        omega
      subst this
      exact h2
  | c :: p, r, s => by
    by_cases hc : c = 42
    · subst hc
      show mt (42 :: (p ++ r)) s = true ↔ _
      rw [mt_star]
      constructor
      · rintro ⟨j, hj, h⟩
        obtain ⟨k, hk, h1, h2⟩ := (mt_app p r _).1 h
        rw [List.length_drop] at hk
        refine ⟨j + k, by omega, (mt_star _ _).2 ⟨j, by rw [List.length_take]; omega, ?_⟩, ?_⟩
        · rw [List.drop_take, show j + k - j = k from by omega]; exact h1
        · rw [← List.drop_drop]; exact h2
      · rintro ⟨m, hm, h1, h2⟩
        obtain ⟨j, hj, h3⟩ := (mt_star _ _).1 h1
        rw [List.length_take] at hj
        rw [List.drop_take] at h3
        refine ⟨j, by omega, (mt_app p r _).2 ⟨m - j, by rw [List.length_drop]; omega, h3, ?_⟩⟩
        rw [List.drop_drop, show j + (m - j) = m from by omega]; exact h2
    · show mt (c :: (p ++ r)) s = true ↔ _
      rw [mt_other c _ hc]
      constructor
      · rintro ⟨x, t, rfl, hx, h⟩
        obtain ⟨k, hk, h1, h2⟩ := (mt_app p r _).1 h
        exact ⟨k + 1, by simp; omega, (mt_other c _ hc _).2 ⟨x, t.take k, rfl, hx, h1⟩, h2⟩
      · rintro ⟨m, hm, h1, h2⟩
        obtain ⟨x, t, e, hx, h⟩ := (mt_other c _ hc _).1 h1
        cases s with
        | nil => simp at e
        | cons y s =>
          cases m with
          | zero => simp at e
          | succ m =>
            simp only [List.take_succ_cons, List.cons.injEq] at e
            rw [← e.2] at h
            rw [← e.1] at hx
            exact ⟨y, s, rfl, hx, (mt_app p r _).2 ⟨m, by simp at hm; omega, h, h2⟩⟩
theorem mt_one_star (s : List UInt8) : mt [42] s = true := (mt_star [] s).2 ⟨s.length, Nat.le_refl _, by rw [List.drop_length]; exact (mt_nil []).2 rfl⟩
/-- a star behind a pattern -/
theorem mt_snoc_star (p s : List UInt8) : mt (p ++ [42]) s = true ↔ ∃ m, m ≤ s.length ∧ mt p (s.take m) = true := by
  rw [mt_app]
  constructor
  · rintro ⟨m, h1, h2, _⟩; exact ⟨m, h1, h2⟩
  · rintro ⟨m, h1, h2⟩; exact ⟨m, h1, h2, mt_one_star _⟩
theorem table_star (p s : List UInt8) (k : Nat) (hk : k ≤ s.length) : mt (p ++ [42]) (s.take k) = (mt p (s.take k) || (decide (0 < k) && mt (p ++ [42]) (s.take (k - 1)))) := by
  rw [Bool.eq_iff_iff, Bool.or_eq_true, Bool.and_eq_true, decide_eq_true_iff, mt_snoc_star, mt_snoc_star]
  simp only [List.length_take, List.take_take]
  constructor
  · rintro ⟨m, h1, h2⟩
    by_cases hm : m = k
    · subst hm; rw [Nat.min_self] at h2; exact .inl h2
    · refine .inr ⟨by omega, m, by omega, ?_⟩
      rw [show min m (k - 1) = min m k from by omega]; exact h2
  · rintro (h | ⟨h0, m, h1, h2⟩)
    · exact ⟨k, by omega, by rw [Nat.min_self]; exact h⟩
    · exact ⟨m, by omega, by rw [show min m k = min m (k - 1) from by omega]; exact h2⟩
theorem table_sign (p s : List UInt8) (c : UInt8) (hc : c ≠ 42) (k : Nat) (hk : k < s.length) : mt (p ++ [c]) (s.take (k + 1)) = ((c == 63 || c == s[k]) && mt p (s.take k)) := by
  rw [Bool.eq_iff_iff, Bool.and_eq_true, mt_app]
  constructor
  · rintro ⟨m, h1, h2, h3⟩
    obtain ⟨x, t, e, hx, ht⟩ := (mt_other c _ hc _).1 h3
    have := (mt_nil _).1 ht
    subst this
    have hlen := congrArg List.length e
    rw [List.length_drop, List.length_take] at hlen
    simp only [List.length_cons, List.length_nil] at hlen
    have hm : m = k := by omega
    subst hm
    rw [List.take_succ_eq_append_getElem hk, List.drop_append_of_le_length (by rw [List.length_take]; omega), List.drop_of_length_le (by rw [List.length_take]; omega)] at e
    simp only [List.nil_append, List.cons.injEq, and_true] at e
    rw [List.take_take, show min m (m + 1) = m from by omega] at h2
    rw [e]
    exact ⟨hx, h2⟩
  · rintro ⟨h1, h2⟩
    refine ⟨k, by rw [List.length_take]; omega, by rw [List.take_take, show min k (k + 1) = k from by omega]; exact h2, (mt_other c _ hc _).2 ⟨s[k], [], ?_, h1, (mt_nil []).2 rfl⟩⟩
    rw [List.take_succ_eq_append_getElem hk, List.drop_append_of_le_length (by rw [List.length_take]; omega), List.drop_of_length_le (by rw [List.length_take]; omega)]
    rfl
theorem table_sign0 (p s : List UInt8) (c : UInt8) (hc : c ≠ 42) : mt (p ++ [c]) (s.take 0) = false := by
  rw [← Bool.not_eq_true, List.take_zero, mt_app]
  rintro ⟨m, h1, h2, h3⟩
  obtain ⟨x, t, e, _⟩ := (mt_other c _ hc _).1 h3
  simp at e
end Go.Proofs.YthidjdjcjjbpbaaGreatDoor.Glob

namespace Go.Proofs.YthidjdjcjjbpbaaGreatDoor
open Go.RowKit Glob
set_option linter.unusedVariables false

theorem fits_step {p s : List UInt8} {k : Nat} (h1 : k < p.length) (h2 : k < s.length) : fitsL (p.drop k) (s.drop k) = ((p[k] == 63 || p[k] == s[k]) && fitsL (p.drop (k + 1)) (s.drop (k + 1))) := by
  rw [List.drop_eq_getElem_cons h1, List.drop_eq_getElem_cons h2]; rfl
set_option maxHeartbeats 1600000 in
theorem fits_any (p s : ByteArray) (w : World) (h : p.size = s.size) (hbig : p.size ≤ 140737488351232) : Calls Tryz.prog 119 #[.string p, .string s] w fun e w' => e = .returned (.bool (fitsL p.data.toList s.data.toList)) ∧ ∃ m, w' = w.drewN m := by
  have hpl : p.data.toList.length = p.size := by cases p; simp [ByteArray.size]
  have hsl : s.data.toList.length = s.size := by cases s; simp [ByteArray.size]
  have HP := Lib.hid hpl
  have HS := Lib.hid hsl
  clear hpl hsl
  obtain ⟨r, hr⟩ : ∃ r, r = fitsL p.data.toList s.data.toList := ⟨_, rfl⟩
  rw [← hr]
  have HR := Lib.hid hr
  clear hr
  go_enter Tryz.func119, Tryz.ntmps119
  go_wp2
  go_loopw [8] (fun i wr => ∃ k : Nat, k ≤ p.size ∧ i = .int .i64 k ∧ r = fitsL (p.data.toList.drop k) (s.data.toList.drop k) ∧ ∃ m, wr = w.drewN m) (fun i _ => p.size - (intOf i).toNat)
  case atStart => exact ⟨0, Nat.zero_le _, rfl, HR.out, 0, rfl⟩
  case round =>
    obtain ⟨k, hk, rfl, hrk, m, rfl⟩ := hrel
    have HRK := Lib.hid hrk
    clear hrk
    rcases (by omega : k < p.size ∨ k = p.size) with hlt | heq
    · have hls : k < s.size := by omega
      have hst := fits_step (p := p.data.toList) (s := s.data.toList) (k := k) (by rw [HP.out]; exact hlt) (by rw [HS.out]; exact hls)
      have hg1 : p.data.toList[k]'(by rw [HP.out]; exact hlt) = p[k] := rfl
      have hg2 : s.data.toList[k]'(by rw [HS.out]; exact hls) = s[k] := rfl
      rw [hg1, hg2] at hst
      obtain ⟨a, ha⟩ : ∃ a, a = p[k] := ⟨_, rfl⟩
      obtain ⟨b, hb⟩ : ∃ b, b = s[k] := ⟨_, rfl⟩
      rw [← ha, ← hb] at hst
      have ha' := ha.symm
      have hb' := hb.symm
      have HST := Lib.hid hst
      clear ha hb hst hg1 hg2
      rcases (by omega : a.toNat = 63 ∨ (a.toNat ≠ 63 ∧ a.toNat = b.toNat) ∨ (a.toNat ≠ 63 ∧ a.toNat ≠ b.toNat)) with g | ⟨g, g2⟩ | ⟨g, g2⟩
      · have e1 : ((a.toNat : Int) != 63) = false := by simp; omega
        have hb1 : (a == 63) = true := by rw [beq_iff_eq]; exact UInt8.toNat_inj.1 g
        have HX : Hid (r = fitsL (p.data.toList.drop (k + 1)) (s.data.toList.drop (k + 1))) := by show _ = _; rw [HRK.out, HST.out, hb1]; rfl
        clear hb1 g
        go_wp2
        go_quiet (fail)
        go_wp2
        go_roundw
        case rel => exact ⟨k + 1, by omega, by go_num, HX.out, _, rfl⟩
        case measure => simp [intOf]; omega
      · have e1 : ((a.toNat : Int) != 63) = true := by simp; omega
        have e2 : ((a.toNat : Int) != (b.toNat : Int)) = false := by simp; omega
        have hb1 : (a == b) = true := by rw [beq_iff_eq]; exact UInt8.toNat_inj.1 g2
        have HX : Hid (r = fitsL (p.data.toList.drop (k + 1)) (s.data.toList.drop (k + 1))) := by show _ = _; rw [HRK.out, HST.out, hb1]; simp
        clear hb1 g g2
        go_wp2
        go_quiet (fail)
        go_wp2
        go_roundw
        case rel => exact ⟨k + 1, by omega, by go_num, HX.out, _, rfl⟩
        case measure => simp [intOf]; omega
      · have e1 : ((a.toNat : Int) != 63) = true := by simp; omega
        have e2 : ((a.toNat : Int) != (b.toNat : Int)) = true := by simp; omega
        have hb1 : (a == 63) = false := by rw [beq_eq_false_iff_ne]; intro e; rw [e] at g; exact g rfl
        have hb2 : (a == b) = false := by rw [beq_eq_false_iff_ne]; intro e; rw [e] at g2; exact g2 rfl
        have HX : Hid (r = false) := by show _ = _; rw [HRK.out, HST.out, hb1, hb2]; rfl
        clear hb1 hb2 g g2
        go_wp2
        go_quiet (fail)
        go_wp2
        go_ret
        exact ⟨by rw [HX.out]; rfl, _, World.drewN_drewN _ _ _⟩
    · have e1 : decide (k < p.size) = false := by rw [decide_eq_false_iff_not]; omega
      have e2 : decide (k < s.size) = false := by rw [decide_eq_false_iff_not]; omega
      have HX : Hid (r = true) := by show _ = _; rw [HRK.out, List.drop_of_length_le (by rw [HP.out]; omega), List.drop_of_length_le (by rw [HS.out]; omega)]; rfl
      clear heq
      go_wp2
      go_ret
      exact ⟨by rw [HX.out]; rfl, _, rfl⟩
end Go.Proofs.YthidjdjcjjbpbaaGreatDoor

namespace Go.Proofs.YthidjdjcjjbpbaaGreatDoor
open Go.RowKit Glob
set_option linter.unusedVariables false

theorem headL_fits : ∀ (p s : List UInt8), headL p s = if p.length ≤ s.length ∧ fitsL p (s.take p.length) = true then some (s.drop p.length) else none
  | [], s => by simp [headL, fitsL]
  | a :: p, [] => by simp [headL]
  | a :: p, b :: s => by
    have ih := headL_fits p s
    show (if (a == 63 || a == b) = true then headL p s else none) = _
    simp only [List.length_cons, List.take_succ_cons, List.drop_succ_cons]
    rw [show fitsL (a :: p) (b :: s.take p.length) = ((a == 63 || a == b) && fitsL p (s.take p.length)) from rfl, ih]
    cases hc : (a == 63 || a == b) with
    | true => simp
    | false => simp
set_option maxHeartbeats 1600000 in
theorem head_any (p s : ByteArray) (w : World) (hp : p.size ≤ 100000) (hs : s.size ≤ 100000) : Calls Tryz.prog 98 #[.string p, .string s] w fun e w' =>
    (∃ m, w' = w.drewN m) ∧ ((headL p.data.toList s.data.toList = none ∧ e = .returned (.tuple #[.string ⟨#[]⟩, .bool false])) ∨ (p.size ≤ s.size ∧ headL p.data.toList s.data.toList = some (s.extract p.size s.size).data.toList ∧ e = .returned (.tuple #[.string (s.extract p.size s.size), .bool true]))) := by
  have hpl : p.data.toList.length = p.size := by cases p; simp [ByteArray.size]
  have hsl : s.data.toList.length = s.size := by cases s; simp [ByteArray.size]
  have hh := headL_fits p.data.toList s.data.toList
  rw [hpl, hsl] at hh
  rcases (by omega : s.size < p.size ∨ p.size ≤ s.size) with g | g
  · have e1 : decide ((s.size : Int) < (p.size : Int)) = true := by rw [decide_eq_true_iff]; omega
    have e2 : decide (s.size < p.size) = true := by rw [decide_eq_true_iff]; omega
    rw [if_neg (by omega)] at hh
    have HH := Lib.hid hh
    clear hh hpl hsl
    go_enter Tryz.func98, Tryz.ntmps98
    go_wp2
    go_ret2
    exact ⟨⟨0, rfl⟩, .inl ⟨HH.out, rfl⟩⟩
  · have e1 : decide ((s.size : Int) < (p.size : Int)) = false := by rw [decide_eq_false_iff_not]; omega
    have e2 : decide (s.size < p.size) = false := by rw [decide_eq_false_iff_not]; omega
    have hext : (s.extract 0 p.size).data.toList = s.data.toList.take p.size := by simp
    have hdr : (s.extract p.size s.size).data.toList = s.data.toList.drop p.size := by simp [List.extract, List.take_of_length_le]
    have hF := fun w => fits_any p (s.extract 0 p.size) w (by rw [ByteArray.size_extract]; omega) (by omega)
    rw [hext] at hF
    obtain ⟨r, hr⟩ : ∃ r, r = fitsL p.data.toList (s.data.toList.take p.size) := ⟨_, rfl⟩
    rw [← hr] at hF hh
    have HF := Lib.hid hF
    have HD := Lib.hid hdr
    clear hF hr hext hdr hpl hsl
    cases r with
    | false =>
      have HH : Hid (headL p.data.toList s.data.toList = none) := by show _ = _; rw [hh, if_neg (by simp)]
      clear hh
      go_enter Tryz.func98, Tryz.ntmps98
      go_wp2_with fail
      refine (HF.out _).mono ?_
      rintro e w' ⟨rfl, m, rfl⟩
      go_wp2
      go_ret2
      exact ⟨⟨_, rfl⟩, .inl ⟨HH.out, rfl⟩⟩
    | true =>
      have HH : Hid (headL p.data.toList s.data.toList = some (s.extract p.size s.size).data.toList) := by show _ = _; rw [hh, HD.out, if_pos ⟨g, rfl⟩]
      clear hh
      go_enter Tryz.func98, Tryz.ntmps98
      go_wp2_with fail
      refine (HF.out _).mono ?_
      rintro e w' ⟨rfl, m, rfl⟩
      go_wp2
      go_ret2
      exact ⟨⟨_, rfl⟩, .inr ⟨g, HH.out, rfl⟩⟩
theorem fits_len : ∀ (p s : List UInt8), fitsL p s = true → p.length = s.length
  | [], [], _ => rfl
  | [], _ :: _, h => by simp [fitsL] at h
  | _ :: _, [], h => by simp [fitsL] at h
  | a :: p, b :: s, h => by
    unfold fitsL at h
    rw [Bool.and_eq_true] at h
    rw [List.length_cons, List.length_cons, fits_len p s h.2]
theorem tailL_fits (p s : List UInt8) : tailL p s = if p.length ≤ s.length ∧ fitsL p (s.drop (s.length - p.length)) = true then some (s.take (s.length - p.length)) else none := by
  unfold tailL
  by_cases h : p.length ≤ s.length
  · have hl : (s.drop (s.length - p.length)).length = p.length := by rw [List.length_drop]; omega
    have ht : (s.drop (s.length - p.length)).take p.length = s.drop (s.length - p.length) := List.take_of_length_le (by omega)
    have hd : (s.drop (s.length - p.length)).drop p.length = [] := List.drop_of_length_le (by omega)
    rw [headL_fits, hl, ht, hd]
    cases hf : fitsL p (s.drop (s.length - p.length)) <;> simp [h]
  · rw [if_neg (fun e => h e.1), if_neg (fun e => h e.1)]
set_option maxHeartbeats 1600000 in
theorem tail_any (p s : ByteArray) (w : World) (hp : p.size ≤ 100000) (hs : s.size ≤ 100000) : Calls Tryz.prog 99 #[.string p, .string s] w fun e w' =>
    (∃ m, w' = w.drewN m) ∧ ((tailL p.data.toList s.data.toList = none ∧ e = .returned (.tuple #[.string ⟨#[]⟩, .bool false])) ∨ (p.size ≤ s.size ∧ tailL p.data.toList s.data.toList = some (s.extract 0 (s.size - p.size)).data.toList ∧ e = .returned (.tuple #[.string (s.extract 0 (s.size - p.size)), .bool true]))) := by
  have hpl : p.data.toList.length = p.size := by cases p; simp [ByteArray.size]
  have hsl : s.data.toList.length = s.size := by cases s; simp [ByteArray.size]
  have hh := tailL_fits p.data.toList s.data.toList
  rw [hpl, hsl] at hh
  rcases (by omega : s.size < p.size ∨ p.size ≤ s.size) with g | g
  · have e1 : decide ((s.size : Int) - (p.size : Int) < 0) = true := by rw [decide_eq_true_iff]; omega
    rw [if_neg (by omega)] at hh
    have HH := Lib.hid hh
    clear hh hpl hsl
    go_enter Tryz.func99, Tryz.ntmps99
    go_wp2
    go_ret2
    exact ⟨⟨0, rfl⟩, .inl ⟨HH.out, rfl⟩⟩
  · obtain ⟨d, hd⟩ : ∃ d : Nat, d = s.size - p.size := ⟨_, rfl⟩
    have e0 : (s.size : Int) - (p.size : Int) = (d : Int) := by omega
    have e1 : decide ((d : Int) < 0) = false := by rw [decide_eq_false_iff_not]; omega
    have hdle : (d : Int) ≤ (s.size : Int) := by omega
    have hd0 : (0 : Int) ≤ (d : Int) := by omega
    rw [← hd] at hh ⊢
    have hext : (s.extract d s.size).data.toList = s.data.toList.drop d := by simp [List.extract, List.take_of_length_le]
    have hdr : (s.extract 0 d).data.toList = s.data.toList.take d := by simp
    have hF := fun w => fits_any p (s.extract d s.size) w (by rw [ByteArray.size_extract]; omega) (by omega)
    rw [hext] at hF
    obtain ⟨r, hr⟩ : ∃ r, r = fitsL p.data.toList (s.data.toList.drop d) := ⟨_, rfl⟩
    rw [← hr] at hF hh
    have HF := Lib.hid hF
    have HD := Lib.hid hdr
    clear hF hr hext hdr hpl hsl hd
    cases r with
    | false =>
      have HH : Hid (tailL p.data.toList s.data.toList = none) := by show _ = _; rw [hh, if_neg (by simp)]
      clear hh
      go_enter Tryz.func99, Tryz.ntmps99
      go_wp2_with fail
      refine (HF.out _).mono ?_
      rintro e w' ⟨rfl, m, rfl⟩
      go_wp2
      go_ret2
      exact ⟨⟨_, rfl⟩, .inl ⟨HH.out, rfl⟩⟩
    | true =>
      have HH : Hid (tailL p.data.toList s.data.toList = some (s.extract 0 d).data.toList) := by show _ = _; rw [hh, HD.out, if_pos ⟨g, rfl⟩]
      clear hh
      go_enter Tryz.func99, Tryz.ntmps99
      go_wp2_with fail
      refine (HF.out _).mono ?_
      rintro e w' ⟨rfl, m, rfl⟩
      go_wp2
      go_ret2
      exact ⟨⟨_, rfl⟩, .inr ⟨g, HH.out, rfl⟩⟩
end Go.Proofs.YthidjdjcjjbpbaaGreatDoor

namespace Go.Proofs.YthidjdjcjjbpbaaGreatDoor
open Go.RowKit Glob
set_option linter.unusedVariables false

theorem nextL_short (p : List UInt8) : ∀ (s : List UInt8), s.length < p.length → nextL p s = none
  | [], h => by
    show headL p [] = none
    rw [headL_fits, if_neg (fun e => by omega)]
  | b :: s, h => by
    unfold nextL
    have h1 : headL p (b :: s) = none := by rw [headL_fits, if_neg (fun e => by omega)]
    rw [h1]
    exact nextL_short p s (by simp at h; omega)
theorem nextL_found (p s t : List UInt8) (h : headL p s = some t) : nextL p s = some t := by
  cases s with
  | nil => exact h
  | cons b s => unfold nextL; rw [h]
theorem nextL_skip (p s : List UInt8) (h : headL p s = none) (h0 : s ≠ []) : nextL p s = nextL p s.tail := by
  cases s with
  | nil => exact absurd rfl h0
  | cons b s => conv => lhs; unfold nextL
                rw [h]; rfl
set_option maxHeartbeats 1600000 in
theorem next_any (p s : ByteArray) (w : World) (hp : p.size ≤ 100000) (hs : s.size ≤ 100000) : Calls Tryz.prog 100 #[.string p, .string s] w fun e w' =>
    (∃ m, w' = w.drewN m) ∧ ((nextL p.data.toList s.data.toList = none ∧ e = .returned (.tuple #[.string ⟨#[]⟩, .bool false])) ∨ (∃ j, j ≤ s.size ∧ nextL p.data.toList s.data.toList = some (s.extract j s.size).data.toList ∧ e = .returned (.tuple #[.string (s.extract j s.size), .bool true]))) := by
  have hpl : p.data.toList.length = p.size := by cases p; simp [ByteArray.size]
  have hsl : s.data.toList.length = s.size := by cases s; simp [ByteArray.size]
  have HP := Lib.hid hpl
  have HS := Lib.hid hsl
  clear hpl hsl
  obtain ⟨R, hR⟩ : ∃ R, R = nextL p.data.toList s.data.toList := ⟨_, rfl⟩
  rw [← hR]
  have HR := Lib.hid hR
  clear hR
  go_enter Tryz.func100, Tryz.ntmps100
  go_wp2
  go_loopw [6] (fun i wr => ∃ k : Nat, k ≤ s.size + 1 ∧ i = .int .i64 k ∧ (k = s.size + 1 → R = none) ∧ (k ≤ s.size → R = nextL p.data.toList (s.data.toList.drop k)) ∧ ∃ m, wr = w.drewN m) (fun i _ => s.size + 1 - (intOf i).toNat)
  case atStart => exact ⟨0, Nat.zero_le _, rfl, fun h => by omega, fun _ => HR.out, 0, rfl⟩
  case round =>
    obtain ⟨k, hk, rfl, hk1, hk2, m, rfl⟩ := hrel
    rcases (by omega : s.size < k + p.size ∨ k + p.size ≤ s.size) with g | g
    · have e1 : decide ((k : Int) + (p.size : Int) ≤ (s.size : Int)) = false := by rw [decide_eq_false_iff_not]; omega
      have HN : Hid (R = none) := by
        show _ = _
        rcases (by omega : k = s.size + 1 ∨ k ≤ s.size) with h | h
        · exact hk1 h
        · rw [hk2 h]; exact nextL_short _ _ (by rw [List.length_drop, HS.out, HP.out]; omega)
      clear hk1 hk2
      go_wp2
      go_ret2
      exact ⟨⟨m, rfl⟩, .inl ⟨HN.out, rfl⟩⟩
    · have e1 : decide ((k : Int) + (p.size : Int) ≤ (s.size : Int)) = true := by rw [decide_eq_true_iff]; omega
      have hR := hk2 (by omega)
      clear hk1 hk2
      have hh := headL_fits p.data.toList (s.data.toList.drop k)
      rw [List.length_drop, HP.out, HS.out, List.drop_drop] at hh
      have hext : (s.extract k (k + p.size)).data.toList = (s.data.toList.drop k).take p.size := by simp [List.extract]
      have hdr : (s.extract (k + p.size) s.size).data.toList = s.data.toList.drop (k + p.size) := by simp [List.extract, List.take_of_length_le]
      have hF := fun w => fits_any p (s.extract k (k + p.size)) w (by rw [ByteArray.size_extract]; omega) (by omega)
      rw [hext] at hF
      obtain ⟨r, hr⟩ : ∃ r, r = fitsL p.data.toList ((s.data.toList.drop k).take p.size) := ⟨_, rfl⟩
      rw [← hr] at hF hh
      have HF := Lib.hid hF
      have HD := Lib.hid hdr
      clear hF hr hext hdr
      cases r with
      | true =>
        rw [if_pos ⟨by omega, rfl⟩] at hh
        have HN : Hid (R = some (s.extract (k + p.size) s.size).data.toList) := by show _ = _; rw [hR, nextL_found _ _ _ hh, HD.out]
        clear hh hR
        go_wp2_with fail
        refine (HF.out _).mono ?_
        rintro e w' ⟨rfl, m2, rfl⟩
        go_wp2
        go_ret2
        exact ⟨⟨_, rfl⟩, .inr ⟨k + p.size, g, HN.out, rfl⟩⟩
      | false =>
        rw [if_neg (by simp)] at hh
        have HN : Hid ((k + 1 = s.size + 1 → R = none) ∧ (k + 1 ≤ s.size → R = nextL p.data.toList (s.data.toList.drop (k + 1)))) := by
          refine ⟨fun h => ?_, fun h => ?_⟩
          · rw [hR, List.drop_of_length_le (by rw [HS.out]; omega)]
            rw [List.drop_of_length_le (by rw [HS.out]; omega)] at hh
            exact hh
          · rw [hR, nextL_skip _ _ hh (by intro e; have := congrArg List.length e; rw [List.length_drop, HS.out, List.length_nil] at this; omega), List.tail_drop]
        clear hh hR
        go_wp2_with fail
        refine (HF.out _).mono ?_
        rintro e w' ⟨rfl, m2, rfl⟩
        go_wp2
        go_roundw
        case rel => exact ⟨k + 1, by omega, by go_num, HN.out.1, HN.out.2, _, rfl⟩
        case measure => simp [intOf]; omega
end Go.Proofs.YthidjdjcjjbpbaaGreatDoor

namespace Go.Proofs.YthidjdjcjjbpbaaGreatDoor
open Go.RowKit
set_option linter.unusedVariables false

/-- strings in a row -/
def SS (w : World) (A : Option Addr) (l : List ByteArray) : Prop := Reads w w.heap.size 1 A l.length (l.map Value.string)
theorem SS.below {w w' : World} {A : Option Addr} {l : List ByteArray} (h : SS w A l) (hb : Below w.heap.size w w') : SS w' A l := (Reads.below h hb).more hb.size
theorem SS.at_ {w : World} {A : Option Addr} {l : List ByteArray} (h : SS w A l) {k : Nat} (hk : k < l.length) : ∃ ad, A = some ad ∧ ad.block < w.heap.size ∧ w.cell? (ad.add k) = some (.string l[k]) := by
  obtain ⟨ad, u, e, hb, hx, hc⟩ := Reads.at_ h hk
  refine ⟨ad, e, hb, ?_⟩
  rw [hc]
  simp [hk] at hx
  rw [hx]
theorem SS.nil (w : World) : SS w none [] := Reads.none_
theorem SS.of_block {w : World} {g : Nat} {t : TypeId} {l : List ByteArray} (h : Blk w g t (l.map Value.string).toArray) : SS w (some ⟨g, 0, none⟩) l := by
  refine ⟨by simp, fun hn => ⟨_, rfl, h.lt, fun j u hu => ?_⟩⟩
  rw [Addr.add_lit, Nat.zero_add, h.cell j]
  simpa using hu

/-- what a function value at one string is asked: it answers p, and leaves what was there -/
def PredS (g : Nat) (lb : Array Value) (w : World) (l : List ByteArray) (p : ByteArray → Bool) : Prop :=
  ∀ (k : Nat) (hk : k < l.length) (W : World), Below w.heap.size w W → Calls Tryz.prog g (#[.string l[k]] ++ lb) W fun e w' => e = .returned (.bool (p l[k])) ∧ Below w.heap.size w w'
def idxS (p : ByteArray → Bool) (l : List ByteArray) : Int := if l.findIdx p < l.length then (l.findIdx p : Int) else -1
theorem idxS_hit (p : ByteArray → Bool) (l : List ByteArray) (k : Nat) (hk : k < l.length) (h : p l[k] = true) (hb : ∀ j (hj : j < l.length), j < k → p l[j] = false) : idxS p l = k := by
  have : l.findIdx p = k := (List.findIdx_eq hk).2 ⟨h, fun j hj => hb j (by omega) hj⟩
  unfold idxS
  rw [this, if_pos hk]
theorem idxS_miss (p : ByteArray → Bool) (l : List ByteArray) (hb : ∀ j (hj : j < l.length), p l[j] = false) : idxS p l = -1 := by
  unfold idxS
  rw [if_neg]
  intro h
  have := List.findIdx_getElem (w := h)
  rw [hb _ h] at this
  cases this
theorem idxS_any (p : ByteArray → Bool) (l : List ByteArray) : decide (0 ≤ idxS p l) = l.any p := by
  unfold idxS
  rw [Bool.eq_iff_iff, decide_eq_true_iff, List.any_eq_true]
  split
  · rename_i h
    exact ⟨fun _ => ⟨_, List.getElem_mem h, List.findIdx_getElem (w := h)⟩, fun _ => by omega⟩
  · rename_i h
    constructor
    · intro h; omega
    · rintro ⟨x, hx, hp⟩
      exact absurd (List.findIdx_lt_length_of_exists ⟨x, hx, hp⟩) h
theorem idxS_ge (p : ByteArray → Bool) (l : List ByteArray) : -1 ≤ idxS p l := by unfold idxS; split <;> omega
theorem idxS_lt (p : ByteArray → Bool) (l : List ByteArray) : idxS p l < l.length := by unfold idxS; split <;> omega

set_option maxHeartbeats 1000000 in
theorem indexFunc_any (g : Nat) (lb : Array Value) (eg : ∀ args w, (callFunc g args).run Tryz.prog w = .ok (.enter g args) w) (A : Option Addr) (n c : Nat) (l : List ByteArray) (w : World) (p : ByteArray → Bool)
    (hl : SS w A l) (hn : l.length = n) (hbig : n ≤ 9223372036854775807) (hp : PredS g lb w l p) :
    Calls Tryz.prog 67 #[.slice A n c, .func (.func g) #[] lb] w fun e w' => e = .returned (.int .i64 (idxS p l)) ∧ Below w.heap.size w w' := by
  have HN := Lib.hid hn
  clear hn
  obtain ⟨r, hr⟩ : ∃ r, r = idxS p l := ⟨_, rfl⟩
  rw [← hr]
  have HR := Lib.hid hr
  clear hr
  go_enter Tryz.func67, Tryz.ntmps67
  go_wp2
  go_loopw [5, 8] (fun _ i wr => ∃ k : Nat, k ≤ n ∧ i = .int .i64 k ∧ Hid (∀ j (hj : j < l.length), j < k → p l[j] = false) ∧ Hid (Below w.heap.size w wr)) (fun _ i _ => n - (intOf i).toNat)
  case atStart => exact ⟨0, Nat.zero_le _, rfl, Lib.hid (fun j hj h => by omega), Lib.hid (Below.refl _ _)⟩
  case round =>
    obtain ⟨k, hk, rfl, HB, HW⟩ := hrel
    rcases (by omega : k < n ∨ k = n) with hlt | heq
    · have hkl : k < l.length := by rw [HN.out]; exact hlt
      obtain ⟨ad, rfl, hb, hc⟩ := (hl.below HW.out).at_ hkl
      have hcall := hp k hkl wr HW.out
      clear hl hp
      have hki : (k : Int) < (n : Int) := by omega
      obtain ⟨x, hx⟩ : ∃ x, x = l[k] := ⟨_, rfl⟩
      rw [← hx] at hc hcall
      have HX := Lib.hid hx
      clear hx
      cases hq : p x with
      | true =>
        rw [hq] at hcall
        have HQ := Lib.hid hq
        clear hq
        have HI : Hid (r = (k : Int)) := by show _ = _; rw [HR.out]; exact idxS_hit p l k hkl (by rw [← HX.out]; exact HQ.out) (fun j hj h => HB.out j hj h)
        go_wp2_with (go_at_fn g; refine hcall.mono ?_; rintro e w' ⟨rfl, hb'⟩)
        go_ret
        exact ⟨by rw [HI.out]; rfl, hb'⟩
      | false =>
        rw [hq] at hcall
        have HQ := Lib.hid hq
        clear hq
        go_wp2_with (go_at_fn g; refine hcall.mono ?_; rintro e w' ⟨rfl, hb'⟩)
        go_roundw
        case rel => exact ⟨k + 1, by omega, by go_num, Lib.hid (fun j hj h => by
          rcases (by omega : j < k ∨ j = k) with h1 | h1
          · exact HB.out j hj h1
          · subst h1; rw [← HX.out]; exact HQ.out), Lib.hid hb'⟩
        case measure => simp [intOf]; omega
    · have e1 : ¬ (k : Int) < (n : Int) := by omega
      have HI : Hid (r = -1) := by show _ = _; rw [HR.out]; exact idxS_miss p l (fun j hj => HB.out j hj (by rw [HN.out] at hj; omega))
      clear heq hl hp
      go_wp2
      go_ret
      exact ⟨by rw [HI.out]; rfl, HW.out⟩

set_option maxHeartbeats 1000000 in
theorem containsFunc_any (g : Nat) (lb : Array Value) (eg : ∀ args w, (callFunc g args).run Tryz.prog w = .ok (.enter g args) w) (A : Option Addr) (n c : Nat) (l : List ByteArray) (w : World) (p : ByteArray → Bool)
    (hl : SS w A l) (hn : l.length = n) (hbig : n ≤ 9223372036854775807) (hp : PredS g lb w l p) :
    Calls Tryz.prog 56 #[.slice A n c, .func (.func g) #[] lb] w fun e w' => e = .returned (.bool (l.any p)) ∧ Below w.heap.size w w' := by
  have H := indexFunc_any g lb eg A n c l w p hl hn hbig hp
  rw [← idxS_any]
  obtain ⟨r, hr⟩ : ∃ r, r = idxS p l := ⟨_, rfl⟩
  rw [← hr] at H ⊢
  clear hr hl hn hp
  have HH := Lib.hid H
  clear H
  go_enter Tryz.func56, Tryz.ntmps56
  go_wp2_with fail
  refine HH.out.mono ?_
  rintro e w' ⟨rfl, hb⟩
  go_wp2
  go_ret
  exact ⟨rfl, hb⟩

/-- what a function value at two strings is asked -/
def PredS2 (g : Nat) (lb : Array Value) (w : World) (l m : List ByteArray) (p : ByteArray → ByteArray → Bool) : Prop :=
  ∀ (k : Nat) (hk : k < l.length) (hm : k < m.length) (W : World), Below w.heap.size w W → Calls Tryz.prog g (#[.string l[k], .string m[k]] ++ lb) W fun e w' => e = .returned (.bool (p l[k] m[k])) ∧ Below w.heap.size w w'
def allS (p : ByteArray → ByteArray → Bool) : List ByteArray → List ByteArray → Bool
  | [], [] => true
  | a :: l, b :: m => p a b && allS p l m
  | _, _ => false
theorem allS_len (p : ByteArray → ByteArray → Bool) : ∀ (l m : List ByteArray), l.length ≠ m.length → allS p l m = false
  | [], [], h => absurd rfl h
  | [], _ :: _, _ => rfl
  | _ :: _, [], _ => rfl
  | a :: l, b :: m, h => by
    rw [allS, allS_len p l m (by simpa using h)]; simp
theorem allS_step (p : ByteArray → ByteArray → Bool) {l m : List ByteArray} {k : Nat} (h1 : k < l.length) (h2 : k < m.length) : allS p (l.drop k) (m.drop k) = (p l[k] m[k] && allS p (l.drop (k + 1)) (m.drop (k + 1))) := by
  rw [List.drop_eq_getElem_cons h1, List.drop_eq_getElem_cons h2]; rfl

theorem equalFunc_len (g : Nat) (lb : Array Value) (A B : Option Addr) (n m c d : Nat) (w : World) (h : n ≠ m) (hn : n ≤ 9223372036854775807) (hm : m ≤ 9223372036854775807) :
    Calls Tryz.prog 82 #[.slice A n c, .slice B m d, .func (.func g) #[] lb] w fun e w' => e = .returned (.bool false) ∧ Below w.heap.size w w' := by
  have h1 : ((n : Int) != m) = true := by simp; omega
  go_enter Tryz.func82, Tryz.ntmps82
  go_wp2
  go_ret
  exact ⟨rfl, Below.refl _ _⟩
set_option maxHeartbeats 1000000 in
theorem equalFunc_any (g : Nat) (lb : Array Value) (eg : ∀ args w, (callFunc g args).run Tryz.prog w = .ok (.enter g args) w) (A B : Option Addr) (n c d : Nat) (l m : List ByteArray) (w : World) (p : ByteArray → ByteArray → Bool)
    (hl : SS w A l) (hm : SS w B m) (hn : l.length = n) (hn2 : m.length = n) (hbig : n ≤ 9223372036854775807) (hp : PredS2 g lb w l m p) :
    Calls Tryz.prog 82 #[.slice A n c, .slice B n d, .func (.func g) #[] lb] w fun e w' => e = .returned (.bool (allS p l m)) ∧ Below w.heap.size w w' := by
  have HN := Lib.hid hn
  have HN2 := Lib.hid hn2
  clear hn hn2
  have h1 : ((n : Int) != n) = false := by simp
  obtain ⟨r, hr⟩ : ∃ r, r = allS p l m := ⟨_, rfl⟩
  rw [← hr]
  have HR := Lib.hid hr
  clear hr
  go_enter Tryz.func82, Tryz.ntmps82
  go_wp2
  go_loopw [7, 8, 9, 17] (fun _ _ _ i wr => ∃ k : Nat, k ≤ n ∧ i = .int .i64 k ∧ Hid (r = allS p (l.drop k) (m.drop k)) ∧ Hid (Below w.heap.size w wr)) (fun _ _ _ i _ => n - (intOf i).toNat)
  case atStart => exact ⟨0, Nat.zero_le _, rfl, Lib.hid HR.out, Lib.hid (Below.refl _ _)⟩
  case round =>
    obtain ⟨k, hk, rfl, HB, HW⟩ := hrel
    rcases (by omega : k < n ∨ k = n) with hlt | heq
    · have hkl : k < l.length := by rw [HN.out]; exact hlt
      have hkm : k < m.length := by rw [HN2.out]; exact hlt
      obtain ⟨ad, rfl, hb, hc⟩ := (hl.below HW.out).at_ hkl
      obtain ⟨bd, rfl, hb2, hc2⟩ := (hm.below HW.out).at_ hkm
      have hcall := hp k hkl hkm wr HW.out
      clear hl hp hm
      have hki : (k : Int) < (n : Int) := by omega
      have hst := allS_step p hkl hkm
      obtain ⟨x, hx⟩ : ∃ x, x = l[k] := ⟨_, rfl⟩
      obtain ⟨y, hy⟩ : ∃ y, y = m[k] := ⟨_, rfl⟩
      rw [← hx] at hc hcall hst
      rw [← hy] at hc2 hcall hst
      clear hx hy
      have HST := Lib.hid hst
      clear hst
      cases hq : p x y with
      | true =>
        rw [hq] at hcall
        have HI : Hid (r = allS p (l.drop (k + 1)) (m.drop (k + 1))) := by show _ = _; rw [HB.out, HST.out, hq]; rfl
        clear hq
        go_wp2_with (go_at_fn g; refine hcall.mono ?_; rintro e w' ⟨rfl, hb'⟩)
        go_roundw
        case rel => exact ⟨k + 1, by omega, by go_num, HI, Lib.hid hb'⟩
        case measure => simp [intOf]; omega
      | false =>
        rw [hq] at hcall
        have HI : Hid (r = false) := by show _ = _; rw [HB.out, HST.out, hq]; rfl
        clear hq
        go_wp2_with (go_at_fn g; refine hcall.mono ?_; rintro e w' ⟨rfl, hb'⟩)
        go_ret
        exact ⟨by rw [HI.out]; rfl, hb'⟩
    · have e1 : ¬ (k : Int) < (n : Int) := by omega
      have HI : Hid (r = true) := by show _ = _; rw [HB.out, List.drop_of_length_le (by rw [HN.out]; omega), List.drop_of_length_le (by rw [HN2.out]; omega)]; rfl
      clear heq hl hp hm
      go_wp2
      go_ret
      exact ⟨by rw [HI.out]; rfl, HW.out⟩
end Go.Proofs.YthidjdjcjjbpbaaGreatDoor

namespace Go.Proofs.YthidjdjcjjbpbaaGreatDoor
open Go.RowKit Glob
set_option linter.unusedVariables false

namespace Glob
def okB (c : UInt8) : Bool := decide (33 ≤ c.toNat) && decide (c.toNat ≤ 126)
def plainL (not s : List UInt8) : Bool := s.all okB && (not.all (fun c => !s.contains c) && (!s.isEmpty && decide (s.length ≤ 128)))
theorem index_has (s : List UInt8) (c : UInt8) : s.contains c = decide (0 ≤ Lib.indexByte s c) := by
  induction s with
  | nil => rfl
  | cons b s ih =>
    unfold Lib.indexByte
    rw [List.contains_cons, ih]
    have hg := Lib.indexByte_ge s c
    by_cases h : b = c
    · subst h; simp
    · have h1 : (b == c) = false := beq_eq_false_iff_ne.2 h
      have h2 : (c == b) = false := beq_eq_false_iff_ne.2 (Ne.symm h)
      rw [h1, h2]
      simp only [Bool.false_or, Bool.false_eq_true, if_false]
      split
      · rename_i e; rw [beq_iff_eq] at e; rw [e]
      · rename_i e
        have e' : Lib.indexByte s c ≠ -1 := fun x => e (beq_iff_eq.2 x)
        rw [decide_eq_true (show 0 ≤ Lib.indexByte s c by omega), decide_eq_true (show 0 ≤ Lib.indexByte s c + 1 by omega)]
theorem plain_bad (t s : List UInt8) (c : UInt8) (h : c ∈ s) (hc : okB c = false) : plainL t s = false := by
  unfold plainL
  have : s.all okB = false := by rw [List.all_eq_false]; exact ⟨c, h, by rw [hc]; simp⟩
  rw [this]; rfl
theorem plain_has (t s : List UInt8) (c : UInt8) (h : c ∈ t) (hc : s.contains c = true) : plainL t s = false := by
  unfold plainL
  have : t.all (fun c => !s.contains c) = false := by rw [List.all_eq_false]; exact ⟨c, h, by rw [hc]; simp⟩
  rw [this]; simp
theorem mem_at (s : ByteArray) (k : Nat) (h : k < s.size) : s[k] ∈ s.data.toList := Array.mem_toList_iff.2 (Array.getElem_mem (xs := s.data) h)
end Glob

set_option maxHeartbeats 1600000 in
theorem plain_any (s t : ByteArray) (w : World) (hs : s.size ≤ 140737488351232) (ht : t.size ≤ 100) : Calls Tryz.prog 45 #[.string s, .string t] w fun e w' => e = .returned (.bool (plainL t.data.toList s.data.toList)) ∧ ∃ pos, w' = w.iter s pos := by
  have hsl : s.data.toList.length = s.size := by cases s; simp [ByteArray.size]
  have htl : t.data.toList.length = t.size := by cases t; simp [ByteArray.size]
  have HSL := Lib.hid hsl
  have HTL := Lib.hid htl
  clear hsl htl
  obtain ⟨r, hr⟩ : ∃ r, r = plainL t.data.toList s.data.toList := ⟨_, rfl⟩
  rw [← hr]
  have HR := Lib.hid hr
  clear hr
  go_enter Tryz.func45, Tryz.ntmps45
  go_wp2
  go_loopw [6] (fun _ wr => ∃ k : Nat, k ≤ s.size ∧ Hid ((s.data.toList.take k).all okB = true) ∧ wr = w.iter s k) (fun _ wr => s.size - wr.iterPos w.heap.size)
  case atStart => exact ⟨0, Nat.zero_le _, Lib.hid rfl, rfl⟩
  case round =>
    obtain ⟨k, hk, HB, rfl⟩ := hrel
    rcases (by omega : k < s.size ∨ k = s.size) with hlt | heq
    · rcases (by omega : (s[k]'hlt).toNat < 128 ∨ 128 ≤ (s[k]'hlt).toNat) with ha | ha
      · have hnx := fun ty => run_next_ascii (P := Tryz.prog) w s k ty hlt ha
        obtain ⟨c, hc⟩ : ∃ c, c = s[k]'hlt := ⟨_, rfl⟩
        rw [← hc] at hnx ha
        have HC := Lib.hid hc
        clear hc
        rcases (by omega : c.toNat < 33 ∨ (33 ≤ c.toNat ∧ 126 < c.toNat) ∨ (33 ≤ c.toNat ∧ c.toNat ≤ 126)) with g | ⟨g, g2⟩ | ⟨g, g2⟩
        · have e1 : decide ((c.toNat : Int) < 33) = true := by rw [decide_eq_true_iff]; omega
          have HI : Hid (r = false) := by
            show _ = _
            rw [HR.out]
            exact plain_bad t.data.toList s.data.toList c (by rw [HC.out]; exact mem_at s k hlt) (by unfold okB; rw [Bool.and_eq_false_iff, decide_eq_false_iff_not, decide_eq_false_iff_not]; omega)
          go_wp2
          go_ret
          exact ⟨by rw [HI.out]; rfl, _, rfl⟩
        · have e1 : decide ((c.toNat : Int) < 33) = false := by rw [decide_eq_false_iff_not]; omega
          have e2 : decide (126 < (c.toNat : Int)) = true := by rw [decide_eq_true_iff]; omega
          have HI : Hid (r = false) := by
            show _ = _
            rw [HR.out]
            exact plain_bad t.data.toList s.data.toList c (by rw [HC.out]; exact mem_at s k hlt) (by unfold okB; rw [Bool.and_eq_false_iff, decide_eq_false_iff_not, decide_eq_false_iff_not]; omega)
          go_wp2
          go_ret
          exact ⟨by rw [HI.out]; rfl, _, rfl⟩
        · have e1 : decide ((c.toNat : Int) < 33) = false := by rw [decide_eq_false_iff_not]; omega
          have e2 : decide (126 < (c.toNat : Int)) = false := by rw [decide_eq_false_iff_not]; omega
          have HI : Hid ((s.data.toList.take (k + 1)).all okB = true) := by
            show _ = _
            rw [List.take_succ_eq_append_getElem (by rw [HSL.out]; exact hlt), List.all_append, HB.out]
            show okB s[k] && true = true
            rw [← HC.out]
            unfold okB
            rw [decide_eq_true g, decide_eq_true g2]; rfl
          go_wp2
          go_roundw
          case rel => exact ⟨k + 1, by omega, HI, rfl⟩
          case measure => rw [World.iterPos_iter, World.iterPos_iter]; omega
      · have hnx := fun ty => run_next_any (P := Tryz.prog) w s k ty hlt
        obtain ⟨hd, _⟩ := decode_high s k hlt ha
        have hd2 := decode_le s k
        obtain ⟨z, hz⟩ : ∃ z, z = (Utf8.decode s k).1 := ⟨_, rfl⟩
        obtain ⟨y, hy⟩ : ∃ y, y = (Utf8.decode s k).2 := ⟨_, rfl⟩
        rw [← hz, ← hy] at hnx
        rw [← hz] at hd hd2
        clear hz hy
        have e1 : decide ((z : Int) < 33) = false := by rw [decide_eq_false_iff_not]; omega
        have e2 : decide (126 < (z : Int)) = true := by rw [decide_eq_true_iff]; omega
        have HI : Hid (r = false) := by
          show _ = _
          rw [HR.out]
          exact plain_bad t.data.toList s.data.toList (s[k]'hlt) (mem_at s k hlt) (by unfold okB; rw [Bool.and_eq_false_iff, decide_eq_false_iff_not, decide_eq_false_iff_not]; omega)
        go_wp2
        go_ret
        exact ⟨by rw [HI.out]; rfl, _, rfl⟩
    · have hnx := fun ty => run_next_end (P := Tryz.prog) w s k ty (by omega)
      have HA : Hid (s.data.toList.all okB = true) := by show _ = _; rw [← HB.out, heq, List.take_of_length_le (by rw [HSL.out]; omega)]
      clear heq
      go_wp2
      go_loopw [7, 21] (fun _ i wr => ∃ j : Nat, j ≤ t.size ∧ i = .int .i64 j ∧ Hid ((t.data.toList.take j).all (fun c => !s.data.toList.contains c) = true) ∧ wr = w.iter s k) (fun _ i _ => t.size - (intOf i).toNat)
      case atStart => exact ⟨0, Nat.zero_le _, rfl, Lib.hid rfl, rfl⟩
      case round =>
        obtain ⟨j, hj, rfl, HJ, rfl⟩ := hrel
        rcases (by omega : j < t.size ∨ j = t.size) with hlt | heq
        · obtain ⟨c, hc⟩ : ∃ c, c = t[j]'hlt := ⟨_, rfl⟩
          have hc' := hc.symm
          have HC := Lib.hid hc
          clear hc
          have hix := index_has s.data.toList c
          have hge := Lib.indexByte_ge s.data.toList c
          obtain ⟨z, hz⟩ : ∃ z, z = Lib.indexByte s.data.toList c := ⟨_, rfl⟩
          have hcall := fun w => Tryz.strings_IndexByte s (c.toNat : Int) w
          rw [show ((c.toNat : Int)).toNat.toUInt8 = c from by simp] at hcall
          rw [← hz] at hix hge hcall
          clear hz
          have HCALL := Lib.hid hcall
          clear hcall
          have hj0 : (j : Int) < (t.size : Int) := by omega
          rcases (by omega : 0 ≤ z ∨ z = -1) with g | g
          · have HI : Hid (r = false) := by
              show _ = _
              rw [HR.out]
              exact plain_has t.data.toList s.data.toList c (by rw [HC.out]; exact mem_at t j hlt) (by rw [hix]; exact decide_eq_true g)
            clear hix
            go_wp2_with fail
            refine (HCALL.out _).mono ?_
            rintro e w' ⟨rfl, rfl⟩
            go_wp2
            go_ret
            exact ⟨by rw [HI.out]; rfl, _, rfl⟩
          · have HI : Hid ((t.data.toList.take (j + 1)).all (fun c => !s.data.toList.contains c) = true) := by
              show _ = _
              rw [List.take_succ_eq_append_getElem (by rw [HTL.out]; exact hlt), List.all_append, HJ.out]
              show (!s.data.toList.contains t[j] && true) = true
              rw [← HC.out, hix, g]; rfl
            clear hix
            subst g
            go_wp2_with fail
            refine (HCALL.out _).mono ?_
            rintro e w' ⟨rfl, rfl⟩
            go_wp2
            go_roundw
            case rel => exact ⟨j + 1, by omega, by go_num, HI, trivial⟩
            case measure => simp [intOf]; omega
        · have e0 : decide (j < t.size) = false := by rw [decide_eq_false_iff_not]; omega
          have HT : Hid (t.data.toList.all (fun c => !s.data.toList.contains c) = true) := by show _ = _; rw [← HJ.out, heq, List.take_of_length_le (by rw [HTL.out]; omega)]
          have HI : Hid (r = (!s.data.toList.isEmpty && decide (s.size ≤ 128))) := by
            show _ = _
            rw [HR.out]; unfold plainL; rw [HA.out, HT.out, HSL.out]; rfl
          clear heq
          have HZ : Hid (decide ((s.size : Int) ≤ 128) = decide (s.size ≤ 128)) := by show _ = _; rw [Bool.eq_iff_iff, decide_eq_true_iff, decide_eq_true_iff]; omega
          go_wp2
          · rename_i h
            go_ret
            exact ⟨by rw [HI.out, ← Lib.toList_data, h]; rfl, _, rfl⟩
          · go_ret
            exact ⟨by rw [HI.out, ← Lib.toList_data]; simp; rw [HZ.out], _, rfl⟩
end Go.Proofs.YthidjdjcjjbpbaaGreatDoor

namespace Go.Proofs.YthidjdjcjjbpbaaGreatDoor
open Go.RowKit Glob
set_option linter.unusedVariables false

namespace Glob
def segBad (x : List UInt8) : Bool := x == [] || (x == [46] || x == [46, 46])
def segsL (s : List UInt8) : Bool := !(cutS 47 s).any segBad
def patL (s : List UInt8) : Bool := plainL [91, 93, 123, 125, 92] s && segsL s
def pathL (s : List UInt8) : Bool := plainL [91, 93, 123, 125, 92, 42, 63] s && segsL s
end Glob
/-- package bytealg's length is laid -/
def Tab (w : World) : Prop := 0 < w.heap.size ∧ ∃ m, w.cell? ⟨0, 0, none⟩ = some (.int .i64 m)
theorem Tab.below {w w' : World} (h : Tab w) (hb : Below w.heap.size w w') : Tab w' := by
  obtain ⟨h0, m, hm⟩ := h
  exact ⟨Nat.lt_of_lt_of_le h0 hb.size, m, by rw [hb.cell (p := ⟨0, 0, none⟩) h0]; exact hm⟩
theorem Tab.of {w w' : World} {B : Nat} (h : Tab w) (hB : w.heap.size ≤ B) (hb : Below B w w') : Tab w' := h.below (hb.mono hB)
theorem seg_val (x : ByteArray) : segBad x.data.toList = (x.toList == [] || (x.toList == [46] || x.toList == [46, 46])) := by rw [Lib.toList_data]; rfl
set_option maxHeartbeats 1000000 in
theorem seg_any (x : ByteArray) (w : World) : Calls Tryz.prog 58 #[.string x] w fun e w' => e = .returned (.bool (segBad x.data.toList)) ∧ w' = w := by
  have hv := seg_val x
  obtain ⟨r, hr⟩ : ∃ r, r = segBad x.data.toList := ⟨_, rfl⟩
  rw [← hr] at hv ⊢
  clear hr
  by_cases h0 : x.toList = []
  · have HV : Hid (r = true) := by show _ = _; rw [hv, h0]; rfl
    have hb : x.toList.isEmpty = true := by rw [h0]; rfl
    clear hv
    go_enter Tryz.func58, Tryz.ntmps58
    go_wp2
    go_ret
    exact ⟨by rw [HV.out]; rfl, rfl⟩
  · have h0' : (x.toList == []) = false := beq_eq_false_iff_ne.2 h0
    have hb : x.toList.isEmpty = false := by rw [List.isEmpty_eq_false_iff]; exact h0
    cases h1 : (x.toList == [46]) with
    | true =>
      have HV : Hid (r = true) := by show _ = _; rw [hv, h0', h1]; rfl
      clear hv
      go_enter Tryz.func58, Tryz.ntmps58
      go_wp2
      go_ret
      exact ⟨by rw [HV.out]; rfl, rfl⟩
    | false =>
      cases h2 : (x.toList == [46, 46]) with
      | true =>
        have HV : Hid (r = true) := by show _ = _; rw [hv, h0', h1, h2]; rfl
        clear hv
        go_enter Tryz.func58, Tryz.ntmps58
        go_wp2
        go_ret
        exact ⟨by rw [HV.out]; rfl, rfl⟩
      | false =>
        have HV : Hid (r = false) := by show _ = _; rw [hv, h0', h1, h2]; rfl
        clear hv
        go_enter Tryz.func58, Tryz.ntmps58
        go_wp2
        go_ret
        exact ⟨by rw [HV.out]; rfl, rfl⟩
theorem split_any (s : ByteArray) (c : UInt8) (w : World) (hs : s.size ≤ 100000) (hT : Tab w) : Calls Tryz.prog 57 #[.string s, .string ⟨#[c]⟩] w fun e w' =>
    ∃ l : List ByteArray, l.map (·.data.toList) = cutS c s.data.toList ∧ e = .returned (.slice (some ⟨w.heap.size, 0, none⟩) l.length l.length) ∧ w' = w.alloc (.cells (l.map Value.string).toArray 9) := by
  obtain ⟨_, m, hm⟩ := hT
  refine (Tryz.strings_Split s ⟨#[c]⟩ m w (by omega) hm (Nat.le_refl 1)).mono ?_
  rintro e w' ⟨rfl, rfl⟩
  have h1 := splitB_cutS c s
  have h2 := countB_cutS c s
  refine ⟨_, h1, ?_, rfl⟩
  rw [show (Lib.splitB ⟨#[c]⟩ 0 (Lib.countB s ⟨#[c]⟩) s).length = Lib.countB s ⟨#[c]⟩ + 1 from by rw [h2, ← h1, List.length_map]]
theorem cutS_len (c : UInt8) : ∀ (l : List UInt8), (cutS c l).length ≤ l.length + 1
  | [] => by simp [cutS]
  | b :: l => by
    have := cutS_len c l
    unfold cutS
    split
    · simp; omega
    · simp; omega
theorem any_map (l : List ByteArray) (p : List UInt8 → Bool) : l.any (fun x => p x.data.toList) = (l.map (·.data.toList)).any p := by rw [List.any_map]; rfl
set_option maxHeartbeats 1000000 in
theorem segments_any (s : ByteArray) (w : World) (hs : s.size ≤ 100000) (hT : Tab w) : Calls Tryz.prog 46 #[.string s] w fun e w' => e = .returned (.bool (segsL s.data.toList)) ∧ Below w.heap.size w w' := by
  obtain ⟨r, hr⟩ : ∃ r, r = segsL s.data.toList := ⟨_, rfl⟩
  rw [← hr]
  have HR := Lib.hid hr
  have HS := Lib.hid (split_any s 47 w hs hT)
  clear hr
  go_enter Tryz.func46, Tryz.ntmps46
  go_wp2_with fail
  refine HS.out.mono ?_
  rintro e w' ⟨l, hl, rfl, rfl⟩
  have hll : l.length ≤ 100001 := by
    have h1 := cutS_len 47 s.data.toList
    rw [← hl, List.length_map] at h1
    have h2 : s.data.toList.length = s.size := by cases s; simp [ByteArray.size]
    omega
  have HI : Hid (r = !(l.any (fun x => segBad x.data.toList))) := by show _ = _; rw [HR.out, any_map, hl]; rfl
  have HC := Lib.hid (containsFunc_any 58 #[] (enters_of Tryz.func58 (by kernel_rfl) rfl) (some ⟨w.heap.size, 0, none⟩) l.length l.length l _ (fun x => segBad x.data.toList) (SS.of_block (Blk.new w 9 (l.map Value.string).toArray)) rfl (by omega)
    (fun k hk W hb => (seg_any l[k] W).mono fun e w' ⟨he, hw⟩ => ⟨he, by rw [hw]; exact hb⟩))
  clear hl
  go_wp2_with fail
  refine HC.out.mono ?_
  rintro e w' ⟨rfl, hb⟩
  go_wp2
  go_ret
  exact ⟨by rw [HI.out]; simp, (Below.alloc (Below.refl _ _) (Nat.le_refl _) _).trans (hb.mono (by simp))⟩
theorem plainL_len (t s : List UInt8) (h : plainL t s = true) : 1 ≤ s.length ∧ s.length ≤ 128 := by
  unfold plainL at h
  simp only [Bool.and_eq_true, Bool.not_eq_true', decide_eq_true_eq] at h
  refine ⟨?_, h.2.2.2⟩
  cases s with
  | nil => simp at h
  | cons a s => simp
theorem below_iter {w w' : World} {s : ByteArray} {p : Nat} (hb : Below (w.iter s p).heap.size (w.iter s p) w') : Below w.heap.size w w' :=
  (Below.alloc (Below.refl _ _) (Nat.le_refl _) _).trans (hb.mono (by simp [World.iter]))
theorem below_iter' (w : World) (s : ByteArray) (p : Nat) : Below w.heap.size w (w.iter s p) := Below.alloc (Below.refl _ _) (Nat.le_refl _) _
set_option maxHeartbeats 1000000 in
theorem pattern_any (s : ByteArray) (w : World) (hs : s.size ≤ 100000) (hT : Tab w) : Calls Tryz.prog 81 #[.string s] w fun e w' => e = .returned (.bool (patL s.data.toList)) ∧ Below w.heap.size w w' := by
  have HP := Lib.hid (fun w => plain_any s ⟨#[91, 93, 123, 125, 92]⟩ w (by omega) (by decide))
  have HS := Lib.hid (fun w h => segments_any s w hs h)
  obtain ⟨r, hr⟩ : ∃ r, r = patL s.data.toList := ⟨_, rfl⟩
  rw [← hr]
  cases hp : plainL [91, 93, 123, 125, 92] s.data.toList with
  | false =>
    have HI : Hid (r = false) := by show _ = _; rw [hr]; unfold patL; rw [hp]; rfl
    rw [show (⟨#[91, 93, 123, 125, 92]⟩ : ByteArray).data.toList = [91, 93, 123, 125, 92] from rfl, hp] at HP
    clear hr hp
    go_enter Tryz.func81, Tryz.ntmps81
    go_wp2_with fail
    refine (HP.out _).mono ?_
    rintro e w' ⟨rfl, pos, rfl⟩
    go_wp2
    go_ret
    exact ⟨by rw [HI.out]; rfl, below_iter' _ _ _⟩
  | true =>
    have HI : Hid (r = segsL s.data.toList) := by show _ = _; rw [hr]; unfold patL; rw [hp]; rfl
    rw [show (⟨#[91, 93, 123, 125, 92]⟩ : ByteArray).data.toList = [91, 93, 123, 125, 92] from rfl, hp] at HP
    clear hr hp
    go_enter Tryz.func81, Tryz.ntmps81
    go_wp2_with fail
    refine (HP.out _).mono ?_
    rintro e w' ⟨rfl, pos, rfl⟩
    go_wp2_with fail
    refine (HS.out _ (hT.below (below_iter' _ _ _))).mono ?_
    rintro e w' ⟨rfl, hb⟩
    go_wp2
    go_ret
    exact ⟨by rw [HI.out]; simp, below_iter hb⟩
set_option maxHeartbeats 1000000 in
theorem path_any (s : ByteArray) (w : World) (hs : s.size ≤ 100000) (hT : Tab w) : Calls Tryz.prog 34 #[.string s] w fun e w' => e = .returned (.bool (pathL s.data.toList)) ∧ Below w.heap.size w w' := by
  have HP := Lib.hid (fun w => plain_any s ⟨#[91, 93, 123, 125, 92, 42, 63]⟩ w (by omega) (by decide))
  have HS := Lib.hid (fun w h => segments_any s w hs h)
  obtain ⟨r, hr⟩ : ∃ r, r = pathL s.data.toList := ⟨_, rfl⟩
  rw [← hr]
  cases hp : plainL [91, 93, 123, 125, 92, 42, 63] s.data.toList with
  | false =>
    have HI : Hid (r = false) := by show _ = _; rw [hr]; unfold pathL; rw [hp]; rfl
    rw [show (⟨#[91, 93, 123, 125, 92, 42, 63]⟩ : ByteArray).data.toList = [91, 93, 123, 125, 92, 42, 63] from rfl, hp] at HP
    clear hr hp
    go_enter Tryz.func34, Tryz.ntmps34
    go_wp2_with fail
    refine (HP.out _).mono ?_
    rintro e w' ⟨rfl, pos, rfl⟩
    go_wp2
    go_ret
    exact ⟨by rw [HI.out]; rfl, below_iter' _ _ _⟩
  | true =>
    have HI : Hid (r = segsL s.data.toList) := by show _ = _; rw [hr]; unfold pathL; rw [hp]; rfl
    rw [show (⟨#[91, 93, 123, 125, 92, 42, 63]⟩ : ByteArray).data.toList = [91, 93, 123, 125, 92, 42, 63] from rfl, hp] at HP
    clear hr hp
    go_enter Tryz.func34, Tryz.ntmps34
    go_wp2_with fail
    refine (HP.out _).mono ?_
    rintro e w' ⟨rfl, pos, rfl⟩
    go_wp2_with fail
    refine (HS.out _ (hT.below (below_iter' _ _ _))).mono ?_
    rintro e w' ⟨rfl, hb⟩
    go_wp2
    go_ret
    exact ⟨by rw [HI.out]; simp, below_iter hb⟩
/-- glob.Split: the segments, in memory of the call's own -/
theorem gsplit_yes (s : ByteArray) (w : World) (hs : s.size ≤ 100000) (hT : Tab w) (h : patL s.data.toList = true) : Calls Tryz.prog 83 #[.string s] w fun e w' =>
    ∃ (A : Option Addr) (l : List ByteArray), l.map (·.data.toList) = cutS 47 s.data.toList ∧ e = .returned (.slice A l.length l.length) ∧ SS w' A l ∧ Below w.heap.size w w' := by
  have HP := pattern_any s w hs hT
  rw [h] at HP
  have HP := Lib.hid HP
  have HS := Lib.hid (fun w h => split_any s 47 w hs h)
  clear h
  go_enter Tryz.func83, Tryz.ntmps83
  go_wp2_with fail
  refine HP.out.mono ?_
  rintro e w' ⟨rfl, hb⟩
  go_wp2_with fail
  refine (HS.out _ (hT.below hb)).mono ?_
  rintro e w'' ⟨l, hl, rfl, rfl⟩
  have HL := Lib.hid hl
  clear hl
  go_wp2
  go_ret
  exact ⟨_, l, HL.out, rfl, SS.of_block (Blk.new _ _ _), hb.alloc hb.size _⟩
theorem gsplit_no (s : ByteArray) (w : World) (hs : s.size ≤ 100000) (hT : Tab w) (h : patL s.data.toList = false) : Calls Tryz.prog 83 #[.string s] w fun e w' => e = .returned (.slice none 0 0) ∧ Below w.heap.size w w' := by
  have HP := pattern_any s w hs hT
  rw [h] at HP
  have HP := Lib.hid HP
  clear h
  go_enter Tryz.func83, Tryz.ntmps83
  go_wp2_with fail
  refine HP.out.mono ?_
  rintro e w' ⟨rfl, hb⟩
  go_wp2
  go_ret
  exact ⟨rfl, hb⟩
end Go.Proofs.YthidjdjcjjbpbaaGreatDoor
