/-
  Two segments that meet: a search with the places seen, and what is to be reached: the plain law.
-/
import Derived.Test.YtodkjhbnodcbhaaDoorGlobPlain
namespace Go.Proofs.YtodkjhbnodcbhaaDoor.Glob

def star (l : List UInt8) (i : Nat) : Bool := l[i]? == some 42
def signL (p q : List UInt8) (i k : Nat) : Bool := p[i]? == q[k]? || p[i]? == some 63 || q[k]? == some 63
/-- a step of the search -/
def Edge (p q : List UInt8) (v u : Nat × Nat) : Prop :=
  (star p v.1 = true ∧ u = (v.1 + 1, v.2)) ∨ (star q v.2 = true ∧ u = (v.1, v.2 + 1)) ∨
  (star p v.1 = true ∧ star q v.2 = false ∧ v.2 < q.length ∧ u = (v.1, v.2 + 1)) ∨
  (star q v.2 = true ∧ star p v.1 = false ∧ v.1 < p.length ∧ u = (v.1 + 1, v.2)) ∨
  (star p v.1 = false ∧ star q v.2 = false ∧ v.1 < p.length ∧ v.2 < q.length ∧ signL p q v.1 v.2 = true ∧ u = (v.1 + 1, v.2 + 1))
/-- the end is to be reached -/
inductive Ov (p q : List UInt8) : Nat × Nat → Prop
  | fin : Ov p q (p.length, q.length)
  | step {v u : Nat × Nat} : Edge p q v u → Ov p q u → Ov p q v
/-- the code's search -/
def meetF (p q : List UInt8) : Nat → Nat → Nat → List (Nat × Nat) → Bool × List (Nat × Nat)
  | 0, _, _, S => (false, S)
  | f + 1, i, k, S =>
    if (i, k) ∈ S then (false, S) else
    if i = p.length ∧ k = q.length then (true, (i, k) :: S) else
    let A := if star p i then meetF p q f (i + 1) k ((i, k) :: S) else (false, (i, k) :: S)
    if A.1 then A else
    let B := if star q k then meetF p q f i (k + 1) A.2 else (false, A.2)
    if B.1 then B else
    if star p i = true ∧ star q k = false ∧ k < q.length then meetF p q f i (k + 1) B.2
    else if star q k = true ∧ star p i = false ∧ i < p.length then meetF p q f (i + 1) k B.2
    else if star p i = false ∧ star q k = false ∧ i < p.length ∧ k < q.length ∧ signL p q i k = true then meetF p q f (i + 1) (k + 1) B.2
    else (false, B.2)
def Good (p q : List UInt8) (T : List (Nat × Nat)) (v : Nat × Nat) : Prop := v ≠ (p.length, q.length) ∧ ∀ u, Edge p q v u → u ∈ T
theorem Good.mono {p q : List UInt8} {T T' : List (Nat × Nat)} {v : Nat × Nat} (h : Good p q T v) (hs : ∀ x ∈ T, x ∈ T') : Good p q T' v := ⟨h.1, fun u hu => hs u (h.2 u hu)⟩
/-- what a search from a place tells -/
def Tells (p q : List UInt8) (i k : Nat) (S : List (Nat × Nat)) (r : Bool × List (Nat × Nat)) : Prop :=
  (∀ x ∈ S, x ∈ r.2) ∧ (r.1 = true → Ov p q (i, k)) ∧ (r.1 = false → (i, k) ∈ r.2 ∧ ∀ v ∈ r.2, v ∈ S ∨ Good p q r.2 v)
theorem star_lt {l : List UInt8} {i : Nat} (h : star l i = true) : i < l.length := by
  unfold star at h
  rcases Nat.lt_or_ge i l.length with h1 | h1
  · exact h1
  · rw [List.getElem?_eq_none h1] at h; simp at h
theorem meet_tells (p q : List UInt8) : ∀ (f i k : Nat) (S : List (Nat × Nat)), i ≤ p.length → k ≤ q.length → (p.length - i) + (q.length - k) < f → Tells p q i k S (meetF p q f i k S)
  | 0, i, k, S, _, _, h => by omega
  | f + 1, i, k, S, hi, hk, hf => by
    unfold meetF
    by_cases hS : (i, k) ∈ S
    · rw [if_pos hS]; exact ⟨fun x hx => hx, fun h => (by cases h), fun _ => ⟨hS, fun v hv => .inl hv⟩⟩
    rw [if_neg hS]
    by_cases he : i = p.length ∧ k = q.length
    · rw [if_pos he]
      exact ⟨fun x hx => .tail _ hx, fun _ => by rw [he.1, he.2]; exact .fin, fun h => by cases h⟩
    rw [if_neg he]
    have hne : (i, k) ≠ (p.length, q.length) := fun e => he ⟨congrArg Prod.fst e, congrArg Prod.snd e⟩
    -- the first step
    obtain ⟨A, hA⟩ : ∃ A, A = (if star p i then meetF p q f (i + 1) k ((i, k) :: S) else (false, (i, k) :: S)) := ⟨_, rfl⟩
    have tA : (∀ x ∈ (i, k) :: S, x ∈ A.2) ∧ (A.1 = true → Ov p q (i, k)) ∧ (A.1 = false → (star p i = true → (i + 1, k) ∈ A.2) ∧ ∀ v ∈ A.2, v ∈ (i, k) :: S ∨ Good p q A.2 v) := by
      by_cases hs : star p i = true
      · rw [if_pos hs] at hA
        have := star_lt hs
        have t := meet_tells p q f (i + 1) k ((i, k) :: S) (by omega) hk (by omega)
        rw [← hA] at t
        exact ⟨t.1, fun h => .step (.inl ⟨hs, rfl⟩) (t.2.1 h), fun h => ⟨fun _ => (t.2.2 h).1, (t.2.2 h).2⟩⟩
      · rw [if_neg hs] at hA
        rw [hA]
        exact ⟨fun x hx => hx, fun h => (by cases h), fun _ => ⟨fun h => absurd h hs, fun v hv => .inl hv⟩⟩
    simp only [← hA]
    cases hA1 : A.1 with
    | true => rw [if_pos rfl]; exact ⟨fun x hx => tA.1 x (.tail _ hx), fun _ => tA.2.1 hA1, fun h => by rw [hA1] at h; cases h⟩
    | false =>
    rw [if_neg (by simp)]
    have nA := tA.2.2 hA1
    obtain ⟨B, hB⟩ : ∃ B, B = (if star q k then meetF p q f i (k + 1) A.2 else (false, A.2)) := ⟨_, rfl⟩
    have tB : (∀ x ∈ A.2, x ∈ B.2) ∧ (B.1 = true → Ov p q (i, k)) ∧ (B.1 = false → (star q k = true → (i, k + 1) ∈ B.2) ∧ ∀ v ∈ B.2, v ∈ A.2 ∨ Good p q B.2 v) := by
      by_cases hs : star q k = true
      · rw [if_pos hs] at hB
        have := star_lt hs
        have t := meet_tells p q f i (k + 1) A.2 hi (by omega) (by omega)
        rw [← hB] at t
        exact ⟨t.1, fun h => .step (.inr (.inl ⟨hs, rfl⟩)) (t.2.1 h), fun h => ⟨fun _ => (t.2.2 h).1, (t.2.2 h).2⟩⟩
      · rw [if_neg hs] at hB
        rw [hB]
        exact ⟨fun x hx => hx, fun h => (by cases h), fun _ => ⟨fun h => absurd h hs, fun v hv => .inl hv⟩⟩
    simp only [← hB]
    cases hB1 : B.1 with
    | true => rw [if_pos rfl]; exact ⟨fun x hx => tB.1 x (tA.1 x (.tail _ hx)), fun _ => tB.2.1 hB1, fun h => by rw [hB1] at h; cases h⟩
    | false =>
    rw [if_neg (by simp)]
    have nB := tB.2.2 hB1
    -- the last step: what is seen there, whatever is behind
    have last : ∀ (C : Bool × List (Nat × Nat)), (∀ x ∈ B.2, x ∈ C.2) → (C.1 = true → Ov p q (i, k)) → (C.1 = false → (∀ u, Edge p q (i, k) u → u ∈ C.2) ∧ ∀ v ∈ C.2, v ∈ B.2 ∨ Good p q C.2 v) → Tells p q i k S C := by
      intro C h1 h2 h3
      refine ⟨fun x hx => h1 x (tB.1 x (tA.1 x (.tail _ hx))), h2, fun h => ⟨h1 _ (tB.1 _ (tA.1 _ (.head _))), fun v hv => ?_⟩⟩
      have g := h3 h
      rcases g.2 v hv with hv | hv
      · rcases nB.2 v hv with hv | hv
        · rcases nA.2 v hv with hv | hv
          · rcases List.mem_cons.1 hv with rfl | hv
            · exact .inr ⟨hne, g.1⟩
            · exact .inl hv
          · exact .inr (hv.mono fun x hx => h1 x (tB.1 x hx))
        · exact .inr (hv.mono h1)
      · exact .inr hv
    by_cases c1 : star p i = true ∧ star q k = false ∧ k < q.length
    · rw [if_pos c1]
      have t := meet_tells p q f i (k + 1) B.2 hi (by omega) (by omega)
      refine last _ t.1 (fun h => .step (.inr (.inr (.inl ⟨c1.1, c1.2.1, c1.2.2, rfl⟩))) (t.2.1 h)) (fun h => ⟨fun u hu => ?_, (t.2.2 h).2⟩)
      rcases hu with ⟨_, rfl⟩ | ⟨e, _⟩ | ⟨_, _, _, rfl⟩ | ⟨e, _⟩ | ⟨e, _⟩
      · exact t.1 _ (tB.1 _ (nA.1 c1.1))
      · rw [c1.2.1] at e; cases e
      · exact (t.2.2 h).1
      · rw [c1.2.1] at e; cases e
      · rw [c1.1] at e; cases e
    rw [if_neg c1]
    by_cases c2 : star q k = true ∧ star p i = false ∧ i < p.length
    · rw [if_pos c2]
      have t := meet_tells p q f (i + 1) k B.2 (by omega) hk (by omega)
      refine last _ t.1 (fun h => .step (.inr (.inr (.inr (.inl ⟨c2.1, c2.2.1, c2.2.2, rfl⟩)))) (t.2.1 h)) (fun h => ⟨fun u hu => ?_, (t.2.2 h).2⟩)
      rcases hu with ⟨e, _⟩ | ⟨_, rfl⟩ | ⟨e, _⟩ | ⟨_, _, _, rfl⟩ | ⟨_, e, _⟩
      · rw [c2.2.1] at e; cases e
      · exact t.1 _ (nB.1 c2.1)
      · rw [c2.2.1] at e; cases e
      · exact (t.2.2 h).1
      · rw [c2.1] at e; cases e
    rw [if_neg c2]
    by_cases c3 : star p i = false ∧ star q k = false ∧ i < p.length ∧ k < q.length ∧ signL p q i k = true
    · rw [if_pos c3]
      have t := meet_tells p q f (i + 1) (k + 1) B.2 (by omega) (by omega) (by omega)
      refine last _ t.1 (fun h => .step (.inr (.inr (.inr (.inr ⟨c3.1, c3.2.1, c3.2.2.1, c3.2.2.2.1, c3.2.2.2.2, rfl⟩)))) (t.2.1 h)) (fun h => ⟨fun u hu => ?_, (t.2.2 h).2⟩)
      rcases hu with ⟨e, _⟩ | ⟨e, _⟩ | ⟨e, _⟩ | ⟨e, _⟩ | ⟨_, _, _, _, _, rfl⟩
      · rw [c3.1] at e; cases e
      · rw [c3.2.1] at e; cases e
      · rw [c3.1] at e; cases e
      · rw [c3.2.1] at e; cases e
      · exact (t.2.2 h).1
    rw [if_neg c3]
    refine last _ (fun x hx => hx) (fun h => by cases h) (fun _ => ⟨fun u hu => ?_, fun v hv => .inl hv⟩)
    rcases hu with ⟨e, rfl⟩ | ⟨e, rfl⟩ | ⟨a, b, c, _⟩ | ⟨a, b, c, _⟩ | ⟨a, b, c, d, e, _⟩
    · exact tB.1 _ (nA.1 e)
    · exact nB.1 e
    · exact absurd ⟨a, b, c⟩ c1
    · exact absurd ⟨a, b, c⟩ c2
    · exact absurd ⟨a, b, c, d, e⟩ c3
theorem closed_not {p q : List UInt8} {T : List (Nat × Nat)} (h : ∀ v ∈ T, Good p q T v) {v : Nat × Nat} (ho : Ov p q v) : v ∉ T := by
  induction ho with
  | fin => intro hv; exact (h _ hv).1 rfl
  | step e _ ih => intro hv; exact ih ((h _ hv).2 _ e)
/-- the search from the beginning with nothing seen -/
theorem meet_ov (p q : List UInt8) (f : Nat) (hf : p.length + q.length < f) : (meetF p q f 0 0 []).1 = true ↔ Ov p q (0, 0) := by
  have t := meet_tells p q f 0 0 [] (Nat.zero_le _) (Nat.zero_le _) (by omega)
  constructor
  · exact t.2.1
  · intro h
    cases hb : (meetF p q f 0 0 []).1 with
    | true => rfl
    | false =>
      have g := t.2.2 hb
      exact absurd g.1 (closed_not (fun v hv => by rcases g.2 v hv with h | h; · cases h
                                                   · exact h) h)
end Go.Proofs.YtodkjhbnodcbhaaDoor.Glob
