/-
  The parser, in plain Lean: a value's text is read as it.
-/
import Derived.Test.YteofdpogjnojnaaGreatDoorGPa
import Derived.Test.YteofdpogjnojnaaGreatDoorVaP
import Derived.Test.YteofdpogjnojnaaGreatDoorUtfUL
namespace Go.Proofs.YteofdpogjnojnaaGreatDoor
open Go.RowKit Utf
set_option linter.unusedVariables false
set_option linter.unusedSimpArgs false

namespace Pa
/-! numbers' digits -/
def digL (n : Nat) : List UInt8 := if n < 10 then [UInt8.ofNat (48 + n)] else digL (n / 10) ++ [UInt8.ofNat (48 + n % 10)]
termination_by n
decreasing_by omega
def intL (n : Int) : List UInt8 := if n < 0 then 45 :: digL n.natAbs else digL n.natAbs
theorem dig_one {n : Nat} (h : n < 10) : isDig (UInt8.ofNat (48 + n)) = true ∧ (UInt8.ofNat (48 + n)).toNat - 48 = n ∧ ((UInt8.ofNat (48 + n)) = 48 → n = 0) := by
  have : ∀ j : Fin 10, isDig (UInt8.ofNat (48 + j.1)) = true ∧ (UInt8.ofNat (48 + j.1)).toNat - 48 = j.1 ∧ ((UInt8.ofNat (48 + j.1)) = 48 → j.1 = 0) := by decide
  exact this ⟨n, h⟩
theorem digL_facts : ∀ n : Nat, (∀ c ∈ digL n, isDig c = true) ∧ digL n ≠ [] ∧ sumP (digL n) = n ∧ ((digL n).head? = some 48 → n = 0 ∧ (digL n).length = 1) := fun n => by
  induction n using Nat.strongRecOn with
  | ind n ih =>
    rw [digL]
    by_cases h : n < 10
    · rw [if_pos h]
      obtain ⟨h1, h2, h3⟩ := dig_one h
      exact ⟨by simpa using h1, by simp, by unfold sumP; simp only [List.foldl_cons, List.foldl_nil]; omega, by simpa using h3⟩
    · rw [if_neg h]
      obtain ⟨i1, i2, i3, i4⟩ := ih (n / 10) (by omega)
      obtain ⟨h1, h2, h3⟩ := dig_one (n := n % 10) (by omega)
      refine ⟨fun c hc => ?_, by simp, ?_, fun hh => ?_⟩
      · rcases List.mem_append.1 hc with hc | hc
        · exact i1 c hc
        · rw [List.mem_singleton] at hc; rw [hc]; exact h1
      · unfold sumP at i3 ⊢
        rw [List.foldl_append, i3]
        simp only [List.foldl_cons, List.foldl_nil]
        omega
      · exfalso
        rw [List.head?_append] at hh
        cases hd : digL (n / 10) with
        | nil => exact i2 hd
        | cons c r =>
          rw [hd] at hh i4
          have := (i4 (by simpa using hh)).1
          omega
/-- what may stand behind a value -/
def Nx (l : List UInt8) : Prop := l = [] ∨ ∃ c r, l = c :: r ∧ (c = 44 ∨ c = 93 ∨ c = 125)
theorem Nx.head {l : List UInt8} (h : Nx l) : l.takeWhile isBl = [] ∧ l.takeWhile isDig = [] ∧ isFl l.head? = false := by
  rcases h with rfl | ⟨c, r, rfl, rfl | rfl | rfl⟩
  · exact ⟨rfl, rfl, rfl⟩
  · exact ⟨rfl, rfl, rfl⟩
  · exact ⟨rfl, rfl, rfl⟩
  · exact ⟨rfl, rfl, rfl⟩
theorem skip_id {p : St} (h : p.r.takeWhile isBl = []) : p.skip = p := by
  unfold St.skip
  rw [h]
  unfold St.adv
  simp
theorem nb_head {c : UInt8} {l : List UInt8} (h : isBl c = false) : (c :: l).takeWhile isBl = [] := List.takeWhile_cons_of_neg (by simp [h])
theorem dig_run {l r : List UInt8} (hl : ∀ c ∈ l, isDig c = true) (hr : r.takeWhile isDig = []) : (l ++ r).takeWhile isDig = l := by
  induction l with
  | nil => simpa using hr
  | cons c l ih => rw [List.cons_append, List.takeWhile_cons_of_pos (hl c (by simp)), ih (fun x hx => hl x (by simp [hx]))]
theorem adv_app {i c : Nat} {e : Int} {a b : List UInt8} : (⟨i, a ++ b, c, e⟩ : St).adv a.length = ⟨i + a.length, b, c, e⟩ := by
  unfold St.adv
  simp
theorem eat_yes {i c : Nat} {e : Int} {x : UInt8} {b : List UInt8} : (⟨i, x :: b, c, e⟩ : St).eat x = (true, ⟨i + 1, b, c, e⟩) := by
  unfold St.eat St.adv
  simp
theorem eat_no {p : St} {x : UInt8} (h : p.r.head? ≠ some x) : p.eat x = (false, p) := by unfold St.eat; rw [if_neg h]
/-- a number's text is read -/
theorem num_int {n : Int} {i c : Nat} {rest : List UInt8} (h : -9007199254740991 ≤ n ∧ n ≤ 9007199254740991) (hr : Nx rest) : numP ⟨i, intL n ++ rest, c, 0⟩ = (⟨i + (intL n).length, rest, c, 0⟩, .mk 3 n ⟨#[]⟩ [] [] []) := by
  obtain ⟨d1, d2, d3, d4⟩ := digL_facts n.natAbs
  obtain ⟨r1, r2, r3⟩ := hr.head
  have hrun := dig_run d1 r2
  unfold intL
  by_cases hn : n < 0
  · rw [if_pos hn]
    unfold numP
    rw [List.cons_append, eat_yes]
    simp only [hrun]
    have h0 : ¬ (digL n.natAbs = [] ∨ (digL n.natAbs).head? = some 48 ∧ (True ∨ 1 < (digL n.natAbs).length)) := by
      rintro (q | ⟨q, _⟩)
      · exact d2 q
      · have := (d4 q).1; omega
    rw [if_neg h0, adv_app]
    simp only [r3, d3]
    rw [if_neg (by simp), if_neg (by omega)]
    simp only [if_true, List.length_cons]
    refine Prod.ext ?_ ?_
    · simp only; congr 1; omega
    · simp only; congr 1; omega
  · rw [if_neg hn]
    have he : (⟨i, digL n.natAbs ++ rest, c, 0⟩ : St).eat 45 = (false, ⟨i, digL n.natAbs ++ rest, c, 0⟩) := by
      refine eat_no ?_
      cases hd : digL n.natAbs with
      | nil => exact absurd hd d2
      | cons x l =>
        have := d1 x (by rw [hd]; simp)
        intro q
        simp only [List.cons_append, List.head?_cons, Option.some.injEq] at q
        rw [q] at this
        exact absurd this (by decide)
    unfold numP
    rw [he]
    simp only [hrun]
    have h0 : ¬ (digL n.natAbs = [] ∨ (digL n.natAbs).head? = some 48 ∧ (false = true ∨ 1 < (digL n.natAbs).length)) := by
      rintro (q | ⟨q, q2⟩)
      · exact d2 q
      · have := (d4 q).2
        rcases q2 with q2 | q2
        · cases q2
        · omega
    rw [if_neg h0, adv_app]
    simp only [r3, d3]
    rw [if_neg (by simp), if_neg (by omega)]
    simp only [Bool.false_eq_true, if_false]
    refine Prod.ext rfl ?_
    simp only
    congr 1
    omega
/-! texts -/
theorem part_lit {c : Int} (hm : mayU c = true) (rest : List UInt8) : partP ((encU c).flatMap qs ++ rest) = (c, ((encU c).flatMap qs).length, 0) := by
  have hmm := may_iff.1 hm
  by_cases h : (32 ≤ c ∧ c ≠ 34 ∧ c ≠ 92)
  · rw [lit_self hm h.1 h.2.1 h.2.2]
    have hn1 := nxt_enc (l := encU c ++ rest) hm (n := (encU c).length) (by simp) (by simp)
    have hb := lit_bytes hm h.1 h.2.1 h.2.2 0 (by omega)
    match he : encU c with
    | [] => rw [he] at hn1; simp at hn1
    | b :: r =>
      simp only [he, List.getElem_cons_zero] at hb
      rw [he] at hn1
      unfold partP
      simp only [List.cons_append] at hn1 ⊢
      rw [if_neg (by omega), if_neg (fun e => hb.2.2 (by rw [e]; rfl)), hn1.1]
      rw [if_neg (by simp)]
  · have e := enc_one (c := c) (by omega) (by omega)
    rw [e]
    have key : ∀ j : Fin 93, (j.1 < 32 ∨ j.1 = 34 ∨ j.1 = 92) → (qs (UInt8.ofNat j.1) = [92, UInt8.ofNat j.1] ∧ UInt8.ofNat j.1 ∈ escs ∧ (escd.getD (escs.idxOf (UInt8.ofNat j.1)) 0).toNat = j.1) ∨
        (∃ a b, qs (UInt8.ofNat j.1) = [92, 117, 48, 48, a, b] ∧ fourP [92, 117, 48, 48, a, b] = (j.1 : Int)) := by
      intro j hj
      have : ∀ j : Fin 93, (j.1 < 32 ∨ j.1 = 34 ∨ j.1 = 92) → (qs (UInt8.ofNat j.1) = [92, UInt8.ofNat j.1] ∧ UInt8.ofNat j.1 ∈ escs ∧ (escd.getD (escs.idxOf (UInt8.ofNat j.1)) 0).toNat = j.1) ∨
          ((qs (UInt8.ofNat j.1)).length = 6 ∧ (qs (UInt8.ofNat j.1)).take 4 = [92, 117, 48, 48] ∧ fourP (qs (UInt8.ofNat j.1)) = (j.1 : Int)) := by decide
      rcases this j hj with h | ⟨h1, h2, h3⟩
      · exact .inl h
      · right
        match hq : qs (UInt8.ofNat j.1), h1 with
        | [a, b, c, d, x, y], _ =>
          rw [hq] at h2 h3
          simp only [List.take_succ_cons, List.take_zero, List.cons.injEq, and_true] at h2
          obtain ⟨rfl, rfl, rfl, rfl⟩ := h2
          exact ⟨x, y, rfl, h3⟩
    have hc : c.toNat.toUInt8 = UInt8.ofNat c.toNat := rfl
    rw [hc]
    simp only [List.flatMap_cons, List.flatMap_nil, List.append_nil]
    rcases key ⟨c.toNat, by omega⟩ (by simp only; omega) with ⟨h1, h2, h3⟩ | ⟨a, b, h1, h2⟩
    · simp only at h1 h2 h3
      rw [h1]
      have hesc : escP (92 :: UInt8.ofNat c.toNat :: rest) = (c, 2) := by
        unfold escP
        simp only
        rw [if_pos h2, h3]
        refine Prod.ext ?_ rfl
        simp only
        omega
      unfold partP
      simp only [List.cons_append, List.nil_append]
      rw [if_neg (by decide), if_pos (by first | rfl | trivial), hesc, if_neg (by simp)]
      rfl
    · simp only at h1 h2
      rw [h1]
      have hf : fourP (92 :: 117 :: 48 :: 48 :: a :: b :: rest) = c := by
        have : fourP (92 :: 117 :: 48 :: 48 :: a :: b :: rest) = fourP [92, 117, 48, 48, a, b] := by unfold fourP; rfl
        rw [this, h2]; omega
      have hesc : escP (92 :: 117 :: 48 :: 48 :: a :: b :: rest) = (c, 6) := by
        unfold escP
        simp only
        rw [if_neg (by decide), hf, if_neg (by omega), if_pos hm]
      unfold partP
      simp only [List.cons_append, List.nil_append]
      rw [if_neg (by decide), if_pos (by first | rfl | trivial), hesc, if_neg (by simp)]
      rfl
theorem unqG_lit : ∀ (k : Nat) (t : List UInt8) (f n : Nat) (acc rest : List UInt8), t.length ≤ k → Lib.validD t = true → (t.flatMap qs).length ≤ f → unqG (f + 1) (t.flatMap qs ++ (34 :: rest)) n acc = (acc ++ t, n + (t.flatMap qs).length + 1, 0)
  | k, [], f, n, acc, rest, h, hv, hf => by
    unfold unqG
    simp
  | 0, b :: t, f, n, acc, rest, h, hv, hf => by simp at h
  | k + 1, b :: t', f, n, acc, rest, h, hv, hf => by
    obtain ⟨t, ht⟩ : ∃ t, t = b :: t' := ⟨_, rfl⟩
    have hne : t ≠ [] := by rw [ht]; simp
    rw [← ht] at h hv hf ⊢
    clear ht
    rw [valid_step t hne] at hv
    obtain ⟨c, hc⟩ : ∃ c, c = (nxt t).1 := ⟨_, rfl⟩
    obtain ⟨m, hk⟩ : ∃ k, k = (nxt t).2 := ⟨_, rfl⟩
    rw [← hk] at hv
    by_cases h0 : m = 0
    · rw [if_pos h0] at hv; cases hv
    rw [if_neg h0] at hv
    have hnt : nxt t = (c, m) := by rw [hc, hk]
    obtain ⟨hm, hkl, he⟩ := nxt_is hnt h0
    have hsp : t = encU c ++ t.drop m := by rw [he, List.take_append_drop]
    obtain ⟨L, hL⟩ : ∃ L, L = (encU c).flatMap qs := ⟨_, rfl⟩
    have hfm : t.flatMap qs = L ++ (t.drop m).flatMap qs := by conv => lhs; rw [hsp, List.flatMap_append, ← hL]
    rw [hfm] at hf ⊢
    obtain ⟨b0, r0, hb0, hb34, hb12⟩ := lit_head hm
    rw [← hL] at hb0 hb12
    have hL1 : 1 ≤ L.length := by rw [hb0]; simp
    rw [List.length_append] at hf
    have hp := part_lit hm ((t.drop m).flatMap qs ++ (34 :: rest))
    rw [← hL] at hp
    have hd : (L ++ (t.drop m).flatMap qs ++ 34 :: rest).head? ≠ some 34 := by rw [hb0]; simpa using hb34
    have ih := unqG_lit k (t.drop m) (f - 1) (n + L.length) (acc ++ encU c) rest (by rw [List.length_drop]; omega) hv (by omega)
    unfold unqG
    rw [if_neg hd, List.append_assoc, hp]
    simp only
    rw [if_neg (by simp), List.drop_left]
    rw [show f - 1 + 1 = f from by omega] at ih
    rw [ih, List.append_assoc, ← hsp]
    refine Prod.ext rfl (Prod.ext ?_ rfl)
    simp only [List.length_append]
    omega
theorem unq_quote {t rest : List UInt8} (hv : Lib.validD t = true) : unq (quoteL t ++ rest) = (t, (quoteL t).length, 0) := by
  have e : quoteL t ++ rest = 34 :: (t.flatMap qs ++ (34 :: rest)) := by unfold quoteL; simp
  unfold unq
  rw [e]
  simp only [List.head?_cons, if_true, List.drop_succ_cons, List.drop_zero, List.length_cons]
  have := unqG_lit t.length t (t.flatMap qs ++ (34 :: rest)).length 1 [] rest (Nat.le_refl _) hv (by simp)
  rw [this]
  refine Prod.ext rfl (Prod.ext ?_ rfl)
  unfold quoteL
  simp
  omega
theorem ba_eta (s : ByteArray) : (⟨s.data.toList.toArray⟩ : ByteArray) = s := by cases s; simp
theorem lit_quote {s : ByteArray} {i c : Nat} {rest : List UInt8} (hv : Lib.validD s.data.toList = true) : (⟨i, quoteL s.data.toList ++ rest, c, 0⟩ : St).lit = (s, ⟨i + (quoteL s.data.toList).length, rest, c, 0⟩) := by
  have h := unq_quote (rest := rest) hv
  rw [lit_ok rfl (by simp only; rw [h])]
  simp only
  rw [h, adv_app, ba_eta]
/-! a value's text -/
mutual
def wrP : PV → List UInt8
  | .mk k n s l ks m => if k = 1 then [110, 117, 108, 108] else if k = 2 then (if n = 1 then [116, 114, 117, 101] else [102, 97, 108, 115, 101]) else if k = 3 then intL n else if k = 4 then quoteL s.data.toList else if k = 5 then 91 :: (wrL l ++ [93]) else 123 :: (wrM m ks ++ [125])
def wrL : List PV → List UInt8
  | [] => []
  | v :: r => wrP v ++ wrT r
def wrT : List PV → List UInt8
  | [] => []
  | v :: r => 44 :: (wrP v ++ wrT r)
def wrM : List PV → List ByteArray → List UInt8
  | [], _ => []
  | v :: r, ks => quoteL (ks.headD ⟨#[]⟩).data.toList ++ (58 :: (wrP v ++ wrN r ks.tail))
def wrN : List PV → List ByteArray → List UInt8
  | [], _ => []
  | v :: r, ks => 44 :: (quoteL (ks.headD ⟨#[]⟩).data.toList ++ (58 :: (wrP v ++ wrN r ks.tail)))
end
/-- how a value's text begins -/
theorem wr_head {v : PV} (h : v.right = true) : ∃ c r, wrP v = c :: r ∧ isBl c = false ∧ c ≠ 93 ∧ c ≠ 125 ∧ ∀ rest, begins (c :: (r ++ rest)) = true := by
  have hb : ∀ (c : UInt8) (r : List UInt8), c ∈ starts → begins (c :: r) = true := fun c r hc => by
    unfold begins
    simp [hc]
  obtain ⟨k, n, s, l, ks, m⟩ := v
  unfold wrP
  by_cases h1 : k = 1
  · rw [if_pos h1]
    exact ⟨110, _, rfl, by decide, by decide, by decide, fun rest => rfl⟩
  rw [if_neg h1]
  by_cases h2 : k = 2
  · rw [if_pos h2]
    split
    · exact ⟨116, _, rfl, by decide, by decide, by decide, fun rest => rfl⟩
    · exact ⟨102, _, rfl, by decide, by decide, by decide, fun rest => rfl⟩
  rw [if_neg h2]
  by_cases h3 : k = 3
  · rw [if_pos h3]
    unfold intL
    split
    · exact ⟨45, _, rfl, by decide, by decide, by decide, fun rest => hb _ _ (by decide)⟩
    · obtain ⟨d1, d2, _⟩ := digL_facts n.natAbs
      cases hd : digL n.natAbs with
      | nil => exact absurd hd d2
      | cons c r =>
        have hc := d1 c (by rw [hd]; simp)
        have key : ∀ c : UInt8, isDig c = true → isBl c = false ∧ c ≠ 93 ∧ c ≠ 125 ∧ c ∈ starts := by
          intro c hc
          unfold isDig at hc
          simp only [decide_eq_true_eq] at hc
          have : ∀ j : Fin 58, 48 ≤ j.1 → isBl (UInt8.ofNat j.1) = false ∧ (UInt8.ofNat j.1) ≠ 93 ∧ (UInt8.ofNat j.1) ≠ 125 ∧ (UInt8.ofNat j.1) ∈ starts := by decide
          have h := this ⟨c.toNat, by omega⟩ hc.1
          simpa using h
        obtain ⟨k1, k2, k3, k4⟩ := key c hc
        exact ⟨c, r, rfl, k1, k2, k3, fun rest => hb _ _ k4⟩
  rw [if_neg h3]
  by_cases h4 : k = 4
  · rw [if_pos h4]
    exact ⟨34, _, rfl, by decide, by decide, by decide, fun rest => hb _ _ (by decide)⟩
  rw [if_neg h4]
  by_cases h5 : k = 5
  · rw [if_pos h5]
    exact ⟨91, _, rfl, by decide, by decide, by decide, fun rest => hb _ _ (by decide)⟩
  rw [if_neg h5]
  exact ⟨123, _, rfl, by decide, by decide, by decide, fun rest => hb _ _ (by decide)⟩
theorem word_no {c : UInt8} {l : List UInt8} (h : c ≠ 110 ∧ c ≠ 116 ∧ c ≠ 102) : wordP (c :: l) = none := by
  unfold wordP
  have e : ∀ (x : UInt8) (y : List UInt8), x ≠ c → (x :: y).isPrefixOf (c :: l) = false := fun x y hx => by
    simp [List.isPrefixOf, hx]
  rw [e _ _ (Ne.symm h.1), e _ _ (Ne.symm h.2.1), e _ _ (Ne.symm h.2.2)]
  rfl
/-- what a reader makes of a value's text -/
def Rds (rd : St → St × PV) (v : PV) : Prop := ∀ (i c : Nat) (rest : List UInt8), Nx rest → c + v.cnt ≤ 4096 → rd ⟨i, wrP v ++ rest, c, 0⟩ = (⟨i + (wrP v).length, rest, c + v.cnt, 0⟩, v)
theorem wrT_nx (l : List PV) (x : UInt8) (rest : List UInt8) (hx : x = 93 ∨ x = 125) : Nx (wrT l ++ x :: rest) := by
  cases l with
  | nil => exact .inr ⟨x, rest, by simp [wrT], .inr hx⟩
  | cons v l => exact .inr ⟨44, _, by unfold wrT; rfl, .inl rfl⟩
theorem wrN_nx (l : List PV) (ks : List ByteArray) (x : UInt8) (rest : List UInt8) (hx : x = 93 ∨ x = 125) : Nx (wrN l ks ++ x :: rest) := by
  cases l with
  | nil => exact .inr ⟨x, rest, by simp [wrN], .inr hx⟩
  | cons v l => exact .inr ⟨44, _, by unfold wrN; rfl, .inl rfl⟩
theorem st_eq {i j c d : Nat} {r r' : List UInt8} {e : Int} (h1 : i = j) (h2 : r = r') (h3 : c = d) : (⟨i, r, c, e⟩ : St) = ⟨j, r', d, e⟩ := by rw [h1, h2, h3]
theorem items_list {rd : St → St × PV} : ∀ (l : List PV) (v : PV) (f i c : Nat) (rest : List UInt8) (acc : List PV), (∀ x ∈ v :: l, Rds rd x) → c + PV.cntL (v :: l) ≤ 4096 → l.length ≤ f →
    itemsG (oneL rd) 93 (f + 1) ⟨i, wrP v ++ (wrT l ++ 93 :: rest), c, 0⟩ acc = (⟨i + (wrP v).length + (wrT l).length + 1, rest, c + PV.cntL (v :: l), 0⟩, acc ++ v :: l)
  | [], v, f, i, c, rest, acc, h, hc, hf => by
    have h1 := h v (by simp) i c (wrT [] ++ 93 :: rest) (wrT_nx _ _ _ (.inl rfl)) (by simp [PV.cntL] at hc; omega)
    rw [itemsG_ok rfl]
    have e : oneL rd ⟨i, wrP v ++ (wrT [] ++ 93 :: rest), c, 0⟩ acc = (⟨i + (wrP v).length, 93 :: rest, c + v.cnt, 0⟩, acc ++ [v]) := by unfold oneL; rw [h1]; simp [wrT]
    rw [e, eat_yes]
    simp only [if_true]
    refine Prod.ext (st_eq (by simp [wrT]) rfl (by simp [PV.cntL])) rfl
  | u :: l, v, f, i, c, rest, acc, h, hc, hf => by
    obtain ⟨g, rfl⟩ : ∃ g, f = g + 1 := ⟨f - 1, by simp at hf; omega⟩
    have hc' : PV.cntL (v :: u :: l) = v.cnt + PV.cntL (u :: l) := by simp [PV.cntL]
    have h1 := h v (by simp) i c (wrT (u :: l) ++ 93 :: rest) (wrT_nx _ _ _ (.inl rfl)) (by rw [hc'] at hc; omega)
    rw [itemsG_ok rfl]
    have e : oneL rd ⟨i, wrP v ++ (wrT (u :: l) ++ 93 :: rest), c, 0⟩ acc = (⟨i + (wrP v).length, 44 :: (wrP u ++ (wrT l ++ 93 :: rest)), c + v.cnt, 0⟩, acc ++ [v]) := by
      unfold oneL
      rw [h1]
      simp [wrT, List.append_assoc]
    rw [e, eat_no (by simp)]
    simp only [Bool.false_eq_true, if_false]
    have hn : (⟨i + (wrP v).length, 44 :: (wrP u ++ (wrT l ++ 93 :: rest)), c + v.cnt, 0⟩ : St).need 44 = ⟨i + (wrP v).length + 1, wrP u ++ (wrT l ++ 93 :: rest), c + v.cnt, 0⟩ := by
      unfold St.need
      rw [eat_yes]
      rfl
    rw [hn, items_list l u g _ _ rest (acc ++ [v]) (fun x hx => h x (List.mem_cons_of_mem v hx)) (by rw [hc'] at hc; omega) (by simp at hf; omega)]
    refine Prod.ext (st_eq ?_ rfl (by rw [hc']; omega)) (by simp)
    simp only [wrT, List.length_cons, List.length_append]
    omega
theorem hasK_no {m : List (ByteArray × PV)} {k : ByteArray} (h : k ∉ m.map Prod.fst) : hasK m k = false := by
  unfold hasK
  rw [List.any_eq_false]
  intro x hx q
  exact h (List.mem_map.2 ⟨x, hx, by simpa using q⟩)
theorem key_quote {m : List (ByteArray × PV)} {k : ByteArray} {i c : Nat} {rest : List UInt8} (hv : Lib.validD k.data.toList = true) (hk : k ∉ m.map Prod.fst) : keyP m ⟨i, quoteL k.data.toList ++ (58 :: rest), c, 0⟩ = (k, ⟨i + (quoteL k.data.toList).length + 1, rest, c, 0⟩) := by
  have hs : (⟨i, quoteL k.data.toList ++ (58 :: rest), c, 0⟩ : St).skip = ⟨i, quoteL k.data.toList ++ (58 :: rest), c, 0⟩ := skip_id (by unfold quoteL; exact nb_head (by decide))
  unfold keyP
  simp only [hs, lit_quote hv, hasK_no hk]
  rw [if_neg (by simp)]
  have hs2 : (⟨i + (quoteL k.data.toList).length, 58 :: rest, c, 0⟩ : St).skip = ⟨i + (quoteL k.data.toList).length, 58 :: rest, c, 0⟩ := skip_id (nb_head (by decide))
  rw [hs2]
  unfold St.need
  rw [eat_yes]
  rfl
theorem items_map {rd : St → St × PV} : ∀ (l : List PV) (v : PV) (ks : List ByteArray) (f i c : Nat) (rest : List UInt8) (acc : List (ByteArray × PV)), ks.length = (v :: l).length → (∀ k ∈ ks, Lib.validD k.data.toList = true) → (acc.map Prod.fst ++ ks).Nodup → (∀ x ∈ v :: l, Rds rd x) → c + PV.cntL (v :: l) ≤ 4096 → l.length ≤ f →
    itemsG (oneM rd) 125 (f + 1) ⟨i, wrM (v :: l) ks ++ 125 :: rest, c, 0⟩ acc = (⟨i + (wrM (v :: l) ks).length + 1, rest, c + PV.cntL (v :: l), 0⟩, acc ++ ks.zip (v :: l))
  | l, v, [], f, i, c, rest, acc, hl, hk, hd, h, hc, hf => by simp at hl
  | [], v, k :: ks, f, i, c, rest, acc, hl, hk, hd, h, hc, hf => by
    have hks : ks = [] := by simpa using hl
    subst hks
    have h1 := h v (by simp) (i + (quoteL k.data.toList).length + 1) c (125 :: rest) (.inr ⟨125, rest, rfl, .inr (.inr rfl)⟩) (by simp [PV.cntL] at hc; omega)
    have hkk : k ∉ acc.map Prod.fst := fun q => by
      rw [List.nodup_append] at hd
      exact hd.2.2 _ q _ (by simp) rfl
    have hq := key_quote (m := acc) (i := i) (c := c) (rest := wrP v ++ 125 :: rest) (hk k (by simp)) hkk
    have et : wrM [v] [k] ++ 125 :: rest = quoteL k.data.toList ++ (58 :: (wrP v ++ 125 :: rest)) := by simp [wrM, wrN]
    rw [itemsG_ok rfl, et]
    have e : oneM rd ⟨i, quoteL k.data.toList ++ (58 :: (wrP v ++ 125 :: rest)), c, 0⟩ acc = (⟨i + (quoteL k.data.toList).length + 1 + (wrP v).length, 125 :: rest, c + v.cnt, 0⟩, acc ++ [(k, v)]) := by
      unfold oneM
      rw [hq]
      simp only
      rw [h1]
    rw [e, eat_yes]
    simp only [if_true]
    refine Prod.ext (st_eq (by simp [wrM, wrN]; omega) rfl (by simp [PV.cntL])) rfl
  | u :: l, v, k :: ks, f, i, c, rest, acc, hl, hk, hd, h, hc, hf => by
    obtain ⟨g, rfl⟩ : ∃ g, f = g + 1 := ⟨f - 1, by simp at hf; omega⟩
    have hc' : PV.cntL (v :: u :: l) = v.cnt + PV.cntL (u :: l) := by simp [PV.cntL]
    have h1 := h v (by simp) (i + (quoteL k.data.toList).length + 1) c (wrN (u :: l) ks ++ 125 :: rest) (wrN_nx _ _ _ _ (.inr rfl)) (by rw [hc'] at hc; omega)
    have hkk : k ∉ acc.map Prod.fst := fun q => by
      rw [List.nodup_append] at hd
      exact hd.2.2 _ q _ (by simp) rfl
    have hq := key_quote (m := acc) (i := i) (c := c) (rest := wrP v ++ (wrN (u :: l) ks ++ 125 :: rest)) (hk k (by simp)) hkk
    have et : wrM (v :: u :: l) (k :: ks) ++ 125 :: rest = quoteL k.data.toList ++ (58 :: (wrP v ++ (wrN (u :: l) ks ++ 125 :: rest))) := by simp [wrM]
    have en : wrN (u :: l) ks = 44 :: wrM (u :: l) ks := by simp [wrM, wrN]
    rw [itemsG_ok rfl, et]
    have e : oneM rd ⟨i, quoteL k.data.toList ++ (58 :: (wrP v ++ (wrN (u :: l) ks ++ 125 :: rest))), c, 0⟩ acc = (⟨i + (quoteL k.data.toList).length + 1 + (wrP v).length, 44 :: (wrM (u :: l) ks ++ 125 :: rest), c + v.cnt, 0⟩, acc ++ [(k, v)]) := by
      unfold oneM
      rw [hq]
      simp only
      rw [h1, en]
      rfl
    rw [e, eat_no (by simp)]
    simp only [Bool.false_eq_true, if_false]
    have hn : (⟨i + (quoteL k.data.toList).length + 1 + (wrP v).length, 44 :: (wrM (u :: l) ks ++ 125 :: rest), c + v.cnt, 0⟩ : St).need 44 = ⟨i + (quoteL k.data.toList).length + 1 + (wrP v).length + 1, wrM (u :: l) ks ++ 125 :: rest, c + v.cnt, 0⟩ := by
      unfold St.need
      rw [eat_yes]
      rfl
    rw [hn, items_map l u ks g _ _ rest (acc ++ [(k, v)]) (by simpa using hl) (fun x hx => hk x (by simp [hx])) (by simpa using hd) (fun x hx => h x (List.mem_cons_of_mem v hx)) (by rw [hc'] at hc; omega) (by simp at hf; omega)]
    have el : (wrM (v :: u :: l) (k :: ks)).length = (quoteL k.data.toList).length + 1 + (wrP v).length + 1 + (wrM (u :: l) ks).length := by
      have : wrM (v :: u :: l) (k :: ks) = quoteL k.data.toList ++ (58 :: (wrP v ++ (44 :: wrM (u :: l) ks))) := by rw [← en]; simp [wrM]
      rw [this]
      simp only [List.length_append, List.length_cons]
      omega
    refine Prod.ext (st_eq (by rw [el]; omega) rfl (by rw [hc']; omega)) (by simp)
theorem depL_mem {l : List PV} {d : Nat} (h : PV.depL l ≤ d) : ∀ x ∈ l, x.dep ≤ d := by
  induction l with
  | nil => intro x hx; cases hx
  | cons v l ih =>
    simp only [PV.depL] at h
    intro x hx
    rcases List.mem_cons.1 hx with rfl | hx
    · omega
    · exact ih (by omega) x hx
theorem rightL_mem {l : List PV} (h : PV.rightL l = true) : ∀ x ∈ l, x.right = true := by
  induction l with
  | nil => intro x hx; cases hx
  | cons v l ih =>
    simp only [PV.rightL, Bool.and_eq_true] at h
    intro x hx
    rcases List.mem_cons.1 hx with rfl | hx
    · exact h.1
    · exact ih h.2 x hx
theorem wrL_len (l : List PV) : l.length ≤ (wrL l).length + 1 := by
  have ht : ∀ l : List PV, l.length ≤ (wrT l).length := fun l => by
    induction l with
    | nil => simp
    | cons v l ih => simp only [wrT, List.length_cons, List.length_append]; omega
  cases l with
  | nil => simp
  | cons v l => have := ht l; simp only [wrL, List.length_cons, List.length_append]; omega
theorem wrM_len (l : List PV) (ks : List ByteArray) : l.length ≤ (wrM l ks).length + 1 := by
  have ht : ∀ (l : List PV) (ks : List ByteArray), l.length ≤ (wrN l ks).length := fun l => by
    induction l with
    | nil => simp
    | cons v l ih => intro ks; have := ih ks.tail; simp only [wrN, List.length_cons, List.length_append]; omega
  cases l with
  | nil => simp
  | cons v l => have := ht l ks.tail; simp only [wrM, List.length_cons, List.length_append]; omega
theorem sz0 {s : ByteArray} (h : s.size = 0) : s = ⟨#[]⟩ := by
  obtain ⟨⟨l⟩⟩ := s
  cases l with
  | nil => rfl
  | cons a l => simp [ByteArray.size] at h
/-- a value's text is read as it -/
theorem val_write : ∀ (d : Nat) (v : PV), v.right = true → v.dep ≤ d → Rds (valP d) v
  | 0, v, hr, hd => by obtain ⟨k, n, s, l, ks, m⟩ := v; simp [PV.dep] at hd
  | d + 1, v, hr, hd => by
    intro i c rest hx hc
    obtain ⟨r1, r2, r3⟩ := hx.head
    obtain ⟨c0, t0, hw, w1, w2, w3, w4⟩ := wr_head hr
    have hsk : (⟨i, wrP v ++ rest, c, 0⟩ : St).skip = ⟨i, wrP v ++ rest, c, 0⟩ := skip_id (by rw [hw]; exact nb_head w1)
    have hbg : begins (wrP v ++ rest) = true := by rw [hw]; exact w4 rest
    have hcnt : 1 ≤ v.cnt := by obtain ⟨k, n, s, l, ks, m⟩ := v; simp [PV.cnt]
    -- what is read, behind the count
    suffices hread : readP (valP d) ⟨i, wrP v ++ rest, c + 1, 0⟩ = (⟨i + (wrP v).length, rest, c + v.cnt, 0⟩, v) by
      unfold valP
      rw [hsk]
      simp only [hbg]
      rw [if_neg (by simp), if_neg (by show ¬ 4096 < c + 1; omega)]
      have e : (⟨i, wrP v ++ rest, c, 0⟩ : St).more = ⟨i, wrP v ++ rest, c + 1, 0⟩ := rfl
      rw [e, hread]
      have : (⟨i + (wrP v).length, rest, c + v.cnt, 0⟩ : St).skip = ⟨i + (wrP v).length, rest, c + v.cnt, 0⟩ := skip_id r1
      rw [this]
    obtain ⟨k, n, s, l, ks, m⟩ := v
    simp only [PV.right, Bool.and_eq_true, decide_eq_true_eq] at hr
    obtain ⟨ho, hk, hlen, hl, hm⟩ := hr
    simp only [PV.dep] at hd
    have hIl : ∀ x ∈ l, Rds (valP d) x := fun x hx => val_write d x (rightL_mem hl x hx) (depL_mem (by omega) x hx)
    have hIm : ∀ x ∈ m, Rds (valP d) x := fun x hx => val_write d x (rightL_mem hm x hx) (depL_mem (by omega) x hx)
    have hcv : (PV.mk k n s l ks m).cnt = PV.cntL l + PV.cntL m + 1 := by simp [PV.cnt]
    rw [hcv] at hc ⊢
    unfold ownF at ho
    have nil_of : ∀ {α : Type} {a : List α}, a.length = 0 → a = [] := fun h => List.eq_nil_of_length_eq_zero h
    by_cases h1 : k = 1
    · rw [if_pos h1] at ho
      simp only [Bool.and_eq_true, decide_eq_true_eq] at ho
      obtain ⟨o1, o2, o3, o4⟩ := ho
      have e1 := sz0 o2; have e2 := nil_of o3; have e3 := nil_of o4; have e4 : ks = [] := nil_of (by omega)
      subst h1 o1 e1 e2 e3 e4
      unfold readP wrP
      simp only [if_true]
      have : wordP ([110, 117, 108, 108] ++ rest) = some (.mk 1 0 ⟨#[]⟩ [] [] [], 4) := rfl
      rw [this]
      simp only
      exact Prod.ext (adv_app (a := [110, 117, 108, 108])) rfl
    rw [if_neg h1] at ho
    by_cases h2 : k = 2
    · rw [if_pos h2] at ho
      simp only [Bool.and_eq_true, decide_eq_true_eq] at ho
      obtain ⟨o1, o2, o3, o4⟩ := ho
      have e1 := sz0 o2; have e2 := nil_of o3; have e3 := nil_of o4; have e4 : ks = [] := nil_of (by omega)
      subst h2 e1 e2 e3 e4
      rcases o1 with o1 | o1
      · subst o1
        unfold readP wrP
        simp only [if_neg h1, if_true]
        have : wordP ([102, 97, 108, 115, 101] ++ rest) = some (.mk 2 0 ⟨#[]⟩ [] [] [], 5) := rfl
        rw [if_neg (by decide), this]
        simp only
        exact Prod.ext (adv_app (a := [102, 97, 108, 115, 101])) rfl
      · subst o1
        unfold readP wrP
        simp only [if_neg h1, if_true]
        have : wordP ([116, 114, 117, 101] ++ rest) = some (.mk 2 1 ⟨#[]⟩ [] [] [], 4) := rfl
        rw [this]
        simp only
        exact Prod.ext (adv_app (a := [116, 114, 117, 101])) rfl
    rw [if_neg h2] at ho
    by_cases h3 : k = 3
    · rw [if_pos h3] at ho
      simp only [Bool.and_eq_true, decide_eq_true_eq] at ho
      obtain ⟨o1, o2, o3, o4⟩ := ho
      have e1 := sz0 o2; have e2 := nil_of o3; have e3 := nil_of o4; have e4 : ks = [] := nil_of (by omega)
      subst h3 e1 e2 e3 e4
      have hwi : wrP (.mk 3 n ⟨#[]⟩ [] [] []) = intL n := by unfold wrP; rfl
      rw [hwi]
      have hnum := num_int (n := n) (i := i) (c := c + 1) (rest := rest) o1 hx
      have hst : c0 = 45 ∨ isDig c0 = true := by
        rw [hwi] at hw
        unfold intL at hw
        split at hw
        · injection hw with hw _; exact .inl hw.symm
        · right
          exact (digL_facts n.natAbs).1 c0 (by rw [hw]; simp)
      have hne : c0 ≠ 110 ∧ c0 ≠ 116 ∧ c0 ≠ 102 ∧ c0 ≠ 34 ∧ c0 ≠ 91 ∧ c0 ≠ 123 := by
        rcases hst with h | h
        · subst h; decide
        · refine ⟨?_, ?_, ?_, ?_, ?_, ?_⟩ <;> (intro e; subst e; exact absurd h (by decide))
      rw [hwi] at hw
      have hwd : wordP (intL n ++ rest) = none := by rw [hw]; exact word_no ⟨hne.1, hne.2.1, hne.2.2.1⟩
      have hhd : (intL n ++ rest).head? = some c0 := by rw [hw]; rfl
      unfold readP
      simp only [hwd, hhd]
      rw [if_neg (by simpa using hne.2.2.2.1), eat_no (by simp only [hhd]; simpa using hne.2.2.2.2.1), eat_no (by simp only [hhd]; simpa using hne.2.2.2.2.2)]
      simp only [Bool.false_eq_true, if_false]
      rw [hnum]
      rfl
    rw [if_neg h3] at ho
    by_cases h4 : k = 4
    · rw [if_pos h4] at ho
      simp only [Bool.and_eq_true, decide_eq_true_eq] at ho
      obtain ⟨o1, o2, o3, o4⟩ := ho
      have e2 := nil_of o3; have e3 := nil_of o4; have e4 : ks = [] := nil_of (by omega)
      subst h4 o2 e2 e3 e4
      have hwi : wrP (.mk 4 0 s [] [] []) = quoteL s.data.toList := by unfold wrP; rfl
      rw [hwi]
      have hh : (quoteL s.data.toList ++ rest).head? = some 34 := by unfold quoteL; rfl
      have hwd : wordP (quoteL s.data.toList ++ rest) = none := by unfold quoteL; exact word_no (by decide)
      unfold readP
      simp only [hwd, hh, if_true, lit_quote o1]
      rfl
    rw [if_neg h4] at ho
    by_cases h5 : k = 5
    · rw [if_pos h5] at ho
      simp only [Bool.and_eq_true, decide_eq_true_eq] at ho
      obtain ⟨o1, o2, o3⟩ := ho
      have e1 := sz0 o2; have e3 := nil_of o3; have e4 : ks = [] := nil_of (by omega)
      subst h5 o1 e1 e3 e4
      have hwi : wrP (.mk 5 0 ⟨#[]⟩ l [] []) = 91 :: (wrL l ++ [93]) := by unfold wrP; rfl
      rw [hwi]
      have hwd : wordP (91 :: (wrL l ++ [93]) ++ rest) = none := word_no (by decide)
      unfold readP
      simp only [hwd, List.cons_append, List.head?_cons]
      rw [if_neg (by decide), eat_yes]
      simp only [if_true]
      have hit : itemsP (oneL (valP d)) 93 ⟨i + 1, wrL l ++ [93] ++ rest, c + 1, 0⟩ [] = (⟨i + 1 + (wrL l).length + 1, rest, c + 1 + PV.cntL l, 0⟩, l) := by
        rw [List.append_assoc]
        cases hl2 : l with
        | nil =>
          have hs : (⟨i + 1, wrL [] ++ ([93] ++ rest), c + 1, 0⟩ : St).skip = ⟨i + 1, 93 :: rest, c + 1, 0⟩ := skip_id (nb_head (by decide))
          unfold itemsP
          rw [hs, eat_yes]
          simp only [if_true]
          exact Prod.ext (st_eq (by simp [wrL]) rfl (by simp [PV.cntL])) rfl
        | cons v r =>
          obtain ⟨c1, t1, u1, u2, u3, u4, u5⟩ := wr_head (rightL_mem hl v (by rw [hl2]; simp))
          have et : wrL (v :: r) ++ ([93] ++ rest) = wrP v ++ (wrT r ++ 93 :: rest) := by simp [wrL, List.append_assoc]
          rw [et]
          have hs : (⟨i + 1, wrP v ++ (wrT r ++ 93 :: rest), c + 1, 0⟩ : St).skip = ⟨i + 1, wrP v ++ (wrT r ++ 93 :: rest), c + 1, 0⟩ := skip_id (by simp only [u1]; exact nb_head u2)
          unfold itemsP
          rw [hs, eat_no (by simp only [u1]; simpa using u3)]
          simp only [Bool.false_eq_true, if_false]
          have hlen1 := wrL_len (v :: r)
          rw [hl2] at hIl hc
          rw [show (wrP v ++ (wrT r ++ 93 :: rest)).length + 2 = ((wrP v ++ (wrT r ++ 93 :: rest)).length + 1) + 1 from rfl, items_list r v _ _ _ rest [] hIl (by omega) (by simp only [wrL, List.length_cons, List.length_append] at hlen1 ⊢; omega)]
          refine Prod.ext (st_eq (by simp only [wrL, List.length_append]; omega) rfl rfl) (by simp)
      rw [hit]
      simp only
      refine Prod.ext (st_eq (by simp; omega) rfl (by simp [PV.cntL]; omega)) rfl
    rw [if_neg h5] at ho
    by_cases h6 : k = 6
    · rw [if_pos h6] at ho
      simp only [Bool.and_eq_true, decide_eq_true_eq] at ho
      obtain ⟨o1, o2, o3⟩ := ho
      have e1 := sz0 o2; have e2 := nil_of o3
      subst h6 o1 e1 e2
      unfold keysB at hk
      simp only [Bool.and_eq_true, List.all_eq_true, decide_eq_true_eq] at hk
      have hwi : wrP (.mk 6 0 ⟨#[]⟩ [] ks m) = 123 :: (wrM m ks ++ [125]) := by unfold wrP; rfl
      rw [hwi]
      have hwd : wordP (123 :: (wrM m ks ++ [125]) ++ rest) = none := word_no (by decide)
      unfold readP
      simp only [hwd, List.cons_append, List.head?_cons]
      rw [if_neg (by decide), eat_no (by simp)]
      simp only [Bool.false_eq_true, if_false]
      rw [eat_yes]
      simp only [if_true]
      have hit : itemsP (oneM (valP d)) 125 ⟨i + 1, wrM m ks ++ [125] ++ rest, c + 1, 0⟩ [] = (⟨i + 1 + (wrM m ks).length + 1, rest, c + 1 + PV.cntL m, 0⟩, ks.zip m) := by
        rw [List.append_assoc]
        cases hl2 : m with
        | nil =>
          have hs : (⟨i + 1, wrM [] ks ++ ([125] ++ rest), c + 1, 0⟩ : St).skip = ⟨i + 1, 125 :: rest, c + 1, 0⟩ := skip_id (nb_head (by decide))
          unfold itemsP
          rw [hs, eat_yes]
          simp only [if_true]
          exact Prod.ext (st_eq (by simp [wrM]) rfl (by simp [PV.cntL])) (by simp)
        | cons v r =>
          have et : wrM (v :: r) ks ++ ([125] ++ rest) = 34 :: ((((ks.headD ⟨#[]⟩).data.toList.flatMap qs ++ [34]) ++ (58 :: (wrP v ++ wrN r ks.tail))) ++ 125 :: rest) := by simp [wrM, quoteL, List.append_assoc]
          have hs : (⟨i + 1, wrM (v :: r) ks ++ ([125] ++ rest), c + 1, 0⟩ : St).skip = ⟨i + 1, wrM (v :: r) ks ++ ([125] ++ rest), c + 1, 0⟩ := skip_id (by simp only [et]; exact nb_head (by decide))
          unfold itemsP
          rw [hs, eat_no (by simp only [et]; simp)]
          simp only [Bool.false_eq_true, if_false]
          have hlen1 := wrM_len (v :: r) ks
          rw [hl2] at hIm hc hlen
          have := items_map r v ks ((wrM (v :: r) ks ++ ([125] ++ rest)).length + 1) (i + 1) (c + 1) rest [] hlen hk.1 (by simpa using hk.2) hIm (by omega) (by simp only [List.length_cons, List.length_append] at hlen1 ⊢; omega)
          exact this
      rw [hit]
      simp only
      refine Prod.ext (st_eq (by simp; omega) rfl (by simp [PV.cntL]; omega)) ?_
      show PV.mk 6 0 ⟨#[]⟩ [] ((ks.zip m).map Prod.fst) ((ks.zip m).map Prod.snd) = PV.mk 6 0 ⟨#[]⟩ [] ks m
      have z1 : (ks.zip m).map Prod.fst = ks := List.map_fst_zip (by omega)
      have z2 : (ks.zip m).map Prod.snd = m := List.map_snd_zip (by omega)
      rw [z1, z2]
    rw [if_neg h6] at ho
    cases ho
/-- the whole text -/
theorem parse_write {v : PV} (h : v.chk = 0) (hl : (wrP v).length ≤ 262144) : parseP (wrP v) = (v, (wrP v).length, 0) := by
  unfold PV.chk at h
  split at h
  · cases h
  · split at h
    · cases h
    · split at h
      · rename_i h1 h2 h3
        have := val_write 12 v h3 (by omega) 0 0 [] (.inl rfl) (by omega)
        rw [List.append_nil] at this
        rw [parse_end hl, this, end_ok rfl rfl]
      · cases h
end Pa
end Go.Proofs.YteofdpogjnojnaaGreatDoor
