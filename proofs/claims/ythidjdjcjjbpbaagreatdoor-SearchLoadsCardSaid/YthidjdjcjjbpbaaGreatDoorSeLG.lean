/-
  A row that the call owns, of which a slice begins anywhere: append onto it, a slice of it from the second element on.
-/
import Derived.Test.YthidjdjcjjbpbaaGreatDoorSeA
namespace Go.Proofs.YthidjdjcjjbpbaaGreatDoor
open Go.RowKit Sea
set_option linter.unusedVariables false

def LG (t : TypeId) (size : Nat) (w : World) (base : Nat) (v : Value) (n : Nat) (xs : List Value) : Prop :=
  xs.length = n * size ∧ ((v = .slice none 0 0 ∧ n = 0) ∨ ∃ g off cap cur, v = .slice (some ⟨g, off, none⟩) n cap ∧ base ≤ g ∧ Blk w g t cur ∧ n ≤ cap ∧ cap ≤ maxLen ∧ off + cap * size ≤ cur.size ∧ (cur.toList.drop off).take (n * size) = xs)
section
variable {t : TypeId} {size n base : Nat} {S : Nat → Prop} {w w' : World} {v : Value} {xs : List Value}
theorem LG.of (h : OG t size w base v n xs) : LG t size w base v n xs := by
  refine ⟨h.1, ?_⟩
  rcases h.2 with h0 | ⟨g, cap, cur, hv, hg, hh, hn, hm, hs, ht⟩
  · exact .inl h0
  · exact .inr ⟨g, 0, cap, cur, hv, hg, hh, hn, hm, by omega, by simpa using ht⟩
theorem LG.frT (h : LG t size w base v n xs) (hf : Fr S w w') (hs : ∀ g cs, Blk w g t cs → ¬ S g) : LG t size w' base v n xs := by
  refine ⟨h.1, ?_⟩
  rcases h.2 with h0 | ⟨g, off, cap, cur, hv, hg, hh, hn⟩
  · exact .inl h0
  · exact .inr ⟨g, off, cap, cur, hv, hg, (hf.block g (Blk.lt (t := t) hh) (hs g cur hh)).trans hh, hn⟩
theorem LG.below (h : LG t size w base v n xs) (hb : Below w.heap.size w w') : LG t size w' base v n xs := h.frT (S := fun _ => False) (Fr.of_below hb) (fun _ _ _ e => e)
theorem LG.ge (h : LG t size w base v n xs) : ∀ k, v.ownBlock = some k → base ≤ k := fun k hk => by
  rcases h.2 with ⟨hv, _⟩ | ⟨g, off, cap, cur, hv, hg, _⟩
  · rw [hv] at hk; cases hk
  · rw [hv] at hk; cases hk; exact hg
theorem LG.far (h : LG t size w base v n xs) {g : Nat} {t' : TypeId} {cs : Array Value} (hb : Blk w g t' cs) (hne : t' ≠ t) : ¬ v.ownBlock = some g := fun e => by
  rcases h.2 with ⟨hv, _⟩ | ⟨g', off, cap, cur, hv, _, hh, _⟩
  · rw [hv] at e; cases e
  · rw [hv] at e; cases e; exact hb.ne_ hh hne rfl
/-- its form -/
theorem LG.form (h : LG t size w base v n xs) : ∃ A c, v = .slice A n c ∧ n ≤ c ∧ c ≤ maxLen ∧ (0 < n → ∃ g off, A = some ⟨g, off, none⟩ ∧ g < w.heap.size ∧ ∀ j u, xs[j]? = some u → w.cell? ⟨g, off + j, none⟩ = some u) := by
  rcases h.2 with ⟨rfl, rfl⟩ | ⟨g, off, cap, cur, rfl, _, hh, h1, h2, h3, h4⟩
  · exact ⟨none, 0, rfl, Nat.le_refl _, by simp [maxLen], fun h => absurd h (by omega)⟩
  · refine ⟨_, cap, rfl, h1, h2, fun _ => ⟨g, off, rfl, hh.lt, fun j u hu => ?_⟩⟩
    rw [hh.cell]
    rw [← h4] at hu
    have hj : j < n * size := by
      have := (List.getElem?_eq_some_iff.1 hu).1
      rw [List.length_take] at this
      omega
    rw [List.getElem?_take_of_lt hj, List.getElem?_drop] at hu
    simpa using hu
/-- from the second element on -/
theorem LG.tail {A : Option Addr} {c : Nat} (h : LG t size w base (.slice A n c) n xs) (hn : 0 < n) (hsz : 0 < size) : ∃ g off, A = some ⟨g, off, none⟩ ∧ n ≤ c ∧ c ≤ maxLen ∧
    (c = 1 → LG t size w base (.slice (some ⟨g, off, none⟩) (n - 1) 0) (n - 1) (xs.drop size)) ∧ (c ≠ 1 → LG t size w base (.slice (some ⟨g, off + size, none⟩) (n - 1) (c - 1)) (n - 1) (xs.drop size)) := by
  have hl : (xs.drop size).length = (n - 1) * size := by rw [List.length_drop, h.1, Nat.sub_mul]; omega
  rcases h.2 with ⟨_, h0⟩ | ⟨g, off, cap, cur, hv, hg, hh, h1, h2, h3, h4⟩
  · omega
  · cases hv
    have hcut : ((cur.toList.drop off).take (n * size)).drop size = (cur.toList.drop (off + size)).take ((n - 1) * size) := by
      rw [List.drop_take, List.drop_drop, Nat.sub_mul]
      congr 1
      omega
    refine ⟨g, off, rfl, h1, h2, fun hc => ⟨hl, .inr ⟨g, off, 0, cur, rfl, hg, hh, by omega, by simp [maxLen], by omega, ?_⟩⟩, fun hc => ⟨hl, .inr ⟨g, off + size, c - 1, cur, rfl, hg, hh, by omega, by omega, ?_, ?_⟩⟩⟩
    · rw [show n - 1 = 0 by omega] at hl ⊢
      rw [Nat.zero_mul] at hl ⊢
      rw [List.eq_nil_of_length_eq_zero hl]; rfl
    · have : c * size = (c - 1) * size + size := by rw [← Nat.succ_mul]; congr 1; omega
      omega
    · rw [← hcut, h4]
end
section
variable {P : Program} (w : World)
theorem run_append_room_at (t ty e : TypeId) (i : TypeInfo) (ht : P.underlying t = some (.slice e)) (hi : P.info? e = some i)
    (g off sLen sCap : Nat) (cur : Array Value) (hg : w.heap[g]? = some (.cells cur e (0, 0)))
    (a : Addr) (m c : Nat) (news : List Value) (hl : news.length = m * i.size) (hnews : ∀ j u, news[j]? = some u → w.cell? (a.add j) = some u) (h1 : ∀ u ∈ news, u.oneCell' = true)
    (hroom : sLen + m ≤ sCap) (hfit : off + sLen * i.size + news.length ≤ cur.size) :
    (Builtin.append_ #[t, t] ty #[.slice (some ⟨g, off, none⟩) sLen sCap, .slice (some a) m c]).run P w =
      .ok (.slice (some ⟨g, off, none⟩) (sLen + m) sCap) (w.setRow g (cur.toList.take (off + sLen * i.size) ++ news ++ cur.toList.drop (off + sLen * i.size + news.length)).toArray) := by
  have hf := run_firstCells_some (P := P) w i.size m a m c news hl hnews
  have hst := run_storeCells_at P g (off + sLen * i.size) e news 0 cur w hg (by simpa using hfit) h1
  simp only [Nat.add_zero] at hst
  simp [Builtin.append_, run_underlying ht, sizeOf, typeInfo, hi, Builtin.lenOf, hroom, hf, Addr.add_lit, hst]
theorem run_append_lg (base : Nat) (t ty e : TypeId) (i : TypeInfo) (z : Value) (size bytes : Nat) (ht : P.underlying t = some (.slice e)) (hi : P.info? e = some i) (hz : i.zero = some z)
    (hsize : i.size = size) (hby : i.bytes = bytes) (hzs : z.cells.size = size) (hsz : 0 < size)
    (v : Value) (n : Nat) (xs : List Value) (hown : LG e size w base v n xs)
    (a : Addr) (m c : Nat) (news : List Value) (hl : news.length = m * size) (hnews : ∀ j u, news[j]? = some u → w.cell? (a.add j) = some u) (h1 : ∀ u ∈ news, u.oneCell' = true) (hm : 0 < m)
    (h63 : n + m ≤ maxLen) (hbytes : (n + m) * bytes ≤ 140737488355328) (hbase : base ≤ w.heap.size) :
    ∃ v' w', (Builtin.append_ #[t, t] ty #[v, .slice (some a) m c]).run P w = .ok v' w' ∧ LG e size w' base v' (n + m) (xs ++ news) ∧ w.grownBy w' v.ownBlock ∧ (v'.ownBlock = v.ownBlock ∨ v'.ownBlock = some w.heap.size) := by
  subst hsize
  subst hby
  have hsmall : n + m ≤ 9223372036854775807 := by simp only [maxLen] at h63; omega
  have hlen : (xs ++ news).length = (n + m) * i.size := by rw [List.length_append, hown.1, hl, Nat.add_mul]
  have grown : ∀ (old : Nat), old < n + m → ∀ (row : Option Nat),
      LG e i.size (w.drew.alloc (.cells (xs.toArray ++ news.toArray ++ Builtin.zeroCells z.cells (grownCap w (n + m) old e - (n + m))) e)) base
        (.slice (some ⟨w.heap.size, 0, none⟩) (n + m) (grownCap w (n + m) old e)) (n + m) (xs ++ news) ∧
      w.grownBy (w.drew.alloc (.cells (xs.toArray ++ news.toArray ++ Builtin.zeroCells z.cells (grownCap w (n + m) old e - (n + m))) e)) row := by
    intro old ho row
    have hge := grownCap_ge w (n + m) old e
    have hcm : grownCap w (n + m) old e ≤ maxLen := grownCap_le_maxLen w (n + m) old e h63
    refine ⟨LG.of ⟨hlen, .inr ⟨w.heap.size, _, _, rfl, hbase, heap_alloc_new w.drew _, hge, hcm, ?_, ?_⟩⟩, ⟨rfl, rfl, rfl, by simp, fun k hk _ => Below.heap_alloc w.drew _ k hk⟩⟩
    · simp only [Array.size_append, List.size_toArray, size_zeroCells, hzs, hown.1, hl, ← Nat.add_mul]
      congr 1
      omega
    · simp only [Array.toList_append, List.append_assoc]
      rw [← List.append_assoc, ← hlen]
      exact List.take_left
  rcases hown.2 with ⟨rfl, rfl⟩ | ⟨g, off, cap, cur, rfl, hbg, hg, hnc, hcm, hcs, htake⟩
  · have hx : xs = [] := List.eq_nil_of_length_eq_zero (by simpa using hown.1)
    subst hx
    have hr := run_append_nil (P := P) w t ty e i z ht hi hz a m c news hl hnews (by omega) (by omega) (by have hb := hbytes; simp only [Nat.zero_add] at hb; omega)
    have hgr := grown 0 (by omega) (Value.ownBlock (.slice none 0 0))
    simp only [Nat.zero_add, List.nil_append, Array.empty_append] at hgr ⊢
    exact ⟨_, _, hr, hgr.1, hgr.2, Or.inr rfl⟩
  · by_cases hroom : n + m ≤ cap
    · have hmul : (n + m) * i.size ≤ cap * i.size := Nat.mul_le_mul_right _ hroom
      rw [Nat.add_mul] at hmul
      have hfit : off + n * i.size + news.length ≤ cur.size := by rw [hl]; omega
      have hr := run_append_room_at (P := P) w t ty e i ht hi g off n cap cur hg a m c news hl hnews h1 hroom hfit
      refine ⟨_, _, hr, ⟨hlen, .inr ⟨g, off, cap, _, rfl, hbg, setRow_heap w g cur _ e _ hg, hroom, hcm, ?_, ?_⟩⟩, ⟨rfl, rfl, rfl, by simp, fun k _ hk => setRow_other w g k _ (fun e => hk (by simp [Value.ownBlock, e]))⟩, Or.inl rfl⟩
      · simp only [List.size_toArray, List.length_append, List.length_take, List.length_drop, Array.length_toList]
        omega
      · have e1 : (cur.toList.take (off + n * i.size) ++ news ++ cur.toList.drop (off + n * i.size + news.length)).drop off = (cur.toList.drop off).take (n * i.size) ++ (news ++ cur.toList.drop (off + n * i.size + news.length)) := by
          rw [List.append_assoc, List.drop_append_of_le_length (by rw [List.length_take, Array.length_toList]; omega), List.drop_take]
          congr 2
          omega
        show List.take _ (List.drop _ _) = _
        rw [e1, htake, ← List.append_assoc, ← hlen]
        exact List.take_left
    · have holds : ∀ j u, xs[j]? = some u → w.cell? ((⟨g, off, none⟩ : Addr).add j) = some u := fun j u hu => by
        obtain ⟨A, c', e1, _, _, hc⟩ := hown.form
        cases e1
        have hn0 : 0 < n := by
          rcases Nat.eq_zero_or_pos n with h0 | h0
          · subst h0
            have : xs = [] := List.eq_nil_of_length_eq_zero (by simpa using hown.1)
            rw [this] at hu; simp at hu
          · exact h0
        obtain ⟨g', off', e2, _, hc⟩ := hc hn0
        cases e2
        rw [Addr.add_lit]
        exact hc j u hu
      have hr := run_append_grow (P := P) w t ty e i z ht hi hz ⟨g, off, none⟩ n cap xs hown.1 holds a m c news hl hnews (by omega) (by omega) (growslice_fits (by omega) hbytes)
      have hgr := grown cap (by omega) (Value.ownBlock (.slice (some ⟨g, off, none⟩) n cap))
      exact ⟨_, _, hr, hgr.1, hgr.2, Or.inr rfl⟩
end
theorem app_lg (w : World) {t tS : TypeId} {size bytes : Nat} {ops : Array Oper} {rest : List Oper} {o : Oper} {a : Act} {Q : Exit → Act → World → Prop} (hinfo : (Tryz.prog.info? t).map (fun i => (i.zero.map (fun z => z.cells.size), i.size, i.bytes)) = some (some size, size, bytes)) (ht : Tryz.prog.underlying tS = some (.slice t)) (hsz : 0 < size) (hbs : bytes ≤ 1000)
    (hgd : o.guard = none) (s x : Operand)
    (ho : o.op = .call { callee := .builtin .append, args := #[s, x], argTypes := #[tS, tS] })
    (base : Nat) (v : Value) (n : Nat) (xs : List Value) (hs : a.eval s = v) (hown : LG t size w base v n xs) (A : Option Addr) (m c : Nat) (ys : List Value) (hx : a.eval x = .slice A m c) (hr : Reads w w.heap.size size A m ys) (h1 : ∀ u ∈ ys, u.oneCell' = true) (hm : 0 < m)
    (hlen : n + m ≤ 1000000000) (hbase : base ≤ w.heap.size)
    (h : ∀ v' w', LG t size w' base v' (n + m) (xs ++ ys) → w.grownBy w' v.ownBlock → (v'.ownBlock = v.ownBlock ∨ v'.ownBlock = some w.heap.size) → wpList Tryz.prog ops Q rest (a.put o.dst v') w') : wpList Tryz.prog ops Q (o :: rest) a w := by
  obtain ⟨i0, z0, hi0, hz0, hz1, hz2, hz3⟩ := infoG hinfo
  refine wpList_plain hgd fun K hK => ?_
  obtain ⟨ad, rfl, _, hc⟩ := hr.2 hm
  obtain ⟨v', w', hrun, g1, g2, g3⟩ := run_append_lg (P := Tryz.prog) w base tS o.type t i0 z0 size bytes ht hi0 hz0 hz2 hz3 hz1 hsz v n xs hown ad m c ys hr.1 hc h1 hm (by simp only [maxLen]; omega) (by
    have : (n + m) * bytes ≤ (n + m) * 1000 := Nat.mul_le_mul_left _ hbs
    omega) hbase
  unfold Oper.wp execOp
  simp only [ho, resolve, invoke, builtin, Sem.run_bind, Sem.run_pure, Result.andThen_ok, List.map_toArray, List.map_cons, List.map_nil, hs, hx, hrun]
  exact hK _ _ (h v' w' g1 g2 g3)
end Go.Proofs.YthidjdjcjjbpbaaGreatDoor
