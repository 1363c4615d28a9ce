/-
  Names that are held, in rows of one's own.
-/
import Derived.Test.YtefkpphahimkgaaGreatDoorApW2
import Derived.Test.YtefkpphahimkgaaGreatDoorGA
namespace Go.Proofs.YtefkpphahimkgaaGreatDoor
open Go.RowKit
attribute [local go_sem ↓] Go.wp_at_zero Go.wp_at_succ
set_option linter.unusedVariables false
set_option linter.unusedSimpArgs false

def hcells (hs : HL) : List Value := hs.flatMap fun p => [.string p.1, .int .i64 p.2]
theorem hcells_len (l : HL) : (hcells l).length = l.length * 2 := by
  unfold hcells
  induction l with
  | nil => rfl
  | cons v r ih => rw [List.flatMap_cons, List.length_append, ih, List.length_cons]; simp; omega
theorem hcells_app (a b : HL) : hcells (a ++ b) = hcells a ++ hcells b := by unfold hcells; rw [List.flatMap_append]
theorem hcells_at : ∀ (l : HL) (i : Nat) (hi : i < l.length) (j : Nat), j < 2 → (hcells l)[i * 2 + j]? = ([Value.string l[i].1, .int .i64 l[i].2] : List Value)[j]?
  | [], i, h, _, _ => by simp at h
  | v :: r, 0, _, j, hj => by
    unfold hcells
    rw [List.flatMap_cons, List.getElem?_append_left (by simp; omega), Nat.zero_mul, Nat.zero_add]
    rfl
  | v :: r, i + 1, h, j, hj => by
    have := hcells_at r i (by simpa using h) j hj
    unfold hcells at this ⊢
    rw [List.flatMap_cons, List.getElem?_append_right (by simp; omega), show (i + 1) * 2 + j - ([Value.string v.1, .int .i64 v.2] : List Value).length = i * 2 + j by simp; omega, this]
    rfl
theorem hcells_one (l : HL) : ∀ u ∈ hcells l, u.oneCell' = true := by
  intro u hu
  simp only [hcells, List.mem_flatMap, List.mem_cons, List.not_mem_nil, or_false] at hu
  obtain ⟨d, _, rfl | rfl⟩ := hu <;> rfl
/-- a row of one's own of names that are held -/
def OHl (w : World) (base : Nat) (v : Value) (l : HL) : Prop := w.ownsRow base 57 2 v l.length (hcells l)
section
variable {base : Nat} {S : Nat → Prop} {w w' : World} {v : Value} {l : HL}
theorem OHl.nil (w : World) (base : Nat) : OHl w base (.slice none 0 0) [] := World.ownsRow_nil _ _ _ _
theorem OHl.below (h : OHl w base v l) (hb : Below w.heap.size w w') : OHl w' base v l := by
  refine ⟨h.1, ?_⟩
  rcases h.2 with h0 | ⟨g, cap, cur, hv, hg, hh, hn⟩
  · exact .inl h0
  · exact .inr ⟨g, cap, cur, hv, hg, (hb.block g (Blk.lt (t := 57) hh)).trans hh, hn⟩
theorem OHl.fr (h : OHl w base v l) (hf : Fr S w w') (hs : ∀ g, v.ownBlock = some g → ¬ S g) : OHl w' base v l := by
  refine ⟨h.1, ?_⟩
  rcases h.2 with h0 | ⟨g, cap, cur, hv, hg, hh, hn⟩
  · exact .inl h0
  · exact .inr ⟨g, cap, cur, hv, hg, (hf.block g (Blk.lt (t := 57) hh) (hs g (by rw [hv]; rfl))).trans hh, hn⟩
theorem OHl.ge (h : OHl w base v l) : ∀ k, v.ownBlock = some k → base ≤ k := fun k hk => (World.ownsRow.lt h k hk).1
theorem OHl.lt (h : OHl w base v l) : ∀ k, v.ownBlock = some k → k < w.heap.size := fun k hk => (World.ownsRow.lt h k hk).2
theorem OHl.mono (h : OHl w base v l) {b' : Nat} (hb : b' ≤ base) : OHl w b' v l := by
  refine ⟨h.1, ?_⟩
  rcases h.2 with h0 | ⟨g, cap, cur, hv, hg, hh, hn⟩
  · exact .inl h0
  · exact .inr ⟨g, cap, cur, hv, Nat.le_trans hb hg, hh, hn⟩
/-- its form, and that it is read -/
theorem OHl.open_ (h : OHl w base v l) : ∃ A c, v = .slice A l.length c ∧ l.length ≤ c ∧ c ≤ maxLen ∧ Reads w w.heap.size 2 A l.length (hcells l) := by
  rcases h.2 with ⟨hv, h0⟩ | ⟨g, cap, cur, hv, hg, hh, hn, hm, hcs⟩
  · have : l = [] := List.eq_nil_of_length_eq_zero h0
    subst this
    exact ⟨none, 0, hv, by simp, by simp [maxLen], Reads.none_⟩
  · subst hv
    exact ⟨_, _, rfl, hn, hm, Reads.of_own h⟩
/-- the cells of one that is held -/
theorem OHl.two {A : Option Addr} {n c : Nat} (h : OHl w base (.slice A n c) l) {i : Nat} (hi : i < l.length) : ∃ g, A = some ⟨g, 0, none⟩ ∧ g < w.heap.size ∧ base ≤ g ∧ n = l.length ∧ ∀ i (hi : i < l.length), w.cell? ⟨g, i * 2, none⟩ = some (.string l[i].1) ∧ w.cell? ⟨g, i * 2 + 1, none⟩ = some (.int .i64 l[i].2) := by
  rcases h.2 with ⟨hv, h0⟩ | ⟨g, cap, cur, hv, hg, hh, hn, hm, hcs⟩
  · omega
  · have h1 := h
    injection hv with e1 e2 e3
    subst e1 e2 e3
    obtain ⟨ad, e, hlt, hc⟩ := (Reads.of_own h1).2 (by omega)
    injection e with e
    subst e
    refine ⟨g, rfl, hlt, hg, rfl, fun k hk => ⟨?_, ?_⟩⟩
    · have := hc (k * 2 + 0) _ (hcells_at l k hk 0 (by omega))
      rw [Addr.add_lit] at this
      simpa using this
    · have := hc (k * 2 + 1) _ (hcells_at l k hk 1 (by omega))
      rw [Addr.add_lit] at this
      simpa using this
end
theorem infoHeld : (Tryz.prog.info? 57).map (fun i => (i.zero, i.size, i.bytes)) = some (some (.agg #[.string ⟨#[]⟩, .int .i64 0]), 2, 24) := by kernel_rfl
/-- one more is put behind the others -/
theorem step_app_held (w : World) {ops : Array Oper} {o : Oper} {a : Act} {K : Act → World → Prop} {Q : Exit → Act → World → Prop} {E : Prop}
    (hgd : o.guard = none) (d : Option Tmp) (hd : o.dst = d) (s x : Operand)
    (ho : o.op = .call { callee := .builtin .append, args := #[s, x], argTypes := #[52, 52] })
    (base : Nat) (v : Value) (l : HL) (hs : a.eval s = v) (hown : OHl w base v l) (q : Nat) (hx : a.eval x = .slice (some ⟨q, 0, none⟩) 1 1) (nm : ByteArray) (n : Int) (hq : Blk w q 57 #[.string nm, .int .i64 n])
    (hlen : l.length ≤ 1000000) (hbase : base ≤ w.heap.size)
    (h : ∀ v' w', OHl w' base v' (l ++ [(nm, n)]) → w.grownBy w' v.ownBlock → (v'.ownBlock = v.ownBlock ∨ v'.ownBlock = some w.heap.size) → K (a.put d v') w') :
    if Region.wanted o (yielded ops a.tmps) = true then Oper.wp Tryz.prog o a w K Q else E := by
  subst hd
  obtain ⟨i0, hi0, hz0, hz1, hz2⟩ := info_parts infoHeld
  have hr : Reads w w.heap.size 2 (some ⟨q, 0, none⟩) 1 (hcells [(nm, n)]) := ⟨by rw [hcells_len]; rfl, fun _ => ⟨_, rfl, hq.lt, fun j u hu => by
    rw [Addr.add_lit, Nat.zero_add, hq.cell j]
    simpa [hcells] using hu⟩⟩
  refine step_append_any w hgd s x 52 ho base 57 i0 (.agg #[.string ⟨#[]⟩, .int .i64 0]) 2 24 Tryz.underlying52 hi0 hz0 hz1 hz2 rfl (by omega) v l.length (hcells l) hs hown _ _ 1 1 (hcells [(nm, n)]) hx hr (hcells_one _) (by simp only [maxLen]; omega) (by omega) hbase ?_
  intro v' w' h1 h2 h3
  refine h v' w' ?_ h2 h3
  unfold OHl
  rw [List.length_append, hcells_app]
  exact h1
/-- others are put behind -/
theorem step_apps_held (w : World) {ops : Array Oper} {o : Oper} {a : Act} {K : Act → World → Prop} {Q : Exit → Act → World → Prop} {E : Prop}
    (hgd : o.guard = none) (d : Option Tmp) (hd : o.dst = d) (s x : Operand)
    (ho : o.op = .call { callee := .builtin .append, args := #[s, x], argTypes := #[52, 52] })
    (base : Nat) (v : Value) (l : HL) (hs : a.eval s = v) (hown : OHl w base v l) (A : Option Addr) (m c : Nat) (hx : a.eval x = .slice A m c) (ys : HL) (hr : Reads w w.heap.size 2 A m (hcells ys)) (hm : ys.length = m)
    (hlen : l.length + m ≤ 1000000) (hbase : base ≤ w.heap.size)
    (h : ∀ v' w', OHl w' base v' (l ++ ys) → w.grownBy w' v.ownBlock → (v'.ownBlock = v.ownBlock ∨ v'.ownBlock = some w.heap.size) → K (a.put d v') w') :
    if Region.wanted o (yielded ops a.tmps) = true then Oper.wp Tryz.prog o a w K Q else E := by
  subst hd
  obtain ⟨i0, hi0, hz0, hz1, hz2⟩ := info_parts infoHeld
  refine step_append_any w hgd s x 52 ho base 57 i0 (.agg #[.string ⟨#[]⟩, .int .i64 0]) 2 24 Tryz.underlying52 hi0 hz0 hz1 hz2 rfl (by omega) v l.length (hcells l) hs hown _ A m c (hcells ys) hx hr (hcells_one _) (by simp only [maxLen]; omega) (by omega) hbase ?_
  intro v' w' h1 h2 h3
  refine h v' w' ?_ h2 h3
  unfold OHl
  rw [List.length_append, hcells_app, hm]
  exact h1
theorem OHl.empty (w : World) (base g : Nat) (h : Blk w g 57 #[]) (hb : base ≤ g) : OHl w base (.slice (some ⟨g, 0, none⟩) 0 0) [] :=
  ⟨rfl, .inr ⟨g, 0, #[], rfl, hb, h, Nat.le_refl _, by unfold maxLen; omega, rfl, rfl⟩⟩
/-- some of them are read -/
theorem hreads {w : World} {g : Nat} {l : HL} (hg : g < w.heap.size) (h : ∀ i (hi : i < l.length), w.cell? ⟨g, i * 2, none⟩ = some (.string l[i].1) ∧ w.cell? ⟨g, i * 2 + 1, none⟩ = some (.int .i64 l[i].2)) (o : Nat) (ys : HL) (hy : ∀ i (hi : i < ys.length), o + i < l.length ∧ l[o + i]? = some ys[i]) : Reads w w.heap.size 2 (some ⟨g, o * 2, none⟩) ys.length (hcells ys) := by
  refine ⟨hcells_len ys, fun _ => ⟨_, rfl, hg, fun j u hu => ?_⟩⟩
  have hj : j < ys.length * 2 := by
    rcases Nat.lt_or_ge j (ys.length * 2) with h | h
    · exact h
    · rw [List.getElem?_eq_none (by rw [hcells_len]; exact h)] at hu; cases hu
  obtain ⟨h1, h2⟩ := hy (j / 2) (by omega)
  rw [List.getElem?_eq_getElem h1] at h2
  injection h2 with h2
  obtain ⟨k0, k1⟩ := h (o + j / 2) h1
  rw [h2] at k0 k1
  rw [Addr.add_lit]
  rcases (by omega : j = j / 2 * 2 + 0 ∨ j = j / 2 * 2 + 1) with e | e
  · have h3 := hcells_at ys (j / 2) (by omega) 0 (by omega)
    rw [← e, hu] at h3
    rw [show o * 2 + j = (o + j / 2) * 2 from by omega]
    exact k0.trans h3.symm
  · have h3 := hcells_at ys (j / 2) (by omega) 1 (by omega)
    rw [← e, hu] at h3
    rw [show o * 2 + j = (o + j / 2) * 2 + 1 from by omega]
    exact k1.trans h3.symm
theorem hreads_nil {w : World} (A : Option Addr) {ys : HL} (h : ys.length = 0) : Reads w w.heap.size 2 A 0 (hcells ys) := by
  have : ys = [] := List.eq_nil_of_length_eq_zero h
  subst this
  exact ⟨rfl, fun hn => absurd hn (Nat.lt_irrefl _)⟩
/-! plain -/
/-- is a name none of some files'? -/
def firB (l : List ME) (nm : ByteArray) : Bool := l.all (fun m => decide (m.name ≠ nm))
theorem verS_some (hs : HL) (m : ME) (s : ByteArray) : (getH (verS hs m) s).isSome = ((getH hs s).isSome || decide (m.name = s)) := by
  unfold verS
  split
  · rename_i h
    by_cases e : m.name = s
    · rw [← e, h]; simp
    · rw [decide_eq_false e, Bool.or_false]
  · unfold getH
    rw [List.find?_append]
    cases hf : hs.find? (fun p => decide (p.1 = s)) with
    | some x => simp
    | none =>
      by_cases e : m.name = s
      · simp [e]
      · simp [e]
theorem foldl_some (l : List ME) (s : ByteArray) : ∀ hs : HL, (getH (l.foldl verS hs) s).isSome = ((getH hs s).isSome || l.any (fun m => decide (m.name = s))) := by
  induction l with
  | nil => intro hs; simp
  | cons m r ih =>
    intro hs
    rw [List.foldl_cons, ih, verS_some, List.any_cons, Bool.or_assoc]
theorem versL_some (l : List ME) (s : ByteArray) : (getH (versL l) s).isSome = !firB l s := by
  unfold versL firB
  rw [foldl_some, List.all_eq_not_any_not]
  simp [getH]
theorem firB_next {l : List ME} {k : Nat} (hk : k < l.length) (nm : ByteArray) : firB (l.take (k + 1)) nm = (firB (l.take k) nm && decide (l[k].name ≠ nm)) := by
  unfold firB
  rw [List.take_succ_eq_append_getElem hk, List.all_append]
  simp
/-- where a name is held -/
def idxH (hs : HL) (s : ByteArray) : Option Nat := hs.findIdx? (fun p => decide (p.1 = s))
theorem idxH_iff {hs : HL} (h : (hs.map Prod.fst).Nodup) {s : ByteArray} {k : Nat} (hk : k < hs.length) : hs[k].1 = s ↔ idxH hs s = some k := by
  unfold idxH
  rw [List.findIdx?_eq_some_iff_getElem]
  constructor
  · intro e
    refine ⟨hk, by simp [e], fun j hj => ?_⟩
    simp only [Bool.not_eq_true, decide_eq_false_iff_not]
    intro e2
    have hkl : k < (hs.map Prod.fst).length := by rw [List.length_map]; exact hk
    have hjl : j < (hs.map Prod.fst).length := by rw [List.length_map]; omega
    have := (List.getElem_inj (h₀ := hjl) (h₁ := hkl) h).1 (by rw [List.getElem_map, List.getElem_map, e2, e])
    omega
  · rintro ⟨_, h1, _⟩
    simpa using h1
theorem idxH_get {hs : HL} {s : ByteArray} : getH hs s = match idxH hs s with | none => none | some k => hs[k]?.map Prod.snd := by
  unfold getH idxH
  induction hs with
  | nil => rfl
  | cons p r ih =>
    rw [List.find?_cons, List.findIdx?_cons]
    by_cases e : p.1 = s
    · simp [e]
    · simp only [e, decide_false, Bool.false_eq_true, if_false]
      rw [ih]
      cases r.findIdx? (fun p => decide (p.1 = s)) with
      | none => rfl
      | some k => simp
theorem idxH_lt {hs : HL} {s : ByteArray} {k : Nat} (h : idxH hs s = some k) : k < hs.length := by
  unfold idxH at h
  rw [List.findIdx?_eq_some_iff_getElem] at h
  exact h.1
/-- the last place of a name among the first k -/
def atK (hs : HL) (s : ByteArray) (k : Nat) : Int := match idxH hs s with | none => -1 | some j => if j < k then (j : Int) else -1
theorem atK_zero (hs : HL) (s : ByteArray) : atK hs s 0 = -1 := by
  unfold atK
  split
  · rfl
  · rw [if_neg (by omega)]
theorem atK_next {hs : HL} (h : (hs.map Prod.fst).Nodup) {s : ByteArray} {k : Nat} (hk : k < hs.length) : atK hs s (k + 1) = if hs[k].1 = s then (k : Int) else atK hs s k := by
  by_cases e : hs[k].1 = s
  · rw [if_pos e]
    have := (idxH_iff h hk).1 e
    unfold atK
    rw [this]
    simp
  · rw [if_neg e]
    unfold atK
    cases hi : idxH hs s with
    | none => rfl
    | some j =>
      have hne : j ≠ k := fun e2 => e ((idxH_iff h hk).2 (by rw [hi, e2]))
      show (if j < k + 1 then (j : Int) else -1) = if j < k then (j : Int) else -1
      by_cases hj : j < k
      · rw [if_pos hj, if_pos (by omega)]
      · rw [if_neg hj, if_neg (by omega)]
theorem atK_all {hs : HL} {s : ByteArray} : atK hs s hs.length = match idxH hs s with | none => -1 | some j => (j : Int) := by
  unfold atK
  cases hi : idxH hs s with
  | none => rfl
  | some j =>
    have := idxH_lt hi
    simp [this]
theorem dropH_none_idx {hs : HL} {s : ByteArray} (h : idxH hs s = none) : dropH hs s = hs ∧ haveH hs s = 0 := by
  have hg : getH hs s = none := by rw [idxH_get, h]
  exact ⟨dropH_none hg, by unfold haveH; rw [hg]; rfl⟩
theorem dropH_at {hs : HL} (hnd : (hs.map Prod.fst).Nodup) {s : ByteArray} {j : Nat} (h : idxH hs s = some j) (hj : j < hs.length) : dropH hs s = hs.take j ++ hs.drop (j + 1) ∧ haveH hs s = hs[j].2 := by
  have hg : getH hs s = some hs[j].2 := by rw [idxH_get, h]; simp [hj]
  refine ⟨?_, by unfold haveH; rw [hg]; rfl⟩
  have hns : ∀ i (hi : i < hs.length), i ≠ j → hs[i].1 ≠ s := fun i hi hne e => by
    have := (idxH_iff hnd hi).1 e
    rw [h] at this
    injection this with this
    exact hne this.symm
  unfold dropH
  have e1 : hs = hs.take j ++ hs[j] :: hs.drop (j + 1) := by
    rw [List.getElem_cons_drop, List.take_append_drop]
  conv => lhs; rw [e1]
  rw [List.filter_append, List.filter_cons, if_neg (by have := (idxH_iff hnd hj).2 h; simp [this])]
  congr 1
  · rw [List.filter_eq_self]
    intro p hp
    obtain ⟨i, hi, rfl⟩ := List.getElem_of_mem hp
    rw [List.length_take] at hi
    rw [List.getElem_take]
    simpa using hns i (by omega) (by omega)
  · rw [List.filter_eq_self]
    intro p hp
    obtain ⟨i, hi, rfl⟩ := List.getElem_of_mem hp
    rw [List.length_drop] at hi
    rw [List.getElem_drop]
    simpa using hns (j + 1 + i) (by omega) (by omega)
theorem dropH_le (hs : HL) (s : ByteArray) : (dropH hs s).length ≤ hs.length := List.length_filter_le _ _
end Go.Proofs.YtefkpphahimkgaaGreatDoor
