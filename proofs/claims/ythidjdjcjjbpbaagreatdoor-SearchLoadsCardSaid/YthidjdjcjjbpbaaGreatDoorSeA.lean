/-
  Rows that a call owns, of elements of any size: append onto them; a delegation's, a todo's, metadata's cells.
-/
import Derived.Test.YthidjdjcjjbpbaaGreatDoorSeW5
namespace Go.Proofs.YthidjdjcjjbpbaaGreatDoor
open Go.RowKit Sea
set_option linter.unusedVariables false

/-- a slice value that owns a row of n elements -/
abbrev OG (t : TypeId) (size : Nat) (w : World) (base : Nat) (v : Value) (n : Nat) (xs : List Value) : Prop := w.ownsRow base t size v n xs
section
variable {t : TypeId} {size n base : Nat} {S : Nat → Prop} {w w' : World} {v : Value} {xs : List Value}
theorem OG.nil (t : TypeId) (size : Nat) (w : World) (base : Nat) : OG t size w base (.slice none 0 0) 0 [] := World.ownsRow_nil _ _ _ _
theorem OG.below (h : OG t size w base v n xs) (hb : Below w.heap.size w w') : OG t size w' base v n xs := by
  refine ⟨h.1, ?_⟩
  rcases h.2 with h0 | ⟨g, cap, cur, hv, hg, hh, hn⟩
  · exact .inl h0
  · exact .inr ⟨g, cap, cur, hv, hg, (hb.block g (Blk.lt (t := t) hh)).trans hh, hn⟩
theorem OG.fr (h : OG t size w base v n xs) (hf : Fr S w w') (hs : ∀ g, v.ownBlock = some g → ¬ S g) : OG t size w' base v n xs := by
  refine ⟨h.1, ?_⟩
  rcases h.2 with h0 | ⟨g, cap, cur, hv, hg, hh, hn⟩
  · exact .inl h0
  · exact .inr ⟨g, cap, cur, hv, hg, (hf.block g (Blk.lt (t := t) hh) (hs g (by rw [hv]; rfl))).trans hh, hn⟩
theorem OG.mono (h : OG t size w base v n xs) {b' : Nat} (hb : b' ≤ base) : OG t size w b' v n xs := by
  refine ⟨h.1, ?_⟩
  rcases h.2 with h0 | ⟨g, cap, cur, hv, hg, hh⟩
  · exact .inl h0
  · exact .inr ⟨g, cap, cur, hv, by omega, hh⟩
theorem OG.alloc (h : OG t size w base v n xs) (o : Obj) : OG t size (w.alloc o) base v n xs := OG.below h ((Below.refl _ _).alloc (Nat.le_refl _) _)
theorem OG.ge (h : OG t size w base v n xs) : ∀ k, v.ownBlock = some k → base ≤ k := fun k hk => (World.ownsRow.lt h k hk).1
theorem OG.lt (h : OG t size w base v n xs) : ∀ k, v.ownBlock = some k → k < w.heap.size := fun k hk => (World.ownsRow.lt h k hk).2
theorem OG.frT (h : OG t size w base v n xs) (hf : Fr S w w') (hs : ∀ g cs, Blk w g t cs → ¬ S g) : OG t size w' base v n xs := by
  refine ⟨h.1, ?_⟩
  rcases h.2 with h0 | ⟨g, cap, cur, hv, hg, hh, hn⟩
  · exact .inl h0
  · exact .inr ⟨g, cap, cur, hv, hg, (hf.block g (Blk.lt (t := t) hh) (hs g cur hh)).trans hh, hn⟩
theorem OG.blk (h : OG t size w base v n xs) : ∀ g, v.ownBlock = some g → ∃ cur, Blk w g t cur := fun g hg => by
  rcases h.2 with ⟨hv, _⟩ | ⟨g', cap, cur, hv, _, hh, _⟩
  · rw [hv] at hg; cases hg
  · rw [hv] at hg; cases hg; exact ⟨cur, hh⟩
theorem OG.far (h : OG t size w base v n xs) {g : Nat} {t' : TypeId} {cs : Array Value} (hb : Blk w g t' cs) (hne : t' ≠ t) : ¬ v.ownBlock = some g := fun e => by
  obtain ⟨cur, hc⟩ := OG.blk h g e
  exact hb.ne_ hc hne rfl
/-- its form -/
theorem OG.form (h : OG t size w base v n xs) : ∃ A c, v = .slice A n c ∧ n ≤ c ∧ c ≤ maxLen ∧ Reads w w.heap.size size A n xs ∧ (∀ ad, A = some ad → base ≤ ad.block ∧ ad.block < w.heap.size ∧ ad.off = 0 ∧ ad.spot = none ∧ v.ownBlock = some ad.block ∧ ∃ cur, Blk w ad.block t cur) := by
  have h' := h
  rcases h.2 with ⟨rfl, rfl⟩ | ⟨g, cap, cur, rfl, hg, hh, hnc, hcm, _⟩
  · exact ⟨none, 0, rfl, Nat.le_refl _, by simp [maxLen], Reads.of_own h', fun _ e => by cases e⟩
  · exact ⟨_, cap, rfl, hnc, hcm, Reads.of_own h', by rintro ad ⟨rfl⟩; exact ⟨hg, Blk.lt (t := t) hh, rfl, rfl, rfl, cur, hh⟩⟩
end
theorem infoG {t : TypeId} {s b : Nat} (h : (Tryz.prog.info? t).map (fun i => (i.zero.map (fun z => z.cells.size), i.size, i.bytes)) = some (some s, s, b)) : ∃ i0 z0, Tryz.prog.info? t = some i0 ∧ i0.zero = some z0 ∧ z0.cells.size = s ∧ i0.size = s ∧ i0.bytes = b := by
  cases hi : Tryz.prog.info? t with
  | none => rw [hi] at h; cases h
  | some i =>
    rw [hi] at h
    simp only [Option.map_some, Option.some.injEq, Prod.mk.injEq] at h
    obtain ⟨h1, h2, h3⟩ := h
    cases hz : i.zero with
    | none => rw [hz] at h1; cases h1
    | some z => rw [hz] at h1; injection h1 with h1; exact ⟨i, z, rfl, hz, h1, h2, h3⟩
theorem infoDel : (Tryz.prog.info? 59).map (fun i => (i.zero.map (fun z => z.cells.size), i.size, i.bytes)) = some (some 6, 6, 104) := by kernel_rfl
theorem infoTodo : (Tryz.prog.info? 70).map (fun i => (i.zero.map (fun z => z.cells.size), i.size, i.bytes)) = some (some 7, 7, 128) := by kernel_rfl
theorem infoTgs : (Tryz.prog.info? 26).map (fun i => (i.zero.map (fun z => z.cells.size), i.size, i.bytes)) = some (some 5, 5, 88) := by kernel_rfl
theorem infoKeyG : (Tryz.prog.info? 78).map (fun i => (i.zero.map (fun z => z.cells.size), i.size, i.bytes)) = some (some 35, 35, 64) := by kernel_rfl
theorem infoStrG : (Tryz.prog.info? 9).map (fun i => (i.zero.map (fun z => z.cells.size), i.size, i.bytes)) = some (some 1, 1, 16) := by kernel_rfl
/-- what 'buildSlice' makes of one element -/
theorem reads_new (w : World) (t : TypeId) (cs : Array Value) : Reads (w.alloc (.cells cs t)) (w.alloc (.cells cs t)).heap.size cs.size (some ⟨w.heap.size, 0, none⟩) 1 cs.toList := by
  refine ⟨by simp, fun _ => ⟨_, rfl, by simp, fun j u hu => ?_⟩⟩
  have h := (Blk.new w t cs).cell j
  rw [Addr.add_lit, Nat.zero_add, h]
  simpa using hu
theorem app_raw (w : World) {t tS : TypeId} {size bytes : Nat} {ops : Array Oper} {rest : List Oper} {o : Oper} {a : Act} {Q : Exit → Act → World → Prop} (hinfo : (Tryz.prog.info? t).map (fun i => (i.zero.map (fun z => z.cells.size), i.size, i.bytes)) = some (some size, size, bytes)) (ht : Tryz.prog.underlying tS = some (.slice t)) (hsz : 0 < size) (hbs : bytes ≤ 1000)
    (hgd : o.guard = none) (s x : Operand)
    (ho : o.op = .call { callee := .builtin .append, args := #[s, x], argTypes := #[tS, tS] })
    (base : Nat) (v : Value) (n : Nat) (xs : List Value) (hs : a.eval s = v) (hown : OG t size w base v n xs) (A : Option Addr) (m c : Nat) (ys : List Value) (hx : a.eval x = .slice A m c) (hr : Reads w w.heap.size size A m ys) (h1 : ∀ u ∈ ys, u.oneCell' = true)
    (hlen : n + m ≤ 1000000000) (hbase : base ≤ w.heap.size)
    (h : ∀ v' w', OG t size w' base v' (n + m) (xs ++ ys) → w.grownBy w' v.ownBlock → (v'.ownBlock = v.ownBlock ∨ v'.ownBlock = some w.heap.size) → wpList Tryz.prog ops Q rest (a.put o.dst v') w') : wpList Tryz.prog ops Q (o :: rest) a w := by
  obtain ⟨i0, z0, hi0, hz0, hz1, hz2, hz3⟩ := infoG hinfo
  refine wpList_append_any _ hgd s x tS ho base t i0 z0 size bytes ht hi0 hz0 hz2 hz3 hz1 hsz v n xs hs hown _ A m c ys hx hr h1 (by simp only [maxLen]; omega) ?_ hbase h
  have : (n + m) * bytes ≤ (n + m) * 1000 := Nat.mul_le_mul_left _ hbs
  omega
theorem step_raw (w : World) {t tS : TypeId} {size bytes : Nat} {ops : Array Oper} {o : Oper} {a : Act} {K : Act → World → Prop} {Q : Exit → Act → World → Prop} {E : Prop} (hinfo : (Tryz.prog.info? t).map (fun i => (i.zero.map (fun z => z.cells.size), i.size, i.bytes)) = some (some size, size, bytes)) (ht : Tryz.prog.underlying tS = some (.slice t)) (hsz : 0 < size) (hbs : bytes ≤ 1000)
    (hgd : o.guard = none) (s x : Operand)
    (ho : o.op = .call { callee := .builtin .append, args := #[s, x], argTypes := #[tS, tS] })
    (base : Nat) (v : Value) (n : Nat) (xs : List Value) (hs : a.eval s = v) (hown : OG t size w base v n xs) (A : Option Addr) (m c : Nat) (ys : List Value) (hx : a.eval x = .slice A m c) (hr : Reads w w.heap.size size A m ys) (h1 : ∀ u ∈ ys, u.oneCell' = true)
    (hlen : n + m ≤ 1000000000) (hbase : base ≤ w.heap.size)
    (h : ∀ v' w', OG t size w' base v' (n + m) (xs ++ ys) → w.grownBy w' v.ownBlock → (v'.ownBlock = v.ownBlock ∨ v'.ownBlock = some w.heap.size) → K (a.put o.dst v') w') :
    if Region.wanted o (yielded ops a.tmps) = true then Oper.wp Tryz.prog o a w K Q else E := by
  obtain ⟨i0, z0, hi0, hz0, hz1, hz2, hz3⟩ := infoG hinfo
  refine step_append_any _ hgd s x tS ho base t i0 z0 size bytes ht hi0 hz0 hz2 hz3 hz1 hsz v n xs hs hown _ A m c ys hx hr h1 (by simp only [maxLen]; omega) ?_ hbase h
  have : (n + m) * bytes ≤ (n + m) * 1000 := Nat.mul_le_mul_left _ hbs
  omega
/-- a delegation and where its rows lie: its cells -/
def dcs (x : PD × DA) : List Value := x.1.cs x.2
theorem dcs_len (x : PD × DA) : (dcs x).length = 6 := rfl
theorem dcs_one (x : PD × DA) : ∀ u ∈ dcs x, u.oneCell' = true := fun u hu => by
  simp only [dcs, Sea.PD.cs, List.mem_cons, List.not_mem_nil, or_false] at hu
  rcases hu with rfl | rfl | rfl | rfl | rfl | rfl <;> rfl
/-- a row's element, told by its cells -/
theorem flat_at {α : Type} {cs : α → List Value} {s : Nat} (hcs : ∀ x, (cs x).length = s) : ∀ {l : List α} {k : Nat} (hk : k < l.length) {j : Nat}, j < s → (l.flatMap cs)[k * s + j]? = (cs l[k])[j]?
  | a :: l, 0, hk, j, hj => by
    rw [List.flatMap_cons, List.getElem?_append_left (by rw [hcs]; omega)]
    simp
  | a :: l, k + 1, hk, j, hj => by
    have ih := flat_at hcs (l := l) (k := k) (by simpa using hk) hj
    rw [List.flatMap_cons, List.getElem?_append_right (by rw [hcs, Nat.succ_mul]; omega), hcs, show (k + 1) * s + j - s = k * s + j by rw [Nat.succ_mul]; omega, ih]
    rfl
theorem flat_len' {α : Type} {cs : α → List Value} {s : Nat} (hcs : ∀ x, (cs x).length = s) (l : List α) : (l.flatMap cs).length = l.length * s := by
  induction l with
  | nil => simp
  | cons a l ih => rw [List.flatMap_cons, List.length_append, ih, hcs, List.length_cons, Nat.succ_mul]; omega
theorem flat_one {α : Type} {cs : α → List Value} (h1 : ∀ x, ∀ u ∈ cs x, u.oneCell' = true) (l : List α) : ∀ u ∈ l.flatMap cs, u.oneCell' = true := fun u hu => by
  rw [List.mem_flatMap] at hu
  obtain ⟨x, _, hu⟩ := hu
  exact h1 x u hu
/-- the cells of an element that is read through a slice -/
theorem reads_at {α : Type} {cs : α → List Value} {s : Nat} (hcs : ∀ x, (cs x).length = s) {w : World} {B : Nat} {A : Option Addr} {l : List α} (h : Reads w B s A l.length (l.flatMap cs)) (hsp : ∀ ad, A = some ad → ad.spot = none) {k : Nat} (hk : k < l.length) :
    ∃ b o, A = some ⟨b, o, none⟩ ∧ b < B ∧ ∀ j, j < s → w.cell? ⟨b, o + k * s + j, none⟩ = (cs l[k])[j]? := by
  obtain ⟨⟨b, o, sp⟩, hA, hb, hc⟩ := h.2 (by omega)
  obtain rfl : sp = none := hsp _ hA
  refine ⟨b, o, hA, hb, fun j hj => ?_⟩
  have hx : j < (cs l[k]).length := by rw [hcs]; exact hj
  rw [List.getElem?_eq_getElem hx]
  have h1 := hc (k * s + j) (cs l[k])[j] (by rw [flat_at hcs hk hj, List.getElem?_eq_getElem hx])
  rw [Addr.add_lit, ← Nat.add_assoc] at h1
  exact h1
theorem cov_drop {cov : PD → Bool} {l : List PD} {k : Nat} (hk : k < l.length) : covering cov (l.drop k) = if cov l[k] then (if l[k].term then [l[k]] else l[k] :: covering cov (l.drop (k + 1))) else covering cov (l.drop (k + 1)) := by
  rw [List.drop_eq_getElem_cons hk]
  rfl
theorem cov_drop_no {cov : PD → Bool} {l : List PD} {k : Nat} {d : PD} (hk : k < l.length) (hd : d = l[k]) (h : cov d = false) : covering cov (l.drop k) = covering cov (l.drop (k + 1)) := by
  rw [cov_drop hk, ← hd, h]; rfl
theorem cov_drop_term {cov : PD → Bool} {l : List PD} {k : Nat} {d : PD} (hk : k < l.length) (hd : d = l[k]) (h : cov d = true) (ht : d.term = true) : covering cov (l.drop k) = [d] := by
  rw [cov_drop hk, ← hd, h, ht]; rfl
theorem cov_drop_yes {cov : PD → Bool} {l : List PD} {k : Nat} {d : PD} (hk : k < l.length) (hd : d = l[k]) (h : cov d = true) (ht : d.term = false) : covering cov (l.drop k) = d :: covering cov (l.drop (k + 1)) := by
  rw [cov_drop hk, ← hd, h, ht]; rfl
end Go.Proofs.YthidjdjcjjbpbaaGreatDoor
