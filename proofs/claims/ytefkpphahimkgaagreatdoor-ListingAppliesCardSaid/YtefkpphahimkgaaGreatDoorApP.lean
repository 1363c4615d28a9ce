/-
  Changes of listings: in plain Lean and in memory.
-/
import Derived.Test.YtefkpphahimkgaaGreatDoorHMap
import Derived.Test.YtefkpphahimkgaaGreatDoorLiP
namespace Go.Proofs.YtefkpphahimkgaaGreatDoor
open Go.RowKit
set_option linter.unusedVariables false
set_option linter.unusedSimpArgs false

/-- a change -/
structure CE where
  name : ByteArray
  fr : Int
  to : Int
instance : Inhabited CE := ⟨⟨⟨#[]⟩, 0, 0⟩⟩
namespace CE
def cs (m : CE) : List Value := [.string m.name, .int .i64 m.fr, .int .i64 m.to]
def val (m : CE) : Value := .agg #[.string m.name, .int .i64 m.fr, .int .i64 m.to]
end CE
/-- the versions of files, the first of each name -/
def verS (hs : HL) (m : ME) : HL := if (getH hs m.name).isSome then hs else hs ++ [(m.name, m.ver)]
def versL (l : List ME) : HL := l.foldl verS []
def haveH (hs : HL) (s : ByteArray) : Int := (getH hs s).getD 0
def chOk (hs : HL) (c : CE) : Bool := decide (0 ≤ c.fr) && (decide (0 ≤ c.to) && (decide (c.fr ≠ c.to) && decide (haveH hs c.name = c.fr)))
def chDo (hs : HL) (c : CE) : HL := if c.to = 0 then dropH hs c.name else dropH hs c.name ++ [(c.name, c.to)]
def applyL : HL → List CE → Option HL
  | hs, [] => some hs
  | hs, c :: r => if chOk hs c then applyL (chDo hs c) r else none
theorem vers_next {l : List ME} {k : Nat} (hk : k < l.length) : versL (l.take (k + 1)) = verS (versL (l.take k)) l[k] := by
  unfold versL
  rw [List.take_succ_eq_append_getElem hk, List.foldl_append]
  rfl
theorem verS_nodup {hs : HL} (h : (hs.map Prod.fst).Nodup) (m : ME) : ((verS hs m).map Prod.fst).Nodup := by
  unfold verS
  split
  · exact h
  · rename_i hn
    have hg : getH hs m.name = none := by
      cases e : getH hs m.name with
      | none => rfl
      | some x => rw [e] at hn; exact absurd rfl hn
    have := put_nodup h m.name m.ver
    rw [dropH_none hg] at this
    exact this
theorem verS_len (hs : HL) (m : ME) : (verS hs m).length ≤ hs.length + 1 := by
  unfold verS
  split
  · omega
  · simp
theorem versL_nodup_foldl (l : List ME) : ∀ hs : HL, (hs.map Prod.fst).Nodup → ((l.foldl verS hs).map Prod.fst).Nodup := by
  induction l with
  | nil => exact fun hs h => h
  | cons m r ih => exact fun hs h => ih _ (verS_nodup h m)
theorem versL_nodup (l : List ME) : ((versL l).map Prod.fst).Nodup := versL_nodup_foldl l [] List.nodup_nil
theorem versL_len_foldl (l : List ME) : ∀ hs : HL, (l.foldl verS hs).length ≤ hs.length + l.length := by
  induction l with
  | nil => exact fun hs => Nat.le_refl _
  | cons m r ih =>
    intro hs
    have h1 := ih (verS hs m)
    have h2 := verS_len hs m
    simp only [List.foldl_cons, List.length_cons]
    omega
theorem versL_len (l : List ME) : (versL l).length ≤ l.length := by
  have := versL_len_foldl l []
  unfold versL
  simpa using this
theorem chDo_nodup {hs : HL} (h : (hs.map Prod.fst).Nodup) (c : CE) : ((chDo hs c).map Prod.fst).Nodup := by
  unfold chDo
  split
  · exact dropH_nodup h _
  · exact put_nodup h _ _
/-- what comes of the first k changes -/
theorem apply_take {hs hs' : HL} : ∀ {l : List CE} {k : Nat}, applyL hs (l.take k) = some hs' → ∀ (hk : k < l.length), applyL hs (l.take (k + 1)) = if chOk hs' l[k] then some (chDo hs' l[k]) else none
  | [], k, _, hk => by simp at hk
  | c :: r, 0, h, hk => by
    simp only [List.take_zero, applyL, Option.some.injEq] at h
    subst h
    simp only [Nat.zero_add, List.take_succ_cons, List.take_zero, applyL, List.getElem_cons_zero]
  | c :: r, k + 1, h, hk => by
    rw [List.take_succ_cons] at h ⊢
    simp only [applyL] at h ⊢
    split at h
    · rename_i hc
      rw [if_pos hc]
      have hk2 : k < r.length := by simpa using hk
      simpa using apply_take h hk2
    · cases h
theorem apply_stop {hs : HL} : ∀ {l : List CE} {k : Nat}, applyL hs (l.take k) = none → applyL hs l = none
  | [], k, h => by cases k <;> exact h
  | c :: r, 0, h => by cases h
  | c :: r, k + 1, h => by
    rw [List.take_succ_cons] at h
    simp only [applyL] at h ⊢
    split
    · rename_i hc
      rw [if_pos hc] at h
      exact apply_stop h
    · rfl
/-! in memory -/
structure CAt (w : World) (A : Option Addr) (c : Nat) (l : List CE) : Prop where
  rd : Reads w w.heap.size 3 A l.length (l.flatMap CE.cs)
  wf : ∀ m ∈ l, (Lit.int .i64 m.fr).wf = true ∧ (Lit.int .i64 m.to).wf = true
  sz : ∀ m ∈ l, m.name.size ≤ 140737488351232
theorem csC_len (l : List CE) : (l.flatMap CE.cs).length = l.length * 3 := by
  induction l with
  | nil => rfl
  | cons v r ih => rw [List.flatMap_cons, List.length_append, ih, List.length_cons]; simp [CE.cs]; omega
theorem csC_at : ∀ (l : List CE) (i : Nat) (hi : i < l.length) (j : Nat), j < 3 → (l.flatMap CE.cs)[i * 3 + j]? = l[i].cs[j]?
  | [], i, h, _, _ => by simp at h
  | v :: r, 0, _, j, hj => by
    rw [List.flatMap_cons, List.getElem?_append_left (by simp [CE.cs]; omega), Nat.zero_mul, Nat.zero_add]
    rfl
  | v :: r, i + 1, h, j, hj => by
    rw [List.flatMap_cons, List.getElem?_append_right (by simp [CE.cs]; omega), show (i + 1) * 3 + j - v.cs.length = i * 3 + j by simp [CE.cs]; omega, csC_at r i (by simpa using h) j hj]
    rfl
section
variable {w w' : World} {A : Option Addr} {c : Nat} {l : List CE}
theorem CAt.bel (h : CAt w A c l) (hb : Below w.heap.size w w') : CAt w' A c l := ⟨(Reads.below h.rd hb).more hb.size, h.wf, h.sz⟩
/-- the three cells of a change -/
theorem CAt.three (h : CAt w A c l) {i : Nat} (hi : i < l.length) : ∃ b o, A = some ⟨b, o, none⟩ ∧ b < w.heap.size ∧ w.cell? ⟨b, o + i * 3, none⟩ = some (.string l[i].name) ∧ w.cell? ⟨b, o + i * 3 + 1, none⟩ = some (.int .i64 l[i].fr) ∧ w.cell? ⟨b, o + i * 3 + 2, none⟩ = some (.int .i64 l[i].to) := by
  obtain ⟨ad, hA, hlt, hc⟩ := h.rd.2 (by omega)
  have h0 : w.cell? (ad.add 0) = some (.string (l[0]'(by omega)).name) := by
    refine hc 0 _ ?_
    have := csC_at l 0 (by omega) 0 (by omega)
    rw [Nat.zero_mul, Nat.zero_add] at this
    rw [this]
    rfl
  have e1 : ad.add 0 = ad := by simp [Addr.add]
  rw [e1] at h0
  have e2 := cell_spot h0
  have hg : ∀ j u, j < 3 → l[i].cs[j]? = some u → w.cell? ⟨ad.block, ad.off + i * 3 + j, none⟩ = some u := fun j u hj hu => by
    have h2 := hc _ u ((csC_at l i hi j hj).trans hu)
    rw [e2, Addr.add_lit, ← Nat.add_assoc] at h2
    exact h2
  exact ⟨ad.block, ad.off, by rw [← e2]; exact hA, hlt, hg 0 _ (by omega) rfl, hg 1 _ (by omega) rfl, hg 2 _ (by omega) rfl⟩
end
end Go.Proofs.YtefkpphahimkgaaGreatDoor
