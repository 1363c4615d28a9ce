/-
  What is got of files behind a text was put, or dropped, plainly; Get's contracts in one piece.
-/
import Derived.Test.YtgpcinfhcamgpaaGreatDoorStF8
namespace Go.Proofs.YtgpcinfhcamgpaaGreatDoor
open Go.RowKit
set_option linter.unusedVariables false
set_option linter.unusedSimpArgs false

theorem findIdx_split {α : Type} (p : α → Bool) (l : List α) (h : l.findIdx p < l.length) : ∃ x, p x = true ∧ l = l.take (l.findIdx p) ++ x :: l.drop (l.findIdx p + 1) ∧ ∀ y ∈ l.take (l.findIdx p), p y = false := by
  refine ⟨l[l.findIdx p], List.findIdx_getElem, ?_, fun y hy => ?_⟩
  · rw [← List.drop_eq_getElem_cons h, List.take_append_drop]
  · obtain ⟨j, hj, rfl⟩ := List.getElem_of_mem hy
    rw [List.length_take] at hj
    rw [List.getElem_take]
    have := List.not_of_lt_findIdx (p := p) (xs := l) (i := j) (by omega)
    simpa using this
theorem findIdx_none {α : Type} (p : α → Bool) (l : List α) (h : ¬ l.findIdx p < l.length) : ∀ y ∈ l, p y = false := fun y hy => by
  have h2 : l.findIdx p = l.length := by have := List.findIdx_le_length (p := p) (xs := l); omega
  exact List.findIdx_eq_length.1 h2 y hy
theorem putP_cases (l : List Fi) (f : Fi) : ∃ a b, putP l f = a ++ f :: b ∧ (∀ y ∈ a, ¬ y.nm = f.nm) ∧ ((∃ x, x.nm = f.nm ∧ l = a ++ x :: b) ∨ l = a ++ b) := by
  unfold putP
  by_cases h : l.findIdx (fun x => decide (x.nm = f.nm)) < l.length
  · rw [if_pos h]
    obtain ⟨x, hx, hl, hn⟩ := findIdx_split _ l h
    refine ⟨_, _, by rw [List.set_eq_take_append_cons_drop, if_pos h], fun y hy => by simpa using hn y hy, .inl ⟨x, by simpa using hx, hl⟩⟩
  · rw [if_neg h]
    have hn := findIdx_none _ l h
    exact ⟨_, _, rfl, fun y hy => by simpa using hn y (List.mem_of_mem_take hy), .inr (List.take_append_drop _ _).symm⟩
theorem find_none {l : List Fi} {n : ByteArray} (h : ∀ y ∈ l, ¬ y.nm = n) : l.find? (fun f => f.nm == n) = none := by
  rw [List.find?_eq_none]
  intro y hy
  rw [nmq]
  simpa using h y hy
theorem getF_put_self (l : List Fi) (f : Fi) : getF (putP l f) f.nm = some f.b := by
  obtain ⟨a, b, e, h, _⟩ := putP_cases l f
  unfold getF
  rw [e, List.find?_append, find_none h, List.find?_cons, nmq]
  simp
theorem getF_put_other (l : List Fi) (f : Fi) (n : ByteArray) (hn : ¬ n = f.nm) : getF (putP l f) n = getF l n := by
  obtain ⟨a, b, e, h, h2⟩ := putP_cases l f
  have hf : (f.nm == n) = false := by rw [nmq]; exact decide_eq_false (fun e => hn e.symm)
  unfold getF
  rcases h2 with ⟨x, hx, h2⟩ | h2
  · have hf2 : (x.nm == n) = false := by rw [hx]; exact hf
    rw [e, h2, List.find?_append, List.find?_append, List.find?_cons, List.find?_cons, hf, hf2]
  · rw [e, h2, List.find?_append, List.find?_append, List.find?_cons, hf]
theorem getF_drop (l : List Fi) (n : ByteArray) : getF (dropF l n) n = none := by
  unfold getF dropF
  rw [find_none]
  · rfl
  · intro y hy
    have := (List.mem_filter.1 hy).2
    rw [nmq] at this
    simpa using this
/-- what Get gives, in one piece -/
def GetV (fs : List FV) (s : ByteArray) (w : World) (e : Ending) (w' : World) : Prop :=
  ∃ A c b, e = .returned (.tuple #[.slice A b.length c, .bool (getF (fiL fs) s).isSome]) ∧ Below w.heap.size w w' ∧ RB w' A b ∧ b = (getF (fiL fs) s).getD []
theorem get_v (A : Option Addr) (n c : Nat) (fs : List FV) (s : ByteArray) (w : World) (hl : Fls w A fs) (hn : fs.length = n) (hbig : n ≤ 140737488355328) (hb : ∀ f ∈ fs, f.b.length ≤ 140737488355328) :
    Calls Tryz.prog 29 #[.slice A n c, .string s] w fun e w' => GetV fs s w e w' := by
  refine (get_any A n c fs s w hl hn hbig hb).mono ?_
  rintro e w' ⟨hb', ⟨b, v, hg, rfl, ho⟩ | ⟨hg, rfl⟩⟩
  · obtain ⟨A3, c3, rfl, _, _, hr, _⟩ := ho.shape
    exact ⟨A3, c3, b, by rw [hg]; rfl, hb', hr, by rw [hg]; rfl⟩
  · exact ⟨none, 0, [], by rw [hg]; rfl, hb', RB.nil _, by rw [hg]; rfl⟩
theorem rget_v (A : Option Addr) (n c : Nat) (fs : List FV) (s : ByteArray) (w : World) (hl : Fls w A fs) (hn : fs.length = n) (hbig : n ≤ 140737488355328) :
    Calls Tryz.prog 30 #[.slice A n c, .string s] w fun e w' => GetV fs s w e w' := by
  refine (rget_any A n c fs s w hl hn hbig).mono ?_
  rintro e w' ⟨hw, ⟨b, A3, c3, hg, rfl, hr, _⟩ | ⟨hg, rfl⟩⟩
  · subst hw
    exact ⟨A3, c3, b, by rw [hg]; rfl, Below.refl _ _, hr, by rw [hg]; rfl⟩
  · subst hw
    exact ⟨none, 0, [], by rw [hg]; rfl, Below.refl _ _, RB.nil _, by rw [hg]; rfl⟩
end Go.Proofs.YtgpcinfhcamgpaaGreatDoor
