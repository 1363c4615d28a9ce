/-
 A map from texts to numbers, told entry by entry: look, put, drop, and a store into an entry that is there ('m[a], m[b] = i, k').
-/
import Derived.Test.YtefkpphahimkgaaGreatDoorGA
import Derived.WideKeyEntry
import Derived.ChangeKeys
import Derived.Maps.Own
namespace Go.Proofs.YtefkpphahimkgaaGreatDoor
open Go.RowKit Go.MapKept
open Go.ChangeMaps (setBlock heap_setBlock_same heap_setBlock_other)
set_option linter.unusedVariables false
set_option maxRecDepth 100000
theorem keyLawS : Go.WideMaps.KeyLaw Tryz.prog 9 := Go.WideMaps.string_law Tryz.underlying9
theorem keyS_of (s : ByteArray) (h : s.size ≤ maxLen) : keyOf Tryz.prog 9 (.string s) = some (.string s.data.toList) := by
 simp [keyOf, mapKey, Tryz.underlying9, h]
def SEnt (f : ByteArray → Option Nat) (x : MapEntry) : Prop := ∃ (s : ByteArray) (i : Nat), s.size ≤ maxLen ∧ x.key = .string s ∧ f s = some i ∧ x.val = .int .i64 (i : Int)
def SM (w : World) (M : Nat) (f : ByteArray → Option Nat) : Prop :=
 ∃ es clock, w.heap[M]? = some (.map es clock) ∧ Stamped es clock ∧ (∀ x ∈ es.toList, SEnt f x) ∧ ∀ s i, f s = some i → ∃ x ∈ es.toList, x.key = .string s
def upd (f : ByteArray → Option Nat) (s : ByteArray) (i : Option Nat) : ByteArray → Option Nat := fun t => if t = s then i else f t
section
variable {w w' : World} {M : Nat} {f : ByteArray → Option Nat} {S : Nat → Prop}
theorem SM.new (w : World) : SM (w.alloc (.map #[] 0)) w.heap.size (fun _ => none) :=
 ⟨#[], 0, heap_alloc_new w _, stamped_empty 0, by simp, fun s i h => by cases h⟩
theorem SM.lt (h : SM w M f) : M < w.heap.size := by
 obtain ⟨es, clock, h, _⟩ := h
 rcases Nat.lt_or_ge M w.heap.size with h1 | h1
 ·exact h1
 ·rw [Array.getElem?_eq_none h1] at h; cases h
theorem SM.of_block (h : SM w M f) (hb : w'.heap[M]? = w.heap[M]?) : SM w' M f := by
 obtain ⟨es, clock, h1, h2⟩ := h
 exact ⟨es, clock, hb.trans h1, h2⟩
theorem SM.below (h : SM w M f) (hb : Below w.heap.size w w') : SM w' M f := h.of_block (hb.block M h.lt)
theorem SM.fr (h : SM w M f) (hf : Fr S w w') (hM : ¬ S M) : SM w' M f := h.of_block (hf.block M h.lt hM)
theorem sent_keys {es : Array MapEntry} (h : ∀ x ∈ es.toList, SEnt f x) : ∀ x ∈ es.toList, ∃ l, keyOf Tryz.prog 9 x.key = some l := fun x hx => by
 obtain ⟨s, i, h1, h2, _⟩ := h x hx
 exact ⟨_, by rw [h2]; exact keyS_of s h1⟩
theorem SM.look (h : SM w M f) (s : ByteArray) (hs : s.size ≤ maxLen) : (Instr.lookup 49 (.map (some M)) (.string s) true).run Tryz.prog w = .ok (.tuple #[.int .i64 (((f s).getD 0 : Nat) : Int), .bool (f s).isSome]) w := by
 obtain ⟨es, clock, hb, hst, he, hf⟩ := h
 have hkey := keyS_of s hs
 rcases keyLawS.find w hkey es.toList (sent_keys he) with ⟨h1, h2⟩ | ⟨j, e0, h1, h2, h3⟩
 ·have hn : f s = none := by
   cases e : f s with
   | none => rfl
   | some i =>
    obtain ⟨x, hx, hk⟩ := hf s i e
    exact absurd hk (h2 x hx)
  simp [Instr.lookup, run_underlying Tryz.underlying49, Go.MapKept.run_getObj_map hb, keyLawS.check w _ hkey, h1, Result.andThen, hn]
 ·obtain ⟨s', i, _, k2, k3, k4⟩ := he e0 (List.mem_of_getElem? h2)
  rw [h3] at k2
  injection k2 with k2
  subst k2
  simp [Instr.lookup, run_underlying Tryz.underlying49, Go.MapKept.run_getObj_map hb, keyLawS.check w _ hkey, h1, Result.andThen, k3, k4]
theorem key_uniq {es : Array MapEntry} {clock : Nat} (hst : Stamped es clock) {x y : MapEntry} (hx : x ∈ es.toList) (hy : y ∈ es.toList) (h : x.key = y.key) : x = y := by
 obtain ⟨_, _, h3⟩ := hst
 obtain ⟨i, hi, rfl⟩ := List.getElem_of_mem hx
 obtain ⟨j, hj, rfl⟩ := List.getElem_of_mem hy
 have hi' : i < (es.toList.map (·.key)).length := by rw [List.length_map]; exact hi
 have hj' : j < (es.toList.map (·.key)).length := by rw [List.length_map]; exact hj
 have : i = j := by
  refine (List.getElem_inj (h₀ := hi') (h₁ := hj') h3).1 ?_
  simpa using h
 subst this
 rfl
theorem mem_of_modify {es : Array MapEntry} {j : Nat} {e0 x : MapEntry} {g : MapEntry → MapEntry} (h2 : es.toList[j]? = some e0) (hx : x ∈ es.toList) : x = e0 ∨ x ∈ (es.modify j g).toList := by
 obtain ⟨i, hi, rfl⟩ := List.getElem_of_mem hx
 by_cases e : i = j
 ·subst e
  left
  rw [List.getElem?_eq_getElem hi] at h2
  exact Option.some.inj h2
 ·right
  rw [Array.toList_modify]
  refine List.mem_of_getElem? (i := i) ?_
  rw [List.getElem?_modify_ne _ _ (fun x => e x.symm)]
  exact List.getElem?_eq_getElem hi
theorem mem_modify_at {es : Array MapEntry} {j : Nat} {e0 : MapEntry} {g : MapEntry → MapEntry} (h2 : es.toList[j]? = some e0) : g e0 ∈ (es.modify j g).toList := by
 rw [Array.toList_modify]
 refine List.mem_of_getElem? (i := j) ?_
 rw [List.getElem?_modify_eq, h2]
 rfl
theorem mem_modify_ne {es : Array MapEntry} {clock j : Nat} {e0 x : MapEntry} {g : MapEntry → MapEntry} (hst : Stamped es clock) (h2 : es.toList[j]? = some e0) (hx : x ∈ (es.modify j g).toList) : x = g e0 ∨ (x ∈ es.toList ∧ x.key ≠ e0.key) := by
 obtain ⟨i, hi, rfl⟩ := List.getElem_of_mem hx
 have hi2 : i < es.toList.length := by simpa using hi
 have hjl : j < es.toList.length := (List.getElem?_eq_some_iff.1 h2).1
 by_cases e : i = j
 ·subst e
  left
  have : (es.modify i g).toList[i]? = some (g e0) := by rw [Array.toList_modify, List.getElem?_modify_eq, h2]; rfl
  rw [List.getElem?_eq_getElem hi] at this
  exact Option.some.inj this
 ·right
  have h4 : (es.modify j g).toList[i]? = es.toList[i]? := by rw [Array.toList_modify, List.getElem?_modify_ne _ _ (fun x => e x.symm)]
  rw [List.getElem?_eq_getElem hi, List.getElem?_eq_getElem hi2] at h4
  have h5 := Option.some.inj h4
  rw [h5]
  refine ⟨List.getElem_mem hi2, fun h6 => ?_⟩
  have h7 := key_uniq hst (List.getElem_mem hi2) (List.mem_of_getElem? h2) h6
  rw [List.getElem?_eq_getElem hjl] at h2
  have h8 := Option.some.inj h2
  rw [← h8] at h7
  obtain ⟨_, _, h9⟩ := hst
  have hi' : i < (es.toList.map (·.key)).length := by rw [List.length_map]; exact hi2
  have hj' : j < (es.toList.map (·.key)).length := by rw [List.length_map]; exact hjl
  exact e ((List.getElem_inj (h₀ := hi') (h₁ := hj') h9).1 (by simp [h7]))
theorem sent_modify {es : Array MapEntry} {clock j : Nat} {e0 : MapEntry} {s : ByteArray} (hs : s.size ≤ maxLen) (hst : Stamped es clock) (he : ∀ x ∈ es.toList, SEnt f x) (hf : ∀ s i, f s = some i → ∃ x ∈ es.toList, x.key = .string s) (h2 : es.toList[j]? = some e0) (h3 : e0.key = .string s) (k : Nat) {g : MapEntry → MapEntry} (hg1 : (g e0).key = .string s) (hg2 : (g e0).val = .int .i64 (k : Int)) :
  (∀ x ∈ (es.modify j g).toList, SEnt (upd f s (some k)) x) ∧ ∀ t i, upd f s (some k) t = some i → ∃ x ∈ (es.modify j g).toList, x.key = .string t := by
 constructor
 ·intro x hx
  rcases mem_modify_ne hst h2 hx with rfl | ⟨hx, hne⟩
  ·exact ⟨s, k, hs, hg1, by unfold upd; rw [if_pos rfl], hg2⟩
  ·obtain ⟨t, i, k1, k2, k3, k4⟩ := he x hx
   refine ⟨t, i, k1, k2, ?_, k4⟩
   unfold upd
   rw [if_neg (fun e => hne (by rw [k2, h3, e]))]
   exact k3
 ·intro t i ht
  by_cases e : t = s
  ·subst e
   exact ⟨_, mem_modify_at h2, hg1⟩
  ·unfold upd at ht
   rw [if_neg e] at ht
   obtain ⟨x, hx, hk⟩ := hf t i ht
   rcases mem_of_modify (g := g) h2 hx with rfl | hx'
   ·rw [h3] at hk
    injection hk with hk
    exact absurd hk.symm e
   ·exact ⟨x, hx', hk⟩
theorem SM.put (h : SM w M f) (s : ByteArray) (hs : s.size ≤ maxLen) (k : Nat) :
  ∃ es' clock', (Instr.mapUpdate 49 (.map (some M)) (.string s) (.int .i64 (k : Int))).run Tryz.prog w = .ok () (setBlock w M (.map es' clock')) ∧ SM (setBlock w M (.map es' clock')) M (upd f s (some k)) := by
 obtain ⟨es, clock, hb, hst, he, hf⟩ := h
 have hkey := keyS_of s hs
 rcases keyLawS.find w hkey es.toList (sent_keys he) with ⟨h1, h2⟩ | ⟨j, e0, h1, h2, h3⟩
 ·refine ⟨es.push ⟨.string s, .int .i64 (k : Int), clock⟩, clock + 1, ?_, _, _, heap_setBlock_same hb _, stamped_push hst h2, ?_, ?_⟩
  ·simp [Instr.mapUpdate, run_underlying Tryz.underlying49, Go.MapKept.run_getObj_map hb, keyLawS.check w false hkey, h1, Go.MapKept.run_setObj_map _ hb, Result.andThen, setBlock]
  ·intro x hx
   simp only [Array.toList_push, List.mem_append, List.mem_singleton] at hx
   rcases hx with hx | rfl
   ·obtain ⟨t, i, k1, k2, k3, k4⟩ := he x hx
    refine ⟨t, i, k1, k2, ?_, k4⟩
    unfold upd
    rw [if_neg (fun e => h2 x hx (by rw [k2, e]))]
    exact k3
   ·exact ⟨s, k, hs, rfl, by unfold upd; rw [if_pos rfl], rfl⟩
  ·intro t i ht
   by_cases e : t = s
   ·subst e
    exact ⟨⟨.string t, .int .i64 (k : Int), clock⟩, by simp, rfl⟩
   ·unfold upd at ht
    rw [if_neg e] at ht
    obtain ⟨x, hx, hk⟩ := hf t i ht
    exact ⟨x, by simp [hx], hk⟩
 ·have hj : es[j]? = some e0 := by simpa using h2
  have hkeyf : ∀ e', es[j]? = some e' → ({ e' with key := .string s, val := .int .i64 (k : Int) } : MapEntry).key = e'.key := fun e' he' => by rw [hj] at he'; cases he'; exact h3.symm
  have hsm := sent_modify hs hst he hf h2 h3 k (g := fun e' => { e' with key := .string s, val := .int .i64 (k : Int) }) rfl rfl
  refine ⟨es.modify j (fun e' => { e' with key := .string s, val := .int .i64 (k : Int) }), clock, ?_, _, _, heap_setBlock_same hb _, stamped_modify hst _ _ (fun _ _ => rfl) (fun e' _ he' => hkeyf e' he'), hsm.1, hsm.2⟩
  simp [Instr.mapUpdate, run_underlying Tryz.underlying49, Go.MapKept.run_getObj_map hb, keyLawS.check w false hkey, h1, hj, h3, keyLawS.stays w hkey, Go.MapKept.run_setObj_map _ hb, Result.andThen, setBlock]
end
end Go.Proofs.YtefkpphahimkgaaGreatDoor
