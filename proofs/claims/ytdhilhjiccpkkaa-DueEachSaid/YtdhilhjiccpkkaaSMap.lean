/-
  A map from texts to numbers, told entry by entry: look, put, drop, and a store into an entry that is there ('m[a], m[b] = i, k').
-/
import Derived.Test.YtdhilhjiccpkkaaWords2
import Derived.WideKeyEntry
import Derived.ChangeKeys
import Derived.Maps.Own
namespace Go.Proofs.Ytdhilhjiccpkkaa
open Go.RowKit Go.MapKept
open Go.ChangeMaps (setBlock heap_setBlock_same heap_setBlock_other)
set_option linter.unusedVariables false
set_option maxRecDepth 100000

theorem keyLawS : Go.WideMaps.KeyLaw Try.prog 9 := Go.WideMaps.string_law Try.underlying9
theorem keyS_of (s : ByteArray) (h : s.size ≤ maxLen) : keyOf Try.prog 9 (.string s) = some (.string s.data.toList) := by
  simp [keyOf, mapKey, Try.underlying9, h]
theorem zeroI (w : World) : (zeroValue 3).run Try.prog w = .ok (.int .i64 0) w := by kernel_rfl
def SEnt (f : ByteArray → Option Nat) (x : MapEntry) : Prop := ∃ (s : ByteArray) (i : Nat), s.size ≤ maxLen ∧ x.key = .string s ∧ f s = some i ∧ x.val = .int .i64 (i : Int)
/-- block M is a map; at text s it holds the number f s -/
def SM (w : World) (M : Nat) (f : ByteArray → Option Nat) : Prop :=
  ∃ es clock, w.heap[M]? = some (.map es clock) ∧ Stamped es clock ∧ (∀ x ∈ es.toList, SEnt f x) ∧ ∀ s i, f s = some i → ∃ x ∈ es.toList, x.key = .string s
def upd (f : ByteArray → Option Nat) (s : ByteArray) (i : Option Nat) : ByteArray → Option Nat := fun t => if t = s then i else f t
section
variable {w w' : World} {M : Nat} {f : ByteArray → Option Nat} {S : Nat → Prop}
theorem SM.new (w : World) : SM (w.alloc (.map #[] 0)) w.heap.size (fun _ => none) :=
  ⟨#[], 0, heap_alloc_new w _, stamped_empty 0, by simp, fun s i h => by cases h⟩
theorem SM.lt (h : SM w M f) : M < w.heap.size := by
  obtain ⟨es, clock, h, _⟩ := h
  rcases Nat.lt_or_ge M w.heap.size with h1 | h1
  · exact h1
  · rw [Array.getElem?_eq_none h1] at h; cases h
theorem SM.of_block (h : SM w M f) (hb : w'.heap[M]? = w.heap[M]?) : SM w' M f := by
  obtain ⟨es, clock, h1, h2⟩ := h
  exact ⟨es, clock, hb.trans h1, h2⟩
theorem SM.below (h : SM w M f) (hb : Below w.heap.size w w') : SM w' M f := h.of_block (hb.block M h.lt)
theorem SM.fr (h : SM w M f) (hf : Fr S w w') (hM : ¬ S M) : SM w' M f := h.of_block (hf.block M h.lt hM)
theorem SM.not_blk (h : SM w M f) {t : TypeId} {cs : Array Value} {g : Nat} (hb : Blk w g t cs) : g ≠ M := by
  rintro rfl
  obtain ⟨es, clock, h, _⟩ := h
  unfold Blk at hb
  rw [h] at hb
  cases hb
theorem SM.noCell (h : SM w M f) (o : Nat) : w.cell? ⟨M, o, none⟩ = none := by
  obtain ⟨es, clock, h, _⟩ := h
  simp [World.cell?, h]
theorem SM.congr {g : ByteArray → Option Nat} (h : SM w M f) (e : ∀ s, f s = g s) : SM w M g := by
  obtain rfl : f = g := funext e
  exact h
theorem sent_keys {es : Array MapEntry} (h : ∀ x ∈ es.toList, SEnt f x) : ∀ x ∈ es.toList, ∃ l, keyOf Try.prog 9 x.key = some l := fun x hx => by
  obtain ⟨s, i, h1, h2, _⟩ := h x hx
  exact ⟨_, by rw [h2]; exact keyS_of s h1⟩
theorem fr_setBlock (w : World) (M : Nat) (o : Obj) : Fr (· = M) w (setBlock w M o) :=
  ⟨rfl, rfl, rfl, by simp [setBlock], fun i _ hi => heap_setBlock_other' w M o hi⟩
where
  heap_setBlock_other' (w : World) (M : Nat) (o : Obj) {i : Nat} (hi : ¬ i = M) : (setBlock w M o).heap[i]? = w.heap[i]? := by
    simp only [setBlock]
    rw [Array.getElem?_setIfInBounds_ne (fun e => hi e.symm)]
/-- 'v, is := m[s]' -/
theorem SM.look (h : SM w M f) (s : ByteArray) (hs : s.size ≤ maxLen) : (Instr.lookup 53 (.map (some M)) (.string s) true).run Try.prog w = .ok (.tuple #[.int .i64 (((f s).getD 0 : Nat) : Int), .bool (f s).isSome]) w := by
  obtain ⟨es, clock, hb, hst, he, hf⟩ := h
  have hkey := keyS_of s hs
  rcases keyLawS.find w hkey es.toList (sent_keys he) with ⟨h1, h2⟩ | ⟨j, e0, h1, h2, h3⟩
  · have hn : f s = none := by
      cases e : f s with
      | none => rfl
      | some i =>
        obtain ⟨x, hx, hk⟩ := hf s i e
        exact absurd hk (h2 x hx)
    simp [Instr.lookup, run_underlying Try.underlying53, Go.MapKept.run_getObj_map hb, keyLawS.check w _ hkey, h1, Result.andThen, hn]
  · obtain ⟨s', i, _, k2, k3, k4⟩ := he e0 (List.mem_of_getElem? h2)
    rw [h3] at k2
    injection k2 with k2
    subst k2
    simp [Instr.lookup, run_underlying Try.underlying53, Go.MapKept.run_getObj_map hb, keyLawS.check w _ hkey, h1, Result.andThen, k3, k4]
theorem key_uniq {es : Array MapEntry} {clock : Nat} (hst : Stamped es clock) {x y : MapEntry} (hx : x ∈ es.toList) (hy : y ∈ es.toList) (h : x.key = y.key) : x = y := by
  obtain ⟨_, _, h3⟩ := hst
  obtain ⟨i, hi, rfl⟩ := List.getElem_of_mem hx
  obtain ⟨j, hj, rfl⟩ := List.getElem_of_mem hy
  have hi' : i < (es.toList.map (·.key)).length := by rw [List.length_map]; exact hi
  have hj' : j < (es.toList.map (·.key)).length := by rw [List.length_map]; exact hj
  have : i = j := by
    refine (List.getElem_inj (h₀ := hi') (h₁ := hj') h3).1 ?_
    simpa using h
  subst this
  rfl
theorem mem_of_modify {es : Array MapEntry} {j : Nat} {e0 x : MapEntry} {g : MapEntry → MapEntry} (h2 : es.toList[j]? = some e0) (hx : x ∈ es.toList) : x = e0 ∨ x ∈ (es.modify j g).toList := by
  obtain ⟨i, hi, rfl⟩ := List.getElem_of_mem hx
  by_cases e : i = j
  · subst e
    left
    rw [List.getElem?_eq_getElem hi] at h2
    exact Option.some.inj h2
  · right
    rw [Array.toList_modify]
    refine List.mem_of_getElem? (i := i) ?_
    rw [List.getElem?_modify_ne _ _ (fun x => e x.symm)]
    exact List.getElem?_eq_getElem hi
theorem mem_modify_at {es : Array MapEntry} {j : Nat} {e0 : MapEntry} {g : MapEntry → MapEntry} (h2 : es.toList[j]? = some e0) : g e0 ∈ (es.modify j g).toList := by
  rw [Array.toList_modify]
  refine List.mem_of_getElem? (i := j) ?_
  rw [List.getElem?_modify_eq, h2]
  rfl
theorem mem_modify_ne {es : Array MapEntry} {clock j : Nat} {e0 x : MapEntry} {g : MapEntry → MapEntry} (hst : Stamped es clock) (h2 : es.toList[j]? = some e0) (hx : x ∈ (es.modify j g).toList) : x = g e0 ∨ (x ∈ es.toList ∧ x.key ≠ e0.key) := by
  obtain ⟨i, hi, rfl⟩ := List.getElem_of_mem hx
  have hi2 : i < es.toList.length := by simpa using hi
  have hjl : j < es.toList.length := (List.getElem?_eq_some_iff.1 h2).1
  by_cases e : i = j
  · subst e
    left
    have : (es.modify i g).toList[i]? = some (g e0) := by rw [Array.toList_modify, List.getElem?_modify_eq, h2]; rfl
    rw [List.getElem?_eq_getElem hi] at this
    exact Option.some.inj this
  · right
    have h4 : (es.modify j g).toList[i]? = es.toList[i]? := by rw [Array.toList_modify, List.getElem?_modify_ne _ _ (fun x => e x.symm)]
    rw [List.getElem?_eq_getElem hi, List.getElem?_eq_getElem hi2] at h4
    have h5 := Option.some.inj h4
    rw [h5]
    refine ⟨List.getElem_mem hi2, fun h6 => ?_⟩
    have h7 := key_uniq hst (List.getElem_mem hi2) (List.mem_of_getElem? h2) h6
    rw [List.getElem?_eq_getElem hjl] at h2
    have h8 := Option.some.inj h2
    rw [← h8] at h7
    obtain ⟨_, _, h9⟩ := hst
    have hi' : i < (es.toList.map (·.key)).length := by rw [List.length_map]; exact hi2
    have hj' : j < (es.toList.map (·.key)).length := by rw [List.length_map]; exact hjl
    exact e ((List.getElem_inj (h₀ := hi') (h₁ := hj') h9).1 (by simp [h7]))
theorem sent_modify {es : Array MapEntry} {clock j : Nat} {e0 : MapEntry} {s : ByteArray} (hs : s.size ≤ maxLen) (hst : Stamped es clock) (he : ∀ x ∈ es.toList, SEnt f x) (hf : ∀ s i, f s = some i → ∃ x ∈ es.toList, x.key = .string s) (h2 : es.toList[j]? = some e0) (h3 : e0.key = .string s) (k : Nat) {g : MapEntry → MapEntry} (hg1 : (g e0).key = .string s) (hg2 : (g e0).val = .int .i64 (k : Int)) :
    (∀ x ∈ (es.modify j g).toList, SEnt (upd f s (some k)) x) ∧ ∀ t i, upd f s (some k) t = some i → ∃ x ∈ (es.modify j g).toList, x.key = .string t := by
  constructor
  · intro x hx
    rcases mem_modify_ne hst h2 hx with rfl | ⟨hx, hne⟩
    · exact ⟨s, k, hs, hg1, by unfold upd; rw [if_pos rfl], hg2⟩
    · obtain ⟨t, i, k1, k2, k3, k4⟩ := he x hx
      refine ⟨t, i, k1, k2, ?_, k4⟩
      unfold upd
      rw [if_neg (fun e => hne (by rw [k2, h3, e]))]
      exact k3
  · intro t i ht
    by_cases e : t = s
    · subst e
      exact ⟨_, mem_modify_at h2, hg1⟩
    · unfold upd at ht
      rw [if_neg e] at ht
      obtain ⟨x, hx, hk⟩ := hf t i ht
      rcases mem_of_modify (g := g) h2 hx with rfl | hx'
      · rw [h3] at hk
        injection hk with hk
        exact absurd hk.symm e
      · exact ⟨x, hx', hk⟩
/-- 'm[s] = k' -/
theorem SM.put (h : SM w M f) (s : ByteArray) (hs : s.size ≤ maxLen) (k : Nat) :
    ∃ es' clock', (Instr.mapUpdate 53 (.map (some M)) (.string s) (.int .i64 (k : Int))).run Try.prog w = .ok () (setBlock w M (.map es' clock')) ∧ SM (setBlock w M (.map es' clock')) M (upd f s (some k)) := by
  obtain ⟨es, clock, hb, hst, he, hf⟩ := h
  have hkey := keyS_of s hs
  rcases keyLawS.find w hkey es.toList (sent_keys he) with ⟨h1, h2⟩ | ⟨j, e0, h1, h2, h3⟩
  · refine ⟨es.push ⟨.string s, .int .i64 (k : Int), clock⟩, clock + 1, ?_, _, _, heap_setBlock_same hb _, stamped_push hst h2, ?_, ?_⟩
    · simp [Instr.mapUpdate, run_underlying Try.underlying53, Go.MapKept.run_getObj_map hb, keyLawS.check w false hkey, h1, Go.MapKept.run_setObj_map _ hb, Result.andThen, setBlock]
    · intro x hx
      simp only [Array.toList_push, List.mem_append, List.mem_singleton] at hx
      rcases hx with hx | rfl
      · obtain ⟨t, i, k1, k2, k3, k4⟩ := he x hx
        refine ⟨t, i, k1, k2, ?_, k4⟩
        unfold upd
        rw [if_neg (fun e => h2 x hx (by rw [k2, e]))]
        exact k3
      · exact ⟨s, k, hs, rfl, by unfold upd; rw [if_pos rfl], rfl⟩
    · intro t i ht
      by_cases e : t = s
      · subst e
        exact ⟨⟨.string t, .int .i64 (k : Int), clock⟩, by simp, rfl⟩
      · unfold upd at ht
        rw [if_neg e] at ht
        obtain ⟨x, hx, hk⟩ := hf t i ht
        exact ⟨x, by simp [hx], hk⟩
  · have hj : es[j]? = some e0 := by simpa using h2
    have hkeyf : ∀ e', es[j]? = some e' → ({ e' with key := .string s, val := .int .i64 (k : Int) } : MapEntry).key = e'.key := fun e' he' => by rw [hj] at he'; cases he'; exact h3.symm
    have hsm := sent_modify hs hst he hf h2 h3 k (g := fun e' => { e' with key := .string s, val := .int .i64 (k : Int) }) rfl rfl
    refine ⟨es.modify j (fun e' => { e' with key := .string s, val := .int .i64 (k : Int) }), clock, ?_, _, _, heap_setBlock_same hb _, stamped_modify hst _ _ (fun _ _ => rfl) (fun e' _ he' => hkeyf e' he'), hsm.1, hsm.2⟩
    simp [Instr.mapUpdate, run_underlying Try.underlying53, Go.MapKept.run_getObj_map hb, keyLawS.check w false hkey, h1, hj, h3, keyLawS.stays w hkey, Go.MapKept.run_setObj_map _ hb, Result.andThen, setBlock]
/-- the entry of a text that is there, and a store into it (in whatever world in which the map is as it was) -/
theorem SM.entry (h : SM w M f) (s : ByteArray) (i : Nat) (hi : f s = some i) :
    ∃ st : Nat, (∀ V : World, V.heap[M]? = w.heap[M]? → (Instr.mapEntry 53 (.map (some M)) (.string s)).run Try.prog V = .ok (.tuple #[.int .i64 (i : Int), .int .i64 (st : Int)]) V) ∧
      ∀ k : Nat, ∃ es' clock', ∀ V : World, V.heap[M]? = w.heap[M]? → (Instr.entryStore 53 (.map (some M)) (.int .i64 (st : Int)) (.int .i64 (k : Int))).run Try.prog V = .ok () (setBlock V M (.map es' clock')) ∧ SM (setBlock V M (.map es' clock')) M (upd f s (some k)) := by
  obtain ⟨es, clock, hb, hst, he, hf⟩ := h
  obtain ⟨x, hx, hk⟩ := hf s i hi
  obtain ⟨s', i', hs, k2, k3, k4⟩ := he x hx
  rw [hk] at k2
  injection k2 with k2
  subst k2
  rw [hi] at k3
  cases k3
  have hkey := keyS_of s hs
  refine ⟨x.born, fun V hV => ?_, fun k => ?_⟩
  · have hVb := hV.trans hb
    rcases keyLawS.find V hkey es.toList (sent_keys he) with ⟨h1, h2⟩ | ⟨j, e0, h1, h2, h3⟩
    · exact absurd hk (h2 x hx)
    · have hj : es[j]? = some e0 := by simpa using h2
      obtain rfl : x = e0 := key_uniq hst hx (List.mem_of_getElem? h2) (hk.trans h3.symm)
      have hsame : es.modify j (fun e => { e with key := .string s }) = es := by
        apply Array.ext'
        rw [Array.toList_modify]
        refine List.ext_getElem? fun m => ?_
        by_cases e : m = j
        · subst e
          rw [List.getElem?_modify_eq, h2]
          show some _ = some _
          rw [← h3]
        · rw [List.getElem?_modify_ne _ _ (fun x => e x.symm)]
      have hw : setBlock V M (.map es clock) = V := by
        simp only [setBlock]
        have : V.heap.setIfInBounds M (.map es clock) = V.heap := by
          refine Array.ext_getElem? fun m => ?_
          by_cases e : M = m
          · subst e
            rw [Array.getElem?_setIfInBounds_self, if_pos (by
              rcases Nat.lt_or_ge M V.heap.size with h5 | h5
              · exact h5
              · rw [Array.getElem?_eq_none h5] at hVb; cases hVb)]
            exact hVb.symm
          · rw [Array.getElem?_setIfInBounds_ne e]
        rw [this]
      have h0 : (Instr.mapEntry 53 (.map (some M)) (.string s)).run Try.prog V = .ok (.tuple #[.int .i64 (i : Int), .int .i64 (x.born : Int)]) (setBlock V M (.map es clock)) := by
        simp [Instr.mapEntry, run_underlying Try.underlying53, Go.MapKept.run_getObj_map hVb, keyLawS.check V false hkey, h1, hj, h3, k4, keyLawS.stays V hkey, hsame, Go.MapKept.run_setObj_map _ hVb, Result.andThen, setBlock, goInt]
      rw [h0, hw]
  · obtain ⟨j, hjl, hjx⟩ := List.getElem_of_mem hx
    have h2 : es.toList[j]? = some x := by rw [List.getElem?_eq_getElem hjl, hjx]
    refine ⟨es.modify j (fun e => { e with val := .int .i64 (k : Int) }), clock, fun V hV => ?_⟩
    have hVb := hV.trans hb
    have hidx : es.findIdx? (fun e => ((e.born : Nat) : Int) == ((x.born : Nat) : Int)) = some j := by
      rw [Go.WideElems.findIdx_arr]
      exact Go.WideElems.findIdx_born hst.2.1 h2
    have hsm := sent_modify hs hst he hf h2 hk k (g := fun e => { e with val := .int .i64 (k : Int) }) hk rfl
    refine ⟨?_, _, _, heap_setBlock_same hVb _, stamped_modify hst _ _ (fun _ _ => rfl) (fun e' _ he' => rfl), hsm.1, hsm.2⟩
    simp [Instr.entryStore, Go.MapKept.run_getObj_map hVb, asInt, asIntOf, hidx, Go.MapKept.run_setObj_map _ hVb, Result.andThen, setBlock]
/-- 'delete(m, s)' -/
theorem SM.del (h : SM w M f) (s : ByteArray) (hs : s.size ≤ maxLen) (ty : TypeId) :
    ∃ es' clock', (Builtin.delete_ #[53, 9] ty #[.map (some M), .string s]).run Try.prog w = .ok (.tuple #[]) (setBlock w M (.map es' clock')) ∧ SM (setBlock w M (.map es' clock')) M (upd f s none) := by
  obtain ⟨es, clock, hb, hst, he, hf⟩ := h
  have hkey := keyS_of s hs
  rcases keyLawS.find w hkey es.toList (sent_keys he) with ⟨h1, h2⟩ | ⟨j, e0, h1, h2, h3⟩
  · have hn : ∀ x ∈ es.toList, SEnt (upd f s none) x := fun x hx => by
      obtain ⟨t, i, k1, k2, k3, k4⟩ := he x hx
      refine ⟨t, i, k1, k2, ?_, k4⟩
      unfold upd
      rw [if_neg (fun e => h2 x hx (by rw [k2, e]))]
      exact k3
    refine ⟨es, clock, ?_, _, _, heap_setBlock_same hb _, hst, hn, fun t i ht => ?_⟩
    · have hset : setBlock w M (.map es clock) = w := by
        simp only [setBlock]
        have : w.heap.setIfInBounds M (.map es clock) = w.heap := by
          refine Array.ext_getElem? fun m => ?_
          by_cases e : M = m
          · subst e
            rw [Array.getElem?_setIfInBounds_self, if_pos (by
              rcases Nat.lt_or_ge M w.heap.size with h5 | h5
              · exact h5
              · rw [Array.getElem?_eq_none h5] at hb; cases hb)]
            exact hb.symm
          · rw [Array.getElem?_setIfInBounds_ne e]
        rw [this]
      rw [hset]
      have := Builtin_delete_none hb h1 hkey ty
      exact this
    · unfold upd at ht
      by_cases e : t = s
      · rw [if_pos e] at ht; cases ht
      · rw [if_neg e] at ht
        exact hf t i ht
  · have hjl : j < es.toList.length := (List.getElem?_eq_some_iff.1 h2).1
    have hjs : j < es.size := by simpa using hjl
    have hsub : (es.eraseIdxIfInBounds j).toList = es.toList.eraseIdx j := by
      unfold Array.eraseIdxIfInBounds
      rw [dif_pos hjs]
      simp
    refine ⟨es.eraseIdxIfInBounds j, clock, ?_, _, _, heap_setBlock_same hb _, stamped_erase hst j, fun x hx => ?_, fun t i ht => ?_⟩
    · simp [Builtin.delete_, run_underlying Try.underlying53, Go.MapKept.run_getObj_map hb, keyLawS.check w _ hkey, h1, Go.MapKept.run_setObj_map _ hb, Result.andThen, setBlock]
    · rw [hsub, List.mem_eraseIdx_iff_getElem?] at hx
      obtain ⟨m, hm, hmx⟩ := hx
      have hmem := List.mem_of_getElem? hmx
      obtain ⟨t, i, k1, k2, k3, k4⟩ := he x hmem
      refine ⟨t, i, k1, k2, ?_, k4⟩
      unfold upd
      rw [if_neg ?_]
      · exact k3
      · intro e
        have h6 : x.key = e0.key := by rw [k2, h3, e]
        obtain ⟨_, _, h9⟩ := hst
        have hml : m < es.toList.length := (List.getElem?_eq_some_iff.1 hmx).1
        have hi' : m < (es.toList.map (·.key)).length := by rw [List.length_map]; exact hml
        have hj' : j < (es.toList.map (·.key)).length := by rw [List.length_map]; exact hjl
        refine hm ((List.getElem_inj (h₀ := hi') (h₁ := hj') h9).1 ?_)
        rw [List.getElem?_eq_getElem hml] at hmx
        rw [List.getElem?_eq_getElem hjl] at h2
        rw [List.getElem_map, List.getElem_map, Option.some.inj hmx, Option.some.inj h2, h6]
    · unfold upd at ht
      by_cases e : t = s
      · rw [if_pos e] at ht; cases ht
      · rw [if_neg e] at ht
        obtain ⟨x, hx, hk⟩ := hf t i ht
        refine ⟨x, ?_, hk⟩
        rw [hsub, List.mem_eraseIdx_iff_getElem?]
        obtain ⟨m, hml, hmx⟩ := List.getElem_of_mem hx
        refine ⟨m, fun e2 => ?_, by rw [List.getElem?_eq_getElem hml, hmx]⟩
        subst e2
        rw [List.getElem?_eq_getElem hml, hmx] at h2
        cases h2
        rw [h3] at hk
        injection hk with hk
        exact e hk.symm
where
  Builtin_delete_none {w : World} {M : Nat} {es : Array MapEntry} {clock : Nat} {s : ByteArray} (hb : w.heap[M]? = some (.map es clock)) (h1 : (Instr.findKey 9 (.string s) es.toList).run Try.prog w = .ok none w) (hkey : keyOf Try.prog 9 (.string s) = some (.string s.data.toList)) (ty : TypeId) :
      (Builtin.delete_ #[53, 9] ty #[.map (some M), .string s]).run Try.prog w = .ok (.tuple #[]) w := by
    have hset : ({ w with heap := w.heap.setIfInBounds M (.map es clock) } : World) = w := by
      have : w.heap.setIfInBounds M (.map es clock) = w.heap := by
        refine Array.ext_getElem? fun m => ?_
        by_cases e : M = m
        · subst e
          rw [Array.getElem?_setIfInBounds_self, if_pos (by
            rcases Nat.lt_or_ge M w.heap.size with h5 | h5
            · exact h5
            · rw [Array.getElem?_eq_none h5] at hb; cases hb)]
          exact hb.symm
        · rw [Array.getElem?_setIfInBounds_ne e]
      rw [this]
    simp [Builtin.delete_, run_underlying Try.underlying53, Go.MapKept.run_getObj_map hb, keyLawS.check w _ hkey, h1, Go.MapKept.run_setObj_map _ hb, Result.andThen, hset]
end
end Go.Proofs.Ytdhilhjiccpkkaa
