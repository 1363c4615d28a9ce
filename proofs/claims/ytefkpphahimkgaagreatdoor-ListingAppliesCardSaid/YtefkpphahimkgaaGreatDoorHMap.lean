/-
  A map from texts to numbers, told by the list of its entries: look, put, drop, how many there are.
-/
import Derived.Test.YtefkpphahimkgaaGreatDoorGA
import Derived.WideKeyEntry
import Derived.ChangeKeys
import Derived.Maps.Own
import Derived.WideLaws
namespace Go.Proofs.YtefkpphahimkgaaGreatDoor
open Go.RowKit Go.MapKept
open Go.ChangeMaps (setBlock heap_setBlock_same heap_setBlock_other)
set_option linter.unusedVariables false
set_option maxRecDepth 100000

theorem keyLawH : Go.WideMaps.KeyLaw Tryz.prog 9 := Go.WideMaps.string_law Tryz.underlying9
theorem keyH_of (s : ByteArray) (h : s.size ≤ maxLen) : keyOf Tryz.prog 9 (.string s) = some (.string s.data.toList) := by
  simp [keyOf, mapKey, Tryz.underlying9, h]
theorem keyUniqH {es : Array MapEntry} {clock : Nat} (hst : Stamped es clock) {x y : MapEntry} (hx : x ∈ es.toList) (hy : y ∈ es.toList) (h : x.key = y.key) : x = y := by
  obtain ⟨_, _, h3⟩ := hst
  obtain ⟨i, hi, rfl⟩ := List.getElem_of_mem hx
  obtain ⟨j, hj, rfl⟩ := List.getElem_of_mem hy
  have hi' : i < (es.toList.map (·.key)).length := by rw [List.length_map]; exact hi
  have hj' : j < (es.toList.map (·.key)).length := by rw [List.length_map]; exact hj
  have : i = j := by
    refine (List.getElem_inj (h₀ := hi') (h₁ := hj') h3).1 ?_
    simpa using h
  subst this
  rfl
theorem mem_of_modH {es : Array MapEntry} {j : Nat} {e0 x : MapEntry} {g : MapEntry → MapEntry} (h2 : es.toList[j]? = some e0) (hx : x ∈ es.toList) : x = e0 ∨ x ∈ (es.modify j g).toList := by
  obtain ⟨i, hi, rfl⟩ := List.getElem_of_mem hx
  by_cases e : i = j
  · subst e
    left
    rw [List.getElem?_eq_getElem hi] at h2
    exact Option.some.inj h2
  · right
    rw [Array.toList_modify]
    refine List.mem_of_getElem? (i := i) ?_
    rw [List.getElem?_modify_ne _ _ (fun x => e x.symm)]
    exact List.getElem?_eq_getElem hi
theorem mem_modH_at {es : Array MapEntry} {j : Nat} {e0 : MapEntry} {g : MapEntry → MapEntry} (h2 : es.toList[j]? = some e0) : g e0 ∈ (es.modify j g).toList := by
  rw [Array.toList_modify]
  refine List.mem_of_getElem? (i := j) ?_
  rw [List.getElem?_modify_eq, h2]
  rfl
theorem mem_modH_ne {es : Array MapEntry} {clock j : Nat} {e0 x : MapEntry} {g : MapEntry → MapEntry} (hst : Stamped es clock) (h2 : es.toList[j]? = some e0) (hx : x ∈ (es.modify j g).toList) : x = g e0 ∨ (x ∈ es.toList ∧ x.key ≠ e0.key) := by
  obtain ⟨i, hi, rfl⟩ := List.getElem_of_mem hx
  have hi2 : i < es.toList.length := by simpa using hi
  have hjl : j < es.toList.length := (List.getElem?_eq_some_iff.1 h2).1
  by_cases e : i = j
  · subst e
    left
    have : (es.modify i g).toList[i]? = some (g e0) := by rw [Array.toList_modify, List.getElem?_modify_eq, h2]; rfl
    rw [List.getElem?_eq_getElem hi] at this
    exact Option.some.inj this
  · right
    have h4 : (es.modify j g).toList[i]? = es.toList[i]? := by rw [Array.toList_modify, List.getElem?_modify_ne _ _ (fun x => e x.symm)]
    rw [List.getElem?_eq_getElem hi, List.getElem?_eq_getElem hi2] at h4
    have h5 := Option.some.inj h4
    rw [h5]
    refine ⟨List.getElem_mem hi2, fun h6 => ?_⟩
    have h7 := keyUniqH hst (List.getElem_mem hi2) (List.mem_of_getElem? h2) h6
    rw [List.getElem?_eq_getElem hjl] at h2
    have h8 := Option.some.inj h2
    rw [← h8] at h7
    obtain ⟨_, _, h9⟩ := hst
    have hi' : i < (es.toList.map (·.key)).length := by rw [List.length_map]; exact hi2
    have hj' : j < (es.toList.map (·.key)).length := by rw [List.length_map]; exact hjl
    exact e ((List.getElem_inj (h₀ := hi') (h₁ := hj') h9).1 (by simp [h7]))
theorem fr_setBlockH (w : World) (M : Nat) (o : Obj) : Fr (· = M) w (setBlock w M o) :=
  ⟨rfl, rfl, rfl, by simp [setBlock], fun i _ hi => heap_setBlockH_other w M o hi⟩
where
  heap_setBlockH_other (w : World) (M : Nat) (o : Obj) {i : Nat} (hi : ¬ i = M) : (setBlock w M o).heap[i]? = w.heap[i]? := by
    simp only [setBlock]
    rw [Array.getElem?_setIfInBounds_ne (fun e => hi e.symm)]
theorem del_noneH {w : World} {M : Nat} {es : Array MapEntry} {clock : Nat} {s : ByteArray} (hb : w.heap[M]? = some (.map es clock)) (h1 : (Instr.findKey 9 (.string s) es.toList).run Tryz.prog w = .ok none w) (hkey : keyOf Tryz.prog 9 (.string s) = some (.string s.data.toList)) (ty : TypeId) :
    (Builtin.delete_ #[49, 9] ty #[.map (some M), .string s]).run Tryz.prog w = .ok (.tuple #[]) w := by
  have hset : ({ w with heap := w.heap.setIfInBounds M (.map es clock) } : World) = w := by
    have : w.heap.setIfInBounds M (.map es clock) = w.heap := by
      refine Array.ext_getElem? fun m => ?_
      by_cases e : M = m
      · subst e
        rw [Array.getElem?_setIfInBounds_self, if_pos (by
          rcases Nat.lt_or_ge M w.heap.size with h5 | h5
          · exact h5
          · rw [Array.getElem?_eq_none h5] at hb; cases hb)]
        exact hb.symm
      · rw [Array.getElem?_setIfInBounds_ne e]
    rw [this]
  simp [Builtin.delete_, run_underlying Tryz.underlying49, Go.MapKept.run_getObj_map hb, keyLawH.check w _ hkey, h1, Go.MapKept.run_setObj_map _ hb, Result.andThen, hset]

abbrev HL := List (ByteArray × Int)
def getH (hs : HL) (s : ByteArray) : Option Int := (hs.find? (fun p => decide (p.1 = s))).map Prod.snd
def dropH (hs : HL) (s : ByteArray) : HL := hs.filter (fun p => decide (p.1 ≠ s))
theorem getH_none {hs : HL} {s : ByteArray} : getH hs s = none ↔ ∀ p ∈ hs, p.1 ≠ s := by
  unfold getH
  rw [Option.map_eq_none_iff, List.find?_eq_none]
  simp
theorem getH_mem {hs : HL} (h : (hs.map Prod.fst).Nodup) {s : ByteArray} {n : Int} (hm : (s, n) ∈ hs) : getH hs s = some n := by
  induction hs with
  | nil => cases hm
  | cons p r ih =>
    rw [List.map_cons, List.nodup_cons] at h
    unfold getH
    rw [List.find?_cons]
    by_cases e : p.1 = s
    · rw [decide_eq_true e]
      rcases List.mem_cons.1 hm with e2 | e2
      · rw [← e2]; rfl
      · exfalso
        exact h.1 (by rw [e]; exact List.mem_map.2 ⟨_, e2, rfl⟩)
    · rw [decide_eq_false e]
      rcases List.mem_cons.1 hm with e2 | e2
      · exact absurd (by rw [← e2]) e
      · exact ih h.2 e2
theorem mem_getH {hs : HL} {s : ByteArray} {n : Int} (h : getH hs s = some n) : (s, n) ∈ hs := by
  unfold getH at h
  rw [Option.map_eq_some_iff] at h
  obtain ⟨p, h1, h2⟩ := h
  have h3 := List.find?_some h1
  have h4 := List.mem_of_find?_eq_some h1
  rw [decide_eq_true_eq] at h3
  cases p with
  | mk a b =>
    have e1 : a = s := h3
    have e2 : b = n := h2
    rw [← e1, ← e2]
    exact h4
theorem dropH_none {hs : HL} {s : ByteArray} (h : getH hs s = none) : dropH hs s = hs := by
  unfold dropH
  rw [List.filter_eq_self]
  intro p hp
  rw [decide_eq_true_eq]
  exact getH_none.1 h p hp
theorem mem_dropH {hs : HL} {s : ByteArray} {p : ByteArray × Int} : p ∈ dropH hs s ↔ p ∈ hs ∧ p.1 ≠ s := by
  unfold dropH
  rw [List.mem_filter, decide_eq_true_eq]
theorem dropH_nodup {hs : HL} (h : (hs.map Prod.fst).Nodup) (s : ByteArray) : ((dropH hs s).map Prod.fst).Nodup :=
  (List.Sublist.map Prod.fst List.filter_sublist).nodup h
theorem dropH_len {hs : HL} (h : (hs.map Prod.fst).Nodup) {s : ByteArray} {n : Int} (hg : getH hs s = some n) : (dropH hs s).length + 1 = hs.length := by
  induction hs with
  | nil => cases hg
  | cons p r ih =>
    rw [List.map_cons, List.nodup_cons] at h
    unfold dropH
    rw [List.filter_cons]
    by_cases e : p.1 = s
    · have hr : dropH r s = r := dropH_none (getH_none.2 (fun q hq e2 => h.1 (by rw [e, ← e2]; exact List.mem_map.2 ⟨_, hq, rfl⟩)))
      unfold dropH at hr
      rw [if_neg (by simp [e]), hr, List.length_cons]
    · rw [if_pos (by simp [e]), List.length_cons, List.length_cons]
      have hg2 : getH r s = some n := by
        unfold getH at hg ⊢
        rw [List.find?_cons, decide_eq_false e] at hg
        exact hg
      have := ih h.2 hg2
      unfold dropH at this
      omega
theorem put_nodup {hs : HL} (h : (hs.map Prod.fst).Nodup) (s : ByteArray) (n : Int) : ((dropH hs s ++ [(s, n)]).map Prod.fst).Nodup := by
  rw [List.map_append, List.nodup_append]
  refine ⟨dropH_nodup h s, by simp, ?_⟩
  intro a ha b hb
  rw [List.map_cons, List.map_nil, List.mem_singleton] at hb
  obtain ⟨p, hp, rfl⟩ := List.mem_map.1 ha
  have h1 : b = s := hb
  rw [h1]
  exact (mem_dropH.1 hp).2

def HEnt (hs : HL) (x : MapEntry) : Prop := ∃ (s : ByteArray) (n : Int), s.size ≤ maxLen ∧ x.key = .string s ∧ x.val = .int .i64 n ∧ (s, n) ∈ hs
/-- block M is a map; its entries are those of the list (in any order) -/
structure HM (w : World) (M : Nat) (hs : HL) : Prop where
  ex : ∃ es clock, w.heap[M]? = some (.map es clock) ∧ Stamped es clock ∧ (∀ x ∈ es.toList, HEnt hs x) ∧ (∀ p ∈ hs, ∃ x ∈ es.toList, x.key = .string p.1) ∧ es.size = hs.length
  nd : (hs.map Prod.fst).Nodup
section
variable {w w' : World} {M : Nat} {hs : HL} {S : Nat → Prop}
theorem HM.new (w : World) : HM (w.alloc (.map #[] 0)) w.heap.size [] :=
  ⟨⟨#[], 0, heap_alloc_new w _, stamped_empty 0, by simp, by simp, rfl⟩, List.nodup_nil⟩
theorem HM.lt (h : HM w M hs) : M < w.heap.size := by
  obtain ⟨⟨es, clock, h, _⟩, _⟩ := h
  rcases Nat.lt_or_ge M w.heap.size with h1 | h1
  · exact h1
  · rw [Array.getElem?_eq_none h1] at h; cases h
theorem HM.of_block (h : HM w M hs) (hb : w'.heap[M]? = w.heap[M]?) : HM w' M hs := by
  obtain ⟨⟨es, clock, h1, h2⟩, h3⟩ := h
  exact ⟨⟨es, clock, hb.trans h1, h2⟩, h3⟩
theorem HM.below (h : HM w M hs) (hb : Below w.heap.size w w') : HM w' M hs := h.of_block (hb.block M h.lt)
theorem HM.fr (h : HM w M hs) (hf : Fr S w w') (hM : ¬ S M) : HM w' M hs := h.of_block (hf.block M h.lt hM)
theorem HM.not_blk (h : HM w M hs) {t : TypeId} {cs : Array Value} {g : Nat} (hb : Blk w g t cs) : g ≠ M := by
  rintro rfl
  obtain ⟨⟨es, clock, h, _⟩, _⟩ := h
  unfold Blk at hb
  rw [h] at hb
  cases hb
theorem HM.noCell (h : HM w M hs) (o : Nat) : w.cell? ⟨M, o, none⟩ = none := by
  obtain ⟨⟨es, clock, h, _⟩, _⟩ := h
  simp [World.cell?, h]
theorem hent_keys {es : Array MapEntry} (h : ∀ x ∈ es.toList, HEnt hs x) : ∀ x ∈ es.toList, ∃ l, keyOf Tryz.prog 9 x.key = some l := fun x hx => by
  obtain ⟨s, i, h1, h2, _⟩ := h x hx
  exact ⟨_, by rw [h2]; exact keyH_of s h1⟩
theorem hent_none {es : Array MapEntry} (he : ∀ p ∈ hs, ∃ x ∈ es.toList, x.key = .string p.1) {s : ByteArray} (h2 : ∀ x ∈ es.toList, x.key ≠ .string s) : getH hs s = none :=
  getH_none.2 (fun p hp e => by
    obtain ⟨x, hx, hk⟩ := he p hp
    exact h2 x hx (by rw [hk, e]))
/-- 'v, is := m[s]' -/
theorem HM.look (h : HM w M hs) (s : ByteArray) (hs' : s.size ≤ maxLen) : (Instr.lookup 49 (.map (some M)) (.string s) true).run Tryz.prog w = .ok (.tuple #[.int .i64 ((getH hs s).getD 0), .bool (getH hs s).isSome]) w := by
  obtain ⟨⟨es, clock, hb, hst, he, hf, _⟩, hnd⟩ := h
  have hkey := keyH_of s hs'
  rcases keyLawH.find w hkey es.toList (hent_keys he) with ⟨h1, h2⟩ | ⟨j, e0, h1, h2, h3⟩
  · have hn := hent_none hf h2
    simp [Instr.lookup, run_underlying Tryz.underlying49, Go.MapKept.run_getObj_map hb, keyLawH.check w _ hkey, h1, Result.andThen, hn]
  · obtain ⟨s', n, _, k2, k3, k4⟩ := he e0 (List.mem_of_getElem? h2)
    rw [h3] at k2
    injection k2 with k2
    subst k2
    simp [Instr.lookup, run_underlying Tryz.underlying49, Go.MapKept.run_getObj_map hb, keyLawH.check w _ hkey, h1, Result.andThen, getH_mem hnd k4, k3]
/-- 'm[s]' -/
theorem HM.look1 (h : HM w M hs) (s : ByteArray) (hs' : s.size ≤ maxLen) : (Instr.lookup 49 (.map (some M)) (.string s) false).run Tryz.prog w = .ok (.int .i64 ((getH hs s).getD 0)) w := by
  obtain ⟨⟨es, clock, hb, hst, he, hf, _⟩, hnd⟩ := h
  have hkey := keyH_of s hs'
  rcases keyLawH.find w hkey es.toList (hent_keys he) with ⟨h1, h2⟩ | ⟨j, e0, h1, h2, h3⟩
  · have hn := hent_none hf h2
    simp [Instr.lookup, run_underlying Tryz.underlying49, Go.MapKept.run_getObj_map hb, keyLawH.check w _ hkey, h1, Result.andThen, hn]
  · obtain ⟨s', n, _, k2, k3, k4⟩ := he e0 (List.mem_of_getElem? h2)
    rw [h3] at k2
    injection k2 with k2
    subst k2
    simp [Instr.lookup, run_underlying Tryz.underlying49, Go.MapKept.run_getObj_map hb, keyLawH.check w _ hkey, h1, Result.andThen, getH_mem hnd k4, k3]
/-- 'len(m)' -/
theorem HM.len (h : HM w M hs) (ty : TypeId) : (Builtin.len_ #[49] ty #[.map (some M)]).run Tryz.prog w = .ok (goInt hs.length) w := by
  obtain ⟨⟨es, clock, hb, hst, he, hf, hl⟩, hnd⟩ := h
  rw [← hl]
  exact run_len_map w 49 ty M es clock (by kernel_rfl) hb
/-- 'm[s] = n' -/
theorem HM.put (h : HM w M hs) (s : ByteArray) (hs' : s.size ≤ maxLen) (n : Int) :
    ∃ es' clock', (Instr.mapUpdate 49 (.map (some M)) (.string s) (.int .i64 n)).run Tryz.prog w = .ok () (setBlock w M (.map es' clock')) ∧ HM (setBlock w M (.map es' clock')) M (dropH hs s ++ [(s, n)]) := by
  obtain ⟨⟨es, clock, hb, hst, he, hf, hl⟩, hnd⟩ := h
  have hkey := keyH_of s hs'
  rcases keyLawH.find w hkey es.toList (hent_keys he) with ⟨h1, h2⟩ | ⟨j, e0, h1, h2, h3⟩
  · have hn := hent_none hf h2
    refine ⟨es.push ⟨.string s, .int .i64 n, clock⟩, clock + 1, ?_, ⟨_, _, heap_setBlock_same hb _, stamped_push hst h2, ?_, ?_, ?_⟩, put_nodup hnd s n⟩
    · simp [Instr.mapUpdate, run_underlying Tryz.underlying49, Go.MapKept.run_getObj_map hb, keyLawH.check w false hkey, h1, Go.MapKept.run_setObj_map _ hb, Result.andThen, setBlock]
    · intro x hx
      rw [dropH_none hn]
      simp only [Array.toList_push, List.mem_append, List.mem_singleton] at hx
      rcases hx with hx | rfl
      · obtain ⟨t, i, k1, k2, k3, k4⟩ := he x hx
        exact ⟨t, i, k1, k2, k3, List.mem_append_left _ k4⟩
      · exact ⟨s, n, hs', rfl, rfl, by simp⟩
    · intro p hp
      rw [dropH_none hn] at hp
      rcases List.mem_append.1 hp with hp | hp
      · obtain ⟨x, hx, hk⟩ := hf p hp
        exact ⟨x, by simp [hx], hk⟩
      · rw [List.mem_singleton] at hp
        subst hp
        exact ⟨⟨.string s, .int .i64 n, clock⟩, by simp, rfl⟩
    · rw [dropH_none hn, Array.size_push, List.length_append, hl]; rfl
  · have hj : es[j]? = some e0 := by simpa using h2
    have hkeyf : ∀ e', es[j]? = some e' → ({ e' with key := .string s, val := .int .i64 n } : MapEntry).key = e'.key := fun e' he' => by rw [hj] at he'; cases he'; exact h3.symm
    obtain ⟨s', n', _, k2, k3, k4⟩ := he e0 (List.mem_of_getElem? h2)
    rw [h3] at k2
    injection k2 with k2
    subst k2
    refine ⟨es.modify j (fun e' => { e' with key := .string s, val := .int .i64 n }), clock, ?_, ⟨_, _, heap_setBlock_same hb _, stamped_modify hst _ _ (fun _ _ => rfl) (fun e' _ he' => hkeyf e' he'), ?_, ?_, ?_⟩, put_nodup hnd s n⟩
    · simp [Instr.mapUpdate, run_underlying Tryz.underlying49, Go.MapKept.run_getObj_map hb, keyLawH.check w false hkey, h1, hj, h3, keyLawH.stays w hkey, Go.MapKept.run_setObj_map _ hb, Result.andThen, setBlock]
    · intro x hx
      rcases mem_modH_ne hst h2 hx with rfl | ⟨hx, hne⟩
      · exact ⟨s, n, hs', rfl, rfl, by simp⟩
      · obtain ⟨t, i, q1, q2, q3, q4⟩ := he x hx
        exact ⟨t, i, q1, q2, q3, List.mem_append_left _ (mem_dropH.2 ⟨q4, fun e => hne (by rw [q2, h3]; exact congrArg _ e)⟩)⟩
    · intro p hp
      rcases List.mem_append.1 hp with hp | hp
      · obtain ⟨hp1, hp2⟩ := mem_dropH.1 hp
        obtain ⟨x, hx, hk⟩ := hf p hp1
        rcases mem_of_modH (g := fun e' : MapEntry => { e' with key := .string s, val := .int .i64 n }) h2 hx with rfl | hx'
        · rw [h3] at hk
          injection hk with hk
          exact absurd hk.symm hp2
        · exact ⟨x, hx', hk⟩
      · rw [List.mem_singleton] at hp
        subst hp
        exact ⟨_, mem_modH_at (g := fun e' : MapEntry => { e' with key := .string s, val := .int .i64 n }) h2, rfl⟩
    · rw [Array.size_modify, hl, List.length_append, ← dropH_len hnd (getH_mem hnd k4)]; rfl
/-- 'delete(m, s)' -/
theorem HM.del (h : HM w M hs) (s : ByteArray) (hs' : s.size ≤ maxLen) :
    ∃ es' clock', (∀ ty : TypeId, (Builtin.delete_ #[49, 9] ty #[.map (some M), .string s]).run Tryz.prog w = .ok (.tuple #[]) (setBlock w M (.map es' clock'))) ∧ HM (setBlock w M (.map es' clock')) M (dropH hs s) := by
  obtain ⟨⟨es, clock, hb, hst, he, hf, hl⟩, hnd⟩ := h
  have hkey := keyH_of s hs'
  rcases keyLawH.find w hkey es.toList (hent_keys he) with ⟨h1, h2⟩ | ⟨j, e0, h1, h2, h3⟩
  · have hn := hent_none hf h2
    refine ⟨es, clock, fun ty => ?_, ⟨_, _, heap_setBlock_same hb _, hst, ?_, ?_, ?_⟩, dropH_nodup hnd s⟩
    · have hset : setBlock w M (.map es clock) = w := by
        simp only [setBlock]
        have : w.heap.setIfInBounds M (.map es clock) = w.heap := by
          refine Array.ext_getElem? fun m => ?_
          by_cases e : M = m
          · subst e
            rw [Array.getElem?_setIfInBounds_self, if_pos (by
              rcases Nat.lt_or_ge M w.heap.size with h5 | h5
              · exact h5
              · rw [Array.getElem?_eq_none h5] at hb; cases hb)]
            exact hb.symm
          · rw [Array.getElem?_setIfInBounds_ne e]
        rw [this]
      rw [hset]
      exact del_noneH hb h1 hkey ty
    · rw [dropH_none hn]; exact he
    · rw [dropH_none hn]; exact hf
    · rw [dropH_none hn]; exact hl
  · have hjl : j < es.toList.length := (List.getElem?_eq_some_iff.1 h2).1
    have hjs : j < es.size := by simpa using hjl
    obtain ⟨s', n', _, k2, k3, k4⟩ := he e0 (List.mem_of_getElem? h2)
    rw [h3] at k2
    injection k2 with k2
    subst k2
    have hsub : (es.eraseIdxIfInBounds j).toList = es.toList.eraseIdx j := by
      unfold Array.eraseIdxIfInBounds
      rw [dif_pos hjs]
      simp
    refine ⟨es.eraseIdxIfInBounds j, clock, fun ty => ?_, ⟨_, _, heap_setBlock_same hb _, stamped_erase hst j, fun x hx => ?_, fun p hp => ?_, ?_⟩, dropH_nodup hnd s⟩
    · simp [Builtin.delete_, run_underlying Tryz.underlying49, Go.MapKept.run_getObj_map hb, keyLawH.check w _ hkey, h1, Go.MapKept.run_setObj_map _ hb, Result.andThen, setBlock]
    · rw [hsub, List.mem_eraseIdx_iff_getElem?] at hx
      obtain ⟨m, hm, hmx⟩ := hx
      have hmem := List.mem_of_getElem? hmx
      obtain ⟨t, i, q1, q2, q3, q4⟩ := he x hmem
      refine ⟨t, i, q1, q2, q3, mem_dropH.2 ⟨q4, fun e => ?_⟩⟩
      have h6 : x.key = e0.key := by rw [q2, h3]; exact congrArg _ e
      obtain ⟨_, _, h9⟩ := hst
      have hml : m < es.toList.length := (List.getElem?_eq_some_iff.1 hmx).1
      have hi' : m < (es.toList.map (·.key)).length := by rw [List.length_map]; exact hml
      have hj' : j < (es.toList.map (·.key)).length := by rw [List.length_map]; exact hjl
      refine hm ((List.getElem_inj (h₀ := hi') (h₁ := hj') h9).1 ?_)
      rw [List.getElem?_eq_getElem hml] at hmx
      rw [List.getElem?_eq_getElem hjl] at h2
      rw [List.getElem_map, List.getElem_map, Option.some.inj hmx, Option.some.inj h2, h6]
    · obtain ⟨hp1, hp2⟩ := mem_dropH.1 hp
      obtain ⟨x, hx, hk⟩ := hf p hp1
      refine ⟨x, ?_, hk⟩
      rw [hsub, List.mem_eraseIdx_iff_getElem?]
      obtain ⟨m, hml, hmx⟩ := List.getElem_of_mem hx
      refine ⟨m, fun e2 => ?_, by rw [List.getElem?_eq_getElem hml, hmx]⟩
      subst e2
      rw [List.getElem?_eq_getElem hml, hmx] at h2
      cases h2
      rw [h3] at hk
      injection hk with hk
      exact hp2 hk.symm
    · have h5 := dropH_len hnd (getH_mem hnd k4)
      have h6 : (es.eraseIdxIfInBounds j).size = es.size - 1 := by
        rw [← Array.length_toList, hsub, List.length_eraseIdx, if_pos hjl, Array.length_toList]
      rw [h6, hl, ← h5]
      omega
end
end Go.Proofs.YtefkpphahimkgaaGreatDoor
