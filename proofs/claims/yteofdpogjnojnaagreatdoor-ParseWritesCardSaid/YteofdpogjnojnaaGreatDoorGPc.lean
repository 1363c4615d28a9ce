/-
  A region that draws, with stores at its end (from number T on) into what it has read: the condition on the world is asked as long as T has not come up; what is taken first has T wait for it.
  A map from texts to true: the keys seen.
-/
import Derived.Test.YteofdpogjnojnaaGreatDoorProg
import Derived.Deep.RegionHeld3
import Derived.Test.YteofdpogjnojnaaGreatDoorWords2
import Derived.WideKeyEntry
import Derived.ChangeKeys
import Derived.Maps.Own
namespace Go.Proofs.YteofdpogjnojnaaGreatDoor
set_option linter.unusedVariables false

section
variable {P : Program} {ops : Array Oper} {Q : Exit → Act → World → Prop} {md : Region.Mode} {S : World → Prop} {T : Nat}
def wpAnyT (P : Program) (md : Region.Mode) (ops : Array Oper) (Q : Exit → Act → World → Prop) (S : World → Prop) (T : Nat) : Nat → Array Bool → Act → World → Prop
  | 0, listed, a, w => Region.ready md ops listed = [] ∧ Q .normal a w
  | fuel + 1, listed, a, w =>
    (Region.ready md ops listed = [] → Q .normal a w) ∧
    ∀ i ∈ Region.ready md ops listed, wpOp P ops Q i (fun a' w' => ((listed.setIfInBounds i true).getD T true = false → S w') ∧ wpAnyT P md ops Q S T fuel (listed.setIfInBounds i true) a' w') a w
theorem wpAny_of_T : ∀ (fuel : Nat) (listed : Array Bool) (a : Act) (w : World), wpAnyT P md ops Q S T fuel listed a w → wpAny P md ops Q fuel listed a w
  | 0, _, _, _, h => h
  | fuel + 1, _, _, _, h => ⟨h.1, fun i hi => wpOp_mono (fun a' w' h' => wpAny_of_T fuel _ a' w' h'.2) (h.2 i hi)⟩
theorem wpAnyT_first {i : Nat} {oi oT : Oper} {v : Value} (hi : ops[i]? = some oi) (hsel : ∀ (j : Nat) (o : Oper) cs b, ops[j]? = some o → o.op ≠ .select cs b)
    (hoT : ops[T]? = some oT) (hT : ∃ e ∈ oT.after, Region.binds md e = true ∧ e.on = i) (hiT : i ≠ T)
    (hQ : ∀ c a w, Q (.panic c) (a.put oi.dst v) w → Q (.panic c) a w) :
    ∀ (fuel : Nat) (listed : Array Bool) (a : Act) (w : World),
      (∀ j oj, ops[j]? = some oj → j ≠ i → listed.getD j true = false → (∀ e ∈ oj.after, Region.binds md e = true → e.on ≠ i) → oi.apart ops oj = true) →
      i ∈ Region.ready md ops listed → YieldsIf P ops S oi v a → listed.getD T true = false → S w →
      wpAnyT P md ops Q S T fuel (listed.setIfInBounds i true) (a.put oi.dst v) w → wpAnyT P md ops Q S T (fuel + 1) listed a w := by
  intro fuel
  induction fuel with
  | zero =>
    intro listed a w _ hr hy hl hS H
    refine ⟨fun h => (by rw [h] at hr; cases hr), fun j hj => ?_⟩
    by_cases hji : j = i
    · subst hji; exact hy.wpOp hi hS ⟨fun _ => hS, H⟩
    · have := ready_mono hj hji
      rw [H.1] at this
      cases this
  | succ fuel ih =>
    intro listed a w hfree hr hy hl hS H
    refine ⟨fun h => (by rw [h] at hr; cases hr), fun j hj => ?_⟩
    by_cases hji : j = i
    · subst hji; exact hy.wpOp hi hS ⟨fun _ => hS, H⟩
    · have h1 := H.2 j (ready_mono hj hji)
      obtain ⟨hjun, oj, hoj, hall⟩ := mem_ready.1 hj
      have hun : listed.getD i false = false := by
        have h0 := (mem_ready.1 hr).1
        rcases Nat.lt_or_ge i listed.size with h' | h'
        · simp [h'] at h0 ⊢; exact h0
        · simp [Array.getElem?_eq_none h']
      have hnot : ∀ e ∈ oj.after, Region.binds md e = true → e.on ≠ i := fun e he hb heq => by
        have h1 := hall e he hb
        rw [heq, hun] at h1
        cases h1
      have hjT : j ≠ T := by
        rintro rfl
        obtain ⟨e, he, hb, heq⟩ := hT
        rw [hoj] at hoT
        cases hoT
        exact hnot e he hb heq
      have h2 := wpOp_putIf hoj (hfree j oj hoj hji hjun hnot) (fun cs b => hsel i oi cs b hi) (fun cs b => hsel j oj cs b hoj) hQ hy h1
      have hfree' : ∀ k ok, ops[k]? = some ok → k ≠ i → (listed.setIfInBounds j true).getD k true = false →
          (∀ e ∈ ok.after, Region.binds md e = true → e.on ≠ i) → oi.apart ops ok = true := fun k ok hk hki hun hno => by
        refine hfree k ok hk hki ?_ hno
        by_cases hjk : j = k
        · subst hjk; exact hjun
        · rw [getD_set_ne true hjk] at hun; exact hun
      have hl' : (listed.setIfInBounds j true).getD T true = false := by rw [getD_set_ne true hjT]; exact hl
      refine wpOp_mono (fun a' w' h3 => ?_) h2
      have hS' : S w' := h3.2.1 (by rw [getD_set_ne true hjT, getD_set_ne true hiT]; exact hl)
      refine ⟨fun _ => hS', ih (listed.setIfInBounds j true) a' w' hfree' (ready_mono hr (Ne.symm hji)) h3.1 hl' hS' ?_⟩
      rw [Array.setIfInBounds_comm _ _ hji]
      exact h3.2.2
def waitsFor (md : Region.Mode) (ops : Array Oper) (T i : Nat) : Bool := match ops[T]? with | some o => o.after.any (fun e => Region.binds md e && (e.on == i)) && !(i == T) | none => false
theorem wpAnyT_take {i : Nat} {oi : Oper} {v : Value} {fuel : Nat} {listed : Array Bool} {a : Act} {w : World} (hi : ops[i]? = some oi)
    (hs : Region.noSelect ops = true) (hf : Region.free md ops listed i = true) (hr : (Region.ready md ops listed).contains i = true) (hT : waitsFor md ops T i = true) (hl : listed.getD T true = false)
    (hQ : ∀ c a w, Q (.panic c) (a.put oi.dst v) w → Q (.panic c) a w) (hy : YieldsIf P ops S oi v a) (hS : S w)
    (h : wpAnyT P md ops Q S T fuel (listed.setIfInBounds i true) (a.put oi.dst v) w) : wpAnyT P md ops Q S T (fuel + 1) listed a w := by
  unfold waitsFor at hT
  cases hoT : ops[T]? with
  | none => rw [hoT] at hT; cases hT
  | some oT =>
    rw [hoT] at hT
    simp only [Bool.and_eq_true, Array.any_eq_true', Bool.not_eq_true', beq_eq_false_iff_ne, beq_iff_eq] at hT
    obtain ⟨⟨e, he, hb, heq⟩, hne⟩ := hT
    exact wpAnyT_first hi (Region.noSelect_spec hs) hoT ⟨e, he, hb, heq⟩ hne hQ fuel listed a w (Region.free_spec hi hf) (by simpa using hr) hy hl hS h
/-- what yields in whatever world is taken first, whoever waits for it -/
theorem wpAnyT_firstP {i : Nat} {oi : Oper} {v : Value} (hi : ops[i]? = some oi) (hsel : ∀ (j : Nat) (o : Oper) cs b, ops[j]? = some o → o.op ≠ .select cs b) (hiT : i ≠ T)
    (hQ : ∀ c a w, Q (.panic c) (a.put oi.dst v) w → Q (.panic c) a w) :
    ∀ (fuel : Nat) (listed : Array Bool) (a : Act) (w : World),
      (∀ j oj, ops[j]? = some oj → j ≠ i → listed.getD j true = false → (∀ e ∈ oj.after, Region.binds md e = true → e.on ≠ i) → oi.apart ops oj = true) →
      i ∈ Region.ready md ops listed → YieldsIf P ops (fun _ => True) oi v a → (listed.getD T true = false → S w) →
      wpAnyT P md ops Q S T fuel (listed.setIfInBounds i true) (a.put oi.dst v) w → wpAnyT P md ops Q S T (fuel + 1) listed a w := by
  intro fuel
  induction fuel with
  | zero =>
    intro listed a w _ hr hy hS H
    refine ⟨fun h => (by rw [h] at hr; cases hr), fun j hj => ?_⟩
    by_cases hji : j = i
    · subst hji; exact hy.wpOp hi trivial ⟨fun e => hS (by rw [getD_set_ne true hiT] at e; exact e), H⟩
    · have := ready_mono hj hji
      rw [H.1] at this
      cases this
  | succ fuel ih =>
    intro listed a w hfree hr hy hS H
    refine ⟨fun h => (by rw [h] at hr; cases hr), fun j hj => ?_⟩
    by_cases hji : j = i
    · subst hji; exact hy.wpOp hi trivial ⟨fun e => hS (by rw [getD_set_ne true hiT] at e; exact e), H⟩
    · have h1 := H.2 j (ready_mono hj hji)
      obtain ⟨hjun, oj, hoj, hall⟩ := mem_ready.1 hj
      have hun : listed.getD i false = false := by
        have h0 := (mem_ready.1 hr).1
        rcases Nat.lt_or_ge i listed.size with h' | h'
        · simp [h'] at h0 ⊢; exact h0
        · simp [Array.getElem?_eq_none h']
      have hnot : ∀ e ∈ oj.after, Region.binds md e = true → e.on ≠ i := fun e he hb heq => by
        have h1 := hall e he hb
        rw [heq, hun] at h1
        cases h1
      have h2 := wpOp_putIf hoj (hfree j oj hoj hji hjun hnot) (fun cs b => hsel i oi cs b hi) (fun cs b => hsel j oj cs b hoj) hQ hy h1
      have hfree' : ∀ k ok, ops[k]? = some ok → k ≠ i → (listed.setIfInBounds j true).getD k true = false →
          (∀ e ∈ ok.after, Region.binds md e = true → e.on ≠ i) → oi.apart ops ok = true := fun k ok hk hki hun hno => by
        refine hfree k ok hk hki ?_ hno
        by_cases hjk : j = k
        · subst hjk; exact hjun
        · rw [getD_set_ne true hjk] at hun; exact hun
      refine wpOp_mono (fun a' w' h3 => ?_) h2
      have hS' : (listed.setIfInBounds j true).getD T true = false → S w' := fun e => h3.2.1 (by
        rw [Array.setIfInBounds_comm _ _ (Ne.symm hji), getD_set_ne true hiT]; exact e)
      refine ⟨hS', ih (listed.setIfInBounds j true) a' w' hfree' (ready_mono hr (Ne.symm hji)) h3.1 hS' ?_⟩
      rw [Array.setIfInBounds_comm _ _ hji]
      exact h3.2.2
theorem wpAnyT_pure {i : Nat} {oi : Oper} {v : Value} {fuel : Nat} {listed : Array Bool} {a : Act} {w : World} (hi : ops[i]? = some oi)
    (hs : Region.noSelect ops = true) (hf : Region.free md ops listed i = true) (hr : (Region.ready md ops listed).contains i = true) (hT : i ≠ T)
    (hQ : ∀ c a w, Q (.panic c) (a.put oi.dst v) w → Q (.panic c) a w) (hy : YieldsIf P ops (fun _ => True) oi v a) (hS : S w)
    (h : wpAnyT P md ops Q S T fuel (listed.setIfInBounds i true) (a.put oi.dst v) w) : wpAnyT P md ops Q S T (fuel + 1) listed a w :=
  wpAnyT_firstP hi (Region.noSelect_spec hs) hT hQ fuel listed a w (Region.free_spec hi hf) (by simpa using hr) hy (fun _ => hS) h
theorem wpAnyT_ready {rs : List Nat} {fuel : Nat} {listed : Array Bool} {a : Act} {w : World} (hr : Region.ready md ops listed = rs) (hne : rs ≠ [])
    (h : ∀ i ∈ rs, wpOp P ops Q i (fun a' w' => ((listed.setIfInBounds i true).getD T true = false → S w') ∧ wpAnyT P md ops Q S T fuel (listed.setIfInBounds i true) a' w') a w) : wpAnyT P md ops Q S T (fuel + 1) listed a w :=
  ⟨fun h0 => absurd (hr ▸ h0) hne, hr ▸ h⟩
def AllReadyT (P : Program) (md : Region.Mode) (ops : Array Oper) (Q : Exit → Act → World → Prop) (S : World → Prop) (T : Nat) (fuel : Nat) (listed : Array Bool) (a : Act) (w : World) (rs : List Nat) : Prop :=
  ∀ i ∈ rs, wpOp P ops Q i (fun a' w' => ((listed.setIfInBounds i true).getD T true = false → S w') ∧ wpAnyT P md ops Q S T fuel (listed.setIfInBounds i true) a' w') a w
theorem AllReadyT.nil {fuel : Nat} {listed : Array Bool} {a : Act} {w : World} : AllReadyT P md ops Q S T fuel listed a w [] := fun _ h => by cases h
/-- one that may come up while T has not: S is to be shown anew -/
theorem AllReadyT.cons {fuel : Nat} {listed : Array Bool} {a : Act} {w : World} {i : Nat} {o : Oper} {rs : List Nat} (ho : ops[i]? = some o)
    (h : ∀ K' : Act → World → Prop, Shut (∀ a w, S w → (S w → wpAnyT P md ops Q S T fuel (listed.setIfInBounds i true) a w) → K' a w) → if Region.wanted o (yielded ops a.tmps) = true then Oper.wp P o a w K' Q else K' (a.put o.dst undef) w)
    (hs : AllReadyT P md ops Q S T fuel listed a w rs) : AllReadyT P md ops Q S T fuel listed a w (i :: rs) := fun j hj => by
  rcases List.mem_cons.1 hj with rfl | hj
  · exact wpOp_step ho (fun K' hK => h K' (fun a w hS hW => hK a w ⟨fun _ => hS, hW hS⟩))
  · exact hs j hj
theorem getD_set_t {l : Array Bool} {i : Nat} (h : l.getD T true = true) : (l.setIfInBounds i true).getD T true = true := by
  by_cases hij : i = T
  · subst hij
    rcases Nat.lt_or_ge i l.size with h' | h'
    · simp [h']
    · rw [Array.setIfInBounds_eq_of_size_le h']; exact h
  · rw [getD_set_ne true hij]; exact h
/-- T itself has come up: no condition any more -/
theorem wpAnyT_free : ∀ {fuel : Nat} {listed : Array Bool} {a : Act} {w : World}, listed.getD T true = true → wpAnyH P md ops Q (fun _ => True) fuel listed a w → wpAnyT P md ops Q S T fuel listed a w
  | 0, _, _, _, _, h => h
  | fuel + 1, listed, a, w, hl, h => ⟨h.1, fun i hi => wpOp_mono (fun a' w' h' => ⟨fun e => (by rw [getD_set_t hl] at e; cases e), wpAnyT_free (getD_set_t hl) h'.2⟩) (h.2 i hi)⟩
/-- T comes up, alone: from here on no condition -/
theorem wpAnyT_T {oT : Oper} {fuel : Nat} {listed : Array Bool} {a : Act} {w : World} (hr : Region.ready md ops listed = [T]) (ho : ops[T]? = some oT) (hl : (listed.setIfInBounds T true).getD T true = true)
    (h : ∀ K' : Act → World → Prop, Shut (∀ a w, wpAnyH P md ops Q (fun _ => True) fuel (listed.setIfInBounds T true) a w → K' a w) → if Region.wanted oT (yielded ops a.tmps) = true then Oper.wp P oT a w K' Q else K' (a.put oT.dst undef) w) : wpAnyT P md ops Q S T (fuel + 1) listed a w := by
  refine wpAnyT_ready hr (by simp) fun j hj => ?_
  rw [List.mem_singleton] at hj
  subst hj
  exact wpOp_step ho (fun K' hK => h K' (fun a w hW => hK a w ⟨fun e => (by rw [hl] at e; cases e), wpAnyT_free hl hW⟩))
theorem wp_region_heldT {id : Nat} {a : Act} {w : World} (T : Nat) (hm : P.follows .mixedOrders = true) (hS : S w.drew)
    (h : S w.drew → wpAnyT P .any ops Q S T ops.size (Array.replicate ops.size false) a w.drew) : (Code.region id ops true).wp P Q a w :=
  wp_region_any hm (wpAny_of_T (S := S) (T := T) _ _ _ _ (h hS))
end
end Go.Proofs.YteofdpogjnojnaaGreatDoor

namespace Go.Proofs.YteofdpogjnojnaaGreatDoor
open Go.RowKit Go.MapKept
open Go.ChangeMaps (setBlock heap_setBlock_same heap_setBlock_other)
set_option linter.unusedVariables false
set_option linter.unusedSimpArgs false
set_option maxRecDepth 100000

theorem keyLawT : Go.WideMaps.KeyLaw Tryz.prog 9 := Go.WideMaps.string_law Tryz.underlying9
theorem keyT_of (s : ByteArray) (h : s.size ≤ maxLen) : keyOf Tryz.prog 9 (.string s) = some (.string s.data.toList) := by
  simp [keyOf, mapKey, Tryz.underlying9, h]
theorem zeroT (w : World) : (zeroValue 4).run Tryz.prog w = .ok (.bool false) w := by kernel_rfl
def KEnt (f : ByteArray → Bool) (x : MapEntry) : Prop := ∃ s : ByteArray, s.size ≤ maxLen ∧ x.key = .string s ∧ f s = true ∧ x.val = .bool true
/-- block M is a map that holds true at the texts of f, and at no other -/
def KM (w : World) (M : Nat) (f : ByteArray → Bool) : Prop :=
  ∃ es clock, w.heap[M]? = some (.map es clock) ∧ Stamped es clock ∧ (∀ x ∈ es.toList, KEnt f x) ∧ ∀ s, f s = true → ∃ x ∈ es.toList, x.key = .string s
section
variable {w w' : World} {M : Nat} {f : ByteArray → Bool} {S : Nat → Prop}
theorem KM.new (w : World) : KM (w.alloc (.map #[] 0)) w.heap.size (fun _ => false) :=
  ⟨#[], 0, heap_alloc_new w _, stamped_empty 0, by simp, fun s h => by cases h⟩
theorem KM.lt (h : KM w M f) : M < w.heap.size := by
  obtain ⟨es, clock, h, _⟩ := h
  rcases Nat.lt_or_ge M w.heap.size with h1 | h1
  · exact h1
  · rw [Array.getElem?_eq_none h1] at h; cases h
theorem KM.of_block (h : KM w M f) (hb : w'.heap[M]? = w.heap[M]?) : KM w' M f := by
  obtain ⟨es, clock, h1, h2⟩ := h
  exact ⟨es, clock, hb.trans h1, h2⟩
theorem KM.below (h : KM w M f) (hb : Below w.heap.size w w') : KM w' M f := h.of_block (hb.block M h.lt)
theorem KM.fr (h : KM w M f) (hf : Fr S w w') (hM : ¬ S M) : KM w' M f := h.of_block (hf.block M h.lt hM)
theorem KM.not_blk (h : KM w M f) {t : TypeId} {cs : Array Value} {g : Nat} (hb : Blk w g t cs) : g ≠ M := by
  rintro rfl
  obtain ⟨es, clock, h, _⟩ := h
  unfold Blk at hb
  rw [h] at hb
  cases hb
theorem KM.congr {g : ByteArray → Bool} (h : KM w M f) (e : ∀ s, f s = g s) : KM w M g := by
  obtain rfl : f = g := funext e
  exact h
theorem kent_keys {es : Array MapEntry} (h : ∀ x ∈ es.toList, KEnt f x) : ∀ x ∈ es.toList, ∃ l, keyOf Tryz.prog 9 x.key = some l := fun x hx => by
  obtain ⟨s, h1, h2, _⟩ := h x hx
  exact ⟨_, by rw [h2]; exact keyT_of s h1⟩
theorem fr_setBlk (w : World) (M : Nat) (o : Obj) : Fr (· = M) w (setBlock w M o) :=
  ⟨rfl, rfl, rfl, by simp [setBlock], fun i _ hi => by
    simp only [setBlock]
    rw [Array.getElem?_setIfInBounds_ne (fun e => hi e.symm)]⟩
/-- 'm[s]' -/
theorem KM.look (h : KM w M f) (s : ByteArray) (hs : s.size ≤ maxLen) : (Instr.lookup 80 (.map (some M)) (.string s) false).run Tryz.prog w = .ok (.bool (f s)) w := by
  obtain ⟨es, clock, hb, hst, he, hf⟩ := h
  have hkey := keyT_of s hs
  rcases keyLawT.find w hkey es.toList (kent_keys he) with ⟨h1, h2⟩ | ⟨j, e0, h1, h2, h3⟩
  · have hn : f s = false := by
      cases e : f s with
      | false => rfl
      | true =>
        obtain ⟨x, hx, hk⟩ := hf s e
        exact absurd hk (h2 x hx)
    simp [Instr.lookup, run_underlying Tryz.underlying80, Go.MapKept.run_getObj_map hb, keyLawT.check w _ hkey, h1, Result.andThen, hn, zeroT]
  · obtain ⟨s', _, k2, k3, k4⟩ := he e0 (List.mem_of_getElem? h2)
    rw [h3] at k2
    injection k2 with k2
    subst k2
    have h2' : es[j]? = some e0 := by simpa using h2
    simp [Instr.lookup, run_underlying Tryz.underlying80, Go.MapKept.run_getObj_map hb, keyLawT.check w _ hkey, h1, Result.andThen, k3, k4, h2']
/-- 'm[s] = true' -/
theorem KM.put (h : KM w M f) (s : ByteArray) (hs : s.size ≤ maxLen) :
    ∃ es' clock', (Instr.mapUpdate 80 (.map (some M)) (.string s) (.bool true)).run Tryz.prog w = .ok () (setBlock w M (.map es' clock')) ∧ KM (setBlock w M (.map es' clock')) M (fun t => f t || decide (t = s)) := by
  obtain ⟨es, clock, hb, hst, he, hf⟩ := h
  have hkey := keyT_of s hs
  rcases keyLawT.find w hkey es.toList (kent_keys he) with ⟨h1, h2⟩ | ⟨j, e0, h1, h2, h3⟩
  · refine ⟨es.push ⟨.string s, .bool true, clock⟩, clock + 1, ?_, _, _, heap_setBlock_same hb _, stamped_push hst h2, ?_, ?_⟩
    · simp [Instr.mapUpdate, run_underlying Tryz.underlying80, Go.MapKept.run_getObj_map hb, keyLawT.check w false hkey, h1, Go.MapKept.run_setObj_map _ hb, Result.andThen, setBlock]
    · intro x hx
      simp only [Array.toList_push, List.mem_append, List.mem_singleton] at hx
      rcases hx with hx | rfl
      · obtain ⟨t, k1, k2, k3, k4⟩ := he x hx
        exact ⟨t, k1, k2, by simp [k3], k4⟩
      · exact ⟨s, hs, rfl, by simp, rfl⟩
    · intro t ht
      by_cases e : t = s
      · subst e
        exact ⟨⟨.string t, .bool true, clock⟩, by simp, rfl⟩
      · simp [e] at ht
        obtain ⟨x, hx, hk⟩ := hf t ht
        exact ⟨x, by simp [hx], hk⟩
  · have hj : es[j]? = some e0 := by simpa using h2
    obtain ⟨s', hs', k2, k3, k4⟩ := he e0 (List.mem_of_getElem? h2)
    rw [h3] at k2
    injection k2 with k2
    subst k2
    have hsame : es.modify j (fun e' => { e' with key := .string s, val := .bool true }) = es := by
      apply Array.ext'
      rw [Array.toList_modify]
      apply List.ext_getElem?
      intro i
      by_cases e : i = j
      · subst e
        rw [List.getElem?_modify_eq, h2]
        simp only [Option.map_eq_map, Option.map_some]
        congr 1
        cases e0
        simp only at h3 k4 ⊢
        rw [h3, k4]
      · rw [List.getElem?_modify_ne _ _ (fun x => e x.symm)]
    refine ⟨es, clock, ?_, es, clock, heap_setBlock_same hb _, hst, ?_, ?_⟩
    · have : (Instr.mapUpdate 80 (.map (some M)) (.string s) (.bool true)).run Tryz.prog w = .ok () (setBlock w M (.map (es.modify j (fun e' => { e' with key := .string s, val := .bool true })) clock)) := by
        simp [Instr.mapUpdate, run_underlying Tryz.underlying80, Go.MapKept.run_getObj_map hb, keyLawT.check w false hkey, h1, hj, h3, keyLawT.stays w hkey, Go.MapKept.run_setObj_map _ hb, Result.andThen, setBlock]
      rw [hsame] at this
      exact this
    · intro x hx
      obtain ⟨t, q1, q2, q3, q4⟩ := he x hx
      exact ⟨t, q1, q2, by simp [q3], q4⟩
    · intro t ht
      by_cases e : t = s
      · subst e
        exact ⟨e0, List.mem_of_getElem? h2, h3⟩
      · simp [e] at ht
        exact hf t ht
end
end Go.Proofs.YteofdpogjnojnaaGreatDoor
