/-
  A region that draws, whose last operation waits for all others (a store into what the region has read): the others go under one condition on the world, the last one stands by itself.
-/
import Derived.Test.YteofdpogjnojnaaGreatDoorProg
import Derived.Deep.RegionHeld3
namespace Go.Proofs.YteofdpogjnojnaaGreatDoor
set_option linter.unusedVariables false

section
variable {P : Program} {ops : Array Oper} {Q Q' : Exit → Act → World → Prop} {md : Region.Mode} {S : World → Prop}
theorem upon_weaker (hq : ∀ e a w, e ≠ .normal → Q' e a w → Q e a w) {o : Oper} {a : Act} {K : Act → World → Prop} {r : Result Next} (h : o.upon P a K Q' r) : o.upon P a K Q r := by
  cases r with
  | ok n w' =>
    cases n with
    | enter f args =>
      refine Calls.mono h (fun e w'' he => ?_)
      cases e with
      | returned v => exact he
      | panicked c => exact hq _ _ _ (by simp) he
      | outgrown => obtain ⟨a', w', h'⟩ := he; exact ⟨a', w', hq _ _ _ (by simp) h'⟩
    | _ => exact h
  | halt x w' =>
    cases x <;> first | exact h | exact hq _ _ _ (by simp) h
theorem wpOp_weaker (hq : ∀ e a w, e ≠ .normal → Q' e a w → Q e a w) {i : Nat} {a : Act} {w : World} {K : Act → World → Prop} (h : wpOp P ops Q' i K a w) : wpOp P ops Q i K a w := by
  unfold wpOp at *
  cases ho : ops[i]? with
  | none => rw [ho] at h; exact h
  | some o =>
    rw [ho] at h
    simp only at h ⊢
    split
    · rename_i hw
      rw [if_pos hw] at h
      rcases h with h | ⟨h1, a', w', h2⟩
      · exact .inl (upon_weaker hq h)
      · exact .inr ⟨h1, a', w', hq _ _ _ (by simp) h2⟩
    · rename_i hw
      rw [if_neg hw] at h
      exact h
/-- what is asked behind all others: the last operation -/
def lastQ (P : Program) (ops : Array Oper) (Q : Exit → Act → World → Prop) (st : Nat) : Exit → Act → World → Prop := fun e a w => match e with
  | .normal => wpOp P ops Q st (fun a w => Q .normal a w) a w
  | e => Q e a w
theorem lastQ_other {st : Nat} : ∀ e a w, e ≠ .normal → lastQ P ops Q st e a w → Q e a w := fun e a w he h => by cases e <;> first | exact absurd rfl he | exact h
/-- number i waits for number j -/
def waits (md : Region.Mode) (ops : Array Oper) (i j : Nat) : Bool := match ops[i]? with
  | some o => o.after.toList.any fun e => Region.binds md e && e.on == j
  | none => false
/-- number st waits for all others (or for one that does); nobody waits for it; nobody waits for one behind it -/
def lastOk (md : Region.Mode) (ops : Array Oper) (st : Nat) : Bool :=
  (List.range ops.size).all fun j => match ops[j]? with
    | some o => (j == st || (waits md ops st j || (List.range ops.size).any fun k => waits md ops st k && waits md ops k j)) && o.after.toList.all fun e => !Region.binds md e || (e.on != st && decide (e.on < j))
    | none => false
theorem waits_spec {i j : Nat} (h : waits md ops i j = true) : ∃ o, ops[i]? = some o ∧ ∃ e ∈ o.after, Region.binds md e = true ∧ e.on = j := by
  unfold waits at h
  cases hs : ops[i]? with
  | none => rw [hs] at h; cases h
  | some o =>
    rw [hs] at h
    simp only [List.any_eq_true, Bool.and_eq_true, beq_iff_eq, Array.mem_toList_iff] at h
    obtain ⟨e, he, hb, hon⟩ := h
    exact ⟨o, rfl, e, he, hb, hon⟩
theorem lastOk_spec {st : Nat} (h : lastOk md ops st = true) {j : Nat} {o : Oper} (ho : ops[j]? = some o) :
    (j ≠ st → waits md ops st j = true ∨ ∃ k, waits md ops st k = true ∧ waits md ops k j = true) ∧ ∀ e ∈ o.after, Region.binds md e = true → e.on ≠ st ∧ e.on < j := by
  unfold lastOk at h
  rw [List.all_eq_true] at h
  have hj := h j (List.mem_range.2 (Array.getElem?_eq_some_iff.1 ho).1)
  rw [ho] at hj
  simp only [Bool.and_eq_true, Bool.or_eq_true, beq_iff_eq, List.all_eq_true, List.any_eq_true, Array.mem_toList_iff, Bool.not_eq_true', bne_iff_ne, decide_eq_true_eq, List.mem_range] at hj
  refine ⟨fun hne => ?_, fun e he hb => ?_⟩
  · rcases hj.1.resolve_left hne with h1 | ⟨k, _, h1, h2⟩
    · exact .inl h1
    · exact .inr ⟨k, h1, h2⟩
  · rcases hj.2 e he with h2 | h2
    · rw [hb] at h2; cases h2
    · exact h2
/-- what is listed has what it waits for listed -/
def Closed (md : Region.Mode) (ops : Array Oper) (listed : Array Bool) : Prop := ∀ i j, listed.getD i false = true → waits md ops i j = true → listed.getD j false = true
theorem ready_waits {listed : Array Bool} {i j : Nat} (h : i ∈ Region.ready md ops listed) (hw : waits md ops i j = true) : listed.getD j false = true := by
  obtain ⟨o, ho, e, he, hb, hon⟩ := waits_spec hw
  rw [mem_ready] at h
  obtain ⟨_, o2, ho2, hall⟩ := h
  rw [ho] at ho2
  cases ho2
  rw [← hon]
  exact hall e he hb
theorem Closed.step {listed : Array Bool} {i : Nat} (h : Closed md ops listed) (hi : i ∈ Region.ready md ops listed) : Closed md ops (listed.setIfInBounds i true) := by
  intro k j hk hw
  by_cases e : k = i
  · subst e
    exact getD_set_true (ready_waits hi hw)
  · rw [getD_set_ne false (fun x => e x.symm)] at hk
    exact getD_set_true (h k j hk hw)
theorem all_listed {st : Nat} (hok : lastOk md ops st = true) {listed : Array Bool} (hz : listed.size = ops.size) (hst : st < ops.size) (hr : Region.ready md ops (listed.setIfInBounds st true) = []) :
    ∀ j, j < ops.size → j ≠ st → listed.getD j true = true := by
  intro j
  induction j using Nat.strongRecOn with
  | _ j ih =>
    intro hj hne
    cases hl : listed.getD j true with
    | true => rfl
    | false =>
      exfalso
      have hmem : j ∈ Region.ready md ops (listed.setIfInBounds st true) := by
        rw [mem_ready]
        obtain ⟨o, ho⟩ : ∃ o, ops[j]? = some o := ⟨_, Array.getElem?_eq_getElem hj⟩
        refine ⟨by rw [getD_set_ne true (fun e => hne e.symm)]; exact hl, o, ho, fun e he hb => ?_⟩
        obtain ⟨h1, h2⟩ := (lastOk_spec hok ho).2 e he hb
        have h3 := ih e.on h2 (by omega) h1
        have h4 : e.on < listed.size := by omega
        have h5 : listed[e.on]? = some listed[e.on] := Array.getElem?_eq_getElem h4
        have h6 : listed.getD e.on false = true := by
          rw [Array.getD_eq_getD_getElem?, h5] at h3 ⊢
          exact h3
        exact getD_set_true h6
      rw [hr] at hmem
      cases hmem
theorem wpAny_of_last {st : Nat} {os : Oper} (hst : ops[st]? = some os) (hok : lastOk md ops st = true) :
    ∀ (fuel : Nat) (listed : Array Bool) (a : Act) (w : World), listed.size = ops.size → Closed md ops listed → listed.getD st true = false →
      wpAnyH P md ops (lastQ P ops Q st) S fuel (listed.setIfInBounds st true) a w → wpAny P md ops Q (fuel + 1) listed a w := by
  have hlt : st < ops.size := (Array.getElem?_eq_some_iff.1 hst).1
  -- where nothing but the last one is left
  have hend : ∀ (fuel : Nat) (listed : Array Bool) (a : Act) (w : World), listed.size = ops.size → listed.getD st true = false → Region.ready md ops (listed.setIfInBounds st true) = [] → lastQ P ops Q st .normal a w → wpAny P md ops Q (fuel + 1) listed a w := by
    intro fuel listed a w hz hs hr hq
    have hall := all_listed hok hz hlt hr
    have hmem : st ∈ Region.ready md ops listed := by
      rw [mem_ready]
      refine ⟨hs, os, hst, fun e he hb => ?_⟩
      obtain ⟨h1, h2⟩ := (lastOk_spec hok hst).2 e he hb
      have h3 := hall e.on (by omega) h1
      have h4 : e.on < listed.size := by omega
      have h5 : listed[e.on]? = some listed[e.on] := Array.getElem?_eq_getElem h4
      rw [Array.getD_eq_getD_getElem?, h5] at h3 ⊢
      exact h3
    refine ⟨fun h => (by rw [h] at hmem; cases hmem), fun i hi => ?_⟩
    by_cases e : i = st
    · subst e
      refine wpOp_mono (fun a' w' h => ?_) hq
      cases fuel with
      | zero => exact ⟨hr, h⟩
      | succ n => exact ⟨fun _ => h, fun k hk => (by rw [hr] at hk; cases hk)⟩
    · have := ready_mono hi e
      rw [hr] at this
      cases this
  intro fuel
  induction fuel with
  | zero => intro listed a w hz hcl hs h; exact hend 0 listed a w hz hs h.1 h.2
  | succ fuel ih =>
    intro listed a w hz hcl hs h
    cases hr : Region.ready md ops (listed.setIfInBounds st true) with
    | nil => exact hend (fuel + 1) listed a w hz hs hr (h.1 hr)
    | cons k ks =>
      have hk : k ∈ Region.ready md ops (listed.setIfInBounds st true) := by rw [hr]; simp
      have hk2 := hk
      rw [mem_ready] at hk2
      obtain ⟨hk0, ok, hok', hkall⟩ := hk2
      have hkst : k ≠ st := fun e => by
        subst e
        rw [Array.getD_eq_getD_getElem?, Array.getElem?_setIfInBounds_self, if_pos (by omega)] at hk0
        cases hk0
      rw [getD_set_ne true (fun e => hkst e.symm)] at hk0
      have hkr : k ∈ Region.ready md ops listed := by
        rw [mem_ready]
        refine ⟨hk0, ok, hok', fun e he hb => ?_⟩
        have h1 := ((lastOk_spec hok hok').2 e he hb).1
        have h2 := hkall e he hb
        rw [getD_set_ne false (fun x => h1 x.symm)] at h2
        exact h2
      refine ⟨fun h0 => (by rw [h0] at hkr; cases hkr), fun i hi => ?_⟩
      have hist : i ≠ st := fun e => by
        subst e
        have hkl : listed.getD k false = true := by
          rcases (lastOk_spec hok hok').1 hkst with h1 | ⟨m, h1, h2⟩
          · exact ready_waits hi h1
          · exact hcl m k (ready_waits hi h1) h2
        rcases Nat.lt_or_ge k listed.size with h2 | h2
        · rw [Array.getD_eq_getD_getElem?, Array.getElem?_eq_getElem h2] at hk0 hkl
          simp only [Option.getD_some] at hk0 hkl
          rw [hk0] at hkl
          cases hkl
        · rw [Array.getD_eq_getD_getElem?, Array.getElem?_eq_none h2] at hkl
          cases hkl
      have h2 := wpOp_weaker (Q := Q) lastQ_other (h.2 i (ready_mono hi hist))
      refine wpOp_mono (fun a' w' h3 => ?_) h2
      refine ih (listed.setIfInBounds i true) a' w' (by simpa using hz) (hcl.step hi) (by rw [getD_set_ne true hist]; exact hs) ?_
      rw [Array.setIfInBounds_comm _ _ hist]
      exact h3.2
/-- THE BEGINNING: the last operation counts as done; what it does is asked at the end. -/
theorem wp_region_last {id st n : Nat} {a : Act} {w : World} {os : Oper} (hm : P.follows .mixedOrders = true) (hst : ops[st]? = some os) (hok : lastOk .any ops st = true) (hn : ops.size = n + 1) (hS : S w.drew)
    (h : S w.drew → wpAnyH P .any ops (lastQ P ops Q st) S n ((Array.replicate ops.size false).setIfInBounds st true) a w.drew) : (Code.region id ops true).wp P Q a w := by
  refine wp_region_any hm ?_
  rw [hn]
  have hlt : st < ops.size := (Array.getElem?_eq_some_iff.1 hst).1
  have h1 := h hS
  rw [hn] at h1
  exact wpAny_of_last hst hok n (Array.replicate (n + 1) false) a _ (by simp [hn]) (fun i j hi => by
    rw [Array.getD_eq_getD_getElem?, Array.getElem?_replicate] at hi
    split at hi <;> cases hi) (by rw [Array.getD_eq_getD_getElem?, Array.getElem?_replicate, if_pos (by omega)]; rfl) h1
end
end Go.Proofs.YteofdpogjnojnaaGreatDoor
