/-
  slices.SortFunc at pairs.
-/
import Derived.Test.YteodigdcdhceiaaDoorVaS2
import Derived.Test.YteodigdcdhceiaaDoorShelf2
namespace Go.Proofs.YteodigdcdhceiaaDoor
open Go.RowKit Go.Sort
set_option linter.unusedVariables false
set_option linter.unusedSimpArgs false

instance : Inhabited MV := ⟨.mk ⟨#[]⟩ 0 0 ⟨#[]⟩ none 0 [] none 0 []⟩
def cmpK (a b : MV) : Int := cmpS a.key b.key
def ltK (a b : MV) : Bool := bl a.key b.key
theorem pcs_len (x : MV) : x.pcs.length = 6 := rfl
theorem ltOf_cmpK : Go.Proofs.ltOf cmpK = ltK := by
  funext a b
  show decide (cmpS a.key b.key < 0) = bl a.key b.key
  unfold cmpS
  cases h1 : bl a.key b.key
  · cases h2 : bl b.key a.key <;> simp
  · simp
theorem swoK : SWO ltK where
  irrefl x := bytesLess_irrefl _
  trans x y z h1 h2 := by
    cases h : ltK x z with
    | true => rfl
    | false =>
      have h3 : bl z.key y.key = false := bytesLess_asym _ _ h2
      have := bytesLess_ntr _ _ _ h h3
      rw [show Op.bytesLess x.key.toList y.key.toList = true from h1] at this
      cases this
  ntrans x y z h1 h2 := bytesLess_ntr _ _ _ h1 h2
theorem cmpLaysK (blk off size : Nat) (w : World) : Go.Proofs.CmpLays Tryd.prog 39 #[] MV.pcs 6 cmpK blk off size w := by
  intro m os dk _ x y
  refine (byKey_ex x y _).mono ?_
  rintro e w' ⟨rfl, A, B, rfl⟩
  refine ⟨rfl, 0, #[A] ++ #[B], ?_⟩
  rw [alloc_eq_grow, alloc_eq_grow, grow_grow]
  rfl
/-- the cells of a row of pairs -/
theorem flat_get : ∀ (l : List MV) (i : Nat), (l.flatMap MV.pcs)[i]? = if i / 6 < l.length then (l.getD (i / 6) default).pcs[i % 6]? else none
  | l, i => by
    by_cases h : i / 6 < l.length
    · rw [if_pos h, List.getD_eq_getElem?_getD, List.getElem?_eq_getElem h]
      have := csM_at l (i / 6) h (i % 6) (by omega)
      rw [show i / 6 * 6 + i % 6 = i from by omega] at this
      exact this
    · rw [if_neg h, List.getElem?_eq_none (by rw [csM_len]; omega)]
theorem holds_ofK {w : World} {g : Nat} {cur : Array Value} {l : List MV} (hB : Blk w g 33 cur) (hs : l.length * 6 ≤ cur.size) (hdc : cur.toList.take (l.length * 6) = l.flatMap MV.pcs) : HoldsK MV.pcs 6 w g 0 l.toArray := by
  intro t ht
  have ht' : t < l.length * 6 := by simpa using ht
  rw [get_flatK MV.pcs 6 l.toArray t (by simpa using ht')]
  have hk : t / 6 < l.length := by omega
  rw [Nat.zero_add]
  refine ⟨?_, hB.frozen _⟩
  rw [hB.cell]
  have h1 : cur[t]? = (l.flatMap MV.pcs)[t]? := by
    rw [← hdc, List.getElem?_take_of_lt ht']
    simp
  rw [h1, flat_get, if_pos hk]
  have hg : (l.toArray)[t / 6]! = l.getD (t / 6) default := by
    rw [List.getD_eq_getElem?_getD, List.getElem?_eq_getElem hk]
    simp [hk]
  rw [hg]
  have h6 : t % 6 < (l.getD (t / 6) default).pcs.length := by rw [pcs_len]; omega
  rw [List.getElem?_eq_getElem h6, getElem!_pos (l.getD (t / 6) default).pcs (t % 6) h6]
  rfl
theorem sorted_rowK {w : World} {g n : Nat} {cur : Array Value} {d' : Array MV} {os : Array Obj} (hB : Blk w g 33 cur) (hs : d'.size * 6 ≤ cur.size) :
    ∃ cur', Blk (sortWorldK MV.pcs 6 w g 0 n d' os) g 33 cur' ∧ cur'.size = cur.size ∧ cur'.toList.take (d'.size * 6) = d'.toList.flatMap MV.pcs ∧ Fr (· = g) w (sortWorldK MV.pcs 6 w g 0 n d' os) := by
  have hlt := hB.lt
  have hb : w.heap[g]? = some (.cells cur 33 (0, 0)) := hB
  refine ⟨putCells id 0 (flatK MV.pcs 6 d') cur, ?_, by simp [putCells], ?_, ?_⟩
  · show ((w.heap.modify g (onCells (putCells id 0 (flatK MV.pcs 6 d')))) ++ os)[g]? = _
    rw [Array.getElem?_append_left (by simpa using hlt), Array.getElem?_modify, if_pos rfl, hb]
    rfl
  · apply List.ext_getElem?
    intro i
    rw [flat_get]
    by_cases hi : i < d'.size * 6
    · have hk : i / 6 < d'.toList.length := by simp; omega
      rw [if_pos hk, List.getElem?_take_of_lt hi]
      have hF := get_flatK MV.pcs 6 d' i hi
      unfold putCells
      rw [Array.getElem?_toList, Array.getElem?_mapIdx, Array.getElem?_eq_getElem (by omega)]
      simp only [Option.map_some, Nat.zero_le, true_and, Nat.zero_add, Nat.sub_zero, size_flatK]
      rw [if_pos hi, hF]
      have hk' : i / 6 < d'.size := by omega
      have hg : d'[i / 6]! = d'.toList.getD (i / 6) default := by
        rw [getElem!_pos d' _ hk', List.getD_eq_getElem?_getD, List.getElem?_eq_getElem hk]
        simp
      rw [hg]
      have h6 : i % 6 < (d'.toList.getD (i / 6) default).pcs.length := by rw [pcs_len]; omega
      rw [List.getElem?_eq_getElem h6, getElem!_pos (d'.toList.getD (i / 6) default).pcs (i % 6) h6]
      rfl
    · rw [if_neg (by simp; omega), List.getElem?_eq_none (by rw [List.length_take]; omega)]
  · refine ⟨rfl, rfl, rfl, ?_, fun i hi hne => ?_⟩
    · show w.heap.size ≤ ((w.heap.modify g (onCells (putCells id 0 (flatK MV.pcs 6 d')))) ++ os).size
      simp
    · show ((w.heap.modify g (onCells (putCells id 0 (flatK MV.pcs 6 d')))) ++ os)[i]? = _
      rw [Array.getElem?_append_left (by simpa using hi), Array.getElem?_modify, if_neg (fun e => hne e.symm)]
def SoPost (w : World) (base : Nat) (v : Value) (l : List MV) (e : Ending) (w' : World) : Prop :=
  ∃ l', e = .returned (.tuple #[]) ∧ l'.Perm l ∧ l'.Pairwise (fun a b => bl b.key a.key = false) ∧ ROwn 33 6 MV.pcs base w' v l' ∧ Fr (fun g => v.ownBlock = some g) w w'
theorem ins_zero (A : Option Addr) (c : Nat) (f : Value) (w : World) : Calls Tryd.prog 53 #[.slice A 0 c, .int .i64 0, .int .i64 0, f] w fun e w' => e = .returned (.tuple #[]) ∧ w' = w := by
  go_enter Tryd.func53, Tryd.ntmps53
  go_wp2_with fail
  refine wp_loop_rounds 1 ?_
  rw [rounds_succ]
  go_wp2_with fail
  go_end0
  exact ⟨rfl, rfl⟩
set_option maxRecDepth 100000 in
set_option maxHeartbeats 1000000 in
theorem pdq_zero (A : Option Addr) (c : Nat) (k : Int) (f : Value) (w : World) : Calls Tryd.prog 48 #[.slice A 0 c, .int .i64 0, .int .i64 0, .int .i64 k, f] w fun e w' => e = .returned (.tuple #[]) ∧ w' = w := by
  go_enter Tryd.func48, Tryd.ntmps48
  go_wp2_with fail
  refine wp_loop_rounds 1 ?_
  rw [rounds_succ]
  go_wp2_with fail
  refine (ins_zero _ _ _ _).mono ?_
  rintro e w' ⟨rfl, rfl⟩
  go_wp2_with fail
  refine bodyPost_ret (results_none rfl _ _ _) rfl ?_
  exact ⟨rfl, rfl⟩
theorem bits_zero (w : World) : Calls Tryd.prog 49 #[.int .u64 0] w fun e w' => (∃ k : Int, e = .returned (.int .i64 k)) ∧ w' = w := by
  have h := Go.Proofs.Any.bits_Len (Go.Proofs.SlLaysF0.n15.bits { Tryd.sortPair with }) 0 w (by omega) (by omega)
  exact h.mono fun e w' ⟨he, hw⟩ => ⟨⟨_, he⟩, hw⟩
theorem sort_zero (A : Option Addr) (c : Nat) (f : Value) (w : World) : Calls Tryd.prog 38 #[.slice A 0 c, f] w fun e w' => e = .returned (.tuple #[]) ∧ w' = w := by
  go_enter Tryd.func38, Tryd.ntmps38
  go_wp2_with fail
  refine (bits_zero _).mono ?_
  rintro e w' ⟨⟨k, rfl⟩, rfl⟩
  go_wp2_with fail
  refine (pdq_zero _ _ _ _ _).mono ?_
  rintro e w' ⟨rfl, rfl⟩
  go_wp2_with fail
  go_end0
  exact ⟨rfl, rfl⟩
theorem sort_any {w : World} {base n c : Nat} {A : Option Addr} {l : List MV} (h : ROwn 33 6 MV.pcs base w (.slice A n c) l) (hn : l.length ≤ 1000000) :
    Calls Tryd.prog 38 #[.slice A n c, .func (.func 39) #[] #[]] w fun e w' => SoPost w base (.slice A n c) l e w' := by
  rcases h.own.2 with ⟨h0, h1⟩ | ⟨g, cap, cur, hv, hg, hB, hc, hm, hs, htk⟩
  · injection h0 with e1 e2 e3
    subst e1 e2 e3
    have hl := List.eq_nil_of_length_eq_zero h1
    subst hl
    refine (sort_zero none 0 _ w).mono ?_
    rintro e w' ⟨rfl, rfl⟩
    exact ⟨[], rfl, List.Perm.refl _, List.Pairwise.nil, h, Fr.refl _ _⟩
  · injection hv with e1 e2 e3
    subst e1 e2 e3
    have eg : ∀ args w, (callFunc 39 args).run Tryd.prog w = .ok (.enter 39 args) w := enters_of Tryd.func39 (by kernel_rfl) rfl
    have hle : l.length * 6 ≤ cur.size := by rw [hs]; exact Nat.mul_le_mul_right _ hc
    have hcon := Go.Proofs.AnyQ.slices_SortFunc Tryd.sortPair 6 Tryd.isAgg33 Tryd.sizeOf33 MV.pcs pcs_len oneC_pcs cmpK (by rw [ltOf_cmpK]; exact swoK) 39 #[] g 0 c l.toArray w eg (cmpLaysK g 0 _ w) (holds_ofK hB hle htk) (Blk.lt (t := 33) hB) (by simp; omega)
    rw [show l.toArray.size = l.length from by simp] at hcon
    change Calls Tryd.prog 38 _ _ _ at hcon
    refine hcon.mono ?_
    rintro e w' ⟨rfl, d', m, os, hp, hso, rfl⟩
    obtain ⟨h1, _, h3⟩ := hp
    have hd : d'.size = l.length := by rw [h1]; simp
    obtain ⟨cur', k1, k2, k3, k4⟩ := sorted_rowK (n := m) (os := os) (d' := d') hB (by omega)
    have hl' : d'.toList.length = l.length := by simp [hd]
    have hperm : d'.toList.Perm l := by
      have e1 : d'.extract 0 l.length = d' := by rw [← hd]; simp
      have e2 : (l.toArray).extract 0 l.length = l.toArray := by simp
      rw [e1, e2] at h3
      simpa using h3
    refine ⟨d'.toList, rfl, hperm, ?_, ⟨⟨by rw [flat_cs_len pcs_len], .inr ⟨g, c, cur', by rw [hl'], hg, k1, by rw [hl']; exact hc, hm, by rw [k2, hs], by rw [hl', ← hd]; exact k3⟩⟩, fun x hx => ?_, fun x hx => h.fr x (hperm.mem_iff.1 hx), fun x hx => h.av x (hperm.mem_iff.1 hx)⟩, k4.mono (fun x _ e => by subst e; rfl)⟩
    · rw [ltOf_cmpK] at hso
      rw [List.pairwise_iff_getElem]
      intro i j hi hj hij
      have := hso i j (Nat.zero_le _) hij (by omega)
      rw [getElem!_pos d' j (by simpa using hj), getElem!_pos d' i (by simpa using hi)] at this
      simpa [ltK] using this
    · have hx' := hperm.mem_iff.1 hx
      exact (h.at_ x hx').fr k4 ((h.av x hx').mono (fun b hb e => hb (by rw [show b = g from e]; rfl)))
end Go.Proofs.YteodigdcdhceiaaDoor
