/-
  slices.Chunk at []byte, 64 at a time: what its closure hands to a loop's body.
-/
import Derived.RangeFuncNested
import Derived.RangeFuncBound
import Derived.RangeFuncCalls
import Derived.RangeFuncLeaves
import Derived.Shelf.Abstract
import Derived.Shelf.RegionOpen
import Derived.WalkKit
import Derived.OwnWalkIn
import Derived.TacticsInMore
import Derived.LoopNIn
import Derived.LoopIn
import Derived.Test.YtcndkkagnobpmaaDoorRecPlain2
namespace Go.Proofs.YtcndkkagnobpmaaDoor
open Go.RowKit Go.Shelf
attribute [local go_sem] Oper.semAt_some
set_option linter.unusedVariables false

/-- what may not turn while the loop runs: the closure's two boxes -/
def KeepTwo (g1 g2 : Nat) (W W' : World) : Prop := W'.heap[g1]? = W.heap[g1]? ∧ W'.heap[g2]? = W.heap[g2]?
theorem KeepTwo.trans {g1 g2 : Nat} {A B C : World} (h : KeepTwo g1 g2 A B) (k : KeepTwo g1 g2 B C) : KeepTwo g1 g2 A C := ⟨k.1.trans h.1, k.2.trans h.2⟩
theorem KeepTwo.refl (g1 g2 : Nat) (A : World) : KeepTwo g1 g2 A A := ⟨rfl, rfl⟩
/-- chunk k of n bytes at address b, off -/
def chunkV (b off n : Nat) (k : Nat) : Value := .slice (some ⟨b, off + 64 * k, none⟩) (min 64 (n - 64 * k)) (min 64 (n - 64 * k))
set_option maxRecDepth 100000 in
set_option maxHeartbeats 2000000 in
theorem chunk1_in (l g1 g2 b off n c : Nat) (hn : n ≤ 35184372088832) (hc : n ≤ c) (J Jx : List Nat → World → Prop) (W : World) (hJ : AbidesFrom W.heap.size J)
    (hY : ∀ pre x W1, J pre W1 → pre.length < (n + 63) / 64 → YieldAt Fence.wide 2 Tryd.prog l #[chunkV b off n x] W1 fun e W' =>
      (e = .returned (.bool true) ∧ J (pre ++ [x]) W' ∧ KeepTwo g1 g2 W1 W') ∨ (e = .returned (.bool false) ∧ Jx (pre ++ [x]) W'))
    (h1 : Blk W g1 22 #[.slice (some ⟨b, off, none⟩) n c]) (h2 : Blk W g2 3 #[.int .i64 64]) (h0 : J [] W) :
    CallsIn Fence.wide 3 Tryd.prog 89 #[.func (.yield l) #[] #[], .pointer (some ⟨g1, 0, none⟩), .pointer (some ⟨g2, 0, none⟩)] W fun e W' => (∃ v, e = .returned v) ∧
      ((∃ ys, ys = List.range ((n + 63) / 64) ∧ J ys W') ∨ (∃ pre, (∃ k, k ≤ (n + 63) / 64 ∧ pre = List.range k) ∧ Jx pre W')) := by
  refine callsIn_of_wp Tryd.func89 rfl trivial ?_ rfl
  simp only [Tryd.ntmps89, List.size_toArray, List.length_cons, List.length_nil, Nat.reduceAdd, Nat.reduceSub, Array.replicate_succ, Array.replicate_zero, List.push_toArray, List.append_toArray, List.nil_append, List.cons_append]
  gi_wp2
  gi_loopw [4] (fun i wr => ∃ k : Nat, k ≤ (n + 63) / 64 ∧ i = .int .i64 ((64 * k : Nat) : Int) ∧ J (List.range k) wr ∧ KeepTwo g1 g2 W wr) (fun i _ => (n + 64) - (intOf i).toNat)
  case atStart => exact ⟨0, Nat.zero_le _, rfl, h0, KeepTwo.refl _ _ _⟩
  case round =>
    obtain ⟨k, hk, rfl, hJs, hkt⟩ := hrel
    have c1 : wr.cell? ⟨g1, 0, none⟩ = some (.slice (some ⟨b, off, none⟩) n c) := by
      have := Blk.cell (show Blk wr g1 22 #[.slice (some ⟨b, off, none⟩) n c] from hkt.1.trans h1) 0
      simpa using this
    have c2 : wr.cell? ⟨g2, 0, none⟩ = some (.int .i64 64) := by
      have := Blk.cell (show Blk wr g2 3 #[.int .i64 64] from hkt.2.trans h2) 0
      simpa using this
    by_cases hlt : 64 * k < n
    · obtain ⟨fn, tmps, assign, body, hy, hR⟩ := hY (List.range k) k wr.drew (hJ _ _ _ none hJs ⟨rfl, rfl, rfl, Nat.le_refl _, fun _ _ _ => rfl⟩ (fun r e => by cases e)) (by rw [List.length_range]; omega)
      have HR := Lib.hid hR
      clear hR hY
      obtain ⟨p, hp⟩ : ∃ p, p = 64 * k := ⟨_, rfl⟩
      rw [← hp] at hlt ⊢
      rcases (by omega : 64 ≤ n - p ∨ n - p < 64) with hfull | hpart
      · have hm : min 64 (n - 64 * k) = 64 := by omega
        unfold chunkV at hy
        rw [hm, ← hp] at hy
        have HP := Lib.hid hp
        have hki : decide ((p : Int) < (n : Int)) = true := by rw [decide_eq_true_iff]; omega
        have hki' : decide (p < n) = true := by rw [decide_eq_true_iff]; omega
        have q1 : (p : Int) ≤ (n : Int) := by omega
        have q2 : (p : Int) ≤ (c : Int) := by omega
        have d1 : (64 : Int) ≤ ((n - p : Nat) : Int) := by omega
        have d2 : ((p : Int) + 64).toNat - p = 64 := by omega
        have d3 : (p : Int) + 64 ≤ (c : Int) := by omega
        have d4 : (p : Int) ≤ (p : Int) + 64 := by omega
        clear hp hm
        gi_wp2
        gi_region
        gi_wp2
        refine HR.out.mono ?_
        rintro e W3 (⟨rfl, hJ3, hk3⟩ | ⟨rfl, hJx3⟩)
        · have hJ4 : J (List.range (k + 1)) W3 := by rw [List.range_succ]; exact hJ3
          have hk4 : KeepTwo g1 g2 W W3 := hkt.trans hk3
          have d1 := Blk.cell (show Blk W3 g1 22 #[.slice (some ⟨b, off, none⟩) n c] from hk4.1.trans h1) 0
          have d2 := Blk.cell (show Blk W3 g2 3 #[.int .i64 64] from hk4.2.trans h2) 0
          simp only [List.getElem?_toArray, List.getElem?_cons_zero] at d1 d2
          have HJ4 := Lib.hid hJ4
          have HK4 := Lib.hid hk4
          clear hJ3 hk3 hJ4 hk4 hJs hkt
          gi_wp2
          go_roundw
          case rel => exact ⟨k + 1, by have := HP.out; omega, by have := HP.out; go_num, HJ4.out, HK4.out⟩
          case measure => simp [intOf]; omega
        · have HJX := Lib.hid (show Jx (List.range (k + 1)) W3 by rw [List.range_succ]; exact hJx3)
          have HK1 : Hid (k + 1 ≤ (n + 63) / 64) := by show _ ≤ _; have := HP.out; omega
          gi_wp2
          refine bodyPost_ret (results_none rfl _ _ _) rfl ?_
          exact ⟨⟨_, rfl⟩, .inr ⟨_, ⟨k + 1, HK1.out, rfl⟩, HJX.out⟩⟩
      · have hm : min 64 (n - 64 * k) = n - p := by omega
        unfold chunkV at hy
        rw [hm, ← hp] at hy
        have HP := Lib.hid hp
        have hki : decide ((p : Int) < (n : Int)) = true := by rw [decide_eq_true_iff]; omega
        have hki' : decide (p < n) = true := by rw [decide_eq_true_iff]; omega
        have q1 : (p : Int) ≤ (n : Int) := by omega
        have q2 : (p : Int) ≤ (c : Int) := by omega
        have d1 : ¬ ((64 : Int) ≤ ((n - p : Nat) : Int)) := by omega
        have d2 : ((p : Int) + ((n - p : Nat) : Int)).toNat - p = n - p := by omega
        have d3 : (p : Int) + ((n - p : Nat) : Int) ≤ (c : Int) := by omega
        have d4 : (p : Int) ≤ (p : Int) + ((n - p : Nat) : Int) := by omega
        clear hp hm
        gi_wp2
        gi_region
        gi_wp2
        refine HR.out.mono ?_
        rintro e W3 (⟨rfl, hJ3, hk3⟩ | ⟨rfl, hJx3⟩)
        · have hJ4 : J (List.range (k + 1)) W3 := by rw [List.range_succ]; exact hJ3
          have hk4 : KeepTwo g1 g2 W W3 := hkt.trans hk3
          have d1 := Blk.cell (show Blk W3 g1 22 #[.slice (some ⟨b, off, none⟩) n c] from hk4.1.trans h1) 0
          have d2 := Blk.cell (show Blk W3 g2 3 #[.int .i64 64] from hk4.2.trans h2) 0
          simp only [List.getElem?_toArray, List.getElem?_cons_zero] at d1 d2
          have HJ4 := Lib.hid hJ4
          have HK4 := Lib.hid hk4
          clear hJ3 hk3 hJ4 hk4 hJs hkt
          gi_wp2
          go_roundw
          case rel => exact ⟨k + 1, by have := HP.out; omega, by have := HP.out; go_num, HJ4.out, HK4.out⟩
          case measure => simp [intOf]; omega
        · have HJX := Lib.hid (show Jx (List.range (k + 1)) W3 by rw [List.range_succ]; exact hJx3)
          have HK1 : Hid (k + 1 ≤ (n + 63) / 64) := by show _ ≤ _; have := HP.out; omega
          gi_wp2
          refine bodyPost_ret (results_none rfl _ _ _) rfl ?_
          exact ⟨⟨_, rfl⟩, .inr ⟨_, ⟨k + 1, HK1.out, rfl⟩, HJX.out⟩⟩
    · have hkn : k = (n + 63) / 64 := by omega
      have HKN := Lib.hid hkn
      have HJ0 := Lib.hid hJs
      obtain ⟨p, hp⟩ : ∃ p, p = 64 * k := ⟨_, rfl⟩
      rw [← hp] at hlt ⊢
      have hki : decide ((p : Int) < (n : Int)) = false := by rw [decide_eq_false_iff_not]; omega
      have hki' : decide (p < n) = false := by rw [decide_eq_false_iff_not]; omega
      clear hkn hp hJs hY
      gi_wp2
      go_end0
      exact ⟨⟨_, rfl⟩, .inl ⟨_, by rw [← HKN.out], HJ0.out⟩⟩
set_option maxRecDepth 100000 in
set_option maxHeartbeats 2000000 in
theorem chunk0_in (l g1 g2 c : Nat) (A : Option Addr) (J : List Nat → World → Prop) (W : World)
    (h1 : Blk W g1 22 #[.slice A 0 c]) (h0 : J [] W) :
    CallsIn Fence.wide 3 Tryd.prog 89 #[.func (.yield l) #[] #[], .pointer (some ⟨g1, 0, none⟩), .pointer (some ⟨g2, 0, none⟩)] W fun e W' => (∃ v, e = .returned v) ∧ J [] W' := by
  have c1 := h1.cell 0
  simp only [List.getElem?_toArray, List.getElem?_cons_zero] at c1
  refine callsIn_of_wp Tryd.func89 rfl trivial ?_ rfl
  simp only [Tryd.ntmps89, List.size_toArray, List.length_cons, List.length_nil, Nat.reduceAdd, Nat.reduceSub, Array.replicate_succ, Array.replicate_zero, List.push_toArray, List.append_toArray, List.nil_append, List.cons_append]
  gi_wp2
  gi_loopw [4] (fun i wr => i = .int .i64 0 ∧ wr = W) (fun _ _ => 0)
  case atStart => exact ⟨rfl, rfl⟩
  case round =>
    obtain ⟨rfl, rfl⟩ := hrel
    gi_wp2
    go_end0
    exact ⟨⟨_, rfl⟩, h0⟩
/-- the value of a chunk, whatever the slice's address -/
def chunkA (A : Option Addr) (n k : Nat) : Value := match A with
  | some ad => chunkV ad.block ad.off n k
  | none => .slice none 0 0
theorem chunk_stops (g1 g2 n c : Nat) (A : Option Addr) (T : List UInt8) (w : World) (hT : RB w A T) (hTn : T.length = n) (hn : n ≤ 35184372088832) (hc : n ≤ c) (h1 : Blk w g1 22 #[.slice A n c]) (h2 : Blk w g2 3 #[.int .i64 64]) :
    SeqStopsK Fence.wide 3 Tryd.prog 89 #[.pointer (some ⟨g1, 0, none⟩), .pointer (some ⟨g2, 0, none⟩)] (fun x : Nat => #[chunkA A n x]) (KeepTwo g1 g2)
      (fun ys => ys = List.range ((n + 63) / 64)) (fun pre => ∃ k, k ≤ (n + 63) / 64 ∧ pre = List.range k) ((n + 63) / 64) w := fun l J Jx W hW hJ _ hY h0 => by
  have b1 := h1.below hW h1.lt
  have b2 := h2.below hW h2.lt
  rcases Nat.eq_zero_or_pos n with e0 | hpos
  · subst e0
    refine (chunk0_in l g1 g2 c A J W b1 h0).mono ?_
    rintro e W' ⟨he, hj⟩
    exact ⟨he, .inl ⟨[], rfl, hj⟩⟩
  · obtain ⟨ad, rfl, hlt, hcell⟩ := hT.at_ (k := 0) (by omega)
    have hsp := cell_spot hcell
    have had : ad = ⟨ad.block, ad.off, none⟩ := by
      obtain ⟨b, o, sp⟩ := ad
      cases sp with
      | none => rfl
      | some s => simp [Addr.add] at hsp
    refine (chunk1_in l g1 g2 ad.block ad.off n c hn hc J Jx W hJ hY (by rw [had] at b1; exact b1) b2 h0).mono ?_
    rintro e W' ⟨he, h⟩
    exact ⟨he, h⟩
set_option maxRecDepth 100000 in
set_option maxHeartbeats 1000000 in
theorem chunk_any (A : Option Addr) (n c : Nat) (w : World) :
    Calls Tryd.prog 64 #[.slice A n c, .int .i64 64] w fun e w' => e = .returned (.func (.func 89) #[] #[.pointer (some ⟨w.heap.size, 0, none⟩), .pointer (some ⟨w.heap.size + 1, 0, none⟩)]) ∧ w' = (w.alloc (.cells #[.slice A n c] 22)).alloc (.cells #[.int .i64 64] 3) := by
  go_enter Tryd.func64, Tryd.ntmps64
  go_wp2
  go_ret
  exact ⟨rfl, rfl⟩
end Go.Proofs.YtcndkkagnobpmaaDoor
