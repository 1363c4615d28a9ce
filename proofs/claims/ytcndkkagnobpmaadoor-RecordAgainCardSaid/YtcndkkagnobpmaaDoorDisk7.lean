/-
  block.Disk: keeps.
-/
import Derived.Test.YtcndkkagnobpmaaDoorDisk6
import Derived.Test.YtcndkkagnobpmaaDoorBMap
import Derived.LoopTactic
namespace Go.Proofs.YtcndkkagnobpmaaDoor
open Go.RowKit
set_option linter.unusedVariables false

/-- what a crash is told to keep: pairs of numbers, below block B -/
def KptAt (w : World) (B : Nat) (A : Option Addr) (l : List (Int × Int)) : Prop :=
  ∀ (i : Nat) (p : Int × Int), l[i]? = some p → ∃ ad : Addr, A = some ad ∧ ad.block < B ∧ w.cell? (ad.add (i * 2)) = some (.int .i64 p.1) ∧ w.cell? ⟨(ad.add (i * 2)).block, (ad.add (i * 2)).off + 1, none⟩ = some (.int .i64 p.2) ∧ (Lit.int .i64 p.1).wf = true ∧ (Lit.int .i64 p.2).wf = true
theorem KptAt.below {w w' : World} {B : Nat} {A : Option Addr} {l : List (Int × Int)} (h : KptAt w B A l) (hb : Below B w w') : KptAt w' B A l := by
  intro i p hp
  obtain ⟨ad, e, hlt, h1, h2, h3⟩ := h i p hp
  exact ⟨ad, e, hlt, (hb.cell (by rw [block_of_add]; exact hlt)).trans h1, (hb.cell (show _ < B from by show (ad.add (i * 2)).block < B; rw [block_of_add]; exact hlt)).trans h2, h3⟩
/-- what keeps asks of each pair -/
def mayKeep (K : Dk) (p : Int × Int) : Prop := 0 ≤ p.1 ∧ (K.loose p.1.toNat).isSome = true ∧ 0 ≤ p.2 ∧ p.2 ≤ 64
def KeepsPost (K : Dk) (l : List (Int × Int)) (w : World) (e : Ending) (w' : World) : Prop := ∃ r : Bool, e = .returned (.bool r) ∧ (l = [] → r = true) ∧ (r = true → ∀ p ∈ l, mayKeep K p) ∧ Below w.heap.size w w'
set_option maxRecDepth 100000 in
set_option maxHeartbeats 1000000 in
theorem keeps_any {d s M n : Nat} {K : Dk} (A : Option Addr) (c : Nat) (l : List (Int × Int)) (w : World) (h : DiskAt w d s M n K) (hl : l.length ≤ 1000) (hA : KptAt w w.heap.size A l) :
    Calls Tryd.prog 40 #[.pointer (some ⟨d, 0, none⟩), .slice A l.length c] w fun e w' => KeepsPost K l w e w' := by
  have HD := Lib.hid h
  have HA := Lib.hid hA
  have hmm := @run_makeMap Tryd.prog
  obtain ⟨N, hN⟩ : ∃ N, N = l.length := ⟨_, rfl⟩
  rw [← hN] at hl ⊢
  have HN := Lib.hid hN
  clear h hA hN
  go_enter Tryd.func40, Tryd.ntmps40
  go_wp2
  have HB0 : Hid (BMap (w.alloc (.map #[] 0)) w.heap.size 0) := Lib.hid (BMap.new w)
  have HL0 : Hid (Below w.heap.size w (w.alloc (.map #[] 0))) := Lib.hid ((Below.refl _ _).alloc (Nat.le_refl _) _)
  clear hmm
  generalize w.alloc (.map #[] 0) = w1 at HB0 HL0 ⊢
  go_loopw [13] (fun i wr => ∃ k : Nat, k ≤ N ∧ i = .int .i64 k ∧ Hid (BMap wr w.heap.size k) ∧ Hid (Below w.heap.size w wr) ∧ Hid (∀ p ∈ l.take k, mayKeep K p)) (fun i _ => N - (intOf i).toNat)
  case atStart => exact ⟨0, Nat.zero_le _, rfl, HB0, HL0, Lib.hid (fun p hp => by simp at hp)⟩
  case round =>
    obtain ⟨k, hk, rfl, HB, HW, HR⟩ := hrel
    clear HB0 HL0
    rcases (by omega : k < N ∨ k = N) with hlt | heq
    · have hki : decide ((k : Int) < (N : Int)) = true := by rw [decide_eq_true_iff]; omega
      have hkn : decide (k < N) = true := by rw [decide_eq_true_iff]; omega
      obtain ⟨p, hp⟩ : ∃ p, l[k]? = some p := ⟨l[k]'(by have := HN.out; omega), List.getElem?_eq_getElem _⟩
      obtain ⟨ad, hA, hB, c1, c2, wf1, wf2⟩ := (HA.out.below HW.out) k p hp
      have HP := Lib.hid hp
      have WF1 := Lib.hid wf1
      have WF2 := Lib.hid wf2
      subst hA
      clear hp wf1 wf2
      go_wp2_with fail
      have hD4 : DiskAt (wr.alloc (.cells #[.int .i64 p.1, .int .i64 p.2] 69)) d s M n K := HD.out.below (HW.out.alloc HW.out.size _)
      have hz := Blk.new wr 69 #[.int .i64 p.1, .int .i64 p.2]
      have cz0 := hz.cell 0
      have cz1 := hz.cell 1
      simp only [List.getElem?_toArray, List.getElem?_cons_zero, List.getElem?_cons_succ] at cz0 cz1
      have HB4 := Lib.hid (HB.out.below ((Below.refl wr.heap.size wr).alloc (Nat.le_refl _) (.cells #[.int .i64 p.1, .int .i64 p.2] 69)))
      have HW4 := Lib.hid (HW.out.alloc HW.out.size (.cells #[.int .i64 p.1, .int .i64 p.2] 69))
      clear hz c1 c2
      generalize wr.heap.size = Z at cz0 cz1 ⊢
      generalize wr.alloc (.cells #[.int .i64 p.1, .int .i64 p.2] 69) = W4 at hD4 cz0 cz1 HB4 HW4 ⊢
      clear HB HW
      obtain ⟨v0, is, RL, his⟩ : ∃ (v0 : Value) (is : Bool), (Instr.lookup 61 (.map (some M)) (.int .i64 p.1) true).run Tryd.prog W4.drew = .ok (.tuple #[v0, .bool is]) W4.drew ∧ (is = true → 0 ≤ p.1 ∧ (K.loose p.1.toNat).isSome = true) := by
        obtain ⟨f, hm, hm2, _⟩ := hD4.drew.map
        by_cases hfar : p.1 < 0 ∨ 1000000 ≤ p.1
        · exact ⟨_, false, hm.look_far WF1.out hfar true, fun e => by cases e⟩
        · obtain ⟨i, hi⟩ : ∃ i : Nat, p.1 = i := ⟨p.1.toNat, by omega⟩
          rw [hi]
          refine ⟨_, _, hm.look (by omega), fun e => ⟨by omega, ?_⟩⟩
          rw [Int.toNat_natCast]
          cases hl : K.loose i with
          | none => rw [hm2 i hl] at e; cases e
          | some b => rfl
      have hwd : Below w.heap.size w W4.drew := ⟨HW4.out.os, HW4.out.tape, HW4.out.output, HW4.out.size, HW4.out.block⟩
      have HWD := Lib.hid hwd
      have hB4d : BMap W4.drew w.heap.size k := HB4.out.of_block rfl
      obtain ⟨b, RB⟩ := hB4d.look WF1.out
      obtain ⟨W5, RP, hB5, hF5⟩ := hB4d.put WF1.out (by unfold maxLen; omega)
      obtain ⟨cap, hb, _⟩ := hD4.blk
      obtain ⟨_, cd1, _, _, _⟩ := disk_cells hb
      have HIS := Lib.hid his
      have HB5 := Lib.hid hB5
      have HW5 := Lib.hid (Fr.below_trans hwd hF5 HW4.out.size (fun k e => by omega))
      have hne : l ≠ [] := fun e => by have := HN.out; rw [e] at this; simp at this; omega
      have HNE := Lib.hid hne
      clear hwd hb his hB5 hF5 hne HB4 hB4d
      go_region
      cases is with
      | false =>
        go_wp2
        go_ret
        exact ⟨false, rfl, fun e => absurd e HNE.out, fun e => (by cases e), HWD.out⟩
      | true =>
        cases b with
        | true =>
          go_wp2
          go_ret
          exact ⟨false, rfl, fun e => absurd e HNE.out, fun e => (by cases e), HWD.out⟩
        | false =>
          by_cases h1 : p.2 < 0
          · have e1 : decide (p.2 < 0) = true := by rw [decide_eq_true_iff]; exact h1
            clear h1
            go_wp2
            go_ret
            exact ⟨false, rfl, fun e => absurd e HNE.out, fun e => (by cases e), HWD.out⟩
          · have e1 : decide (p.2 < 0) = false := by rw [decide_eq_false_iff_not]; exact h1
            by_cases h2 : 64 < p.2
            · have e2 : decide (64 < p.2) = true := by rw [decide_eq_true_iff]; exact h2
              clear h1 h2
              go_wp2
              go_ret
              exact ⟨false, rfl, fun e => absurd e HNE.out, fun e => (by cases e), HWD.out⟩
            · have e2 : decide (64 < p.2) = false := by rw [decide_eq_false_iff_not]; exact h2
              have hmk : mayKeep K p := ⟨(HIS.out rfl).1, (HIS.out rfl).2, by omega, by omega⟩
              have HMK := Lib.hid hmk
              clear h1 h2 hmk
              go_wp2
              go_roundw
              case rel =>
                refine ⟨k + 1, by omega, by go_num, HB5, HW5, Lib.hid (fun q hq => ?_)⟩
                rw [List.take_add_one, HP.out] at hq
                rcases List.mem_append.1 hq with hq | hq
                · exact HR.out q hq
                · have : q = p := by simpa using hq
                  subst this
                  exact HMK.out
              case measure => simp [intOf]; omega
    · subst heq
      have hkn : decide (k < k) = false := by rw [decide_eq_false_iff_not]; omega
      have hki : decide ((k : Int) < (k : Int)) = false := by rw [decide_eq_false_iff_not]; omega
      go_wp2
      go_ret
      refine ⟨true, rfl, fun _ => rfl, fun _ q hq => HR.out q ?_, HW.out⟩
      rw [HN.out, List.take_length]; exact hq
end Go.Proofs.YtcndkkagnobpmaaDoor
