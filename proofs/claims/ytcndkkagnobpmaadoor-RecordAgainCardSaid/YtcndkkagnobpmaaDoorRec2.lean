/-
  record: Read of so many blocks.
-/
import Derived.Test.YtcndkkagnobpmaaDoorRecPlain2
namespace Go.Proofs.YtcndkkagnobpmaaDoor
open Go.RowKit
attribute [local go_sem ↓] Go.wp_at_zero Go.wp_at_succ
set_option linter.unusedVariables false

/-- a record's block -/
def recV (d first half : Nat) (t : Value) (num : Nat) (dead : Bool) : Array Value := #[.pointer (some ⟨d, 0, none⟩), .int .i64 (first : Int), .int .i64 (half : Int), t, .int .i64 (num : Int), .bool dead]
theorem allL_zero (K : Dk) (f : Nat) : allL K f 0 = [] := rfl
set_option maxRecDepth 100000 in
set_option maxHeartbeats 2000000 in
theorem rread_ok {r d s M n first half num : Nat} {t : Value} {dead : Bool} {K : Dk} (f m : Nat) (w : World) (h : DiskAt w d s M n K) (hr : Blk w r 55 (recV d first half t num dead)) (ho : K.off = false) (hfm : f + m ≤ K.sure.length) (hF : Full K) :
    Calls Tryd.prog 59 #[.pointer (some ⟨r, 0, none⟩), .int .i64 (f : Int), .int .i64 (m : Int)] w fun e w' => ∃ v, e = .returned (.tuple #[v, .int .i64 0]) ∧ OB w' w.heap.size v (allL K f m) ∧ Below w.heap.size w w' := by
  have hfew := h.few.2
  have HO := Lib.hid ho
  have HFM := Lib.hid hfm
  have HL : ∀ k, k ≤ m → (allL K f k).length = 64 * k := fun k hk => allL_len K f k (fun i hi => hF _ (by omega))
  have HLL := Lib.hid HL
  have HD := Lib.hid h
  have HR := Lib.hid hr
  have hmb : m ≤ 16384 := by omega
  have hfb : f ≤ 16384 := by omega
  clear h ho hfm hfew HL hr hF
  go_enter Tryd.func59, Tryd.ntmps59
  go_wp2
  go_loopw [8, 13] (fun v i wr => ∃ k : Nat, k ≤ m ∧ i = .int .i64 (k : Int) ∧ Hid (OB wr w.heap.size v (allL K f k)) ∧ Hid (Below w.heap.size w wr)) (fun _ i _ => m - (intOf i).toNat)
  case atStart => exact ⟨0, Nat.zero_le _, rfl, Lib.hid (OB.nil _ _), Lib.hid (Below.refl _ _)⟩
  case round =>
    obtain ⟨k, hk, rfl, HV, HB⟩ := hrel
    rcases (by omega : k < m ∨ k = m) with hlt | heq
    · have hki : decide ((k : Int) < (m : Int)) = true := by rw [decide_eq_true_iff]; omega
      have hkn : decide (k < m) = true := by rw [decide_eq_true_iff]; omega
      have c0 := (HR.out.below HB.out HR.out.lt).cell 0
      simp only [recV, List.getElem?_toArray, List.getElem?_cons_zero] at c0
      have hfi : f + k < K.sure.length := by have := HFM.out; omega
      have HRD := Lib.hid (read_ok (f + k) wr (HD.out.below HB.out) HO.out hfi)
      have HLk := Lib.hid (HLL.out k hk)
      have hbase := HB.out.size
      clear hfi
      go_wp2_with fail
      refine HRD.out.mono ?_
      rintro e w2 ⟨A, c, rfl, q1, q2, q3, q4, q5⟩
      have HV2 := Lib.hid (HV.out.below q5)
      have HB2 := Lib.hid (HB.out.trans (q5.mono HB.out.size))
      have HGE := Lib.hid HV2.out.grown_ge
      have HR2 := Lib.hid q3
      have HQ4 := Lib.hid q4
      have hbase2 := HB2.out.size
      clear q3 q4 q5 c0
      go_wp2_with (at_builtin; refine app_bytes _ rfl _ _ rfl w.heap.size _ _ rfl HV2.out _ _ _ _ rfl HQ4.out HR2.out (by rw [HLk.out]; omega) hbase2 ?_; intro v' w' hown hg _)
      have HN2 := Lib.hid hown
      have HB3 := Lib.hid (below_grown' HB2.out hg hbase2 HGE.out)
      clear hown hg
      rw [← allL_succ] at HN2
      go_wp2
      go_roundw
      case rel => exact ⟨k + 1, by omega, by go_num, HN2, HB3⟩
      case measure => simp [intOf]; omega
    · have hki : decide ((k : Int) < (m : Int)) = false := by rw [decide_eq_false_iff_not]; omega
      have hkn : decide (k < m) = false := by rw [decide_eq_false_iff_not]; omega
      have HK : Hid (k = m) := heq
      clear heq
      go_wp2
      go_ret2
      exact ⟨_, rfl, by rw [← HK.out]; exact HV.out, HB.out⟩
set_option maxRecDepth 100000 in
set_option maxHeartbeats 2000000 in
theorem rread_off {r d s M n first half num : Nat} {t : Value} {dead : Bool} {K : Dk} (f m : Nat) (w : World) (h : DiskAt w d s M n K) (hr : Blk w r 55 (recV d first half t num dead)) (ho : K.off = true) (hm : 1 ≤ m) (hfb : f ≤ 16384) (hmb : m ≤ 16384) :
    Calls Tryd.prog 59 #[.pointer (some ⟨r, 0, none⟩), .int .i64 (f : Int), .int .i64 (m : Int)] w fun e w' => e = .returned (.tuple #[.slice none 0 0, .int .i64 210]) ∧ w' = w := by
  have c0 := hr.cell 0
  simp only [recV, List.getElem?_toArray, List.getElem?_cons_zero] at c0
  have HRD := Lib.hid (read_no (K := K) (d := d) (s := s) (M := M) (n := n) (f : Int) 210 w h (by unfold mayE; rw [ho]; rfl) (by decide))
  have hki : decide ((0 : Int) < (m : Int)) = true := by rw [decide_eq_true_iff]; omega
  have hkn : decide (0 < m) = true := by rw [decide_eq_true_iff]; omega
  clear h hr ho
  go_enter Tryd.func59, Tryd.ntmps59
  go_wp2
  go_loopw [13] (fun i wr => i = .int .i64 0 ∧ wr = w) (fun _ _ => 0)
  case atStart => exact ⟨rfl, rfl⟩
  case round =>
    obtain ⟨rfl, rfl⟩ := hrel
    go_wp2_with fail
    refine HRD.out.mono ?_
    rintro e w2 ⟨rfl, rfl⟩
    go_wp2
    go_ret2
    exact ⟨rfl, rfl⟩
end Go.Proofs.YtcndkkagnobpmaaDoor
