/-
  The document's right.
-/
import Derived.Test.YteodigdcdhceiaaDoorVaP2
import Derived.Deep.RegionHeld3
import Derived.Deep.QuietTactic
import Derived.BigQuiet
namespace Go.Proofs.YteodigdcdhceiaaDoor
open Go.RowKit
attribute [local go_sem ↓] Go.wp_at_zero Go.wp_at_succ
set_option linter.unusedVariables false
set_option linter.unusedSimpArgs false

set_option maxRecDepth 100000 in
set_option maxHeartbeats 1000000 in
theorem right1_n (n : Int) (s : ByteArray) (lA : Option Addr) (nl lc : Nat) (mA : Option Addr) (nm mc : Nat) (w : World) (hn : ¬ n = 0) : Calls Tryd.prog 32 #[.agg #[.int .i64 1, .int .i64 n, .string s, .slice lA nl lc, .slice mA nm mc]] w fun e w' => PF (RiP false w) e w' := by
  have q1 : (n == 0) = false := by rw [beq_eq_false_iff_ne]; exact hn
  have q2 : (n != 0) = true := by rw [bne_iff_ne]; exact hn
  clear hn
  go_enter Tryd.func32, Tryd.ntmps32
  go_wp2
  go_ret
  exact ⟨rfl, below_al _ (below_new _ _)⟩
set_option maxRecDepth 100000 in
set_option maxHeartbeats 1000000 in
theorem right1_s (s : ByteArray) (lA : Option Addr) (nl lc : Nat) (mA : Option Addr) (nm mc : Nat) (w : World) (hs : ¬ s.size = 0) : Calls Tryd.prog 32 #[.agg #[.int .i64 1, .int .i64 0, .string s, .slice lA nl lc, .slice mA nm mc]] w fun e w' => PF (RiP false w) e w' := by
  have hs1 := sz_ne hs
  have hs2 : (s.toList == []) = false := by rw [beq_eq_false_iff_ne]; exact hs1
  clear hs
  go_enter Tryd.func32, Tryd.ntmps32
  go_wp2
  go_ret
  exact ⟨rfl, below_al _ (below_new _ _)⟩
set_option maxRecDepth 100000 in
set_option maxHeartbeats 1000000 in
theorem right1_l (lA : Option Addr) (nl lc : Nat) (mA : Option Addr) (nm mc : Nat) (w : World) (hl : ¬ nl = 0) : Calls Tryd.prog 32 #[.agg #[.int .i64 1, .int .i64 0, .string ⟨#[]⟩, .slice lA nl lc, .slice mA nm mc]] w fun e w' => PF (RiP false w) e w' := by
  have q3 : ((nl : Int) == 0) = false := by rw [beq_eq_false_iff_ne]; omega
  have q4 : ((nl : Int) != 0) = true := by rw [bne_iff_ne]; omega
  go_enter Tryd.func32, Tryd.ntmps32
  go_wp2
  go_ret
  exact ⟨rfl, below_al _ (below_new _ _)⟩
set_option maxRecDepth 100000 in
set_option maxHeartbeats 1000000 in
theorem right1_m (lA : Option Addr) (lc : Nat) (mA : Option Addr) (nm mc : Nat) (w : World) (hm : ¬ nm = 0) : Calls Tryd.prog 32 #[.agg #[.int .i64 1, .int .i64 0, .string ⟨#[]⟩, .slice lA 0 lc, .slice mA nm mc]] w fun e w' => PF (RiP false w) e w' := by
  have q3 : ((nm : Int) == 0) = false := by rw [beq_eq_false_iff_ne]; omega
  have q4 : ((nm : Int) != 0) = true := by rw [bne_iff_ne]; omega
  go_enter Tryd.func32, Tryd.ntmps32
  go_wp2
  go_ret
  exact ⟨rfl, below_al _ (below_new _ _)⟩
set_option maxRecDepth 100000 in
set_option maxHeartbeats 1000000 in
theorem right5_n (n : Int) (s : ByteArray) (lA : Option Addr) (nl lc : Nat) (mA : Option Addr) (nm mc : Nat) (w : World) (hn : ¬ n = 0) : Calls Tryd.prog 32 #[.agg #[.int .i64 5, .int .i64 n, .string s, .slice lA nl lc, .slice mA nm mc]] w fun e w' => PF (RiP false w) e w' := by
  have q1 : (n == 0) = false := by rw [beq_eq_false_iff_ne]; exact hn
  have q2 : (n != 0) = true := by rw [bne_iff_ne]; exact hn
  clear hn
  go_enter Tryd.func32, Tryd.ntmps32
  go_wp2
  go_ret
  exact ⟨rfl, below_al _ (below_new _ _)⟩
set_option maxRecDepth 100000 in
set_option maxHeartbeats 1000000 in
theorem right5_s (s : ByteArray) (lA : Option Addr) (nl lc : Nat) (mA : Option Addr) (nm mc : Nat) (w : World) (hs : ¬ s.size = 0) : Calls Tryd.prog 32 #[.agg #[.int .i64 5, .int .i64 0, .string s, .slice lA nl lc, .slice mA nm mc]] w fun e w' => PF (RiP false w) e w' := by
  have hs1 := sz_ne hs
  have hs2 : (s.toList == []) = false := by rw [beq_eq_false_iff_ne]; exact hs1
  clear hs
  go_enter Tryd.func32, Tryd.ntmps32
  go_wp2
  go_ret
  exact ⟨rfl, below_al _ (below_new _ _)⟩
set_option maxRecDepth 100000 in
set_option maxHeartbeats 1000000 in
theorem right5_m (lA : Option Addr) (nl lc : Nat) (mA : Option Addr) (nm mc : Nat) (w : World) (hm : ¬ nm = 0) : Calls Tryd.prog 32 #[.agg #[.int .i64 5, .int .i64 0, .string ⟨#[]⟩, .slice lA nl lc, .slice mA nm mc]] w fun e w' => PF (RiP false w) e w' := by
  have q3 : ((nm : Int) == 0) = false := by rw [beq_eq_false_iff_ne]; omega
  have q4 : ((nm : Int) != 0) = true := by rw [bne_iff_ne]; omega
  go_enter Tryd.func32, Tryd.ntmps32
  go_wp2
  go_ret
  exact ⟨rfl, below_al _ (below_new _ _)⟩
set_option maxRecDepth 100000 in
set_option maxHeartbeats 1000000 in
theorem right6_n (n : Int) (s : ByteArray) (lA : Option Addr) (nl lc : Nat) (mA : Option Addr) (nm mc : Nat) (w : World) (hn : ¬ n = 0) : Calls Tryd.prog 32 #[.agg #[.int .i64 6, .int .i64 n, .string s, .slice lA nl lc, .slice mA nm mc]] w fun e w' => PF (RiP false w) e w' := by
  have q1 : (n == 0) = false := by rw [beq_eq_false_iff_ne]; exact hn
  have q2 : (n != 0) = true := by rw [bne_iff_ne]; exact hn
  clear hn
  go_enter Tryd.func32, Tryd.ntmps32
  go_wp2
  go_ret
  exact ⟨rfl, below_al _ (below_new _ _)⟩
set_option maxRecDepth 100000 in
set_option maxHeartbeats 1000000 in
theorem right6_s (s : ByteArray) (lA : Option Addr) (nl lc : Nat) (mA : Option Addr) (nm mc : Nat) (w : World) (hs : ¬ s.size = 0) : Calls Tryd.prog 32 #[.agg #[.int .i64 6, .int .i64 0, .string s, .slice lA nl lc, .slice mA nm mc]] w fun e w' => PF (RiP false w) e w' := by
  have hs1 := sz_ne hs
  have hs2 : (s.toList == []) = false := by rw [beq_eq_false_iff_ne]; exact hs1
  clear hs
  go_enter Tryd.func32, Tryd.ntmps32
  go_wp2
  go_ret
  exact ⟨rfl, below_al _ (below_new _ _)⟩
set_option maxRecDepth 100000 in
set_option maxHeartbeats 1000000 in
theorem right6_l (lA : Option Addr) (nl lc : Nat) (mA : Option Addr) (nm mc : Nat) (w : World) (hl : ¬ nl = 0) : Calls Tryd.prog 32 #[.agg #[.int .i64 6, .int .i64 0, .string ⟨#[]⟩, .slice lA nl lc, .slice mA nm mc]] w fun e w' => PF (RiP false w) e w' := by
  have q3 : ((nl : Int) == 0) = false := by rw [beq_eq_false_iff_ne]; omega
  have q4 : ((nl : Int) != 0) = true := by rw [bne_iff_ne]; omega
  go_enter Tryd.func32, Tryd.ntmps32
  go_wp2
  go_ret
  exact ⟨rfl, below_al _ (below_new _ _)⟩
set_option maxRecDepth 100000 in
set_option maxHeartbeats 1000000 in
theorem right1_ok (lA : Option Addr) (lc : Nat) (mA : Option Addr) (mc : Nat) (w : World) : Calls Tryd.prog 32 #[.agg #[.int .i64 1, .int .i64 0, .string ⟨#[]⟩, .slice lA 0 lc, .slice mA 0 mc]] w fun e w' => PF (RiP true w) e w' := by
  go_enter Tryd.func32, Tryd.ntmps32
  go_wp2
  refine wp_loop_rounds 1 ?_
  rw [rounds_succ]
  go_wp2
  refine wp_loop_rounds 1 ?_
  rw [rounds_succ]
  go_wp2
  go_ret
  exact ⟨rfl, below_al _ (below_new _ _)⟩
set_option maxRecDepth 100000 in
set_option maxHeartbeats 1000000 in
theorem right2_n (n : Int) (s : ByteArray) (lA : Option Addr) (nl lc : Nat) (mA : Option Addr) (nm mc : Nat) (w : World) (hn : ¬ (n = 0 ∨ n = 1)) : Calls Tryd.prog 32 #[.agg #[.int .i64 2, .int .i64 n, .string s, .slice lA nl lc, .slice mA nm mc]] w fun e w' => PF (RiP false w) e w' := by
  have q1 : (n == 0) = false := by rw [beq_eq_false_iff_ne]; omega
  have q2 : (n != 0) = true := by rw [bne_iff_ne]; omega
  have q5 : (n == 1) = false := by rw [beq_eq_false_iff_ne]; omega
  have q6 : (n != 1) = true := by rw [bne_iff_ne]; omega
  clear hn
  go_enter Tryd.func32, Tryd.ntmps32
  go_wp2
  go_ret
  exact ⟨rfl, below_al _ (below_new _ _)⟩
set_option maxRecDepth 100000 in
set_option maxHeartbeats 1000000 in
theorem right2_s (n : Int) (s : ByteArray) (lA : Option Addr) (nl lc : Nat) (mA : Option Addr) (nm mc : Nat) (w : World) (hn : n = 0 ∨ n = 1) (hs : ¬ s.size = 0) : Calls Tryd.prog 32 #[.agg #[.int .i64 2, .int .i64 n, .string s, .slice lA nl lc, .slice mA nm mc]] w fun e w' => PF (RiP false w) e w' := by
  have hs1 := sz_ne hs
  have hs2 : (s.toList == []) = false := by rw [beq_eq_false_iff_ne]; exact hs1
  clear hs
  rcases hn with rfl | rfl
  all_goals
    go_enter Tryd.func32, Tryd.ntmps32
    go_wp2
    go_ret
    exact ⟨rfl, below_al _ (below_new _ _)⟩
set_option maxRecDepth 100000 in
set_option maxHeartbeats 1000000 in
theorem right2_l (n : Int) (lA : Option Addr) (nl lc : Nat) (mA : Option Addr) (nm mc : Nat) (w : World) (hn : n = 0 ∨ n = 1) (hl : ¬ nl = 0) : Calls Tryd.prog 32 #[.agg #[.int .i64 2, .int .i64 n, .string ⟨#[]⟩, .slice lA nl lc, .slice mA nm mc]] w fun e w' => PF (RiP false w) e w' := by
  have q3 : ((nl : Int) == 0) = false := by rw [beq_eq_false_iff_ne]; omega
  have q4 : ((nl : Int) != 0) = true := by rw [bne_iff_ne]; omega
  rcases hn with rfl | rfl
  all_goals
    go_enter Tryd.func32, Tryd.ntmps32
    go_wp2
    go_ret
    exact ⟨rfl, below_al _ (below_new _ _)⟩
set_option maxRecDepth 100000 in
set_option maxHeartbeats 1000000 in
theorem right2_m (n : Int) (lA : Option Addr) (lc : Nat) (mA : Option Addr) (nm mc : Nat) (w : World) (hn : n = 0 ∨ n = 1) (hm : ¬ nm = 0) : Calls Tryd.prog 32 #[.agg #[.int .i64 2, .int .i64 n, .string ⟨#[]⟩, .slice lA 0 lc, .slice mA nm mc]] w fun e w' => PF (RiP false w) e w' := by
  have q3 : ((nm : Int) == 0) = false := by rw [beq_eq_false_iff_ne]; omega
  have q4 : ((nm : Int) != 0) = true := by rw [bne_iff_ne]; omega
  rcases hn with rfl | rfl
  all_goals
    go_enter Tryd.func32, Tryd.ntmps32
    go_wp2
    go_ret
    exact ⟨rfl, below_al _ (below_new _ _)⟩
set_option maxRecDepth 100000 in
set_option maxHeartbeats 1000000 in
theorem right2_ok (n : Int) (lA : Option Addr) (lc : Nat) (mA : Option Addr) (mc : Nat) (w : World) (hn : n = 0 ∨ n = 1) : Calls Tryd.prog 32 #[.agg #[.int .i64 2, .int .i64 n, .string ⟨#[]⟩, .slice lA 0 lc, .slice mA 0 mc]] w fun e w' => PF (RiP true w) e w' := by
  rcases hn with rfl | rfl
  all_goals
    go_enter Tryd.func32, Tryd.ntmps32
    go_wp2
    refine wp_loop_rounds 1 ?_
    rw [rounds_succ]
    go_wp2
    refine wp_loop_rounds 1 ?_
    rw [rounds_succ]
    go_wp2
    go_ret
    exact ⟨rfl, below_al _ (below_new _ _)⟩
set_option maxRecDepth 100000 in
set_option maxHeartbeats 1000000 in
theorem right3_lo (n : Int) (s : ByteArray) (lA : Option Addr) (nl lc : Nat) (mA : Option Addr) (nm mc : Nat) (w : World) (hn : n < -9007199254740991) : Calls Tryd.prog 32 #[.agg #[.int .i64 3, .int .i64 n, .string s, .slice lA nl lc, .slice mA nm mc]] w fun e w' => PF (RiP false w) e w' := by
  have q1 : decide (n < -9007199254740991) = true := by rw [decide_eq_true_iff]; exact hn
  go_enter Tryd.func32, Tryd.ntmps32
  go_wp2
  go_ret
  exact ⟨rfl, below_al _ (below_new _ _)⟩
set_option maxRecDepth 100000 in
set_option maxHeartbeats 1000000 in
theorem right3_hi (n : Int) (s : ByteArray) (lA : Option Addr) (nl lc : Nat) (mA : Option Addr) (nm mc : Nat) (w : World) (hn : 9007199254740991 < n) : Calls Tryd.prog 32 #[.agg #[.int .i64 3, .int .i64 n, .string s, .slice lA nl lc, .slice mA nm mc]] w fun e w' => PF (RiP false w) e w' := by
  have q1 : decide (n < -9007199254740991) = false := by rw [decide_eq_false_iff_not]; omega
  have q2 : decide (9007199254740991 < n) = true := by rw [decide_eq_true_iff]; exact hn
  go_enter Tryd.func32, Tryd.ntmps32
  go_wp2
  go_ret
  exact ⟨rfl, below_al _ (below_new _ _)⟩
set_option maxRecDepth 100000 in
set_option maxHeartbeats 1000000 in
theorem right3_s (n : Int) (s : ByteArray) (lA : Option Addr) (nl lc : Nat) (mA : Option Addr) (nm mc : Nat) (w : World) (hn : -9007199254740991 ≤ n ∧ n ≤ 9007199254740991) (hs : ¬ s.size = 0) : Calls Tryd.prog 32 #[.agg #[.int .i64 3, .int .i64 n, .string s, .slice lA nl lc, .slice mA nm mc]] w fun e w' => PF (RiP false w) e w' := by
  have q1 : decide (n < -9007199254740991) = false := by rw [decide_eq_false_iff_not]; omega
  have q2 : decide (9007199254740991 < n) = false := by rw [decide_eq_false_iff_not]; omega
  clear hn
  have hs1 := sz_ne hs
  have hs2 : (s.toList == []) = false := by rw [beq_eq_false_iff_ne]; exact hs1
  clear hs
  go_enter Tryd.func32, Tryd.ntmps32
  go_wp2
  go_ret
  exact ⟨rfl, below_al _ (below_new _ _)⟩
set_option maxRecDepth 100000 in
set_option maxHeartbeats 1000000 in
theorem right3_l (n : Int) (lA : Option Addr) (nl lc : Nat) (mA : Option Addr) (nm mc : Nat) (w : World) (hn : -9007199254740991 ≤ n ∧ n ≤ 9007199254740991) (hl : ¬ nl = 0) : Calls Tryd.prog 32 #[.agg #[.int .i64 3, .int .i64 n, .string ⟨#[]⟩, .slice lA nl lc, .slice mA nm mc]] w fun e w' => PF (RiP false w) e w' := by
  have q1 : decide (n < -9007199254740991) = false := by rw [decide_eq_false_iff_not]; omega
  have q2 : decide (9007199254740991 < n) = false := by rw [decide_eq_false_iff_not]; omega
  clear hn
  have q3 : ((nl : Int) == 0) = false := by rw [beq_eq_false_iff_ne]; omega
  have q4 : ((nl : Int) != 0) = true := by rw [bne_iff_ne]; omega
  go_enter Tryd.func32, Tryd.ntmps32
  go_wp2
  go_ret
  exact ⟨rfl, below_al _ (below_new _ _)⟩
set_option maxRecDepth 100000 in
set_option maxHeartbeats 1000000 in
theorem right3_m (n : Int) (lA : Option Addr) (lc : Nat) (mA : Option Addr) (nm mc : Nat) (w : World) (hn : -9007199254740991 ≤ n ∧ n ≤ 9007199254740991) (hm : ¬ nm = 0) : Calls Tryd.prog 32 #[.agg #[.int .i64 3, .int .i64 n, .string ⟨#[]⟩, .slice lA 0 lc, .slice mA nm mc]] w fun e w' => PF (RiP false w) e w' := by
  have q1 : decide (n < -9007199254740991) = false := by rw [decide_eq_false_iff_not]; omega
  have q2 : decide (9007199254740991 < n) = false := by rw [decide_eq_false_iff_not]; omega
  clear hn
  have q3 : ((nm : Int) == 0) = false := by rw [beq_eq_false_iff_ne]; omega
  have q4 : ((nm : Int) != 0) = true := by rw [bne_iff_ne]; omega
  go_enter Tryd.func32, Tryd.ntmps32
  go_wp2
  go_ret
  exact ⟨rfl, below_al _ (below_new _ _)⟩
set_option maxRecDepth 100000 in
set_option maxHeartbeats 1000000 in
theorem right3_ok (n : Int) (lA : Option Addr) (lc : Nat) (mA : Option Addr) (mc : Nat) (w : World) (hn : -9007199254740991 ≤ n ∧ n ≤ 9007199254740991) : Calls Tryd.prog 32 #[.agg #[.int .i64 3, .int .i64 n, .string ⟨#[]⟩, .slice lA 0 lc, .slice mA 0 mc]] w fun e w' => PF (RiP true w) e w' := by
  have q1 : decide (n < -9007199254740991) = false := by rw [decide_eq_false_iff_not]; omega
  have q2 : decide (9007199254740991 < n) = false := by rw [decide_eq_false_iff_not]; omega
  clear hn
  go_enter Tryd.func32, Tryd.ntmps32
  go_wp2
  refine wp_loop_rounds 1 ?_
  rw [rounds_succ]
  go_wp2
  refine wp_loop_rounds 1 ?_
  rw [rounds_succ]
  go_wp2
  go_ret
  exact ⟨rfl, below_al _ (below_new _ _)⟩
set_option maxRecDepth 100000 in
set_option maxHeartbeats 1000000 in
theorem right4_v (n : Int) (s : ByteArray) (lA : Option Addr) (nl lc : Nat) (mA : Option Addr) (nm mc : Nat) (w : World) (hz : s.size ≤ 9223372036854775807) (hv : Lib.validD s.data.toList = false) : Calls Tryd.prog 32 #[.agg #[.int .i64 4, .int .i64 n, .string s, .slice lA nl lc, .slice mA nm mc]] w fun e w' => PF (RiP false w) e w' := by
  have HV := Lib.hid (fun w => rvalid_any s w hz)
  rw [hv] at HV
  clear hv
  go_enter Tryd.func32, Tryd.ntmps32
  go_wp2_with fail
  refine (HV.out _).mono ?_
  rintro e w1 ⟨rfl, hb1⟩
  have HB : Hid (Below w.heap.size w w1) := Lib.hid ((below_al _ (below_new w _)).trans (hb1.mono (below_al _ (below_new w _)).size))
  have k1 := ((Blk.new w 25 #[.int .i64 4, .int .i64 n, .string s, .slice lA nl lc, .slice mA nm mc]).alloc (.cells #[.int .i64 4, .int .i64 0, .string s, .slice none 0 0, .slice none 0 0] 25)).below hb1 (by simp; omega)
  have k2 : Blk w1 (w.heap.size + 1) 25 #[.int .i64 4, .int .i64 0, .string s, .slice none 0 0, .slice none 0 0] := by
    have := (Blk.new (w.alloc (.cells #[.int .i64 4, .int .i64 n, .string s, .slice lA nl lc, .slice mA nm mc] 25)) 25 #[.int .i64 4, .int .i64 0, .string s, .slice none 0 0, .slice none 0 0]).below hb1 (by simp)
    simpa using this
  obtain ⟨a0, a1, a2, a3, a4⟩ := five_cells k1
  obtain ⟨c0, c1, c2, c3, c4⟩ := five_cells k2
  clear k1 k2 hb1
  go_wp2
  go_ret
  exact ⟨rfl, HB.out⟩
set_option maxRecDepth 100000 in
set_option maxHeartbeats 1000000 in
theorem right4_n (n : Int) (s : ByteArray) (lA : Option Addr) (nl lc : Nat) (mA : Option Addr) (nm mc : Nat) (w : World) (hz : s.size ≤ 9223372036854775807) (hn : ¬ n = 0) (hv : Lib.validD s.data.toList = true) : Calls Tryd.prog 32 #[.agg #[.int .i64 4, .int .i64 n, .string s, .slice lA nl lc, .slice mA nm mc]] w fun e w' => PF (RiP false w) e w' := by
  have HV := Lib.hid (fun w => rvalid_any s w hz)
  rw [hv] at HV
  clear hv
  have q1 : (n == 0) = false := by rw [beq_eq_false_iff_ne]; exact hn
  have q2 : (n != 0) = true := by rw [bne_iff_ne]; exact hn
  clear hn
  go_enter Tryd.func32, Tryd.ntmps32
  go_wp2_with fail
  refine (HV.out _).mono ?_
  rintro e w1 ⟨rfl, hb1⟩
  have HB : Hid (Below w.heap.size w w1) := Lib.hid ((below_al _ (below_new w _)).trans (hb1.mono (below_al _ (below_new w _)).size))
  have k1 := ((Blk.new w 25 #[.int .i64 4, .int .i64 n, .string s, .slice lA nl lc, .slice mA nm mc]).alloc (.cells #[.int .i64 4, .int .i64 0, .string s, .slice none 0 0, .slice none 0 0] 25)).below hb1 (by simp; omega)
  have k2 : Blk w1 (w.heap.size + 1) 25 #[.int .i64 4, .int .i64 0, .string s, .slice none 0 0, .slice none 0 0] := by
    have := (Blk.new (w.alloc (.cells #[.int .i64 4, .int .i64 n, .string s, .slice lA nl lc, .slice mA nm mc] 25)) 25 #[.int .i64 4, .int .i64 0, .string s, .slice none 0 0, .slice none 0 0]).below hb1 (by simp)
    simpa using this
  obtain ⟨a0, a1, a2, a3, a4⟩ := five_cells k1
  obtain ⟨c0, c1, c2, c3, c4⟩ := five_cells k2
  clear k1 k2 hb1
  go_wp2
  go_ret
  exact ⟨rfl, HB.out⟩
set_option maxRecDepth 100000 in
set_option maxHeartbeats 1000000 in
theorem right4_l (s : ByteArray) (lA : Option Addr) (nl lc : Nat) (mA : Option Addr) (nm mc : Nat) (w : World) (hz : s.size ≤ 9223372036854775807) (hl : ¬ nl = 0) (hv : Lib.validD s.data.toList = true) : Calls Tryd.prog 32 #[.agg #[.int .i64 4, .int .i64 0, .string s, .slice lA nl lc, .slice mA nm mc]] w fun e w' => PF (RiP false w) e w' := by
  have HV := Lib.hid (fun w => rvalid_any s w hz)
  rw [hv] at HV
  clear hv
  have q3 : ((nl : Int) == 0) = false := by rw [beq_eq_false_iff_ne]; omega
  have q4 : ((nl : Int) != 0) = true := by rw [bne_iff_ne]; omega
  go_enter Tryd.func32, Tryd.ntmps32
  go_wp2_with fail
  refine (HV.out _).mono ?_
  rintro e w1 ⟨rfl, hb1⟩
  have HB : Hid (Below w.heap.size w w1) := Lib.hid ((below_al _ (below_new w _)).trans (hb1.mono (below_al _ (below_new w _)).size))
  have k1 := ((Blk.new w 25 #[.int .i64 4, .int .i64 0, .string s, .slice lA nl lc, .slice mA nm mc]).alloc (.cells #[.int .i64 4, .int .i64 0, .string s, .slice none 0 0, .slice none 0 0] 25)).below hb1 (by simp; omega)
  have k2 : Blk w1 (w.heap.size + 1) 25 #[.int .i64 4, .int .i64 0, .string s, .slice none 0 0, .slice none 0 0] := by
    have := (Blk.new (w.alloc (.cells #[.int .i64 4, .int .i64 0, .string s, .slice lA nl lc, .slice mA nm mc] 25)) 25 #[.int .i64 4, .int .i64 0, .string s, .slice none 0 0, .slice none 0 0]).below hb1 (by simp)
    simpa using this
  obtain ⟨a0, a1, a2, a3, a4⟩ := five_cells k1
  obtain ⟨c0, c1, c2, c3, c4⟩ := five_cells k2
  clear k1 k2 hb1
  go_wp2
  go_ret
  exact ⟨rfl, HB.out⟩
set_option maxRecDepth 100000 in
set_option maxHeartbeats 1000000 in
theorem right4_m (s : ByteArray) (lA : Option Addr) (lc : Nat) (mA : Option Addr) (nm mc : Nat) (w : World) (hz : s.size ≤ 9223372036854775807) (hm : ¬ nm = 0) (hv : Lib.validD s.data.toList = true) : Calls Tryd.prog 32 #[.agg #[.int .i64 4, .int .i64 0, .string s, .slice lA 0 lc, .slice mA nm mc]] w fun e w' => PF (RiP false w) e w' := by
  have HV := Lib.hid (fun w => rvalid_any s w hz)
  rw [hv] at HV
  clear hv
  have q3 : ((nm : Int) == 0) = false := by rw [beq_eq_false_iff_ne]; omega
  have q4 : ((nm : Int) != 0) = true := by rw [bne_iff_ne]; omega
  go_enter Tryd.func32, Tryd.ntmps32
  go_wp2_with fail
  refine (HV.out _).mono ?_
  rintro e w1 ⟨rfl, hb1⟩
  have HB : Hid (Below w.heap.size w w1) := Lib.hid ((below_al _ (below_new w _)).trans (hb1.mono (below_al _ (below_new w _)).size))
  have k1 := ((Blk.new w 25 #[.int .i64 4, .int .i64 0, .string s, .slice lA 0 lc, .slice mA nm mc]).alloc (.cells #[.int .i64 4, .int .i64 0, .string s, .slice none 0 0, .slice none 0 0] 25)).below hb1 (by simp; omega)
  have k2 : Blk w1 (w.heap.size + 1) 25 #[.int .i64 4, .int .i64 0, .string s, .slice none 0 0, .slice none 0 0] := by
    have := (Blk.new (w.alloc (.cells #[.int .i64 4, .int .i64 0, .string s, .slice lA 0 lc, .slice mA nm mc] 25)) 25 #[.int .i64 4, .int .i64 0, .string s, .slice none 0 0, .slice none 0 0]).below hb1 (by simp)
    simpa using this
  obtain ⟨a0, a1, a2, a3, a4⟩ := five_cells k1
  obtain ⟨c0, c1, c2, c3, c4⟩ := five_cells k2
  clear k1 k2 hb1
  go_wp2
  go_ret
  exact ⟨rfl, HB.out⟩
set_option maxRecDepth 100000 in
set_option maxHeartbeats 1000000 in
theorem right4_ok (s : ByteArray) (lA : Option Addr) (lc : Nat) (mA : Option Addr) (mc : Nat) (w : World) (hz : s.size ≤ 9223372036854775807) (hv : Lib.validD s.data.toList = true) : Calls Tryd.prog 32 #[.agg #[.int .i64 4, .int .i64 0, .string s, .slice lA 0 lc, .slice mA 0 mc]] w fun e w' => PF (RiP true w) e w' := by
  have HV := Lib.hid (fun w => rvalid_any s w hz)
  rw [hv] at HV
  clear hv
  go_enter Tryd.func32, Tryd.ntmps32
  go_wp2_with fail
  refine (HV.out _).mono ?_
  rintro e w1 ⟨rfl, hb1⟩
  have HB : Hid (Below w.heap.size w w1) := Lib.hid ((below_al _ (below_new w _)).trans (hb1.mono (below_al _ (below_new w _)).size))
  have k1 := ((Blk.new w 25 #[.int .i64 4, .int .i64 0, .string s, .slice lA 0 lc, .slice mA 0 mc]).alloc (.cells #[.int .i64 4, .int .i64 0, .string s, .slice none 0 0, .slice none 0 0] 25)).below hb1 (by simp; omega)
  have k2 : Blk w1 (w.heap.size + 1) 25 #[.int .i64 4, .int .i64 0, .string s, .slice none 0 0, .slice none 0 0] := by
    have := (Blk.new (w.alloc (.cells #[.int .i64 4, .int .i64 0, .string s, .slice lA 0 lc, .slice mA 0 mc] 25)) 25 #[.int .i64 4, .int .i64 0, .string s, .slice none 0 0, .slice none 0 0]).below hb1 (by simp)
    simpa using this
  obtain ⟨a0, a1, a2, a3, a4⟩ := five_cells k1
  obtain ⟨c0, c1, c2, c3, c4⟩ := five_cells k2
  clear k1 k2 hb1
  go_wp2
  refine wp_loop_rounds 1 ?_
  rw [rounds_succ]
  go_wp2
  refine wp_loop_rounds 1 ?_
  rw [rounds_succ]
  go_wp2
  go_ret
  exact ⟨rfl, HB.out⟩
set_option maxRecDepth 100000 in
set_option maxHeartbeats 1000000 in
theorem right0 (k n : Int) (s : ByteArray) (lA : Option Addr) (nl lc : Nat) (mA : Option Addr) (nm mc : Nat) (w : World) (hk : k < 1 ∨ 6 < k) : Calls Tryd.prog 32 #[.agg #[.int .i64 k, .int .i64 n, .string s, .slice lA nl lc, .slice mA nm mc]] w fun e w' => PF (RiP false w) e w' := by
  have p1 : (k == 1) = false := by rw [beq_eq_false_iff_ne]; omega
  have p2 : (k == 2) = false := by rw [beq_eq_false_iff_ne]; omega
  have p3 : (k == 3) = false := by rw [beq_eq_false_iff_ne]; omega
  have p4 : (k == 4) = false := by rw [beq_eq_false_iff_ne]; omega
  have p5 : (k == 5) = false := by rw [beq_eq_false_iff_ne]; omega
  have p6 : (k == 6) = false := by rw [beq_eq_false_iff_ne]; omega
  clear hk
  go_enter Tryd.func32, Tryd.ntmps32
  go_wp2
  go_ret
  exact ⟨rfl, below_al _ (below_new _ _)⟩
end Go.Proofs.YteodigdcdhceiaaDoor
