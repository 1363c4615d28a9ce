/-
  value.plain.
-/
import Derived.Test.YteodigdcdhceiaaDoorVaK
import Derived.Deep.RegionHeld3
import Derived.Deep.QuietTactic
import Derived.BigQuiet
import Derived.Outline
namespace Go.Proofs.YteodigdcdhceiaaDoor
open Go.RowKit
attribute [local go_sem ↓] Go.wp_at_zero Go.wp_at_succ
set_option linter.unusedVariables false
set_option linter.unusedSimpArgs false

theorem blk_new2 {w : World} {t t' : TypeId} {a c : Array Value} : Blk ((w.alloc (.cells a t)).alloc (.cells c t')) w.heap.size t a := (Blk.new w t a).alloc _
set_option maxRecDepth 100000 in
set_option maxHeartbeats 1000000 in
theorem plain1_n (n : Int) (s : ByteArray) (lA : Option Addr) (nl lc : Nat) (mA : Option Addr) (nm mc : Nat) (w : World) (hn : ¬ n = 0) : Calls Tryd.prog 52 #[.agg #[.int .i64 1, .int .i64 n, .string s, .slice lA nl lc, .slice mA nm mc]] w fun e w' => PF (RiP false w) e w' := by
  have q1 : (n == 0) = false := by rw [beq_eq_false_iff_ne]; exact hn
  clear hn
  go_enter Tryd.func52, Tryd.ntmps52
  go_wp2
  go_ret
  exact ⟨rfl, below_al _ (below_new _ _)⟩
set_option maxRecDepth 100000 in
set_option maxHeartbeats 1000000 in
theorem plain1_s (s : ByteArray) (lA : Option Addr) (nl lc : Nat) (mA : Option Addr) (nm mc : Nat) (w : World) (hs : ¬ s.size = 0) : Calls Tryd.prog 52 #[.agg #[.int .i64 1, .int .i64 0, .string s, .slice lA nl lc, .slice mA nm mc]] w fun e w' => PF (RiP false w) e w' := by
  have hs1 := sz_ne hs
  have hs2 : (s.toList == []) = false := by rw [beq_eq_false_iff_ne]; exact hs1
  clear hs
  go_enter Tryd.func52, Tryd.ntmps52
  go_wp2
  go_ret
  exact ⟨rfl, below_al _ (below_new _ _)⟩
set_option maxRecDepth 100000 in
set_option maxHeartbeats 1000000 in
theorem plain1_l (lA : Option Addr) (nl lc : Nat) (mA : Option Addr) (nm mc : Nat) (w : World) (hl : ¬ nl = 0) : Calls Tryd.prog 52 #[.agg #[.int .i64 1, .int .i64 0, .string ⟨#[]⟩, .slice lA nl lc, .slice mA nm mc]] w fun e w' => PF (RiP false w) e w' := by
  have q3 : ((nl : Int) == 0) = false := by rw [beq_eq_false_iff_ne]; omega
  go_enter Tryd.func52, Tryd.ntmps52
  go_wp2
  go_ret
  exact ⟨rfl, below_al _ (below_new _ _)⟩
set_option maxRecDepth 100000 in
set_option maxHeartbeats 1000000 in
theorem plain1_m (lA : Option Addr) (lc : Nat) (mA : Option Addr) (nm mc : Nat) (w : World) (hm : ¬ nm = 0) : Calls Tryd.prog 52 #[.agg #[.int .i64 1, .int .i64 0, .string ⟨#[]⟩, .slice lA 0 lc, .slice mA nm mc]] w fun e w' => PF (RiP false w) e w' := by
  have q4 : ((nm : Int) == 0) = false := by rw [beq_eq_false_iff_ne]; omega
  go_enter Tryd.func52, Tryd.ntmps52
  go_wp2
  go_ret
  exact ⟨rfl, below_al _ (below_new _ _)⟩
set_option maxRecDepth 100000 in
set_option maxHeartbeats 1000000 in
theorem plain1_ok (lA : Option Addr) (lc : Nat) (mA : Option Addr) (mc : Nat) (w : World) : Calls Tryd.prog 52 #[.agg #[.int .i64 1, .int .i64 0, .string ⟨#[]⟩, .slice lA 0 lc, .slice mA 0 mc]] w fun e w' => PF (RiP true w) e w' := by
  go_enter Tryd.func52, Tryd.ntmps52
  go_wp2
  go_ret
  exact ⟨rfl, below_al _ (below_new _ _)⟩
set_option maxRecDepth 100000 in
set_option maxHeartbeats 1000000 in
theorem plain2_n (n : Int) (s : ByteArray) (lA : Option Addr) (nl lc : Nat) (mA : Option Addr) (nm mc : Nat) (w : World) (hn : ¬ (n = 0 ∨ n = 1)) : Calls Tryd.prog 52 #[.agg #[.int .i64 2, .int .i64 n, .string s, .slice lA nl lc, .slice mA nm mc]] w fun e w' => PF (RiP false w) e w' := by
  have q1 : (n == 0) = false := by rw [beq_eq_false_iff_ne]; omega
  have q5 : (n == 1) = false := by rw [beq_eq_false_iff_ne]; omega
  clear hn
  go_enter Tryd.func52, Tryd.ntmps52
  go_wp2
  go_region
  go_wp2
  go_ret
  exact ⟨rfl, dnU (below_al _ (below_new _ _)) _⟩
set_option maxRecDepth 100000 in
set_option maxHeartbeats 1000000 in
theorem plain2_s0 (s : ByteArray) (lA : Option Addr) (nl lc : Nat) (mA : Option Addr) (nm mc : Nat) (w : World) (hs : ¬ s.size = 0) : Calls Tryd.prog 52 #[.agg #[.int .i64 2, .int .i64 0, .string s, .slice lA nl lc, .slice mA nm mc]] w fun e w' => PF (RiP false w) e w' := by
  have hs1 := sz_ne hs
  have hs2 : (s.toList == []) = false := by rw [beq_eq_false_iff_ne]; exact hs1
  clear hs
  go_enter Tryd.func52, Tryd.ntmps52
  go_wp2
  go_region
  go_wp2
  go_ret
  exact ⟨rfl, dnU (below_al _ (below_new _ _)) _⟩
set_option maxRecDepth 100000 in
set_option maxHeartbeats 1000000 in
theorem plain2_l0 (lA : Option Addr) (nl lc : Nat) (mA : Option Addr) (nm mc : Nat) (w : World) (hl : ¬ nl = 0) : Calls Tryd.prog 52 #[.agg #[.int .i64 2, .int .i64 0, .string ⟨#[]⟩, .slice lA nl lc, .slice mA nm mc]] w fun e w' => PF (RiP false w) e w' := by
  have q3 : ((nl : Int) == 0) = false := by rw [beq_eq_false_iff_ne]; omega
  go_enter Tryd.func52, Tryd.ntmps52
  go_wp2
  go_region
  go_wp2
  go_ret
  exact ⟨rfl, dnU (below_al _ (below_new _ _)) _⟩
set_option maxRecDepth 100000 in
set_option maxHeartbeats 1000000 in
theorem plain2_m0 (lA : Option Addr) (lc : Nat) (mA : Option Addr) (nm mc : Nat) (w : World) (hm : ¬ nm = 0) : Calls Tryd.prog 52 #[.agg #[.int .i64 2, .int .i64 0, .string ⟨#[]⟩, .slice lA 0 lc, .slice mA nm mc]] w fun e w' => PF (RiP false w) e w' := by
  have q4 : ((nm : Int) == 0) = false := by rw [beq_eq_false_iff_ne]; omega
  go_enter Tryd.func52, Tryd.ntmps52
  go_wp2
  go_region
  go_wp2
  go_ret
  exact ⟨rfl, dnU (below_al _ (below_new _ _)) _⟩
set_option maxRecDepth 100000 in
set_option maxHeartbeats 1000000 in
theorem plain2_ok0 (lA : Option Addr) (lc : Nat) (mA : Option Addr) (mc : Nat) (w : World) : Calls Tryd.prog 52 #[.agg #[.int .i64 2, .int .i64 0, .string ⟨#[]⟩, .slice lA 0 lc, .slice mA 0 mc]] w fun e w' => PF (RiP true w) e w' := by
  go_enter Tryd.func52, Tryd.ntmps52
  go_wp2
  go_region
  go_wp2
  go_ret
  exact ⟨rfl, dnU (below_al _ (below_new _ _)) _⟩
set_option maxRecDepth 100000 in
set_option maxHeartbeats 1000000 in
theorem plain2_s1 (s : ByteArray) (lA : Option Addr) (nl lc : Nat) (mA : Option Addr) (nm mc : Nat) (w : World) (hs : ¬ s.size = 0) : Calls Tryd.prog 52 #[.agg #[.int .i64 2, .int .i64 1, .string s, .slice lA nl lc, .slice mA nm mc]] w fun e w' => PF (RiP false w) e w' := by
  have hs1 := sz_ne hs
  have hs2 : (s.toList == []) = false := by rw [beq_eq_false_iff_ne]; exact hs1
  clear hs
  go_enter Tryd.func52, Tryd.ntmps52
  go_wp2
  go_region
  go_wp2
  go_ret
  exact ⟨rfl, dnU (below_al _ (below_new _ _)) _⟩
set_option maxRecDepth 100000 in
set_option maxHeartbeats 1000000 in
theorem plain2_l1 (lA : Option Addr) (nl lc : Nat) (mA : Option Addr) (nm mc : Nat) (w : World) (hl : ¬ nl = 0) : Calls Tryd.prog 52 #[.agg #[.int .i64 2, .int .i64 1, .string ⟨#[]⟩, .slice lA nl lc, .slice mA nm mc]] w fun e w' => PF (RiP false w) e w' := by
  have q3 : ((nl : Int) == 0) = false := by rw [beq_eq_false_iff_ne]; omega
  go_enter Tryd.func52, Tryd.ntmps52
  go_wp2
  go_region
  go_wp2
  go_ret
  exact ⟨rfl, dnU (below_al _ (below_new _ _)) _⟩
set_option maxRecDepth 100000 in
set_option maxHeartbeats 1000000 in
theorem plain2_m1 (lA : Option Addr) (lc : Nat) (mA : Option Addr) (nm mc : Nat) (w : World) (hm : ¬ nm = 0) : Calls Tryd.prog 52 #[.agg #[.int .i64 2, .int .i64 1, .string ⟨#[]⟩, .slice lA 0 lc, .slice mA nm mc]] w fun e w' => PF (RiP false w) e w' := by
  have q4 : ((nm : Int) == 0) = false := by rw [beq_eq_false_iff_ne]; omega
  go_enter Tryd.func52, Tryd.ntmps52
  go_wp2
  go_region
  go_wp2
  go_ret
  exact ⟨rfl, dnU (below_al _ (below_new _ _)) _⟩
set_option maxRecDepth 100000 in
set_option maxHeartbeats 1000000 in
theorem plain2_ok1 (lA : Option Addr) (lc : Nat) (mA : Option Addr) (mc : Nat) (w : World) : Calls Tryd.prog 52 #[.agg #[.int .i64 2, .int .i64 1, .string ⟨#[]⟩, .slice lA 0 lc, .slice mA 0 mc]] w fun e w' => PF (RiP true w) e w' := by
  go_enter Tryd.func52, Tryd.ntmps52
  go_wp2
  go_region
  go_wp2
  go_ret
  exact ⟨rfl, dnU (below_al _ (below_new _ _)) _⟩
set_option maxRecDepth 100000 in
set_option maxHeartbeats 1000000 in
theorem plain3_lo (n : Int) (s : ByteArray) (lA : Option Addr) (nl lc : Nat) (mA : Option Addr) (nm mc : Nat) (w : World) (hn : n < -9007199254740991) : Calls Tryd.prog 52 #[.agg #[.int .i64 3, .int .i64 n, .string s, .slice lA nl lc, .slice mA nm mc]] w fun e w' => PF (RiP false w) e w' := by
  have q1 : decide (-9007199254740991 ≤ n) = false := by rw [decide_eq_false_iff_not]; omega
  clear hn
  go_enter Tryd.func52, Tryd.ntmps52
  go_wp2
  go_region
  go_wp2
  go_ret
  exact ⟨rfl, dnU (below_al _ (below_new _ _)) _⟩
set_option maxRecDepth 100000 in
set_option maxHeartbeats 1000000 in
theorem plain3_hi (n : Int) (s : ByteArray) (lA : Option Addr) (nl lc : Nat) (mA : Option Addr) (nm mc : Nat) (w : World) (hn : 9007199254740991 < n) : Calls Tryd.prog 52 #[.agg #[.int .i64 3, .int .i64 n, .string s, .slice lA nl lc, .slice mA nm mc]] w fun e w' => PF (RiP false w) e w' := by
  have q1 : decide (-9007199254740991 ≤ n) = true := by rw [decide_eq_true_iff]; omega
  have q2 : decide (n ≤ 9007199254740991) = false := by rw [decide_eq_false_iff_not]; omega
  clear hn
  go_enter Tryd.func52, Tryd.ntmps52
  go_wp2
  go_region
  go_wp2
  go_ret
  exact ⟨rfl, dnU (below_al _ (below_new _ _)) _⟩
set_option maxRecDepth 100000 in
set_option maxHeartbeats 1000000 in
theorem plain3_s (n : Int) (s : ByteArray) (lA : Option Addr) (nl lc : Nat) (mA : Option Addr) (nm mc : Nat) (w : World) (hn : -9007199254740991 ≤ n ∧ n ≤ 9007199254740991) (hs : ¬ s.size = 0) : Calls Tryd.prog 52 #[.agg #[.int .i64 3, .int .i64 n, .string s, .slice lA nl lc, .slice mA nm mc]] w fun e w' => PF (RiP false w) e w' := by
  have q1 : decide (-9007199254740991 ≤ n) = true := by rw [decide_eq_true_iff]; omega
  have q2 : decide (n ≤ 9007199254740991) = true := by rw [decide_eq_true_iff]; omega
  clear hn
  have hs1 := sz_ne hs
  have hs2 : (s.toList == []) = false := by rw [beq_eq_false_iff_ne]; exact hs1
  clear hs
  go_enter Tryd.func52, Tryd.ntmps52
  go_wp2
  go_region
  go_wp2
  go_ret
  exact ⟨rfl, dnU (below_al _ (below_new _ _)) _⟩
set_option maxRecDepth 100000 in
set_option maxHeartbeats 1000000 in
theorem plain3_l (n : Int) (lA : Option Addr) (nl lc : Nat) (mA : Option Addr) (nm mc : Nat) (w : World) (hn : -9007199254740991 ≤ n ∧ n ≤ 9007199254740991) (hl : ¬ nl = 0) : Calls Tryd.prog 52 #[.agg #[.int .i64 3, .int .i64 n, .string ⟨#[]⟩, .slice lA nl lc, .slice mA nm mc]] w fun e w' => PF (RiP false w) e w' := by
  have q1 : decide (-9007199254740991 ≤ n) = true := by rw [decide_eq_true_iff]; omega
  have q2 : decide (n ≤ 9007199254740991) = true := by rw [decide_eq_true_iff]; omega
  clear hn
  have q3 : ((nl : Int) == 0) = false := by rw [beq_eq_false_iff_ne]; omega
  go_enter Tryd.func52, Tryd.ntmps52
  go_wp2
  go_region
  go_wp2
  go_ret
  exact ⟨rfl, dnU (below_al _ (below_new _ _)) _⟩
set_option maxRecDepth 100000 in
set_option maxHeartbeats 1000000 in
theorem plain3_m (n : Int) (lA : Option Addr) (lc : Nat) (mA : Option Addr) (nm mc : Nat) (w : World) (hn : -9007199254740991 ≤ n ∧ n ≤ 9007199254740991) (hm : ¬ nm = 0) : Calls Tryd.prog 52 #[.agg #[.int .i64 3, .int .i64 n, .string ⟨#[]⟩, .slice lA 0 lc, .slice mA nm mc]] w fun e w' => PF (RiP false w) e w' := by
  have q1 : decide (-9007199254740991 ≤ n) = true := by rw [decide_eq_true_iff]; omega
  have q2 : decide (n ≤ 9007199254740991) = true := by rw [decide_eq_true_iff]; omega
  clear hn
  have q4 : ((nm : Int) == 0) = false := by rw [beq_eq_false_iff_ne]; omega
  go_enter Tryd.func52, Tryd.ntmps52
  go_wp2
  go_region
  go_wp2
  go_ret
  exact ⟨rfl, dnU (below_al _ (below_new _ _)) _⟩
set_option maxRecDepth 100000 in
set_option maxHeartbeats 1000000 in
theorem plain3_ok (n : Int) (lA : Option Addr) (lc : Nat) (mA : Option Addr) (mc : Nat) (w : World) (hn : -9007199254740991 ≤ n ∧ n ≤ 9007199254740991) : Calls Tryd.prog 52 #[.agg #[.int .i64 3, .int .i64 n, .string ⟨#[]⟩, .slice lA 0 lc, .slice mA 0 mc]] w fun e w' => PF (RiP true w) e w' := by
  have q1 : decide (-9007199254740991 ≤ n) = true := by rw [decide_eq_true_iff]; omega
  have q2 : decide (n ≤ 9007199254740991) = true := by rw [decide_eq_true_iff]; omega
  clear hn
  go_enter Tryd.func52, Tryd.ntmps52
  go_wp2
  go_region
  go_wp2
  go_ret
  exact ⟨rfl, dnU (below_al _ (below_new _ _)) _⟩
set_option maxRecDepth 100000 in
set_option maxHeartbeats 1000000 in
theorem plain4_v (n : Int) (s : ByteArray) (lA : Option Addr) (nl lc : Nat) (mA : Option Addr) (nm mc : Nat) (w : World) (hz : s.size ≤ 9223372036854775807) (ht : tabU w) (hv : Lib.validD s.data.toList = false) : Calls Tryd.prog 52 #[.agg #[.int .i64 4, .int .i64 n, .string s, .slice lA nl lc, .slice mA nm mc]] w fun e w' => PF (RiP false w) e w' := by
  have HV := Lib.hid (fun V (hb : Below w.heap.size w V) => valid_any s V (ht.below hb) hz)
  rw [hv] at HV
  clear hv ht
  obtain ⟨W2, hW2⟩ : ∃ W, W = (w.alloc (.cells #[.int .i64 4, .int .i64 n, .string s, .slice lA nl lc, .slice mA nm mc] 25)).alloc (.cells #[.int .i64 4, .int .i64 0, .string ⟨#[]⟩, .slice none 0 0, .slice none 0 0] 25) := ⟨_, rfl⟩
  have HW2 : Hid (Below w.heap.size w W2) := Lib.hid (by rw [hW2]; exact below_al _ (below_new _ _))
  have HX : Hid (Blk W2 w.heap.size 25 #[.int .i64 4, .int .i64 n, .string s, .slice lA nl lc, .slice mA nm mc]) := Lib.hid (by rw [hW2]; exact blk_new2)
  have HY : Hid (Blk W2 (w.heap.size + 1) 25 #[.int .i64 4, .int .i64 0, .string ⟨#[]⟩, .slice none 0 0, .slice none 0 0]) := Lib.hid (by rw [hW2]; have := Blk.new (w.alloc (.cells #[.int .i64 4, .int .i64 n, .string s, .slice lA nl lc, .slice mA nm mc] 25)) 25 #[.int .i64 4, .int .i64 0, .string ⟨#[]⟩, .slice none 0 0, .slice none 0 0]; simpa using this)
  obtain ⟨a0, a1, a2, a3, a4⟩ := five_cells HX.out
  obtain ⟨c0, c1, c2, c3, c4⟩ := five_cells HY.out
  have f2 := HY.out.frozen 2
  have f4 := HY.out.frozen 4
  go_enter Tryd.func52, Tryd.ntmps52
  go_wp2_with fail
  rw [← hW2]
  clear hW2
  go_region_with ((go_at_call 67; refine (HV.out _ (Below.drew HW2.out)).mono ?_; rintro e w1 ⟨rfl, hb1⟩; have HW3 : Hid (Below w.heap.size w w1) := Lib.hid ((Below.drew HW2.out).trans (hb1.mono HW2.out.size)); have HX3 := Lib.hid (HX.out.drew.below hb1 HX.out.lt); have HY3 := Lib.hid (HY.out.drew.below hb1 HY.out.lt); have g2 := HY3.out.frozen 2; have g4 := HY3.out.frozen 4; obtain ⟨A0, A1, A2, A3, A4⟩ := five_cells HX3.out; obtain ⟨C0, C1, C2, C3, C4⟩ := five_cells HY3.out; clear hb1 a0 a1 a2 a3 a4 c0 c1 c2 c3 c4 f2 f4))
  all_goals
    go_wp2
    go_ret
    exact ⟨rfl, HW3.out.setCell (Nat.le_succ _) _⟩
set_option maxRecDepth 100000 in
set_option maxHeartbeats 1000000 in
theorem plain4_n (n : Int) (s : ByteArray) (lA : Option Addr) (nl lc : Nat) (mA : Option Addr) (nm mc : Nat) (w : World) (hz : s.size ≤ 9223372036854775807) (ht : tabU w) (hv : Lib.validD s.data.toList = true) (hn : ¬ n = 0) : Calls Tryd.prog 52 #[.agg #[.int .i64 4, .int .i64 n, .string s, .slice lA nl lc, .slice mA nm mc]] w fun e w' => PF (RiP false w) e w' := by
  have HV := Lib.hid (fun V (hb : Below w.heap.size w V) => valid_any s V (ht.below hb) hz)
  rw [hv] at HV
  clear hv ht
  have q1 : (n == 0) = false := by rw [beq_eq_false_iff_ne]; exact hn
  clear hn
  obtain ⟨W2, hW2⟩ : ∃ W, W = (w.alloc (.cells #[.int .i64 4, .int .i64 n, .string s, .slice lA nl lc, .slice mA nm mc] 25)).alloc (.cells #[.int .i64 4, .int .i64 0, .string ⟨#[]⟩, .slice none 0 0, .slice none 0 0] 25) := ⟨_, rfl⟩
  have HW2 : Hid (Below w.heap.size w W2) := Lib.hid (by rw [hW2]; exact below_al _ (below_new _ _))
  have HX : Hid (Blk W2 w.heap.size 25 #[.int .i64 4, .int .i64 n, .string s, .slice lA nl lc, .slice mA nm mc]) := Lib.hid (by rw [hW2]; exact blk_new2)
  have HY : Hid (Blk W2 (w.heap.size + 1) 25 #[.int .i64 4, .int .i64 0, .string ⟨#[]⟩, .slice none 0 0, .slice none 0 0]) := Lib.hid (by rw [hW2]; have := Blk.new (w.alloc (.cells #[.int .i64 4, .int .i64 n, .string s, .slice lA nl lc, .slice mA nm mc] 25)) 25 #[.int .i64 4, .int .i64 0, .string ⟨#[]⟩, .slice none 0 0, .slice none 0 0]; simpa using this)
  obtain ⟨a0, a1, a2, a3, a4⟩ := five_cells HX.out
  obtain ⟨c0, c1, c2, c3, c4⟩ := five_cells HY.out
  have f2 := HY.out.frozen 2
  have f4 := HY.out.frozen 4
  go_enter Tryd.func52, Tryd.ntmps52
  go_wp2_with fail
  rw [← hW2]
  clear hW2
  go_region_with ((go_at_call 67; refine (HV.out _ (Below.drew HW2.out)).mono ?_; rintro e w1 ⟨rfl, hb1⟩; have HW3 : Hid (Below w.heap.size w w1) := Lib.hid ((Below.drew HW2.out).trans (hb1.mono HW2.out.size)); have HX3 := Lib.hid (HX.out.drew.below hb1 HX.out.lt); have HY3 := Lib.hid (HY.out.drew.below hb1 HY.out.lt); have g2 := HY3.out.frozen 2; have g4 := HY3.out.frozen 4; obtain ⟨A0, A1, A2, A3, A4⟩ := five_cells HX3.out; obtain ⟨C0, C1, C2, C3, C4⟩ := five_cells HY3.out; clear hb1 a0 a1 a2 a3 a4 c0 c1 c2 c3 c4 f2 f4))
  all_goals
    go_wp2
    go_ret
    exact ⟨rfl, HW3.out.setCell (Nat.le_succ _) _⟩
set_option maxRecDepth 100000 in
set_option maxHeartbeats 1000000 in
theorem plain4_l (s : ByteArray) (lA : Option Addr) (nl lc : Nat) (mA : Option Addr) (nm mc : Nat) (w : World) (hz : s.size ≤ 9223372036854775807) (ht : tabU w) (hv : Lib.validD s.data.toList = true) (hl : ¬ nl = 0) : Calls Tryd.prog 52 #[.agg #[.int .i64 4, .int .i64 0, .string s, .slice lA nl lc, .slice mA nm mc]] w fun e w' => PF (RiP false w) e w' := by
  have HV := Lib.hid (fun V (hb : Below w.heap.size w V) => valid_any s V (ht.below hb) hz)
  rw [hv] at HV
  clear hv ht
  have q3 : ((nl : Int) == 0) = false := by rw [beq_eq_false_iff_ne]; omega
  obtain ⟨W2, hW2⟩ : ∃ W, W = (w.alloc (.cells #[.int .i64 4, .int .i64 0, .string s, .slice lA nl lc, .slice mA nm mc] 25)).alloc (.cells #[.int .i64 4, .int .i64 0, .string ⟨#[]⟩, .slice none 0 0, .slice none 0 0] 25) := ⟨_, rfl⟩
  have HW2 : Hid (Below w.heap.size w W2) := Lib.hid (by rw [hW2]; exact below_al _ (below_new _ _))
  have HX : Hid (Blk W2 w.heap.size 25 #[.int .i64 4, .int .i64 0, .string s, .slice lA nl lc, .slice mA nm mc]) := Lib.hid (by rw [hW2]; exact blk_new2)
  have HY : Hid (Blk W2 (w.heap.size + 1) 25 #[.int .i64 4, .int .i64 0, .string ⟨#[]⟩, .slice none 0 0, .slice none 0 0]) := Lib.hid (by rw [hW2]; have := Blk.new (w.alloc (.cells #[.int .i64 4, .int .i64 0, .string s, .slice lA nl lc, .slice mA nm mc] 25)) 25 #[.int .i64 4, .int .i64 0, .string ⟨#[]⟩, .slice none 0 0, .slice none 0 0]; simpa using this)
  obtain ⟨a0, a1, a2, a3, a4⟩ := five_cells HX.out
  obtain ⟨c0, c1, c2, c3, c4⟩ := five_cells HY.out
  have f2 := HY.out.frozen 2
  have f4 := HY.out.frozen 4
  go_enter Tryd.func52, Tryd.ntmps52
  go_wp2_with fail
  rw [← hW2]
  clear hW2
  go_region_with ((go_at_call 67; refine (HV.out _ (Below.drew HW2.out)).mono ?_; rintro e w1 ⟨rfl, hb1⟩; have HW3 : Hid (Below w.heap.size w w1) := Lib.hid ((Below.drew HW2.out).trans (hb1.mono HW2.out.size)); have HX3 := Lib.hid (HX.out.drew.below hb1 HX.out.lt); have HY3 := Lib.hid (HY.out.drew.below hb1 HY.out.lt); have g2 := HY3.out.frozen 2; have g4 := HY3.out.frozen 4; obtain ⟨A0, A1, A2, A3, A4⟩ := five_cells HX3.out; obtain ⟨C0, C1, C2, C3, C4⟩ := five_cells HY3.out; clear hb1 a0 a1 a2 a3 a4 c0 c1 c2 c3 c4 f2 f4))
  all_goals
    go_wp2
    go_ret
    exact ⟨rfl, HW3.out.setCell (Nat.le_succ _) _⟩
set_option maxRecDepth 100000 in
set_option maxHeartbeats 1000000 in
theorem plain4_m (s : ByteArray) (lA : Option Addr) (lc : Nat) (mA : Option Addr) (nm mc : Nat) (w : World) (hz : s.size ≤ 9223372036854775807) (ht : tabU w) (hv : Lib.validD s.data.toList = true) (hm : ¬ nm = 0) : Calls Tryd.prog 52 #[.agg #[.int .i64 4, .int .i64 0, .string s, .slice lA 0 lc, .slice mA nm mc]] w fun e w' => PF (RiP false w) e w' := by
  have HV := Lib.hid (fun V (hb : Below w.heap.size w V) => valid_any s V (ht.below hb) hz)
  rw [hv] at HV
  clear hv ht
  have q4 : ((nm : Int) == 0) = false := by rw [beq_eq_false_iff_ne]; omega
  obtain ⟨W2, hW2⟩ : ∃ W, W = (w.alloc (.cells #[.int .i64 4, .int .i64 0, .string s, .slice lA 0 lc, .slice mA nm mc] 25)).alloc (.cells #[.int .i64 4, .int .i64 0, .string ⟨#[]⟩, .slice none 0 0, .slice none 0 0] 25) := ⟨_, rfl⟩
  have HW2 : Hid (Below w.heap.size w W2) := Lib.hid (by rw [hW2]; exact below_al _ (below_new _ _))
  have HX : Hid (Blk W2 w.heap.size 25 #[.int .i64 4, .int .i64 0, .string s, .slice lA 0 lc, .slice mA nm mc]) := Lib.hid (by rw [hW2]; exact blk_new2)
  have HY : Hid (Blk W2 (w.heap.size + 1) 25 #[.int .i64 4, .int .i64 0, .string ⟨#[]⟩, .slice none 0 0, .slice none 0 0]) := Lib.hid (by rw [hW2]; have := Blk.new (w.alloc (.cells #[.int .i64 4, .int .i64 0, .string s, .slice lA 0 lc, .slice mA nm mc] 25)) 25 #[.int .i64 4, .int .i64 0, .string ⟨#[]⟩, .slice none 0 0, .slice none 0 0]; simpa using this)
  obtain ⟨a0, a1, a2, a3, a4⟩ := five_cells HX.out
  obtain ⟨c0, c1, c2, c3, c4⟩ := five_cells HY.out
  have f2 := HY.out.frozen 2
  have f4 := HY.out.frozen 4
  go_enter Tryd.func52, Tryd.ntmps52
  go_wp2_with fail
  rw [← hW2]
  clear hW2
  go_region_with ((go_at_call 67; refine (HV.out _ (Below.drew HW2.out)).mono ?_; rintro e w1 ⟨rfl, hb1⟩; have HW3 : Hid (Below w.heap.size w w1) := Lib.hid ((Below.drew HW2.out).trans (hb1.mono HW2.out.size)); have HX3 := Lib.hid (HX.out.drew.below hb1 HX.out.lt); have HY3 := Lib.hid (HY.out.drew.below hb1 HY.out.lt); have g2 := HY3.out.frozen 2; have g4 := HY3.out.frozen 4; obtain ⟨A0, A1, A2, A3, A4⟩ := five_cells HX3.out; obtain ⟨C0, C1, C2, C3, C4⟩ := five_cells HY3.out; clear hb1 a0 a1 a2 a3 a4 c0 c1 c2 c3 c4 f2 f4))
  all_goals
    go_wp2
    go_ret
    exact ⟨rfl, HW3.out.setCell (Nat.le_succ _) _⟩
set_option maxRecDepth 100000 in
set_option maxHeartbeats 1000000 in
theorem plain4_ok (s : ByteArray) (lA : Option Addr) (lc : Nat) (mA : Option Addr) (mc : Nat) (w : World) (hz : s.size ≤ 9223372036854775807) (ht : tabU w) (hv : Lib.validD s.data.toList = true) : Calls Tryd.prog 52 #[.agg #[.int .i64 4, .int .i64 0, .string s, .slice lA 0 lc, .slice mA 0 mc]] w fun e w' => PF (RiP true w) e w' := by
  have HV := Lib.hid (fun V (hb : Below w.heap.size w V) => valid_any s V (ht.below hb) hz)
  rw [hv] at HV
  clear hv ht
  obtain ⟨W2, hW2⟩ : ∃ W, W = (w.alloc (.cells #[.int .i64 4, .int .i64 0, .string s, .slice lA 0 lc, .slice mA 0 mc] 25)).alloc (.cells #[.int .i64 4, .int .i64 0, .string ⟨#[]⟩, .slice none 0 0, .slice none 0 0] 25) := ⟨_, rfl⟩
  have HW2 : Hid (Below w.heap.size w W2) := Lib.hid (by rw [hW2]; exact below_al _ (below_new _ _))
  have HX : Hid (Blk W2 w.heap.size 25 #[.int .i64 4, .int .i64 0, .string s, .slice lA 0 lc, .slice mA 0 mc]) := Lib.hid (by rw [hW2]; exact blk_new2)
  have HY : Hid (Blk W2 (w.heap.size + 1) 25 #[.int .i64 4, .int .i64 0, .string ⟨#[]⟩, .slice none 0 0, .slice none 0 0]) := Lib.hid (by rw [hW2]; have := Blk.new (w.alloc (.cells #[.int .i64 4, .int .i64 0, .string s, .slice lA 0 lc, .slice mA 0 mc] 25)) 25 #[.int .i64 4, .int .i64 0, .string ⟨#[]⟩, .slice none 0 0, .slice none 0 0]; simpa using this)
  obtain ⟨a0, a1, a2, a3, a4⟩ := five_cells HX.out
  obtain ⟨c0, c1, c2, c3, c4⟩ := five_cells HY.out
  have f2 := HY.out.frozen 2
  have f4 := HY.out.frozen 4
  go_enter Tryd.func52, Tryd.ntmps52
  go_wp2_with fail
  rw [← hW2]
  clear hW2
  go_region_with ((go_at_call 67; refine (HV.out _ (Below.drew HW2.out)).mono ?_; rintro e w1 ⟨rfl, hb1⟩; have HW3 : Hid (Below w.heap.size w w1) := Lib.hid ((Below.drew HW2.out).trans (hb1.mono HW2.out.size)); have HX3 := Lib.hid (HX.out.drew.below hb1 HX.out.lt); have HY3 := Lib.hid (HY.out.drew.below hb1 HY.out.lt); have g2 := HY3.out.frozen 2; have g4 := HY3.out.frozen 4; obtain ⟨A0, A1, A2, A3, A4⟩ := five_cells HX3.out; obtain ⟨C0, C1, C2, C3, C4⟩ := five_cells HY3.out; clear hb1 a0 a1 a2 a3 a4 c0 c1 c2 c3 c4 f2 f4))
  all_goals
    go_wp2
    go_ret
    exact ⟨rfl, HW3.out.setCell (Nat.le_succ _) _⟩
set_option maxRecDepth 100000 in
set_option maxHeartbeats 1000000 in
theorem plain5_n (n : Int) (s : ByteArray) (lA : Option Addr) (nl lc : Nat) (mA : Option Addr) (nm mc : Nat) (w : World) (hn : ¬ n = 0) : Calls Tryd.prog 52 #[.agg #[.int .i64 5, .int .i64 n, .string s, .slice lA nl lc, .slice mA nm mc]] w fun e w' => PF (RiP false w) e w' := by
  have q1 : (n == 0) = false := by rw [beq_eq_false_iff_ne]; exact hn
  clear hn
  go_enter Tryd.func52, Tryd.ntmps52
  go_wp2
  go_ret
  exact ⟨rfl, below_al _ (below_new _ _)⟩
set_option maxRecDepth 100000 in
set_option maxHeartbeats 1000000 in
theorem plain5_s (s : ByteArray) (lA : Option Addr) (nl lc : Nat) (mA : Option Addr) (nm mc : Nat) (w : World) (hs : ¬ s.size = 0) : Calls Tryd.prog 52 #[.agg #[.int .i64 5, .int .i64 0, .string s, .slice lA nl lc, .slice mA nm mc]] w fun e w' => PF (RiP false w) e w' := by
  have hs1 := sz_ne hs
  have hs2 : (s.toList == []) = false := by rw [beq_eq_false_iff_ne]; exact hs1
  clear hs
  go_enter Tryd.func52, Tryd.ntmps52
  go_wp2
  go_ret
  exact ⟨rfl, below_al _ (below_new _ _)⟩
set_option maxRecDepth 100000 in
set_option maxHeartbeats 1000000 in
theorem plain5_m (lA : Option Addr) (nl lc : Nat) (mA : Option Addr) (nm mc : Nat) (w : World) (hm : ¬ nm = 0) : Calls Tryd.prog 52 #[.agg #[.int .i64 5, .int .i64 0, .string ⟨#[]⟩, .slice lA nl lc, .slice mA nm mc]] w fun e w' => PF (RiP false w) e w' := by
  have q4 : ((nm : Int) == 0) = false := by rw [beq_eq_false_iff_ne]; omega
  go_enter Tryd.func52, Tryd.ntmps52
  go_wp2
  go_ret
  exact ⟨rfl, below_al _ (below_new _ _)⟩
set_option maxRecDepth 100000 in
set_option maxHeartbeats 1000000 in
theorem plain5_ok (lA : Option Addr) (nl lc : Nat) (mA : Option Addr) (mc : Nat) (w : World) : Calls Tryd.prog 52 #[.agg #[.int .i64 5, .int .i64 0, .string ⟨#[]⟩, .slice lA nl lc, .slice mA 0 mc]] w fun e w' => PF (RiP true w) e w' := by
  go_enter Tryd.func52, Tryd.ntmps52
  go_wp2
  go_ret
  exact ⟨rfl, below_al _ (below_new _ _)⟩
set_option maxRecDepth 100000 in
set_option maxHeartbeats 1000000 in
theorem plain6_k (n : Int) (s : ByteArray) (lA : Option Addr) (nl lc : Nat) (mA : Option Addr) (nm mc : Nat) (w : World) (hV : ∀ V, Below w.heap.size w V → Calls Tryd.prog 68 #[.slice mA nm mc] V fun e w' => PF (KeP false V) e w') : Calls Tryd.prog 52 #[.agg #[.int .i64 6, .int .i64 n, .string s, .slice lA nl lc, .slice mA nm mc]] w fun e w' => PF (RiP false w) e w' := by
  have HV := Lib.hid hV
  clear hV
  obtain ⟨W2, hW2⟩ : ∃ W, W = (w.alloc (.cells #[.int .i64 6, .int .i64 n, .string s, .slice lA nl lc, .slice mA nm mc] 25)).alloc (.cells #[.int .i64 6, .int .i64 0, .string ⟨#[]⟩, .slice none 0 0, .slice none 0 0] 25) := ⟨_, rfl⟩
  have HW2 : Hid (Below w.heap.size w W2) := Lib.hid (by rw [hW2]; exact below_al _ (below_new _ _))
  have HX : Hid (Blk W2 w.heap.size 25 #[.int .i64 6, .int .i64 n, .string s, .slice lA nl lc, .slice mA nm mc]) := Lib.hid (by rw [hW2]; exact blk_new2)
  have HY : Hid (Blk W2 (w.heap.size + 1) 25 #[.int .i64 6, .int .i64 0, .string ⟨#[]⟩, .slice none 0 0, .slice none 0 0]) := Lib.hid (by rw [hW2]; have := Blk.new (w.alloc (.cells #[.int .i64 6, .int .i64 n, .string s, .slice lA nl lc, .slice mA nm mc] 25)) 25 #[.int .i64 6, .int .i64 0, .string ⟨#[]⟩, .slice none 0 0, .slice none 0 0]; simpa using this)
  obtain ⟨a0, a1, a2, a3, a4⟩ := five_cells HX.out
  obtain ⟨c0, c1, c2, c3, c4⟩ := five_cells HY.out
  have f2 := HY.out.frozen 2
  have f4 := HY.out.frozen 4
  go_enter Tryd.func52, Tryd.ntmps52
  go_wp2_with fail
  rw [← hW2]
  clear hW2
  go_region_with ((go_at_call 68; refine (HV.out _ (Below.drew HW2.out)).mono ?_; rintro e w1 ⟨rfl, hb1⟩; have HW3 : Hid (Below w.heap.size w w1) := Lib.hid ((Below.drew HW2.out).trans (hb1.mono HW2.out.size)); have HX3 := Lib.hid (HX.out.drew.below hb1 HX.out.lt); have HY3 := Lib.hid (HY.out.drew.below hb1 HY.out.lt); have g2 := HY3.out.frozen 2; have g4 := HY3.out.frozen 4; obtain ⟨A0, A1, A2, A3, A4⟩ := five_cells HX3.out; obtain ⟨C0, C1, C2, C3, C4⟩ := five_cells HY3.out; clear hb1 a0 a1 a2 a3 a4 c0 c1 c2 c3 c4 f2 f4))
  all_goals
    go_wp2
    go_ret
    exact ⟨rfl, HW3.out.setCell (Nat.le_succ _) _⟩
set_option maxRecDepth 100000 in
set_option maxHeartbeats 1000000 in
theorem plain6_n (n : Int) (s : ByteArray) (lA : Option Addr) (nl lc : Nat) (mA : Option Addr) (nm mc : Nat) (w : World) (hV : ∀ V, Below w.heap.size w V → Calls Tryd.prog 68 #[.slice mA nm mc] V fun e w' => PF (KeP true V) e w') (hn : ¬ n = 0) : Calls Tryd.prog 52 #[.agg #[.int .i64 6, .int .i64 n, .string s, .slice lA nl lc, .slice mA nm mc]] w fun e w' => PF (RiP false w) e w' := by
  have HV := Lib.hid hV
  clear hV
  have q1 : (n == 0) = false := by rw [beq_eq_false_iff_ne]; exact hn
  clear hn
  obtain ⟨W2, hW2⟩ : ∃ W, W = (w.alloc (.cells #[.int .i64 6, .int .i64 n, .string s, .slice lA nl lc, .slice mA nm mc] 25)).alloc (.cells #[.int .i64 6, .int .i64 0, .string ⟨#[]⟩, .slice none 0 0, .slice none 0 0] 25) := ⟨_, rfl⟩
  have HW2 : Hid (Below w.heap.size w W2) := Lib.hid (by rw [hW2]; exact below_al _ (below_new _ _))
  have HX : Hid (Blk W2 w.heap.size 25 #[.int .i64 6, .int .i64 n, .string s, .slice lA nl lc, .slice mA nm mc]) := Lib.hid (by rw [hW2]; exact blk_new2)
  have HY : Hid (Blk W2 (w.heap.size + 1) 25 #[.int .i64 6, .int .i64 0, .string ⟨#[]⟩, .slice none 0 0, .slice none 0 0]) := Lib.hid (by rw [hW2]; have := Blk.new (w.alloc (.cells #[.int .i64 6, .int .i64 n, .string s, .slice lA nl lc, .slice mA nm mc] 25)) 25 #[.int .i64 6, .int .i64 0, .string ⟨#[]⟩, .slice none 0 0, .slice none 0 0]; simpa using this)
  obtain ⟨a0, a1, a2, a3, a4⟩ := five_cells HX.out
  obtain ⟨c0, c1, c2, c3, c4⟩ := five_cells HY.out
  have f2 := HY.out.frozen 2
  have f4 := HY.out.frozen 4
  go_enter Tryd.func52, Tryd.ntmps52
  go_wp2_with fail
  rw [← hW2]
  clear hW2
  go_region_with ((go_at_call 68; refine (HV.out _ (Below.drew HW2.out)).mono ?_; rintro e w1 ⟨rfl, hb1⟩; have HW3 : Hid (Below w.heap.size w w1) := Lib.hid ((Below.drew HW2.out).trans (hb1.mono HW2.out.size)); have HX3 := Lib.hid (HX.out.drew.below hb1 HX.out.lt); have HY3 := Lib.hid (HY.out.drew.below hb1 HY.out.lt); have g2 := HY3.out.frozen 2; have g4 := HY3.out.frozen 4; obtain ⟨A0, A1, A2, A3, A4⟩ := five_cells HX3.out; obtain ⟨C0, C1, C2, C3, C4⟩ := five_cells HY3.out; clear hb1 a0 a1 a2 a3 a4 c0 c1 c2 c3 c4 f2 f4))
  all_goals
    go_wp2
    go_ret
    exact ⟨rfl, HW3.out.setCell (Nat.le_succ _) _⟩
set_option maxRecDepth 100000 in
set_option maxHeartbeats 1000000 in
theorem plain6_s (s : ByteArray) (lA : Option Addr) (nl lc : Nat) (mA : Option Addr) (nm mc : Nat) (w : World) (hV : ∀ V, Below w.heap.size w V → Calls Tryd.prog 68 #[.slice mA nm mc] V fun e w' => PF (KeP true V) e w') (hs : ¬ s.size = 0) : Calls Tryd.prog 52 #[.agg #[.int .i64 6, .int .i64 0, .string s, .slice lA nl lc, .slice mA nm mc]] w fun e w' => PF (RiP false w) e w' := by
  have HV := Lib.hid hV
  clear hV
  have hs1 := sz_ne hs
  have hs2 : (s.toList == []) = false := by rw [beq_eq_false_iff_ne]; exact hs1
  clear hs
  obtain ⟨W2, hW2⟩ : ∃ W, W = (w.alloc (.cells #[.int .i64 6, .int .i64 0, .string s, .slice lA nl lc, .slice mA nm mc] 25)).alloc (.cells #[.int .i64 6, .int .i64 0, .string ⟨#[]⟩, .slice none 0 0, .slice none 0 0] 25) := ⟨_, rfl⟩
  have HW2 : Hid (Below w.heap.size w W2) := Lib.hid (by rw [hW2]; exact below_al _ (below_new _ _))
  have HX : Hid (Blk W2 w.heap.size 25 #[.int .i64 6, .int .i64 0, .string s, .slice lA nl lc, .slice mA nm mc]) := Lib.hid (by rw [hW2]; exact blk_new2)
  have HY : Hid (Blk W2 (w.heap.size + 1) 25 #[.int .i64 6, .int .i64 0, .string ⟨#[]⟩, .slice none 0 0, .slice none 0 0]) := Lib.hid (by rw [hW2]; have := Blk.new (w.alloc (.cells #[.int .i64 6, .int .i64 0, .string s, .slice lA nl lc, .slice mA nm mc] 25)) 25 #[.int .i64 6, .int .i64 0, .string ⟨#[]⟩, .slice none 0 0, .slice none 0 0]; simpa using this)
  obtain ⟨a0, a1, a2, a3, a4⟩ := five_cells HX.out
  obtain ⟨c0, c1, c2, c3, c4⟩ := five_cells HY.out
  have f2 := HY.out.frozen 2
  have f4 := HY.out.frozen 4
  go_enter Tryd.func52, Tryd.ntmps52
  go_wp2_with fail
  rw [← hW2]
  clear hW2
  go_region_with ((go_at_call 68; refine (HV.out _ (Below.drew HW2.out)).mono ?_; rintro e w1 ⟨rfl, hb1⟩; have HW3 : Hid (Below w.heap.size w w1) := Lib.hid ((Below.drew HW2.out).trans (hb1.mono HW2.out.size)); have HX3 := Lib.hid (HX.out.drew.below hb1 HX.out.lt); have HY3 := Lib.hid (HY.out.drew.below hb1 HY.out.lt); have g2 := HY3.out.frozen 2; have g4 := HY3.out.frozen 4; obtain ⟨A0, A1, A2, A3, A4⟩ := five_cells HX3.out; obtain ⟨C0, C1, C2, C3, C4⟩ := five_cells HY3.out; clear hb1 a0 a1 a2 a3 a4 c0 c1 c2 c3 c4 f2 f4))
  all_goals
    go_wp2
    go_ret
    exact ⟨rfl, HW3.out.setCell (Nat.le_succ _) _⟩
set_option maxRecDepth 100000 in
set_option maxHeartbeats 1000000 in
theorem plain6_l (lA : Option Addr) (nl lc : Nat) (mA : Option Addr) (nm mc : Nat) (w : World) (hV : ∀ V, Below w.heap.size w V → Calls Tryd.prog 68 #[.slice mA nm mc] V fun e w' => PF (KeP true V) e w') (hl : ¬ nl = 0) : Calls Tryd.prog 52 #[.agg #[.int .i64 6, .int .i64 0, .string ⟨#[]⟩, .slice lA nl lc, .slice mA nm mc]] w fun e w' => PF (RiP false w) e w' := by
  have HV := Lib.hid hV
  clear hV
  have q3 : ((nl : Int) == 0) = false := by rw [beq_eq_false_iff_ne]; omega
  obtain ⟨W2, hW2⟩ : ∃ W, W = (w.alloc (.cells #[.int .i64 6, .int .i64 0, .string ⟨#[]⟩, .slice lA nl lc, .slice mA nm mc] 25)).alloc (.cells #[.int .i64 6, .int .i64 0, .string ⟨#[]⟩, .slice none 0 0, .slice none 0 0] 25) := ⟨_, rfl⟩
  have HW2 : Hid (Below w.heap.size w W2) := Lib.hid (by rw [hW2]; exact below_al _ (below_new _ _))
  have HX : Hid (Blk W2 w.heap.size 25 #[.int .i64 6, .int .i64 0, .string ⟨#[]⟩, .slice lA nl lc, .slice mA nm mc]) := Lib.hid (by rw [hW2]; exact blk_new2)
  have HY : Hid (Blk W2 (w.heap.size + 1) 25 #[.int .i64 6, .int .i64 0, .string ⟨#[]⟩, .slice none 0 0, .slice none 0 0]) := Lib.hid (by rw [hW2]; have := Blk.new (w.alloc (.cells #[.int .i64 6, .int .i64 0, .string ⟨#[]⟩, .slice lA nl lc, .slice mA nm mc] 25)) 25 #[.int .i64 6, .int .i64 0, .string ⟨#[]⟩, .slice none 0 0, .slice none 0 0]; simpa using this)
  obtain ⟨a0, a1, a2, a3, a4⟩ := five_cells HX.out
  obtain ⟨c0, c1, c2, c3, c4⟩ := five_cells HY.out
  have f2 := HY.out.frozen 2
  have f4 := HY.out.frozen 4
  go_enter Tryd.func52, Tryd.ntmps52
  go_wp2_with fail
  rw [← hW2]
  clear hW2
  go_region_with ((go_at_call 68; refine (HV.out _ (Below.drew HW2.out)).mono ?_; rintro e w1 ⟨rfl, hb1⟩; have HW3 : Hid (Below w.heap.size w w1) := Lib.hid ((Below.drew HW2.out).trans (hb1.mono HW2.out.size)); have HX3 := Lib.hid (HX.out.drew.below hb1 HX.out.lt); have HY3 := Lib.hid (HY.out.drew.below hb1 HY.out.lt); have g2 := HY3.out.frozen 2; have g4 := HY3.out.frozen 4; obtain ⟨A0, A1, A2, A3, A4⟩ := five_cells HX3.out; obtain ⟨C0, C1, C2, C3, C4⟩ := five_cells HY3.out; clear hb1 a0 a1 a2 a3 a4 c0 c1 c2 c3 c4 f2 f4))
  all_goals
    go_wp2
    go_ret
    exact ⟨rfl, HW3.out.setCell (Nat.le_succ _) _⟩
set_option maxRecDepth 100000 in
set_option maxHeartbeats 1000000 in
theorem plain6_ok (lA : Option Addr) (lc : Nat) (mA : Option Addr) (nm mc : Nat) (w : World) (hV : ∀ V, Below w.heap.size w V → Calls Tryd.prog 68 #[.slice mA nm mc] V fun e w' => PF (KeP true V) e w') : Calls Tryd.prog 52 #[.agg #[.int .i64 6, .int .i64 0, .string ⟨#[]⟩, .slice lA 0 lc, .slice mA nm mc]] w fun e w' => PF (RiP true w) e w' := by
  have HV := Lib.hid hV
  clear hV
  obtain ⟨W2, hW2⟩ : ∃ W, W = (w.alloc (.cells #[.int .i64 6, .int .i64 0, .string ⟨#[]⟩, .slice lA 0 lc, .slice mA nm mc] 25)).alloc (.cells #[.int .i64 6, .int .i64 0, .string ⟨#[]⟩, .slice none 0 0, .slice none 0 0] 25) := ⟨_, rfl⟩
  have HW2 : Hid (Below w.heap.size w W2) := Lib.hid (by rw [hW2]; exact below_al _ (below_new _ _))
  have HX : Hid (Blk W2 w.heap.size 25 #[.int .i64 6, .int .i64 0, .string ⟨#[]⟩, .slice lA 0 lc, .slice mA nm mc]) := Lib.hid (by rw [hW2]; exact blk_new2)
  have HY : Hid (Blk W2 (w.heap.size + 1) 25 #[.int .i64 6, .int .i64 0, .string ⟨#[]⟩, .slice none 0 0, .slice none 0 0]) := Lib.hid (by rw [hW2]; have := Blk.new (w.alloc (.cells #[.int .i64 6, .int .i64 0, .string ⟨#[]⟩, .slice lA 0 lc, .slice mA nm mc] 25)) 25 #[.int .i64 6, .int .i64 0, .string ⟨#[]⟩, .slice none 0 0, .slice none 0 0]; simpa using this)
  obtain ⟨a0, a1, a2, a3, a4⟩ := five_cells HX.out
  obtain ⟨c0, c1, c2, c3, c4⟩ := five_cells HY.out
  have f2 := HY.out.frozen 2
  have f4 := HY.out.frozen 4
  go_enter Tryd.func52, Tryd.ntmps52
  go_wp2_with fail
  rw [← hW2]
  clear hW2
  go_region_with ((go_at_call 68; refine (HV.out _ (Below.drew HW2.out)).mono ?_; rintro e w1 ⟨rfl, hb1⟩; have HW3 : Hid (Below w.heap.size w w1) := Lib.hid ((Below.drew HW2.out).trans (hb1.mono HW2.out.size)); have HX3 := Lib.hid (HX.out.drew.below hb1 HX.out.lt); have HY3 := Lib.hid (HY.out.drew.below hb1 HY.out.lt); have g2 := HY3.out.frozen 2; have g4 := HY3.out.frozen 4; obtain ⟨A0, A1, A2, A3, A4⟩ := five_cells HX3.out; obtain ⟨C0, C1, C2, C3, C4⟩ := five_cells HY3.out; clear hb1 a0 a1 a2 a3 a4 c0 c1 c2 c3 c4 f2 f4))
  all_goals
    go_wp2
    go_ret
    exact ⟨rfl, HW3.out.setCell (Nat.le_succ _) _⟩
set_option maxRecDepth 100000 in
set_option maxHeartbeats 1000000 in
theorem plain0 (k : Int) (n : Int) (s : ByteArray) (lA : Option Addr) (nl lc : Nat) (mA : Option Addr) (nm mc : Nat) (w : World) (hk : k < 1 ∨ 6 < k) : Calls Tryd.prog 52 #[.agg #[.int .i64 k, .int .i64 n, .string s, .slice lA nl lc, .slice mA nm mc]] w fun e w' => PF (RiP false w) e w' := by
  have p1 : (k == 1) = false := by rw [beq_eq_false_iff_ne]; omega
  have p2 : (k == 2) = false := by rw [beq_eq_false_iff_ne]; omega
  have p3 : (k == 3) = false := by rw [beq_eq_false_iff_ne]; omega
  have p4 : (k == 4) = false := by rw [beq_eq_false_iff_ne]; omega
  have p5 : (k == 5) = false := by rw [beq_eq_false_iff_ne]; omega
  have p6 : (k == 6) = false := by rw [beq_eq_false_iff_ne]; omega
  clear hk
  go_enter Tryd.func52, Tryd.ntmps52
  go_wp2
  go_ret
  exact ⟨rfl, below_al _ (below_new _ _)⟩
end Go.Proofs.YteodigdcdhceiaaDoor
