/-
  Patterns and prefixes of any size: what is too long matches nothing.
-/
import Derived.Test.YthidjdjcjjbpbaaGreatDoorSeIx
import Derived.Test.YthidjdjcjjbpbaaGreatDoorGR
namespace Go.Proofs.YthidjdjcjjbpbaaGreatDoor
open Go.RowKit Sea Glob
set_option linter.unusedVariables false
set_option linter.unusedSimpArgs false

theorem plainL_big {t s : List UInt8} (h : 128 < s.length) : plainL t s = false := by
  cases hp : plainL t s with
  | false => rfl
  | true => have := plainL_len t s hp; omega
theorem patL_big {s : List UInt8} (h : 128 < s.length) : patL s = false := by unfold patL; rw [plainL_big h]; rfl
theorem matchL_big {p s : List UInt8} (h : 128 < p.length) : matchL p s = false := by unfold matchL; rw [patL_big h]; rfl
theorem prefixL_big {s : List UInt8} (h : 64 < s.length) : prefixL s = false := by unfold prefixL; rw [decide_eq_false (by omega)]; simp
theorem underL_big {p s : List UInt8} (h : 64 < p.length) : underL p s = false := by unfold underL; rw [prefixL_big h]; rfl
theorem size_list (s : ByteArray) : s.data.toList.length = s.size := by cases s; simp [ByteArray.size]
set_option maxHeartbeats 1000000 in
theorem pattern_big (s : ByteArray) (w : World) (hs : s.size ≤ 140737488351232) (hbig : 128 < s.size) : Calls Tryz.prog 81 #[.string s] w fun e w' => e = .returned (.bool false) ∧ Below w.heap.size w w' := by
  have hp := plain_any s ⟨#[91, 93, 123, 125, 92]⟩ w (by omega) (by decide)
  rw [plainL_big (by rw [size_list]; exact hbig)] at hp
  have HP := Lib.hid hp
  clear hp hs hbig
  go_enter Tryz.func81, Tryz.ntmps81
  go_wp2_with fail
  refine HP.out.mono ?_
  rintro e w' ⟨rfl, pos, rfl⟩
  go_wp2
  go_ret
  exact ⟨rfl, below_iter' _ _ _⟩
theorem match_all (p s : ByteArray) (w : World) (hp : p.size ≤ 140737488351232) (hs : s.size ≤ 100000) (hT : Tab w) : Calls Tryz.prog 70 #[.string p, .string s] w fun e w' => e = .returned (.bool (matchL p.data.toList s.data.toList)) ∧ Below w.heap.size w w' := by
  by_cases h : p.size ≤ 100000
  · exact match_any p s w h hs hT
  rw [matchL_big (by rw [size_list]; omega)]
  have HP := Lib.hid (pattern_big p w hp (by omega))
  clear hp h
  go_enter Tryz.func70, Tryz.ntmps70
  go_wp2_with fail
  refine HP.out.mono ?_
  rintro e w1 ⟨rfl, hb1⟩
  have HB := Lib.hid hb1
  clear hb1
  go_wp2
  go_ret
  exact ⟨rfl, HB.out⟩
set_option maxHeartbeats 1000000 in
theorem prefix_big (s : ByteArray) (w : World) (hbig : 64 < s.size) : Calls Tryz.prog 71 #[.string s] w fun e w' => e = .returned (.bool false) ∧ Below w.heap.size w w' := by
  have q1 : decide (s.size ≤ 64) = false := by rw [decide_eq_false_iff_not]; omega
  have q2 : decide ((s.size : Int) ≤ 64) = false := by rw [decide_eq_false_iff_not]; omega
  have q3 : (s.toList == []) = false := by
    rw [beq_eq_false_iff_ne]
    intro e
    have := congrArg List.length e
    rw [Lib.toList_data, size_list] at this
    have h3 : s.size = 0 := this
    omega
  clear hbig
  go_enter Tryz.func71, Tryz.ntmps71
  go_wp2
  go_ret
  exact ⟨rfl, Below.refl _ _⟩
theorem under_all (p s : ByteArray) (w : World) (hs : s.size ≤ 100000) (hT : Tab w) (hK : TabK w) : Calls Tryz.prog 61 #[.string p, .string s] w fun e w' => e = .returned (.bool (underL p.data.toList s.data.toList)) ∧ Below w.heap.size w w' := by
  by_cases h : p.size ≤ 100000
  · exact under_any p s w h hs hT hK
  rw [underL_big (by rw [size_list]; omega)]
  have HP := Lib.hid (prefix_big p w (by omega))
  clear h
  go_enter Tryz.func61, Tryz.ntmps61
  go_wp2_with fail
  refine HP.out.mono ?_
  rintro e w1 ⟨rfl, hb1⟩
  have HB := Lib.hid hb1
  clear hb1
  go_wp2
  go_ret
  exact ⟨rfl, HB.out⟩
set_option maxHeartbeats 1000000 in
theorem rpattern_big (s : ByteArray) (w : World) (hbig : 128 < s.size) : Calls Tryz.prog 50 #[.string s] w fun e w' => e = .returned (.bool false) ∧ Below w.heap.size w w' := by
  have hq : Calls Tryz.prog 32 #[.string s, .bool true] w fun e w' => e = .returned (.bool false) ∧ Below w.heap.size w w' := by
    have q1 : decide (s.size < 1) = false := by rw [decide_eq_false_iff_not]; omega
    have q2 : decide ((s.size : Int) < 1) = false := by rw [decide_eq_false_iff_not]; omega
    have q3 : decide (128 < s.size) = true := by rw [decide_eq_true_iff]; omega
    have q4 : decide ((128 : Int) < (s.size : Int)) = true := by rw [decide_eq_true_iff]; omega
    clear hbig
    go_enter Tryz.func32, Tryz.ntmps32
    go_wp2
    go_ret
    exact ⟨rfl, Below.refl _ _⟩
  have HQ := Lib.hid hq
  clear hq hbig
  go_enter Tryz.func50, Tryz.ntmps50
  go_wp2_with fail
  refine HQ.out.mono ?_
  rintro e w1 ⟨rfl, hb1⟩
  have HB := Lib.hid hb1
  clear hb1
  go_wp2
  go_ret
  exact ⟨rfl, HB.out⟩
theorem rmatch_all (p s : ByteArray) (w : World) (hs : s.size ≤ 100000) : Calls Tryz.prog 43 #[.string p, .string s] w fun e w' => e = .returned (.bool (matchL p.data.toList s.data.toList)) ∧ Below w.heap.size w w' := by
  by_cases h : p.size ≤ 100000
  · exact rmatch_any p s w h hs
  rw [matchL_big (by rw [size_list]; omega)]
  have HP := Lib.hid (rpattern_big p w (by omega))
  clear h
  go_enter Tryz.func43, Tryz.ntmps43
  go_wp2_with fail
  refine HP.out.mono ?_
  rintro e w1 ⟨rfl, hb1⟩
  have HB := Lib.hid hb1
  clear hb1
  go_wp2
  go_ret
  exact ⟨rfl, HB.out⟩
set_option maxHeartbeats 1000000 in
theorem runder_all (p s : ByteArray) (w : World) (hs : s.size ≤ 100000) : Calls Tryz.prog 44 #[.string p, .string s] w fun e w' => e = .returned (.bool (underL p.data.toList s.data.toList)) ∧ Below w.heap.size w w' := by
  by_cases h : p.size ≤ 100000
  · exact runder_any p s w h hs
  rw [underL_big (by rw [size_list]; omega)]
  have hq : Calls Tryz.prog 52 #[.string p] w fun e w' => e = .returned (.bool false) ∧ Below w.heap.size w w' := by
    have q1 : decide (p.size < 1) = false := by rw [decide_eq_false_iff_not]; omega
    have q2 : decide ((p.size : Int) < 1) = false := by rw [decide_eq_false_iff_not]; omega
    have q3 : decide (64 < p.size) = true := by rw [decide_eq_true_iff]; omega
    have q4 : decide ((64 : Int) < (p.size : Int)) = true := by rw [decide_eq_true_iff]; omega
    clear h
    go_enter Tryz.func52, Tryz.ntmps52
    go_wp2
    go_ret
    exact ⟨rfl, Below.refl _ _⟩
  have HQ := Lib.hid hq
  clear hq h
  go_enter Tryz.func44, Tryz.ntmps44
  go_wp2_with fail
  refine HQ.out.mono ?_
  rintro e w1 ⟨rfl, hb1⟩
  have HB := Lib.hid hb1
  clear hb1
  go_wp2
  go_ret
  exact ⟨rfl, HB.out⟩
end Go.Proofs.YthidjdjcjjbpbaaGreatDoor
