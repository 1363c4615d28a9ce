/-
  The walk of the law DueNobody.
-/
import Derived.Test.YtdhilhjiccpkkaaDueL1
import Derived.Test.YtdhilhjiccpkkaaDueQ7
namespace Go.Proofs.Ytdhilhjiccpkkaa
open Go.RowKit
set_option linter.unusedVariables false

set_option maxRecDepth 100000 in
set_option maxHeartbeats 2000000 in
theorem dueNobody_walk (k : Int) (s : ByteArray) (a : Int) (W : World) : Calls Try.prog 7 #[.agg #[.int .i64 k, .string s, .int .i64 a]] W fun e w' => e = .returned (.bool true) ∧ Below W.heap.size W w' := by
  obtain ⟨w1, hw1⟩ : ∃ w1, w1 = W.alloc (.cells #[.int .i64 k, .string s, .int .i64 a] 31) := ⟨_, rfl⟩
  have hb1 : Below W.heap.size W w1 := by rw [hw1]; exact (Below.refl _ _).alloc (Nat.le_refl _) _
  have hx1 : Blk w1 W.heap.size 31 #[.int .i64 k, .string s, .int .i64 a] := by rw [hw1]; exact Blk.new W 31 _
  have HB1 := Lib.hid hb1
  have HX1 := Lib.hid hx1
  have x0 := hx1.cell 0
  have x1 := hx1.cell 1
  have x2 := hx1.cell 2
  simp only [List.getElem?_toArray, List.getElem?_cons_zero, List.getElem?_cons_succ] at x0 x1 x2
  have HW1 : Hid (w1 = W.alloc (.cells #[.int .i64 k, .string s, .int .i64 a] 31)) := Lib.hid hw1
  clear hb1 hx1 hw1
  go_enter Try.func7, Try.ntmps7
  go_wp2_with fail
  rw [← HW1.out]
  refine (qget_nil _ _).mono ?_
  rintro e w1 ⟨rfl, rfl⟩
  go_wp2_with fail
  refine (qfirst_nil _).mono ?_
  rintro e w2 ⟨rfl, hb2⟩
  have HB2 := Lib.hid (HB1.out.trans (hb2.mono HB1.out.size))
  have HX2 := Lib.hid (HX1.out.below hb2 HX1.out.lt)
  clear hb2 x0 x1 x2
  obtain ⟨w3, hw3⟩ : ∃ w3, w3 = w2.alloc (.cells #[.string ⟨#[]⟩, .int .i64 0] 44) := ⟨_, rfl⟩
  have hb3 : Below w2.heap.size w2 w3 := by rw [hw3]; exact (Below.refl _ _).alloc (Nat.le_refl _) _
  have hy3 : Blk w3 w2.heap.size 44 #[.string ⟨#[]⟩, .int .i64 0] := by rw [hw3]; exact Blk.new w2 44 _
  have HB3 := Lib.hid (HB2.out.trans (hb3.mono HB2.out.size))
  have HX3 := Lib.hid (HX2.out.below hb3 HX2.out.lt)
  have HY3 := Lib.hid hy3
  have HW3 := Lib.hid hw3
  clear hw3 hb3 hy3
  go_wp2_with fail
  rw [← HW3.out]
  refine (lives_any _).mono ?_
  rintro e w4 ⟨rfl, hb4⟩
  have HB4 := Lib.hid (HB3.out.trans (hb4.mono HB3.out.size))
  have HX4 := Lib.hid (HX3.out.below hb4 HX3.out.lt)
  have HY4 := Lib.hid (HY3.out.below hb4 HY3.out.lt)
  have x1 := HX4.out.cell 1
  have x2 := HX4.out.cell 2
  have y0 := HY4.out.cell 0
  have y1 := HY4.out.cell 1
  simp only [List.getElem?_toArray, List.getElem?_cons_zero, List.getElem?_cons_succ] at x1 x2 y0 y1
  clear hb4
  have hq := eql_du ⟨#[]⟩ ⟨#[]⟩ 0 0
  rw [decide_eq_true rfl] at hq
  go_wp2_with fail
  refine (qset_nil _ _ _).mono ?_
  rintro e w4 ⟨rfl, rfl⟩
  go_wp2_with fail
  refine (qdrop_nil _ _).mono ?_
  rintro e w4 ⟨rfl, rfl⟩
  go_wp2_with fail
  refine (quntil_nil _ _).mono ?_
  rintro e w5 ⟨rfl, hb5⟩
  have HB5 := Lib.hid (HB4.out.trans (hb5.mono HB4.out.size))
  clear hb5 x1 x2 y0 y1
  go_wp2_with fail
  refine (qall_nil _).mono ?_
  rintro e w5 ⟨rfl, rfl⟩
  go_wp2_with fail
  refine (qlen_nil _).mono ?_
  rintro e w5 ⟨rfl, rfl⟩
  go_wp2_with fail
  refine (gathered_any (X := []) none (fun W _ => (qall_nil W).mono fun e w' h => ⟨_, h.1, DR.nil _ _, by rw [h.2]; exact Below.refl _ _⟩) (by simp)).mono ?_
  rintro e w6 ⟨v, rfl, hd, hb6⟩
  have HB6 := Lib.hid (HB5.out.trans (hb6.mono HB5.out.size))
  have hg : gathL [] 3 = [] := by decide
  rw [hg] at hd
  obtain ⟨A, c, rfl⟩ := dr_val hd
  simp only [List.length_nil]
  clear hd hb6 hg
  go_wp2
  go_ret
  exact ⟨rfl, HB6.out⟩
end Go.Proofs.Ytdhilhjiccpkkaa
