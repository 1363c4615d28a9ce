/-
  pursuivantlaw03.lives: it returns true in whatever world that holds the tables.
-/
import Derived.Test.YtonjnonpajkmlaaDoorUtfU
import Derived.Test.YtonjnonpajkmlaaDoorUtfQ
namespace Go.Proofs.YtonjnonpajkmlaaDoor
open Go.RowKit Utf
set_option linter.unusedVariables false

theorem n1 (w : World) (ht : tabU w) : Calls Tryd.prog 9 #[.string { data := #[195, 169, 120] }] w fun e w' => e = .returned (.tuple #[.int .i64 233, .int .i64 2]) ∧ Below w.heap.size w w' := by
  have h := next_any { data := #[195, 169, 120] } w ht
  rw [show nxt (({ data := #[195, 169, 120] } : ByteArray).data.toList) = (233, 2) from by decide] at h
  exact h
theorem n2 (w : World) (ht : tabU w) : Calls Tryd.prog 9 #[.string { data := #[192, 128] }] w fun e w' => e = .returned (.tuple #[.int .i64 (-1), .int .i64 0]) ∧ Below w.heap.size w w' := by
  have h := next_any { data := #[192, 128] } w ht
  rw [show nxt (({ data := #[192, 128] } : ByteArray).data.toList) = (-1, 0) from by decide] at h
  exact h
theorem e3 (w : World) : Calls Tryd.prog 13 #[.int .i64 8364] w fun e w' => ∃ A c, e = .returned (.tuple #[.slice A 3 c, .int .i64 0]) ∧ RB w' A [226, 130, 172] ∧ Below w.heap.size w w' := by
  refine (encode_yes 8364 w (by decide)).mono ?_
  rintro e w' ⟨v, rfl, hv, hb⟩
  rw [show encU 8364 = [226, 130, 172] from by decide] at hv
  obtain ⟨A, c, rfl, _, _, h, _⟩ := hv.shape
  exact ⟨A, c, rfl, h, hb⟩
theorem q4 (w : World) (ht : tabU w) : Calls Tryd.prog 16 #[.string { data := #[34, 10] }] w fun e w' => e = .returned (.tuple #[.string { data := #[34, 92, 34, 92, 117, 48, 48, 48, 97, 34] }, .int .i64 0]) ∧ Below w.heap.size w w' := by
  have h := quote_yes { data := #[34, 10] } w ht (by decide) (by decide)
  rw [show quoteL (({ data := #[34, 10] } : ByteArray).data.toList) = [34, 92, 34, 92, 117, 48, 48, 48, 97, 34] from by decide] at h
  exact h
def s5 : ByteArray := { data := #[34, 92, 117, 100, 56, 51, 100, 92, 117, 100, 101, 48, 48, 92, 47, 34, 120] }
theorem f5a (w : World) : Calls Tryd.prog 40 #[.string (s5.extract 1 s5.size)] w fun e w' => e = .returned (.int .i32 ((55357 : Nat) : Int)) ∧ Below w.heap.size w w' :=
  four_ok (s5.extract 1 s5.size) { data := #[100, 56, 51, 100] } 100 56 51 100 w (by decide) (by decide) (by decide) (by decide) (by decide) (by decide) (by decide) (by decide)
theorem f5b (w : World) : Calls Tryd.prog 40 #[.string ((s5.extract 1 s5.size).extract 6 (s5.extract 1 s5.size).size)] w fun e w' => e = .returned (.int .i32 ((56832 : Nat) : Int)) ∧ Below w.heap.size w w' :=
  four_ok _ { data := #[100, 101, 48, 48] } 100 101 48 48 w (by decide) (by decide) (by decide) (by decide) (by decide) (by decide) (by decide) (by decide)
theorem p5a : PartS s5 1 128512 12 := fun w ht => part_esc _ 128512 12 w (by decide) (by decide) (by decide) fun w => escape_pair _ 55357 56832 w (by decide) (by decide) (by decide) (by decide) (by decide) (by decide) (by decide) f5a f5b
theorem p5b : PartS s5 13 47 2 := fun w ht => part_esc _ 47 2 w (by decide) (by decide) (by decide) fun w => (escape_short _ 2 47 w (by decide) (by decide) 47 (by decide) (by decide) (by decide) (by decide)).mono fun _ _ ⟨h1, h2⟩ => ⟨h1, h2 ▸ Below.refl _ _⟩
theorem u5 (w : World) (ht : tabU w) : Calls Tryd.prog 17 #[.string { data := #[34, 92, 117, 100, 56, 51, 100, 92, 117, 100, 101, 48, 48, 92, 47, 34, 120] }] w fun e w' => e = .returned (.tuple #[.string { data := #[240, 159, 152, 128, 47] }, .int .i64 16, .int .i64 0]) ∧ Below w.heap.size w w' :=
  unquote_any s5 2 [240, 159, 152, 128, 47] 16 0 w ht (by decide) (by decide) (by decide)
    ⟨by decide, 128512, 12, p5a, by decide, by decide, by decide, by decide, ⟨by decide, 47, 2, p5b, by decide, by decide, by decide, by decide, .inl ⟨by decide, by decide⟩⟩⟩
def s6 : ByteArray := { data := #[34, 97, 98, 92, 113, 34] }
theorem p6a : PartS s6 1 97 1 := fun w ht => part_char _ 97 1 w ht (by decide) 97 (by decide) (by decide) (by decide) (by decide) (by decide)
theorem p6b : PartS s6 2 98 1 := fun w ht => part_char _ 98 1 w ht (by decide) 98 (by decide) (by decide) (by decide) (by decide) (by decide)
theorem p6c : PartF s6 3 31 := fun w ht => part_bad _ 0 w (by decide) (by decide) fun w => (escape_none _ w (by decide) (by decide) 113 (by decide) (by decide)).mono fun _ _ ⟨h1, h2⟩ => ⟨h1, h2 ▸ Below.refl _ _⟩
theorem u6 (w : World) (ht : tabU w) : Calls Tryd.prog 17 #[.string { data := #[34, 97, 98, 92, 113, 34] }] w fun e w' => e = .returned (.tuple #[.string { data := #[] }, .int .i64 3, .int .i64 31]) ∧ Below w.heap.size w w' :=
  unquote_any s6 2 [] 3 31 w ht (by decide) (by decide) (by decide)
    ⟨by decide, 97, 1, p6a, by decide, by decide, by decide, by decide, ⟨by decide, 98, 1, p6b, by decide, by decide, by decide, by decide, .inr ⟨by decide, 31, by decide, p6c, rfl⟩⟩⟩

set_option maxRecDepth 1000000 in
set_option maxHeartbeats 2000000 in
theorem lives_any (w : World) (ht : tabU w) : Calls Tryd.prog 8 #[] w fun e w' => e = .returned (.bool true) ∧ Below w.heap.size w w' := by
  have HT := Lib.hid ht
  clear ht
  go_enter Tryd.func8, Tryd.ntmps8
  go_wp2_with fail
  refine (n1 _ HT.out).mono ?_
  rintro e w1 ⟨rfl, hb1⟩
  have HT1 := Lib.hid (HT.out.below hb1)
  have HB1 := Lib.hid hb1
  clear hb1
  go_wp2_with fail
  refine (n2 _ HT1.out).mono ?_
  rintro e w2 ⟨rfl, hb2⟩
  have HT2 := Lib.hid (HT1.out.below hb2)
  have HB2 := Lib.hid (below2 HB1.out hb2)
  clear hb2
  go_wp2_with fail
  refine (e3 _).mono ?_
  rintro e w3 ⟨A, c, rfl, hR, hb3⟩
  have HT3 := Lib.hid (HT2.out.below hb3)
  have HB3 := Lib.hid (below2 HB2.out hb3)
  have HR3 := Lib.hid hR
  clear hb3 hR
  go_wp2_with fail
  refine (q4 _ HT3.out).mono ?_
  rintro e w4 ⟨rfl, hb4⟩
  have HT4 := Lib.hid (HT3.out.below hb4)
  have HB4 := Lib.hid (below2 HB3.out hb4)
  have HR4 := Lib.hid (HR3.out.below hb4)
  clear hb4
  go_wp2_with fail
  refine (u5 _ HT4.out).mono ?_
  rintro e w5 ⟨rfl, hb5⟩
  have HT5 := Lib.hid (HT4.out.below hb5)
  have HB5 := Lib.hid (below2 HB4.out hb5)
  have HR5 := Lib.hid (HR4.out.below hb5)
  clear hb5
  go_wp2_with fail
  refine (u6 _ HT5.out).mono ?_
  rintro e w6 ⟨rfl, hb6⟩
  have HB6 := Lib.hid (below2 HB5.out hb6)
  have hR6 := HR5.out.below hb6
  have s1 := run_string hR6 3 c rfl
  simp only [List.toArray] at s1
  clear hb6
  go_wp2
  go_ret
  exact ⟨rfl, HB6.out⟩

end Go.Proofs.YtonjnonpajkmlaaDoor
