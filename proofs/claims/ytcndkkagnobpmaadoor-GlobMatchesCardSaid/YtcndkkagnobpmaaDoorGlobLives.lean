/-
  What lives() of the laws of globs returns.
-/
import Derived.Test.YtcndkkagnobpmaaDoorGlobW8
namespace Go.Proofs.YtcndkkagnobpmaaDoor
open Go.RowKit Glob
set_option linter.unusedVariables false

theorem match_is (p s : ByteArray) (b : Bool) (h : matchL p.data.toList s.data.toList = b) (w : World) (hp : p.size ≤ 100000) (hs : s.size ≤ 100000) (hT : Tab w) : Calls Tryd.prog 24 #[.string p, .string s] w fun e w' => e = .returned (.bool b) ∧ Below w.heap.size w w' := by subst h; exact match_any p s w hp hs hT
theorem path_is (s : ByteArray) (b : Bool) (h : pathL s.data.toList = b) (w : World) (hs : s.size ≤ 100000) (hT : Tab w) : Calls Tryd.prog 41 #[.string s] w fun e w' => e = .returned (.bool b) ∧ Below w.heap.size w w' := by subst h; exact path_any s w hs hT
theorem pattern_is (s : ByteArray) (b : Bool) (h : patL s.data.toList = b) (w : World) (hs : s.size ≤ 100000) (hT : Tab w) : Calls Tryd.prog 42 #[.string s] w fun e w' => e = .returned (.bool b) ∧ Below w.heap.size w w' := by subst h; exact pattern_any s w hs hT
theorem prefix_is (s : ByteArray) (b : Bool) (h : prefixL s.data.toList = b) (w : World) (hs : s.size ≤ 100000) : Calls Tryd.prog 43 #[.string s] w fun e w' => e = .returned (.bool b) ∧ Below w.heap.size w w' := by subst h; exact prefix_any s w hs
theorem any_two (w : World) (hT : Tab w) : Calls Tryd.prog 27 #[.slice (some ⟨w.heap.size, 0, none⟩) 2 2, .string ⟨#[97]⟩] (w.alloc (.cells #[.string ⟨#[98]⟩, .string ⟨#[63]⟩] 9)) fun e w' => e = .returned (.int .i64 1) ∧ Below w.heap.size w w' := by
  have hb0 : Below w.heap.size w (w.alloc (.cells #[.string ⟨#[98]⟩, .string ⟨#[63]⟩] 9)) := (Below.refl _ _).alloc (Nat.le_refl _) _
  refine (anyG_any (some ⟨w.heap.size, 0, none⟩) 2 2 [⟨#[98]⟩, ⟨#[63]⟩] ⟨#[97]⟩ _ (SS.of_block (Blk.new w 9 #[.string ⟨#[98]⟩, .string ⟨#[63]⟩])) rfl (by decide) (by decide) (by decide) (hT.below hb0)).mono ?_
  rintro e w' ⟨rfl, hb⟩
  exact ⟨congrArg (fun z => Ending.returned (.int .i64 z)) (by decide +kernel), hb0.trans (hb.mono hb0.size)⟩
theorem any_none (w : World) (hT : Tab w) : Calls Tryd.prog 27 #[.slice none 0 0, .string ⟨#[97]⟩] w fun e w' => e = .returned (.int .i64 (-1)) ∧ Below w.heap.size w w' := by
  refine (anyG_any none 0 0 [] ⟨#[97]⟩ w (SS.nil _) rfl (by decide) (by simp) (by decide) hT).mono ?_
  rintro e w' ⟨rfl, hb⟩
  exact ⟨rfl, hb⟩
theorem split_two (w : World) (hT : Tab w) : Calls Tryd.prog 44 #[.string ⟨#[97, 47, 98]⟩] w fun e w' => ∃ A, e = .returned (.slice A 2 2) ∧ Below w.heap.size w w' := by
  refine (gsplit_yes ⟨#[97, 47, 98]⟩ w (by decide) hT (by decide +kernel)).mono ?_
  rintro e w' ⟨A, l, hl, rfl, _, hb⟩
  have h : l.length = 2 := by
    have := congrArg List.length hl
    rw [List.length_map] at this
    rw [this]; decide +kernel
  rw [h]
  exact ⟨A, rfl, hb⟩

set_option maxRecDepth 100000 in
set_option maxHeartbeats 2000000 in
theorem lives_any (w : World) (hT : Tab w) : Calls Tryd.prog 22 #[] w fun e w' => e = .returned (.bool true) ∧ Below w.heap.size w w' := by
  go_enter Tryd.func22, Tryd.ntmps22
  go_wp2_with fail
  refine (match_is ⟨#[97, 47, 42, 46, 116, 120, 116]⟩ ⟨#[97, 47, 120, 46, 116, 120, 116]⟩ true (by decide +kernel) _ (by decide) (by decide) hT).mono ?_
  rintro e w1 ⟨rfl, hb1⟩
  have hT1 := hT.below hb1
  have a1 := hb1
  go_wp2_with fail
  refine (match_is ⟨#[97, 47, 42, 46, 116, 120, 116]⟩ ⟨#[97, 47, 46, 116, 120, 116]⟩ true (by decide +kernel) _ (by decide) (by decide) hT1).mono ?_
  rintro e w2 ⟨rfl, hb2⟩
  have hT2 := hT1.below hb2
  have a2 := a1.trans (hb2.mono a1.size)
  go_wp2_with fail
  refine (match_is ⟨#[97, 47, 42, 46, 116, 120, 116]⟩ ⟨#[97, 47, 98, 47, 120, 46, 116, 120, 116]⟩ false (by decide +kernel) _ (by decide) (by decide) hT2).mono ?_
  rintro e w3 ⟨rfl, hb3⟩
  have hT3 := hT2.below hb3
  have a3 := a2.trans (hb3.mono a2.size)
  go_wp2_with fail
  refine (match_is ⟨#[97, 47, 42, 46, 116, 120, 116]⟩ ⟨#[97, 47, 120]⟩ false (by decide +kernel) _ (by decide) (by decide) hT3).mono ?_
  rintro e w4 ⟨rfl, hb4⟩
  have hT4 := hT3.below hb4
  have a4 := a3.trans (hb4.mono a3.size)
  go_wp2_with fail
  refine (path_is ⟨#[97, 47, 98]⟩ true (by decide +kernel) _ (by decide) hT4).mono ?_
  rintro e w5 ⟨rfl, hb5⟩
  have hT5 := hT4.below hb5
  have a5 := a4.trans (hb5.mono a4.size)
  go_wp2_with fail
  refine (path_is ⟨#[97, 47, 47, 98]⟩ false (by decide +kernel) _ (by decide) hT5).mono ?_
  rintro e w6 ⟨rfl, hb6⟩
  have hT6 := hT5.below hb6
  have a6 := a5.trans (hb6.mono a5.size)
  go_wp2_with fail
  refine (path_is ⟨#[97, 47, 42]⟩ false (by decide +kernel) _ (by decide) hT6).mono ?_
  rintro e w7 ⟨rfl, hb7⟩
  have hT7 := hT6.below hb7
  have a7 := a6.trans (hb7.mono a6.size)
  go_wp2_with fail
  refine (pattern_is ⟨#[97, 47, 42]⟩ true (by decide +kernel) _ (by decide) hT7).mono ?_
  rintro e w8 ⟨rfl, hb8⟩
  have hT8 := hT7.below hb8
  have a8 := a7.trans (hb8.mono a7.size)
  go_wp2_with fail
  refine (any_two _ hT8).mono ?_
  rintro e w9 ⟨rfl, hb9⟩
  have hT9 := hT8.below hb9
  have a9 := a8.trans (hb9.mono a8.size)
  go_wp2_with fail
  refine (any_none _ hT9).mono ?_
  rintro e w10 ⟨rfl, hb10⟩
  have hT10 := hT9.below hb10
  have a10 := a9.trans (hb10.mono a9.size)
  go_wp2_with fail
  refine (prefix_is ⟨#[48, 102]⟩ true (by decide +kernel) _ (by decide)).mono ?_
  rintro e w11 ⟨rfl, hb11⟩
  have hT11 := hT10.below hb11
  have a11 := a10.trans (hb11.mono a10.size)
  go_wp2_with fail
  refine (prefix_is ⟨#[48, 70]⟩ false (by decide +kernel) _ (by decide)).mono ?_
  rintro e w12 ⟨rfl, hb12⟩
  have hT12 := hT11.below hb12
  have a12 := a11.trans (hb12.mono a11.size)
  go_wp2_with fail
  refine (split_two _ hT12).mono ?_
  rintro e w13 ⟨A, rfl, hb13⟩
  have hT13 := hT12.below hb13
  have a13 := a12.trans (hb13.mono a12.size)
  go_wp2
  go_ret
  exact ⟨rfl, a13⟩
end Go.Proofs.YtcndkkagnobpmaaDoor
