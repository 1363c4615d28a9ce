/-
  pursuivantlaw01.lives: it returns true in whatever world.
-/
import Derived.Test.YtleancgkincenaaDoorReader2
import Derived.Test.YtleancgkincenaaDoorUnhex2
import Derived.Test.YtleancgkincenaaDoorOctHex
namespace Go.Proofs.YtleancgkincenaaDoor
open Go.RowKit
set_option linter.unusedVariables false

theorem u0aff (w : World) : Calls Tryd.prog 27 #[.string { data := #[48, 97, 102, 102] }] w fun e w' => ∃ A c, e = .returned (.tuple #[.slice A 2 c, .int .i64 0]) ∧ KB w' w'.heap.size A [10, 255] ∧ Below w.heap.size w w' := by
  refine (unhex_ok { data := #[48, 97, 102, 102] } w (by decide) (by decide)).mono ?_
  rintro e w' ⟨v, rfl, hv, hb⟩
  rw [show unhexL (({ data := #[48, 97, 102, 102] } : ByteArray).data.toList) = [10, 255] from by decide] at hv
  obtain ⟨A, c, rfl, _, _, h⟩ := hv.kb
  exact ⟨A, c, rfl, h, hb⟩
theorem u0A (w : World) : Calls Tryd.prog 27 #[.string { data := #[48, 65] }] w fun e w' => e = .returned (.tuple #[.slice none 0 0, .int .i64 10]) ∧ Below w.heap.size w w' :=
  unhex_no { data := #[48, 65] } w (by decide) (by decide)
theorem p258 (w : World) : Calls Tryd.prog 31 #[.int .i64 258, .int .i64 2] w fun e w' => ∃ A c, e = .returned (.tuple #[.slice A 2 c, .int .i64 0]) ∧ KB w' w'.heap.size A [1, 2] ∧ Below w.heap.size w w' := by
  refine (put_ok 258 2 w (by decide) (by decide) (by decide)).mono ?_
  rintro e w' ⟨v, rfl, hv, hb⟩
  rw [show beBytes 258 2 = [1, 2] from by decide] at hv
  obtain ⟨A, c, rfl, _, _, h⟩ := hv.kb
  exact ⟨A, c, rfl, h, hb⟩
theorem p256 (w : World) : Calls Tryd.prog 31 #[.int .i64 256, .int .i64 1] w fun e w' => e = .returned (.tuple #[.slice none 0 0, .int .i64 1]) ∧ w = w' :=
  put_no2 256 1 w (by decide) (by decide) (by decide)
theorem tab (w : World) : Calls Tryd.prog 36 #[.string { data := #[97, 98] }] w fun e w' => ∃ A c, e = .returned (.tuple #[.slice A 6 c, .int .i64 0]) ∧ KB w' w'.heap.size A [0, 0, 0, 2, 97, 98] ∧ Below w.heap.size w w' := by
  refine (text_ok { data := #[97, 98] } w (by decide)).mono ?_
  rintro e w' ⟨v, rfl, hv, hb⟩
  rw [show textBytes (({ data := #[97, 98] } : ByteArray).data.toList) = [0, 0, 0, 2, 97, 98] from by decide] at hv
  obtain ⟨A, c, rfl, _, _, h⟩ := hv.kb
  exact ⟨A, c, rfl, h, hb⟩
theorem f7 (w : World) : Calls Tryd.prog 33 #[.slice (some ⟨w.heap.size, 0, none⟩) 7 7] (w.alloc (.cells #[.int .u8 1, .int .u8 0, .int .u8 0, .int .u8 0, .int .u8 1, .int .u8 120, .int .u8 7] 5)) fun e w' => ∃ r, e = .returned (.pointer (some ⟨r, 0, none⟩)) ∧ w.heap.size ≤ r ∧ RD w' r [1, 0, 0, 0, 1, 120, 7] false ∧ Below w.heap.size w w' := by
  refine (from_any (some ⟨w.heap.size, 0, none⟩) 7 [1, 0, 0, 0, 1, 120, 7] _ (by decide) (lit_rb w [1, 0, 0, 0, 1, 120, 7] _ rfl)).mono ?_
  rintro e w' ⟨r, rfl, hr, h, hb⟩
  simp only [World.size_alloc] at hr
  exact ⟨r, rfl, by omega, h, ((Below.refl _ _).alloc (Nat.le_refl _) _).trans (hb.mono (by simp))⟩
theorem i1 (w : World) (r : Nat) (h : RD w r [1, 0, 0, 0, 1, 120, 7] false) : Calls Tryd.prog 34 #[.pointer (some ⟨r, 0, none⟩), .int .i64 1] w fun e w' => e = .returned (.int .i64 1) ∧ RD w' r [0, 0, 0, 1, 120, 7] false ∧ Fr (· = r) w w' :=
  int_ok w r _ 1 h (by decide) (by decide) (by decide)
theorem t3 (w : World) (r : Nat) (h : RD w r [0, 0, 0, 1, 120, 7] false) : Calls Tryd.prog 38 #[.pointer (some ⟨r, 0, none⟩), .int .i64 3] w fun e w' => e = .returned (.string { data := #[120] }) ∧ RD w' r [7] false ∧ Fr (· = r) w w' :=
  rtext_ok w r _ 3 h (by decide) (by decide) (by decide)

theorem hx (w : World) (A : Option Addr) (c : Nat) (h : RB w A [10, 255]) : Calls Tryd.prog 26 #[.slice A 2 c] w fun e w' => e = .returned (.string { data := #[48, 97, 102, 102] }) ∧ Below w.heap.size w w' :=
  hex_any A 2 c [10, 255] w (by decide) h
theorem dn (w : World) (r : Nat) (h : RD w r [7] false) : Calls Tryd.prog 35 #[.pointer (some ⟨r, 0, none⟩)] w fun e w' => e = .returned (.int .i64 11) ∧ w = w' :=
  done_any w r [7] h
theorem same_yes (w : World) (A B : Option Addr) (c d : Nat) (ha : RB w A [10, 255]) (hb : RB w B [10, 255]) : Calls Tryd.prog 30 #[.slice A 2 c, .slice B 2 d] w fun e w' => e = .returned (.bool true) ∧ ∃ q, w' = w.drewN q :=
  same_any A B 2 c d [10, 255] [10, 255] w (by decide) ha hb
theorem same_no (w : World) (A B : Option Addr) (c d : Nat) (ha : RB w A [10, 255]) (hb : RB w B [1, 2]) : Calls Tryd.prog 30 #[.slice A 2 c, .slice B 2 d] w fun e w' => e = .returned (.bool false) ∧ ∃ q, w' = w.drewN q :=
  same_any A B 2 c d [10, 255] [1, 2] w (by decide) ha hb

set_option maxRecDepth 1000000 in
set_option maxHeartbeats 2000000 in
theorem lives_any (w : World) : Calls Tryd.prog 25 #[] w fun e w' => e = .returned (.bool true) ∧ Below w.heap.size w w' := by
  go_enter Tryd.func25, Tryd.ntmps25
  go_wp2_with fail
  refine (u0aff _).mono ?_
  rintro e w1 ⟨A1, c1, rfl, k1, hb1⟩
  go_wp2_with fail
  refine (p258 _).mono ?_
  rintro e w2 ⟨A2, c2, rfl, k2, hb2⟩
  replace k1 := k1.below hb2
  go_wp2_with fail
  refine (p256 _).mono ?_
  rintro e w3 ⟨rfl, rfl⟩
  go_wp2_with fail
  refine (tab _).mono ?_
  rintro e w4 ⟨A4, c4, rfl, k4, hb4⟩
  replace k1 := k1.below hb4
  replace k2 := k2.below hb4
  go_wp2_with fail
  refine (u0A _).mono ?_
  rintro e w5 ⟨rfl, hb5⟩
  replace k1 := (k1.below hb5)
  replace k2 := (k2.below hb5)
  replace k4 := (k4.below hb5)
  have hb05 : Below w.heap.size w w5 := ((hb1.trans (hb2.mono hb1.size)).trans (hb4.mono (by have := hb1.size; have := hb2.size; omega))).trans (hb5.mono (by have := hb1.size; have := hb2.size; have := hb4.size; omega))
  replace k1 := k1.mono (B' := w5.heap.size) (by have := hb2.size; have := hb4.size; have := hb5.size; omega)
  replace k2 := k2.mono (B' := w5.heap.size) (by have := hb4.size; have := hb5.size; omega)
  replace k4 := k4.mono (B' := w5.heap.size) (by have := hb5.size; omega)
  clear hb1 hb2 hb4 hb5
  go_wp2_with fail
  refine (f7 _).mono ?_
  rintro e w6 ⟨r, rfl, hr, hrd, hb6⟩
  replace k1 := (k1.below hb6)
  replace k2 := (k2.below hb6)
  replace k4 := (k4.below hb6)
  have hb06 := hb05.trans (hb6.mono hb05.size)
  have hr0 : w.heap.size ≤ r := Nat.le_trans hb05.size hr
  clear hb05 hb6
  go_wp2_with fail
  refine (i1 _ r hrd).mono ?_
  rintro e w7 ⟨rfl, hrd, hf7⟩
  replace k1 := (k1.fr hf7 (by omega))
  replace k2 := (k2.fr hf7 (by omega))
  replace k4 := (k4.fr hf7 (by omega))
  have hb07 := Fr.below_trans hb06 hf7 hb06.size (by omega)
  clear hb06 hf7
  go_wp2_with fail
  refine (t3 _ r hrd).mono ?_
  rintro e w8 ⟨rfl, hrd, hf8⟩
  replace k1 := (k1.fr hf8 (by omega))
  replace k2 := (k2.fr hf8 (by omega))
  replace k4 := (k4.fr hf8 (by omega))
  have hb08 := Fr.below_trans hb07 hf8 hb07.size (by omega)
  clear hb07 hf8
  have s1 := run_string k1.1 2 c1 rfl
  simp only [List.toArray] at s1
  go_wp2_with fail
  refine (left_any _ r _ _ hrd).mono ?_
  rintro e w' ⟨rfl, rfl⟩
  go_wp2_with fail
  refine (hx _ A1 c1 k1.1).mono ?_
  rintro e w9 ⟨rfl, hb9⟩
  replace k1 := (k1.below hb9)
  replace k2 := (k2.below hb9)
  replace k4 := (k4.below hb9)
  replace hrd := (hrd.below hb9)
  have hb09 := hb08.trans (hb9.mono hb08.size)
  clear s1 hb08 hb9
  have s2 := run_string k2.1 2 c2 rfl
  have s4 := run_string k4.1 6 c4 rfl
  simp only [List.toArray] at s2 s4
  go_wp2_with fail
  refine (dn _ r hrd).mono ?_
  rintro e w' ⟨rfl, rfl⟩
  go_wp2_with fail
  refine (bad_any _ r _ _ hrd).mono ?_
  rintro e w' ⟨rfl, rfl⟩
  clear s2 s4
  go_wp2_with fail
  refine (same_yes _ A1 _ _ _ (k1.1.alloc _) (lit_rb _ [10, 255] _ rfl)).mono ?_
  rintro e w' ⟨rfl, q, rfl⟩
  go_wp2_with fail
  refine (same_no _ A1 A2 _ _ ((k1.1.alloc _).drewN _) ((k2.1.alloc _).drewN _)).mono ?_
  rintro e w' ⟨rfl, q2, rfl⟩
  go_wp2
  go_ret
  exact ⟨rfl, Below_drewN (hb09.alloc hb09.size _) _⟩

end Go.Proofs.YtleancgkincenaaDoor
