/-
  The walk of pursuivantlaw01.OctetJoins.
-/
import Derived.Test.YtleancgkincenaaDoorRefPut
import Derived.Test.YtleancgkincenaaDoorOctUnhexesW
namespace Go.Proofs.YtleancgkincenaaDoor
open Go.RowKit
set_option linter.unusedVariables false

theorem from_n (A : Option Addr) (n c : Nat) (l : List UInt8) (w : World) (hl : l.length = n) (hn : n ≤ 70368744177664) (hr : RB w A l) :
    Calls Tryd.prog 33 #[.slice A n c] w fun e w' => ∃ r, e = .returned (.pointer (some ⟨r, 0, none⟩)) ∧ w.heap.size ≤ r ∧ RD w' r l false ∧ Below w.heap.size w w' := by
  subst hl; exact from_any A c l w hn hr
theorem hex_n (A : Option Addr) (n c : Nat) (l : List UInt8) (w : World) (hl : l.length = n) (hn : n ≤ 70368744177664) (hr : RB w A l) :
    Calls Tryd.prog 26 #[.slice A n c] w fun e w' => e = .returned (.string ⟨(hexL l).toArray⟩) ∧ Below w.heap.size w w' := by
  subst hl; exact hex_any A _ c l w hn hr
theorem arr_app (a b : List UInt8) : (({ data := (a ++ b).toArray } : ByteArray) = { data := a.toArray } ++ { data := b.toArray }) := by
  apply ByteArray.ext
  simp

theorem hex_t (A : Option Addr) (n c : Nat) (l : List UInt8) (T : ByteArray) (w : World) (hl : l.length = n) (hn : n ≤ 70368744177664) (hr : RB w A l) (hT : T = ⟨(hexL l).toArray⟩) :
    Calls Tryd.prog 26 #[.slice A n c] w fun e w' => e = .returned (.string T) ∧ Below w.heap.size w w' := by
  subst hl; subst hT; exact hex_any A _ c l w hn hr
set_option maxRecDepth 1000000 in
set_option maxHeartbeats 1000000 in
theorem joins_any (A B : Option Addr) (c d n m : Nat) (l l2 : List UInt8) (W : World) (hl : l.length = n) (hl2 : l2.length = m) (hz : n ≤ 3000) (hz2 : m ≤ 3000) (hr : RB W A l) (hr2 : RB W B l2) :
    Calls Tryd.prog 11 #[.slice A n c, .slice B m d] W fun e w' => e = .returned (.bool true) ∧ Below W.heap.size W w' := by
  have d1 : decide (3000 < (n : Int)) = false := by rw [decide_eq_false_iff_not]; omega
  have d2 : decide (3000 < (m : Int)) = false := by rw [decide_eq_false_iff_not]; omega
  have HL := Lib.hid hl
  have HL2 := Lib.hid hl2
  have s1 := run_string hr _ c hl
  clear hl hl2
  go_enter Tryd.func11, Tryd.ntmps11
  go_wp2_with fail
  refine (text_ok _ _ (by show l.toArray.size ≤ _; rw [List.size_toArray, HL.out]; omega)).mono ?_
  rintro e w1 ⟨v, rfl, hv, hb1⟩
  clear s1
  obtain ⟨A1, c1, rfl, _, _, k1⟩ := hv.kb_n (n := 4 + n) (by rw [textBytes_length]; show 4 + l.length = _; rw [HL.out])
  replace k1 : KB w1 w1.heap.size A1 (textBytes l) := k1
  have s2 := run_string (hr2.below hb1) _ d HL2.out
  clear hv
  go_wp2_with fail
  refine (text_ok _ _ (by show l2.toArray.size ≤ _; rw [List.size_toArray, HL2.out]; omega)).mono ?_
  rintro e w2 ⟨v, rfl, hv, hb2⟩
  clear s2
  obtain ⟨A2, c2, rfl, _, _, k2⟩ := hv.kb_n (n := 4 + m) (by rw [textBytes_length]; show 4 + l2.length = _; rw [HL2.out])
  replace k2 : KB w2 w2.heap.size A2 (textBytes l2) := k2
  replace k1 := k1.below hb2
  clear hv
  have hb02 := hb1.trans (hb2.mono hb1.size)
  have ra := hr.below hb02
  have rb := hr2.below hb02
  have HKA := Lib.hid ((hr.kz.below hb02))
  have HKB := Lib.hid ((hr2.kz.below hb02))
  clear hr hr2
  have HT1 : Hid ((textBytes l).length = 4 + n) := by show _ = _; rw [textBytes_length, HL.out]
  have HT2 : Hid ((textBytes l2).length = 4 + m) := by show _ = _; rw [textBytes_length, HL2.out]
  have tok1 : True := trivial
  have tok2 : True := trivial
  go_wp2_with (first
    | (at_builtin
       have _t := tok1
       refine app_bytes _ rfl _ _ rfl w2.heap.size _ [] rfl (emptyOB w2 w2.heap.size (Nat.le_refl _)) A1 (4 + n) c1 (textBytes l) rfl HT1.out (k1.1.alloc _) (by simp; omega) (by simp) ?_
       intro v1 w3 ho1 hg1 hat1
       clear tok1
       have hb3 : Below w2.heap.size w2 w3 := ((Below.refl _ _).alloc (Nat.le_refl _) _).grown hg1 (by simp) (by intro j hj; cases hj; exact Nat.le_refl _))
    | (at_builtin
       have _t := tok2
       refine app_bytes _ rfl _ _ rfl w2.heap.size v1 ([] ++ textBytes l) rfl ho1 A2 (4 + m) c2 (textBytes l2) rfl HT2.out (k2.1.below hb3) (by rw [List.nil_append, HT1.out]; omega) hb3.size ?_
       intro v2 w4 ho2 hg2 hat2
       clear tok2
       have hb4 : Below w2.heap.size w2 w4 := hb3.grown hg2 hb3.size (fun j hj => ho1.grown_ge j hj)
       obtain ⟨A3, c3, rfl, hh1, hh2, hk3⟩ := ho2.kb_n (n := 4 + n + (4 + m)) (by rw [List.nil_append, List.length_append, HT1.out, HT2.out]))
    | fail)
  clear ho1 hg1 hat1 hb3 ho2 hg2 hat2
  refine (from_n A3 _ c3 ([] ++ textBytes l ++ textBytes l2) _ (by rw [List.nil_append, List.length_append, HT1.out, HT2.out]) (by omega) hk3.1).mono ?_
  rintro e w5 ⟨r, rfl, hr5, hrd, hb5⟩
  clear hk3
  rw [List.nil_append] at hrd
  have hb25 := hb4.trans (hb5.mono hb4.size)
  have hb05 := hb02.trans (hb25.mono hb02.size)
  have hrW : W.heap.size ≤ r := by have := hb05.size; have := hb02.size; have := hb4.size; omega
  replace ra := ra.below hb25
  replace rb := rb.below hb25
  replace HKA := Lib.hid (HKA.out.below hb25)
  replace HKB := Lib.hid (HKB.out.below hb25)
  clear hb1 hb2 hb02 hb4 hb5 hb25 k1 k2
  have HRD := Lib.hid hrd
  have RA := Lib.hid ra
  have RBB := Lib.hid rb
  clear hrd ra rb
  have tok3 : True := trivial
  have tok4 : True := trivial
  go_wp2_with (first
    | (at_builtin
       have _t := tok3
       refine app_bytes _ rfl _ _ rfl w5.heap.size _ [] rfl (emptyOB w5 w5.heap.size (Nat.le_refl _)) A n c l rfl HL.out (RA.out.alloc _) (by simp; omega) (by simp) ?_
       intro v6 w6 ho6 hg6 hat6
       clear tok3
       have hb6 : Below w5.heap.size w5 w6 := ((Below.refl _ _).alloc (Nat.le_refl _) _).grown hg6 (by simp) (by intro j hj; cases hj; exact Nat.le_refl _))
    | (at_builtin
       have _t := tok4
       refine app_bytes _ rfl _ _ rfl w5.heap.size v6 ([] ++ l) rfl ho6 B m d l2 rfl HL2.out (RBB.out.below hb6) (by rw [List.nil_append, HL.out]; omega) hb6.size ?_
       intro v7 w7 ho7 hg7 hat7
       clear tok4
       have hb7 : Below w5.heap.size w5 w7 := hb6.grown hg7 hb6.size (fun j hj => ho6.grown_ge j hj)
       obtain ⟨A7, c7, rfl, hh3, hh4, hk7⟩ := ho7.kb_n (n := n + m) (by rw [List.nil_append, List.length_append, HL.out, HL2.out]))
    | fail)
  clear ho6 hg6 hat6 hb6 ho7 hg7 hat7
  refine (lives_any _).mono ?_
  rintro e w8 ⟨rfl, hb8⟩
  replace hk7 := hk7.below hb8
  have hb58 := hb7.trans (hb8.mono hb7.size)
  clear hb7 hb8
  go_wp2_with fail
  refine (hex_t A7 _ c7 ([] ++ l ++ l2) ({ data := (hexL l).toArray } ++ { data := (hexL l2).toArray }) _ (by rw [List.nil_append, List.length_append, HL.out, HL2.out]) (by omega) hk7.1 (by rw [List.nil_append, hexL_append, arr_app])).mono ?_
  rintro e w9 ⟨rfl, hb9⟩
  have hb59 := hb58.trans (hb9.mono hb58.size)
  clear hb58 hb9 hk7
  go_wp2_with fail
  refine (hex_n A _ c l _ HL.out (by omega) (RA.out.below hb59)).mono ?_
  rintro e w10 ⟨rfl, hb10⟩
  have hb510 := hb59.trans (hb10.mono hb59.size)
  clear hb59 hb10
  go_wp2_with fail
  refine (hex_n B _ d l2 _ HL2.out (by omega) (RBB.out.below hb510)).mono ?_
  rintro e w11 ⟨rfl, hb11⟩
  have hb511 := hb510.trans (hb11.mono hb510.size)
  clear hb510 hb11
  have hsum : (hexL l).length + (hexL l2).length ≤ 12000 := by rw [hexL_length, hexL_length, HL.out, HL2.out]; omega
  go_wp2_with fail
  have KA : Hid (KZ w11 W.heap.size A l) := (show KZ w5 W.heap.size A l from HKA.out).below hb511
  have KBB : Hid (KZ w11 W.heap.size B l2) := (show KZ w5 W.heap.size B l2 from HKB.out).below hb511
  have HR11 := Lib.hid (HRD.out.below hb511)
  have hb011 := hb05.trans (hb511.mono hb05.size)
  clear hb05 hb511 HRD RA RBB
  have hlt1 : l.length < 4294967296 := by rw [HL.out]; omega
  have hlt2 : l2.length < 4294967296 := by rw [HL2.out]; omega
  have hm1 : (l.length : Int) ≤ 3000 := by rw [HL.out]; omega
  have hm2 : (l2.length : Int) ≤ 3000 := by rw [HL2.out]; omega
  have hl2nil : textBytes l2 = textBytes l2 ++ [] := by simp
  have HN2 := Lib.hid hl2nil
  clear hl2nil
  go_region_held3 (fun w' => (convert 22 9 (.slice A n c)).run Tryd.prog w' = .ok (.string ⟨l.toArray⟩) w' ∧ (convert 22 9 (.slice B m d)).run Tryd.prog w' = .ok (.string ⟨l2.toArray⟩) w')
    (first | exact ⟨run_string KA.out.drew.1 _ c HL.out, run_string KBB.out.drew.1 _ d HL2.out⟩ | exact ⟨run_string (KA.out.drew.fr hf12 (by omega)).1 _ c HL.out, run_string (KBB.out.drew.fr hf12 (by omega)).1 _ d HL2.out⟩ | exact ⟨run_string ((KA.out.drew.fr hf12 (by omega)).fr hf13 (by omega)).1 _ c HL.out, run_string ((KBB.out.drew.fr hf12 (by omega)).fr hf13 (by omega)).1 _ d HL2.out⟩)
    (first | (go_at_call 38; (with_reducible refine (rtext_next _ r l (textBytes l2) 3000 HR11.out.drew hlt1 hm1).mono ?_); rintro e w12 ⟨rfl, hrd12, hf12⟩)
           | (go_at_call 38; (with_reducible refine (rtext_next _ r l2 [] 3000 (by rw [← HN2.out]; exact hrd12) hlt2 hm2).mono ?_); rintro e w13 ⟨rfl, hrd13, hf13⟩)
           | (go_at_call 35; (with_reducible refine (done_any _ r [] (by exact hrd13)).mono ?_); rintro e w' ⟨rfl, rfl⟩))
  all_goals
    have hbe : Below W.heap.size W w13 := Fr.below_trans (Fr.below_trans hb011.drew hf12 (by simpa using hb011.size) (by omega)) hf13 (by have := hf12.size; have := hb011.size; simp at *; omega) (by omega)
    go_wp2
    go_ret
    exact ⟨rfl, hbe⟩

theorem octetJoins_walk (A : Option Addr) (c : Nat) (l : List UInt8) (B : Option Addr) (d : Nat) (l2 : List UInt8) (W : World) (hr : RB W A l) (hc : l.length ≤ c) (hm : c ≤ maxLen) (hz : l.length ≤ 140737488351232) (hr2 : RB W B l2) (hc2 : l2.length ≤ d) (hm2 : d ≤ maxLen) (hz2 : l2.length ≤ 140737488351232) :
    Calls Tryd.prog 11 #[.slice A l.length c, .slice B l2.length d] W fun e w' => e = .returned (.bool true) ∧ Below W.heap.size W w' := by
  rcases (by omega : 3000 < l.length ∨ l.length ≤ 3000) with h1 | h1
  · have d1 : decide (3000 < (l.length : Int)) = true := by rw [decide_eq_true_iff]; omega
    go_enter Tryd.func11, Tryd.ntmps11
    go_wp2_with fail
    refine (lives_any _).mono ?_
    rintro e w1 ⟨rfl, hb⟩
    go_wp2
    go_ret
    exact ⟨rfl, hb⟩
  · have d1 : decide (3000 < (l.length : Int)) = false := by rw [decide_eq_false_iff_not]; omega
    rcases (by omega : 3000 < l2.length ∨ l2.length ≤ 3000) with h2 | h2
    · have d2 : decide (3000 < (l2.length : Int)) = true := by rw [decide_eq_true_iff]; omega
      go_enter Tryd.func11, Tryd.ntmps11
      go_wp2_with fail
      refine (lives_any _).mono ?_
      rintro e w1 ⟨rfl, hb⟩
      go_wp2
      go_ret
      exact ⟨rfl, hb⟩
    · exact joins_any A B c d _ _ l l2 W rfl rfl h1 h2 hr hr2

end Go.Proofs.YtleancgkincenaaDoor
