/-
  The walks of pursuivantlaw01.OctetUnhexes and OctetSames.
-/
import Derived.Test.YtleancgkincenaaDoorRefUnhex
import Derived.Test.YtleancgkincenaaDoorOctLives
namespace Go.Proofs.YtleancgkincenaaDoor
open Go.RowKit
set_option linter.unusedVariables false

theorem emptyOB (w : World) (B : Nat) (hB : B ≤ w.heap.size) : OB (w.alloc (.cells #[] 5)) B (.slice (some ⟨w.heap.size, 0, none⟩) 0 0) [] :=
  ⟨rfl, .inr ⟨w.heap.size, 0, #[], rfl, hB, heap_alloc_new w _, Nat.le_refl _, by simp [maxLen], rfl, rfl⟩⟩
theorem OB.kb_n {w : World} {base n : Nat} {v : Value} {l : List UInt8} (h : OB w base v l) (hn : l.length = n) : ∃ A c, v = .slice A n c ∧ n ≤ c ∧ c ≤ maxLen ∧ KB w w.heap.size A l := by
  subst hn; exact h.kb
theorem same_gen (A B : Option Addr) (n m c d : Nat) (a b : List UInt8) (r : Bool) (hr : decide (a = b) = r) (w : World) (hA : a.length = n) (hB : b.length = m) (hn : n ≤ 140737488351232) (hm : m ≤ 140737488351232) (ha : RB w A a) (hb : RB w B b) :
    Calls Tryd.prog 30 #[.slice A n c, .slice B m d] w fun e w' => e = .returned (.bool r) ∧ ∃ q, w' = w.drewN q := by
  by_cases h : n = m
  · subst h
    subst hA
    subst hr
    exact same_any A B _ c d a b w (by omega) ha (by rw [← hB]; exact hb)
  · refine (same_len A B n m c d w h (by simp only [maxLen]; omega) (by simp only [maxLen]; omega)).mono ?_
    rintro e w' ⟨rfl, rfl⟩
    have : decide (a = b) = false := by
      rw [decide_eq_false_iff_not]
      rintro rfl
      omega
    rw [this] at hr
    subst hr
    exact ⟨rfl, 0, rfl⟩
theorem arr_eq_self (l : List UInt8) : (l.toArray == l.toArray) = true := by simp
theorem arr_ne_self (l : List UInt8) : (l.toArray != l.toArray) = false := by simp
set_option maxRecDepth 1000000 in
set_option maxHeartbeats 2000000 in
theorem octetUnhexes_walk (s : ByteArray) (W : World) (hz : s.size ≤ 140737488351232) :
    Calls Tryd.prog 6 #[.string s] W fun e w' => e = .returned (.bool true) ∧ Below W.heap.size W w' := by
  rcases (by omega : 10000 < s.size ∨ s.size ≤ 10000) with h1 | h1
  · have d1 : decide (10000 < (s.size : Int)) = true := by rw [decide_eq_true_iff]; omega
    go_enter Tryd.func6, Tryd.ntmps6
    go_wp2_with fail
    refine (lives_any _).mono ?_
    rintro e w1 ⟨rfl, hb⟩
    go_wp2
    go_ret
    exact ⟨rfl, hb⟩
  · have d1 : decide (10000 < (s.size : Int)) = false := by rw [decide_eq_false_iff_not]; omega
    cases hok : okHex s.data.toList with
    | true =>
      go_enter Tryd.func6, Tryd.ntmps6
      go_wp2_with fail
      refine (unhex_ok s _ (by omega) hok).mono ?_
      rintro e w1 ⟨v, rfl, hv, hb1⟩
      generalize hl : unhexL s.data.toList = l at hv
      obtain ⟨A1, c1, rfl, _, _, hk1⟩ := hv.kb
      clear hv
      go_wp2_with fail
      refine (refUnhex_ok s _ (by omega) hok).mono ?_
      rintro e w2 ⟨v, rfl, hv, hb2⟩
      rw [hl] at hv
      obtain ⟨A2, c2, rfl, _, _, hk2⟩ := hv.kb
      clear hv hl hok
      have hb02 := hb1.trans (hb2.mono hb1.size)
      go_wp2_with fail
      refine (lives_any _).mono ?_
      rintro e w3 ⟨rfl, hb3⟩
      have hb03 := hb02.trans (hb3.mono hb02.size)
      have s1 := run_string ((hk1.below hb2).below hb3).1 _ c1 rfl
      have s2 := run_string (hk2.below hb3).1 _ c2 rfl
      have e1 := arr_ne_self l
      clear hb1 hb2 hb02 hb3
      go_wp2
      go_ret
      exact ⟨rfl, hb03⟩
    | false =>
      go_enter Tryd.func6, Tryd.ntmps6
      go_wp2_with fail
      refine (unhex_no s _ (by omega) hok).mono ?_
      rintro e w1 ⟨rfl, hb1⟩
      go_wp2_with fail
      refine (refUnhex_no s _ (by omega) hok).mono ?_
      rintro e w2 ⟨rfl, hb2⟩
      clear hok
      have hb02 := hb1.trans (hb2.mono hb1.size)
      go_wp2_with fail
      refine (lives_any _).mono ?_
      rintro e w3 ⟨rfl, hb3⟩
      have hb03 := hb02.trans (hb3.mono hb02.size)
      have s1 := run_string (RB.nil w3) 0 0 rfl
      clear hb1 hb2 hb02 hb3
      go_wp2
      go_ret
      exact ⟨rfl, hb03⟩


theorem S3 {w : World} {A B C : Option Addr} {la lb : List UInt8} (cA cB cC nA nB : Nat) (hA : la.length = nA) (hB : lb.length = nB) (ha : RB w A la) (hb : RB w B lb) (hc : RB w C la) :
    (convert 22 9 (.slice A nA cA)).run Tryd.prog w = .ok (.string ⟨la.toArray⟩) w ∧ (convert 22 9 (.slice B nB cB)).run Tryd.prog w = .ok (.string ⟨lb.toArray⟩) w ∧ (convert 22 9 (.slice C nA cC)).run Tryd.prog w = .ok (.string ⟨la.toArray⟩) w :=
  ⟨run_string ha _ cA hA, run_string hb _ cB hB, run_string hc _ cC hA⟩

set_option maxRecDepth 1000000 in
set_option maxHeartbeats 1000000 in
theorem sames_any (A B : Option Addr) (c d n m : Nat) (l l2 : List UInt8) (b : Bool) (hbd : decide (l = l2) = b) (hbe : (l.toArray == l2.toArray) = b) (hbf : (l == l2) = b) (W : World) (hl : l.length = n) (hl2 : l2.length = m) (hz : n ≤ 140737488351232) (hz2 : m ≤ 140737488351232) (hr : RB W A l) (hr2 : RB W B l2) :
    Calls Tryd.prog 7 #[.slice A n c, .slice B m d] W fun e w' => e = .returned (.bool true) ∧ Below W.heap.size W w' := by
  have HL := Lib.hid hl
  have HL2 := Lib.hid hl2
  have HBD := Lib.hid hbd
  have e1 := arr_eq_self l
  clear hl hl2 hbd
  cases b
  all_goals
    go_enter Tryd.func7, Tryd.ntmps7
    go_wp2_with (at_builtin; refine app_bytes _ rfl _ _ rfl W.heap.size _ [] rfl (emptyOB W W.heap.size (Nat.le_refl _)) A n c l rfl HL.out (hr.alloc _) (by simp; omega) (by simp) ?_; intro v1 w1 ho1 hg1 hat; have hb1 : Below W.heap.size W w1 := ((Below.refl _ _).alloc (Nat.le_refl _) _).grown hg1 (by simp) (by intro j hj; cases hj; exact Nat.le_refl _); obtain ⟨A3, c3, rfl, hh1, hh2, hk3⟩ := (show OB w1 W.heap.size v1 l from ho1).kb_n HL.out)
    clear ho1 hg1 hat
    have RA := Lib.hid (hr.below hb1)
    have RBB := Lib.hid (hr2.below hb1)
    have RC := Lib.hid hk3.1
    clear hr hr2 hk3
    go_region_held3 (fun w' => (convert 22 9 (.slice A n c)).run Tryd.prog w' = .ok (.string ⟨l.toArray⟩) w' ∧ (convert 22 9 (.slice B m d)).run Tryd.prog w' = .ok (.string ⟨l2.toArray⟩) w' ∧ (convert 22 9 (.slice A3 n c3)).run Tryd.prog w' = .ok (.string ⟨l.toArray⟩) w')
      (first | exact S3 c d c3 n m HL.out HL2.out RA.out RBB.out RC.out | exact S3 c d c3 n m HL.out HL2.out (RA.out.drew.below hb2) (RBB.out.drew.below hb2) (RC.out.drew.below hb2) | exact S3 c d c3 n m HL.out HL2.out ((RA.out.drew.below hb2).drewN _) ((RBB.out.drew.below hb2).drewN _) ((RC.out.drew.below hb2).drewN _))
      (first | (go_at_call 25; refine (lives_any _).mono ?_; rintro e w2 ⟨rfl, hb2⟩)
             | (go_at_call 30; (with_reducible refine (same_gen A B n m c d l l2 _ HBD.out _ HL.out HL2.out hz hz2 (by first | exact RA.out.drew.below hb2 | exact (RA.out.drew.below hb2).drewN _) (by first | exact RBB.out.drew.below hb2 | exact (RBB.out.drew.below hb2).drewN _)).mono ?_); rintro e w' ⟨rfl, q, rfl⟩)
             | (go_at_call 30; (with_reducible refine (same_gen A A3 n n c c3 l l true (decide_eq_true rfl) _ HL.out HL.out hz hz (by first | exact RA.out.drew.below hb2 | exact (RA.out.drew.below hb2).drewN _) (by first | exact RC.out.drew.below hb2 | exact (RC.out.drew.below hb2).drewN _)).mono ?_); rintro e w' ⟨rfl, q, rfl⟩))
    all_goals
      have hb12 := hb1.drew.trans (hb2.mono (by have := hb1.size; simpa using this))
      go_wp2
      go_ret
      exact ⟨rfl, Below_drewN hb12 _⟩

theorem octetSames_walk (A : Option Addr) (c : Nat) (l : List UInt8) (B : Option Addr) (d : Nat) (l2 : List UInt8) (W : World) (hr : RB W A l) (hc : l.length ≤ c) (hm : c ≤ maxLen) (hz : l.length ≤ 140737488351232) (hr2 : RB W B l2) (hc2 : l2.length ≤ d) (hm2 : d ≤ maxLen) (hz2 : l2.length ≤ 140737488351232) :
    Calls Tryd.prog 7 #[.slice A l.length c, .slice B l2.length d] W fun e w' => e = .returned (.bool true) ∧ Below W.heap.size W w' := by
  by_cases h : l = l2
  · subst h
    exact sames_any A B c d _ _ l l true (by simp) (by simp) (by simp) W rfl rfl hz hz2 hr hr2
  · exact sames_any A B c d _ _ l l2 false (by simp [h]) (by simp [h]) (by simp [h]) W rfl rfl hz hz2 hr hr2

end Go.Proofs.YtleancgkincenaaDoor
