/-
  The walk of the law GlobWider.
-/
import Derived.Test.YtodkjhbnodcbhaaDoorGlobLives
import Derived.Test.YtodkjhbnodcbhaaDoorGlobLaw1
import Derived.Deep.RegionHeld3
import Derived.Deep.QuietTactic
import Derived.BigQuiet
namespace Go.Proofs.YtodkjhbnodcbhaaDoor
open Go.RowKit Glob
set_option linter.unusedVariables false

theorem wid_long (s : ByteArray) (a b c : Int) (w : World) (hT : Tab w) (hz : s.size ≤ 140737488351232) (h : 5000 < s.size) : Calls Tryd.prog 5 #[.string s, .int .i64 a, .int .i64 b, .int .i64 c] w fun e w' => e = .returned (.bool true) ∧ Below w.heap.size w w' := by
  have e1 : decide (5000 < (s.size : Int)) = true := by rw [decide_eq_true_iff]; omega
  go_enter Tryd.func5, Tryd.ntmps5
  go_wp2_with fail
  refine (lives_any _ hT).mono ?_
  rintro e w' ⟨rfl, hb⟩
  go_wp2
  go_ret
  exact ⟨rfl, hb⟩
theorem wid_no (s : ByteArray) (a b c : Int) (w : World) (hT : Tab w) (h : s.size ≤ 5000) (hp : pathL s.data.toList = false) : Calls Tryd.prog 5 #[.string s, .int .i64 a, .int .i64 b, .int .i64 c] w fun e w' => e = .returned (.bool true) ∧ Below w.heap.size w w' := by
  have e1 : decide (5000 < (s.size : Int)) = false := by rw [decide_eq_false_iff_not]; omega
  have HP := rpath_any s w (by omega)
  rw [hp] at HP
  have HP := Lib.hid HP
  clear hp
  go_enter Tryd.func5, Tryd.ntmps5
  go_wp2_with fail
  refine HP.out.mono ?_
  rintro e w1 ⟨rfl, hb1⟩
  go_wp2_with fail
  refine (lives_any _ (hT.below hb1)).mono ?_
  rintro e w2 ⟨rfl, hb2⟩
  go_wp2
  go_ret
  exact ⟨rfl, hb1.trans (hb2.mono hb1.size)⟩
theorem wid_out (s : ByteArray) (a b c : Int) (w : World) (hT : Tab w) (h : s.size ≤ 5000) (hp : pathL s.data.toList = true) (hab : a < 0 ∨ (0 ≤ a ∧ b < a) ∨ (0 ≤ a ∧ a ≤ b ∧ (s.size : Int) < b)) : Calls Tryd.prog 5 #[.string s, .int .i64 a, .int .i64 b, .int .i64 c] w fun e w' => e = .returned (.bool true) ∧ Below w.heap.size w w' := by
  have e1 : decide (5000 < (s.size : Int)) = false := by rw [decide_eq_false_iff_not]; omega
  have HP := rpath_any s w (by omega)
  rw [hp] at HP
  have HP := Lib.hid HP
  clear hp
  rcases hab with g | ⟨g, g2⟩ | ⟨g, g2, g3⟩
  · have f1 : decide (a < 0) = true := by rw [decide_eq_true_iff]; omega
    go_enter Tryd.func5, Tryd.ntmps5
    go_wp2_with fail
    refine HP.out.mono ?_
    rintro e w1 ⟨rfl, hb1⟩
    go_wp2_with fail
    refine (lives_any _ (hT.below hb1)).mono ?_
    rintro e w2 ⟨rfl, hb2⟩
    go_wp2
    go_ret
    exact ⟨rfl, hb1.trans (hb2.mono hb1.size)⟩
  · have f1 : decide (a < 0) = false := by rw [decide_eq_false_iff_not]; omega
    have f2 : decide (b < a) = true := by rw [decide_eq_true_iff]; omega
    go_enter Tryd.func5, Tryd.ntmps5
    go_wp2_with fail
    refine HP.out.mono ?_
    rintro e w1 ⟨rfl, hb1⟩
    go_wp2_with fail
    refine (lives_any _ (hT.below hb1)).mono ?_
    rintro e w2 ⟨rfl, hb2⟩
    go_wp2
    go_ret
    exact ⟨rfl, hb1.trans (hb2.mono hb1.size)⟩
  · have f1 : decide (a < 0) = false := by rw [decide_eq_false_iff_not]; omega
    have f2 : decide (b < a) = false := by rw [decide_eq_false_iff_not]; omega
    have f3 : decide ((s.size : Int) < b) = true := by rw [decide_eq_true_iff]; omega
    go_enter Tryd.func5, Tryd.ntmps5
    go_wp2_with fail
    refine HP.out.mono ?_
    rintro e w1 ⟨rfl, hb1⟩
    go_wp2_with fail
    refine (lives_any _ (hT.below hb1)).mono ?_
    rintro e w2 ⟨rfl, hb2⟩
    go_wp2
    go_ret
    exact ⟨rfl, hb1.trans (hb2.mono hb1.size)⟩
theorem ext3 (s : ByteArray) (a b : Nat) (h1 : a ≤ b) (h2 : b ≤ s.size) : s.data.toList = (s.extract 0 a).data.toList ++ ((s.extract a b).data.toList ++ (s.extract b s.size).data.toList) := by
  have hl : s.data.toList.length = s.size := by cases s; simp [ByteArray.size]
  have e1 : (s.extract 0 a).data.toList = s.data.toList.take a := by simp
  have e2 : (s.extract a b).data.toList = (s.data.toList.drop a).take (b - a) := by simp [List.extract]
  have e3 : (s.extract b s.size).data.toList = s.data.toList.drop b := by simp [List.extract, List.take_of_length_le]
  rw [e1, e2, e3]
  conv => lhs; rw [← List.take_append_drop a s.data.toList, ← List.take_append_drop (b - a) (s.data.toList.drop a), List.drop_drop, show a + (b - a) = b from by omega]
theorem range_none (s : ByteArray) (a b : Nat) (h1 : a ≤ b) (h2 : b ≤ s.size) (h : ∀ j (hj : j < s.size), a ≤ j → j < b → s[j] ≠ 47) : (47 : UInt8) ∉ (s.extract a b).data.toList := by
  have e2 : (s.extract a b).data.toList = (s.data.toList.drop a).take (b - a) := by simp [List.extract]
  rw [e2]
  intro hm
  obtain ⟨i, hi, he⟩ := List.getElem_of_mem hm
  rw [List.length_take, List.length_drop] at hi
  have hl : s.data.toList.length = s.size := by cases s; simp [ByteArray.size]
  rw [List.getElem_take, List.getElem_drop] at he
  exact h (a + i) (by omega) (by omega) (by omega) he
theorem below_drewN' (B : Nat) (w : World) (n : Nat) : Below B w (w.drewN n) := ⟨rfl, rfl, rfl, Nat.le_refl _, fun _ _ => rfl⟩
theorem below_drew1 (B : Nat) (w : World) : Below B w w.drew := ⟨rfl, rfl, rfl, Nat.le_refl _, fun _ _ => rfl⟩
theorem at_cases (s : ByteArray) (c : Int) : c < 0 ∨ (0 ≤ c ∧ (s.size : Int) ≤ c) ∨ (∃ (k : Nat) (h : k < s.size), c = k ∧ s[k] = 47) ∨ (∃ (k : Nat) (h : k < s.size), c = k ∧ s[k] ≠ 47) := by
  rcases (by omega : c < 0 ∨ (0 ≤ c ∧ (s.size : Int) ≤ c) ∨ (0 ≤ c ∧ c < (s.size : Int))) with h | h | ⟨h, h2⟩
  · exact .inl h
  · exact .inr (.inl h)
  · obtain ⟨k, rfl⟩ := Int.eq_ofNat_of_zero_le h
    have hk : k < s.size := by omega
    by_cases e : s[k] = 47
    · exact .inr (.inr (.inl ⟨k, hk, rfl, e⟩))
    · exact .inr (.inr (.inr ⟨k, hk, rfl, e⟩))
theorem quest_match (s : ByteArray) (k : Nat) (hk : k < s.size) (hp : pathL s.data.toList = true) (h : s[k] ≠ 47) : matchL (s.extract 0 k ++ (⟨#[63]⟩ : ByteArray) ++ s.extract (k + 1) s.size).data.toList s.data.toList = true := by
  have hpd : (s.extract 0 k ++ (⟨#[63]⟩ : ByteArray) ++ s.extract (k + 1) s.size).data.toList = (s.extract 0 k).data.toList ++ ([63] ++ (s.extract (k + 1) s.size).data.toList) := by simp [ByteArray.data_append]
  have e3 := ext3 s k (k + 1) (by omega) (by omega)
  have hm : (s.extract k (k + 1)).data.toList = [s[k]] := by
    have hl : s.data.toList.length = s.size := by cases s; simp [ByteArray.size]
    have e2 : (s.extract k (k + 1)).data.toList = (s.data.toList.drop k).take 1 := by simp [List.extract]
    rw [e2, List.drop_eq_getElem_cons (by rw [hl]; exact hk)]; rfl
  rw [hm] at e3
  have h128 := (path_bytes _ hp).2.1
  have hlen := congrArg List.length e3
  rw [hpd]
  conv => lhs; arg 2; rw [e3]
  refine wider_match _ [s[k]] [63] _ (by rw [← e3]; exact hp) (by simp; exact fun e => h e.symm) (by decide) ?_ (by decide) ⟨63, .head _, .inr rfl⟩ ?_
  · rw [mt_other 63 [] (by decide)]
    exact ⟨s[k], [], rfl, by simp, (mt_nil []).2 rfl⟩
  · simp only [List.length_append, List.length_cons, List.length_nil] at hlen ⊢
    omega
set_option maxRecDepth 100000 in
set_option maxHeartbeats 4000000 in
theorem wid_in (s : ByteArray) (a b : Nat) (c : Int) (w : World) (hT : Tab w) (h : s.size ≤ 5000) (hp : pathL s.data.toList = true) (hab : a ≤ b) (hbs : b ≤ s.size) : Calls Tryd.prog 5 #[.string s, .int .i64 a, .int .i64 b, .int .i64 c] w fun e w' => e = .returned (.bool true) ∧ Below w.heap.size w w' := by
  have e1 : decide (5000 < (s.size : Int)) = false := by rw [decide_eq_false_iff_not]; omega
  have f1 : decide ((a : Int) < 0) = false := by rw [decide_eq_false_iff_not]; omega
  have f2 : decide ((b : Int) < (a : Int)) = false := by rw [decide_eq_false_iff_not]; omega
  have f2' : decide (b < a) = false := by rw [decide_eq_false_iff_not]; omega
  have f3 : decide ((s.size : Int) < (b : Int)) = false := by rw [decide_eq_false_iff_not]; omega
  have f3' : decide (s.size < b) = false := by rw [decide_eq_false_iff_not]; omega
  have HP := rpath_any s w (by omega)
  rw [hp] at HP
  have HP := Lib.hid HP
  have HPP := Lib.hid hp
  clear hp
  have HL := fun w h => Lib.hid (lives_any w h)
  go_enter Tryd.func5, Tryd.ntmps5
  go_wp2_with fail
  refine HP.out.mono ?_
  rintro e w1 ⟨rfl, hb1⟩
  have hT1 := hT.below hb1
  go_wp2
  go_loop [9] (fun i => ∃ k : Nat, a ≤ k ∧ k ≤ b ∧ i = .int .i64 k ∧ Hid (∀ j (hj : j < s.size), a ≤ j → j < k → s[j] ≠ 47)) (fun i => b - (intOf i).toNat)
  case atStart => exact ⟨a, Nat.le_refl _, hab, rfl, Lib.hid (fun j hj h1 h2 => by omega)⟩
  case round =>
    obtain ⟨k, hak, hkb, rfl, HK⟩ := hrel
    rcases (by omega : k < b ∨ k = b) with hlt | heq
    · have hks : k < s.size := by omega
      obtain ⟨x, hx⟩ : ∃ x, x = s[k] := ⟨_, rfl⟩
      have hx' := hx.symm
      have HX := Lib.hid hx
      clear hx
      have hki : (k : Int) < (b : Int) := by omega
      have hki2 : (k : Int) < (s.size : Int) := by omega
      by_cases h47 : x = 47
      · subst h47
        go_wp2_with fail
        refine (HL _ hT1).out.mono ?_
        rintro e w2 ⟨rfl, hb2⟩
        go_wp2
        go_ret
        exact ⟨rfl, hb1.trans (hb2.mono hb1.size)⟩
      · have e3 : ((x.toNat : Int) == 47) = false := by
          rw [beq_eq_false_iff_ne]
          intro e
          exact h47 (UInt8.toNat_inj.1 (by show _ = 47; omega))
        have HK' : Hid (∀ j (hj : j < s.size), a ≤ j → j < k + 1 → s[j] ≠ 47) := fun j hj h1 h2 => by
          rcases (by omega : j < k ∨ j = k) with h3 | h3
          · exact HK.out j hj h1 h3
          · subst h3; rw [← HX.out]; exact h47
        clear h47
        go_wp2
        go_round
        case rel => exact ⟨k + 1, by omega, by omega, by go_num, HK'⟩
        case measure => simp [intOf]; omega
    · have hki : ¬ (k : Int) < (b : Int) := by omega
      have hno := range_none s a b hab hbs (by rw [← heq]; exact HK.out)
      clear heq HK
      have g1 : (s.extract 0 a).size ≤ 5000 := by rw [ByteArray.size_extract]; omega
      have g2 : (s.extract b s.size).size ≤ 5000 := by rw [ByteArray.size_extract]; omega
      have g3 : (s.extract 0 a ++ (⟨#[42]⟩ : ByteArray)).size ≤ 5001 := by rw [ByteArray.size_append]; show _ + 1 ≤ _; omega
      have hai : (a : Int) ≤ (s.size : Int) := by omega
      have hbi : (b : Int) ≤ (s.size : Int) := by omega
      go_wp2
      go_quiet (fail)
      have hT1q : Tab (w1.drewN nq) := hT1
      obtain ⟨p, hpe⟩ : ∃ p, p = s.extract 0 a ++ (⟨#[42]⟩ : ByteArray) ++ s.extract b s.size := ⟨_, rfl⟩
      have hpd : p.data.toList = (s.extract 0 a).data.toList ++ ([42] ++ (s.extract b s.size).data.toList) := by rw [hpe]; simp [ByteArray.data_append]
      have hpl : p.data.toList.length = p.size := by cases p; simp [ByteArray.size]
      have hps : p.size ≤ 100000 := by rw [hpe, ByteArray.size_append]; omega
      have HM : Hid (p.size ≤ 128 → matchL p.data.toList s.data.toList = true) := fun h128 => by
        rw [hpd, ext3 s a b hab hbs]
        refine wider_match _ _ [42] _ (by rw [← ext3 s a b hab hbs]; exact HPP.out) hno (by decide) (mt_one_star _) (by decide) ⟨42, .head _, .inl rfl⟩ ?_
        rw [← hpd, hpl]; exact h128
      rw [← hpe]
      clear hpe hpd hpl hno g1 g2 g3
      go_wp2_with fail
      refine (HL _ hT1q).out.mono ?_
      rintro e w2 ⟨rfl, hb2⟩
      have hT2 := hT1q.below hb2
      have a1 : Below w.heap.size w (w1.drewN nq) := hb1.trans (below_drewN' _ _ _)
      have a2 := a1.trans (hb2.mono a1.size)
      clear a1 hb2 hT1q hT1
      rcases (by omega : p.size ≤ 128 ∨ 128 < p.size) with h128 | h128
      · have f4 : decide ((p.size : Int) ≤ 128) = true := by rw [decide_eq_true_iff]; omega
        have HMM := fun w h0 => Lib.hid (match_is p s true (HM.out h128) w hps (by omega) h0)
        clear HM
        rcases at_cases s c with hc | ⟨hc, hc2⟩ | ⟨k, hk, rfl, hs47⟩ | ⟨k, hk, rfl, hs47⟩
        · have f5 : decide (c < 0) = true := by rw [decide_eq_true_iff]; omega
          go_wp2_with fail
          refine (HMM _ hT2).out.mono ?_
          rintro e w3 ⟨rfl, hb3⟩
          have hT3 := hT2.below hb3
          have a3 := a2.trans (hb3.mono a2.size)
          go_wp2
          go_ret
          exact ⟨rfl, a3⟩
        · have f5 : decide (c < 0) = false := by rw [decide_eq_false_iff_not]; omega
          have f6 : decide ((s.size : Int) ≤ c) = true := by rw [decide_eq_true_iff]; omega
          go_wp2_with fail
          refine (HMM _ hT2).out.mono ?_
          rintro e w3 ⟨rfl, hb3⟩
          have hT3 := hT2.below hb3
          have a3 := a2.trans (hb3.mono a2.size)
          go_wp2
          go_ret
          exact ⟨rfl, a3⟩
        · have f5 : decide ((k : Int) < 0) = false := by rw [decide_eq_false_iff_not]; omega
          have f6 : decide ((s.size : Int) ≤ (k : Int)) = false := by rw [decide_eq_false_iff_not]; omega
          have f6' : decide (s.size ≤ k) = false := by rw [decide_eq_false_iff_not]; omega
          have hk0 : (k : Int) < (s.size : Int) := by omega
          have hx' : s[k] = 47 := hs47
          go_wp2_with fail
          refine (HMM _ hT2).out.mono ?_
          rintro e w3 ⟨rfl, hb3⟩
          have hT3 := hT2.below hb3
          have a3 := a2.trans (hb3.mono a2.size)
          go_wp2
          go_ret
          exact ⟨rfl, a3⟩
        · have f5 : decide ((k : Int) < 0) = false := by rw [decide_eq_false_iff_not]; omega
          have f6 : decide ((s.size : Int) ≤ (k : Int)) = false := by rw [decide_eq_false_iff_not]; omega
          have f6' : decide (s.size ≤ k) = false := by rw [decide_eq_false_iff_not]; omega
          have hk0 : (k : Int) < (s.size : Int) := by omega
          obtain ⟨y, hy⟩ : ∃ y, y = s[k] := ⟨_, rfl⟩
          have hx' := hy.symm
          have f7 : ((y.toNat : Int) == 47) = false := by
            rw [beq_eq_false_iff_ne]
            intro e
            exact hs47 (by rw [← hy]; exact UInt8.toNat_inj.1 (by show _ = 47; omega))
          have HQ := Lib.hid (quest_match s k hk HPP.out hs47)
          clear hy hs47
          have g1 : (s.extract 0 k).size ≤ 5000 := by rw [ByteArray.size_extract]; omega
          have g2 : (s.extract (k + 1) s.size).size ≤ 5000 := by rw [ByteArray.size_extract]; omega
          have g3 : (s.extract 0 k ++ (⟨#[63]⟩ : ByteArray)).size ≤ 5001 := by rw [ByteArray.size_append]; show _ + 1 ≤ _; omega
          have g4 : (s.extract 0 k ++ (⟨#[63]⟩ : ByteArray) ++ s.extract (k + 1) s.size).size ≤ 100000 := by rw [ByteArray.size_append]; omega
          have hk1 : (k : Int) + 1 ≤ (s.size : Int) := by omega
          have hk8 : (0 : Int) ≤ (k : Int) := by omega
          have hk9 : k ≤ s.size := by omega
          have hk10 : ¬ 9223372036854775807 < k + 1 := by omega
          have hk11 : ¬ 9223372036854775807 < k + 1 + (s.size - (k + 1)) := by omega
          have hw1 : IntKind.i64.wrap ((k : Int) + 1) = (k : Int) + 1 := IntWalk.i64_in _ (by omega)
          have hw2 : (0 : Int) ≤ (k : Int) + 1 := by omega
          have hw3 : ((k : Int) + 1).toNat = k + 1 := by omega
          go_wp2_with fail
          refine (HMM _ hT2).out.mono ?_
          rintro e w3 ⟨rfl, hb3⟩
          have hT3 := hT2.below hb3
          have a3 := a2.trans (hb3.mono a2.size)
          go_wp2
          have hTq : Tab w3.drew := hT3
          have HQM := fun w h0 => Lib.hid (match_is (s.extract 0 k ++ (⟨#[63]⟩ : ByteArray) ++ s.extract (k + 1) s.size) s true HQ.out w g4 (by omega) h0)
          go_region_held3 (fun w' => True) (trivial)
            (first | (go_at_call 18; (refine (HQM _ hTq).out.mono ?_); rintro e w4 ⟨rfl, hb4⟩))
          go_wp2
          go_ret
          exact ⟨rfl, a3.trans ((below_drew1 _ _).trans (hb4.mono (show w.heap.size ≤ w3.drew.heap.size from a3.size)))⟩
      · have f4 : decide ((p.size : Int) ≤ 128) = false := by rw [decide_eq_false_iff_not]; omega
        clear HM
        rcases at_cases s c with hc | ⟨hc, hc2⟩ | ⟨k, hk, rfl, hs47⟩ | ⟨k, hk, rfl, hs47⟩
        · have f5 : decide (c < 0) = true := by rw [decide_eq_true_iff]; omega
          go_wp2
          go_ret
          exact ⟨rfl, a2⟩
        · have f5 : decide (c < 0) = false := by rw [decide_eq_false_iff_not]; omega
          have f6 : decide ((s.size : Int) ≤ c) = true := by rw [decide_eq_true_iff]; omega
          go_wp2
          go_ret
          exact ⟨rfl, a2⟩
        · have f5 : decide ((k : Int) < 0) = false := by rw [decide_eq_false_iff_not]; omega
          have f6 : decide ((s.size : Int) ≤ (k : Int)) = false := by rw [decide_eq_false_iff_not]; omega
          have f6' : decide (s.size ≤ k) = false := by rw [decide_eq_false_iff_not]; omega
          have hk0 : (k : Int) < (s.size : Int) := by omega
          have hx' : s[k] = 47 := hs47
          go_wp2
          go_ret
          exact ⟨rfl, a2⟩
        · have f5 : decide ((k : Int) < 0) = false := by rw [decide_eq_false_iff_not]; omega
          have f6 : decide ((s.size : Int) ≤ (k : Int)) = false := by rw [decide_eq_false_iff_not]; omega
          have f6' : decide (s.size ≤ k) = false := by rw [decide_eq_false_iff_not]; omega
          have hk0 : (k : Int) < (s.size : Int) := by omega
          obtain ⟨y, hy⟩ : ∃ y, y = s[k] := ⟨_, rfl⟩
          have hx' := hy.symm
          have f7 : ((y.toNat : Int) == 47) = false := by
            rw [beq_eq_false_iff_ne]
            intro e
            exact hs47 (by rw [← hy]; exact UInt8.toNat_inj.1 (by show _ = 47; omega))
          have HQ := Lib.hid (quest_match s k hk HPP.out hs47)
          clear hy hs47
          have g1 : (s.extract 0 k).size ≤ 5000 := by rw [ByteArray.size_extract]; omega
          have g2 : (s.extract (k + 1) s.size).size ≤ 5000 := by rw [ByteArray.size_extract]; omega
          have g3 : (s.extract 0 k ++ (⟨#[63]⟩ : ByteArray)).size ≤ 5001 := by rw [ByteArray.size_append]; show _ + 1 ≤ _; omega
          have g4 : (s.extract 0 k ++ (⟨#[63]⟩ : ByteArray) ++ s.extract (k + 1) s.size).size ≤ 100000 := by rw [ByteArray.size_append]; omega
          have hk1 : (k : Int) + 1 ≤ (s.size : Int) := by omega
          have hk8 : (0 : Int) ≤ (k : Int) := by omega
          have hk9 : k ≤ s.size := by omega
          have hk10 : ¬ 9223372036854775807 < k + 1 := by omega
          have hk11 : ¬ 9223372036854775807 < k + 1 + (s.size - (k + 1)) := by omega
          have hw1 : IntKind.i64.wrap ((k : Int) + 1) = (k : Int) + 1 := IntWalk.i64_in _ (by omega)
          have hw2 : (0 : Int) ≤ (k : Int) + 1 := by omega
          have hw3 : ((k : Int) + 1).toNat = k + 1 := by omega
          go_wp2
          have hTq : Tab w2.drew := hT2
          have HQM := fun w h0 => Lib.hid (match_is (s.extract 0 k ++ (⟨#[63]⟩ : ByteArray) ++ s.extract (k + 1) s.size) s true HQ.out w g4 (by omega) h0)
          go_region_held3 (fun w' => True) (trivial)
            (first | (go_at_call 18; (refine (HQM _ hTq).out.mono ?_); rintro e w4 ⟨rfl, hb4⟩))
          go_wp2
          go_ret
          exact ⟨rfl, a2.trans ((below_drew1 _ _).trans (hb4.mono (show w.heap.size ≤ w2.drew.heap.size from a2.size)))⟩
theorem globWider_walk (s : ByteArray) (a b c : Int) (w : World) (hT : Tab w) (hz : s.size ≤ 140737488351232) : Calls Tryd.prog 5 #[.string s, .int .i64 a, .int .i64 b, .int .i64 c] w fun e w' => e = .returned (.bool true) ∧ Below w.heap.size w w' := by
  rcases (by omega : 5000 < s.size ∨ s.size ≤ 5000) with h | h
  · exact wid_long s a b c w hT hz h
  · cases hp : pathL s.data.toList with
    | false => exact wid_no s a b c w hT h hp
    | true =>
      rcases (by omega : (a < 0 ∨ (0 ≤ a ∧ b < a) ∨ (0 ≤ a ∧ a ≤ b ∧ (s.size : Int) < b)) ∨ (0 ≤ a ∧ a ≤ b ∧ b ≤ (s.size : Int))) with g | ⟨g, g2, g3⟩
      · exact wid_out s a b c w hT h hp g
      · obtain ⟨x, rfl⟩ := Int.eq_ofNat_of_zero_le g
        obtain ⟨y, rfl⟩ := Int.eq_ofNat_of_zero_le (show 0 ≤ b by omega)
        exact wid_in s x y c w hT h hp (by omega) (by omega)
end Go.Proofs.YtodkjhbnodcbhaaDoor
