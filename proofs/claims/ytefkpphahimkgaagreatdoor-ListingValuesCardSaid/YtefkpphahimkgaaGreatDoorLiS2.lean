/-
 slices.SortStableFunc at files whose names rise: the merge writes nothing.
-/
import Derived.Test.YtefkpphahimkgaaGreatDoorTk
import Derived.Test.YtefkpphahimkgaaGreatDoorLiS1
namespace Go.Proofs.YtefkpphahimkgaaGreatDoor
open Go.RowKit
attribute [local go_sem ↓] Go.wp_at_zero Go.wp_at_succ
set_option linter.unusedVariables false
set_option linter.unusedSimpArgs false
set_option maxRecDepth 100000 in
set_option maxHeartbeats 8000000 in
theorem symE_one {w : World} {b0 o c : Nat} {l : List ME} (h : RowE w b0 o l) (hr : RisE l) (a m b n : Nat) (hn : n = l.length) (ham : m = a + 1) (hmb : m < b) (hb : b ≤ n) (hl : n ≤ 64) :
  Calls Tryz.prog 127 #[.slice (some ⟨b0, o, none⟩) n c, .int .i64 (a : Int), .int .i64 (m : Int), .int .i64 (b : Int), .func (.func 47) #[] #[]] w fun e w' => e = .returned (.tuple #[]) ∧ Below w.heap.size w w' := by
 have HN := Ld hn
 have HR := Ld hr
 have HROW := Ld h
 have q0 : (0 : Int) ≤ (a : Int) := by omega
 have q1 : (a : Int) ≤ 64 := by omega
 have q2 : (0 : Int) ≤ (b : Int) := by omega
 have q3 : (b : Int) ≤ 64 := by omega
 have q4 : (0 : Int) ≤ (m : Int) := by omega
 have q5 : (m : Int) ≤ 64 := by omega
 have e1 : (m : Int) - (a : Int) = 1 := by omega
 have HAM := Ld ham
 have k1 : (m : Int) - 1 = (a : Int) := by omega
 have k2 : decide ((a : Int) < (m : Int) - 1) = false := by rw [decide_eq_false_iff_not]; omega
 clear hn hr h ham
 go_enter Tryz.func127, Tryz.ntmps127
 go_wp2
 go_loopw [10, 11] (fun iv jv wr => ∃ J : Nat, m ≤ J ∧ J ≤ b ∧ iv = .int .i64 (m : Int) ∧ jv = .int .i64 (J : Int) ∧ Hid (Below w.heap.size w wr)) (fun _ jv _ => (intOf jv).toNat)
 case atStart => exact ⟨b, by omega, Nat.le_refl _, rfl, rfl, Ld (Below.refl _ _)⟩
 case round =>
  obtain ⟨J, hJ1, hJ2, rfl, rfl, HW⟩ := hrel
  have g1 : (0 : Int) ≤ (J : Int) := by omega
  have g2 : (J : Int) ≤ 64 := by omega
  rcases Nat.lt_or_ge m J with hlt | hge
  ·have d1 : decide ((m : Int) < (J : Int)) = true := by rw [decide_eq_true_iff]; omega
   have d1' : decide (m < J) = true := decide_eq_true hlt
   obtain ⟨H, hH⟩ : ∃ H, H = (m + J) / 2 := ⟨_, rfl⟩
   have hH1 : ((m : Int) + (J : Int)) / 2 = (H : Int) := by omega
   have hH2 : m ≤ H ∧ H < J := by omega
   have HH := Ld hH2
   clear hlt hH
   have ham := HAM.out
   have hI : H < l.length := by rw [← HN.out]; omega
   have hJ : a < l.length := by rw [← HN.out]; omega
   obtain ⟨x, hx⟩ : ∃ x, l[H] = x := ⟨_, rfl⟩
   obtain ⟨y, hy⟩ : ∃ x, l[a] = x := ⟨_, rfl⟩
   have hcc := HR.out (a) (H) (by omega) hI
   rw [hx, hy] at hcc
   have HCC := Ld hcc
   have HFx := Ld (fun V hV => HROW.out V hV (H) hI x hx)
   have HFy := Ld (fun V hV => HROW.out V hV (a) hJ y hy)
   clear hx hy hcc hI hJ
   clear ham
   have iH1 : (0 : Int) ≤ (H : Int) := by omega
   have iH2 : (H : Int) < (n : Int) := by omega
   have iH3 : H < n := by omega
   have ia1 : (0 : Int) ≤ (a : Int) := by omega
   have ia2 : (a : Int) < (n : Int) := by omega
   have ia3 : a < n := by omega
   clear hH2
   go_wp2
   try rw [hH1]
   refine wp_region_held_drew (S := fun V => Below w.heap.size w V) (by kernel_rfl) (HW.out.drew) (fun hS1 => ?_)
   refine tk 0 (some 40) (.func (.func 47) #[] #[]) rfl (fun V hS => by go_simp) hS1 ?_
   simp only [nf]
   refine tk 1 (some 41) (.slice (some ⟨b0, o, none⟩) n c) rfl (fun V hS => by go_simp) hS1 ?_
   simp only [nf]
   refine tk 2 (some 42) (.int .i64 (H : Int)) rfl (fun V hS => by go_simp) hS1 ?_
   simp only [nf]
   refine tk 3 (some 43) (.pointer (some ⟨b0, o + H * 4, none⟩)) rfl (fun V hS => by go_simp) hS1 ?_
   simp only [nf]
   refine tk 4 (some 44) (.agg #[.string x.name, .int .i64 x.ver, .int .i64 x.len, .string x.hash]) rfl (fun V hS => by obtain ⟨h0, h1, h2, h3⟩ := HFx.out V hS; go_simp) hS1 ?_
   simp only [nf]
   refine tk 5 (some 45) (.slice (some ⟨b0, o, none⟩) n c) rfl (fun V hS => by go_simp) hS1 ?_
   simp only [nf]
   refine tk 6 (some 46) (.int .i64 (a : Int)) rfl (fun V hS => by go_simp) hS1 ?_
   simp only [nf]
   refine tk 7 (some 47) (.pointer (some ⟨b0, o + a * 4, none⟩)) rfl (fun V hS => by go_simp) hS1 ?_
   simp only [nf]
   refine tk 8 (some 48) (.agg #[.string y.name, .int .i64 y.ver, .int .i64 y.len, .string y.hash]) rfl (fun V hS => by obtain ⟨h0, h1, h2, h3⟩ := HFy.out V hS; go_simp) hS1 ?_
   simp only [nf]
   refine rd1 9 rfl (fun K' hK => ?_)
   go_simp
   refine (byName_gt HCC.out _).mono ?_
   rintro e w9 ⟨rfl, hb9⟩
   go_simp
   refine hK.out _ _ ((hS1).trans (hb9.mono (hS1).size)) (fun hS2 => ?_)
   clear hK K' hS1
   refine tk 10 (some 50) (.bool false) rfl (fun V hS => by go_simp) hS2 ?_
   simp only [nf]
   refine wpAnyH_done (by kernel_rfl) ?_ _
   have HB9 := Ld (hS2)
   clear hS2 hH1
   go_wp2
   go_roundw
   case rel => exact ⟨H, HH.out.1, by have := HH.out; omega, rfl, rfl, HB9⟩
   case measure => have := HH.out; simp [intOf]; omega
  ·have d1 : decide ((m : Int) < (J : Int)) = false := by rw [decide_eq_false_iff_not]; omega
   have d1' : decide (m < J) = false := decide_eq_false (by omega)
   clear hJ1 hge
   go_wp2
   go_loopw [13] (fun kv wr2 => kv = .int .i64 (a : Int) ∧ Hid (Below w.heap.size w wr2)) (fun _ _ => 0)
   case atStart => exact ⟨rfl, HW⟩
   case round =>
    obtain ⟨rfl, HW2⟩ := hrel
    go_wp2
    refine bodyPost_ret (v := .tuple #[]) (by simp [results, Tryz.results127, go_sem]) rfl ?_
    exact ⟨rfl, HW2.out⟩
set_option maxRecDepth 100000 in
set_option maxHeartbeats 8000000 in
theorem symE_two {w : World} {b0 o c : Nat} {l : List ME} (h : RowE w b0 o l) (hr : RisE l) (a m b n : Nat) (hn : n = l.length) (ham : a + 1 < m) (hmb : b = m + 1) (hb : b ≤ n) (hl : n ≤ 64) :
  Calls Tryz.prog 127 #[.slice (some ⟨b0, o, none⟩) n c, .int .i64 (a : Int), .int .i64 (m : Int), .int .i64 (b : Int), .func (.func 47) #[] #[]] w fun e w' => e = .returned (.tuple #[]) ∧ Below w.heap.size w w' := by
 have HN := Ld hn
 have HR := Ld hr
 have HROW := Ld h
 have q0 : (0 : Int) ≤ (a : Int) := by omega
 have q1 : (a : Int) ≤ 64 := by omega
 have q2 : (0 : Int) ≤ (b : Int) := by omega
 have q3 : (b : Int) ≤ 64 := by omega
 have q4 : (0 : Int) ≤ (m : Int) := by omega
 have q5 : (m : Int) ≤ 64 := by omega
 have e1 : (b : Int) - (m : Int) = 1 := by omega
 have e2 : ¬ (m : Int) - (a : Int) = 1 := by omega
 have e3 : decide ((m : Int) - (a : Int) = 1) = false := decide_eq_false e2
 have e4 : ((m : Int) - (a : Int) == 1) = false := beq_eq_false_iff_ne.2 e2
 have HAM := Ld ham
 have HMB := Ld hmb
 clear hn hr h ham hmb
 go_enter Tryz.func127, Tryz.ntmps127
 go_wp2
 go_loopw [14, 15] (fun iv jv wr => ∃ J : Nat, a ≤ J ∧ J ≤ m ∧ iv = .int .i64 (J : Int) ∧ jv = .int .i64 (m : Int) ∧ Hid (Below w.heap.size w wr)) (fun iv _ _ => 66 - (intOf iv).toNat)
 case atStart => exact ⟨a, Nat.le_refl _, by have := HAM.out; omega, rfl, rfl, Ld (Below.refl _ _)⟩
 case round =>
  obtain ⟨J, hJ1, hJ2, rfl, rfl, HW⟩ := hrel
  have g1 : (0 : Int) ≤ (J : Int) := by omega
  have g2 : (J : Int) ≤ 64 := by omega
  rcases Nat.lt_or_ge J m with hlt | hge
  ·have d1 : decide ((J : Int) < (m : Int)) = true := by rw [decide_eq_true_iff]; omega
   have d1' : decide (J < m) = true := decide_eq_true hlt
   obtain ⟨H, hH⟩ : ∃ H, H = (J + m) / 2 := ⟨_, rfl⟩
   have hH1 : ((J : Int) + (m : Int)) / 2 = (H : Int) := by omega
   have hH2 : J ≤ H ∧ H < m := by omega
   have HH := Ld hH2
   clear hlt hH
   have hmb := HMB.out
   have hI : m < l.length := by rw [← HN.out]; omega
   have hJ : H < l.length := by rw [← HN.out]; omega
   obtain ⟨x, hx⟩ : ∃ x, l[m] = x := ⟨_, rfl⟩
   obtain ⟨y, hy⟩ : ∃ x, l[H] = x := ⟨_, rfl⟩
   have hcc := HR.out (H) (m) (by omega) hI
   rw [hx, hy] at hcc
   have HCC := Ld hcc
   have HFx := Ld (fun V hV => HROW.out V hV (m) hI x hx)
   have HFy := Ld (fun V hV => HROW.out V hV (H) hJ y hy)
   clear hx hy hcc hI hJ
   clear hmb
   have iH1 : (0 : Int) ≤ (H : Int) := by omega
   have iH2 : (H : Int) < (n : Int) := by omega
   have iH3 : H < n := by omega
   have im1 : (0 : Int) ≤ (m : Int) := by omega
   have im2 : (m : Int) < (n : Int) := by omega
   have im3 : m < n := by omega
   clear hH2
   go_wp2
   try rw [hH1]
   refine wp_region_held_drew (S := fun V => Below w.heap.size w V) (by kernel_rfl) (HW.out.drew) (fun hS1 => ?_)
   refine tk 0 (some 92) (.func (.func 47) #[] #[]) rfl (fun V hS => by go_simp) hS1 ?_
   simp only [nf]
   refine tk 1 (some 93) (.slice (some ⟨b0, o, none⟩) n c) rfl (fun V hS => by go_simp) hS1 ?_
   simp only [nf]
   refine tk 2 (some 94) (.int .i64 (m : Int)) rfl (fun V hS => by go_simp) hS1 ?_
   simp only [nf]
   refine tk 3 (some 95) (.pointer (some ⟨b0, o + m * 4, none⟩)) rfl (fun V hS => by go_simp) hS1 ?_
   simp only [nf]
   refine tk 4 (some 96) (.agg #[.string x.name, .int .i64 x.ver, .int .i64 x.len, .string x.hash]) rfl (fun V hS => by obtain ⟨h0, h1, h2, h3⟩ := HFx.out V hS; go_simp) hS1 ?_
   simp only [nf]
   refine tk 5 (some 97) (.slice (some ⟨b0, o, none⟩) n c) rfl (fun V hS => by go_simp) hS1 ?_
   simp only [nf]
   refine tk 6 (some 98) (.int .i64 (H : Int)) rfl (fun V hS => by go_simp) hS1 ?_
   simp only [nf]
   refine tk 7 (some 99) (.pointer (some ⟨b0, o + H * 4, none⟩)) rfl (fun V hS => by go_simp) hS1 ?_
   simp only [nf]
   refine tk 8 (some 100) (.agg #[.string y.name, .int .i64 y.ver, .int .i64 y.len, .string y.hash]) rfl (fun V hS => by obtain ⟨h0, h1, h2, h3⟩ := HFy.out V hS; go_simp) hS1 ?_
   simp only [nf]
   refine rd1 9 rfl (fun K' hK => ?_)
   go_simp
   refine (byName_gt HCC.out _).mono ?_
   rintro e w9 ⟨rfl, hb9⟩
   go_simp
   refine hK.out _ _ ((hS1).trans (hb9.mono (hS1).size)) (fun hS2 => ?_)
   clear hK K' hS1
   refine tk 10 (some 102) (.bool false) rfl (fun V hS => by go_simp) hS2 ?_
   simp only [nf]
   refine tk 11 (some 103) (.bool true) rfl (fun V hS => by go_simp) hS2 ?_
   simp only [nf]
   refine wpAnyH_done (by kernel_rfl) ?_ _
   have HB9 := Ld (hS2)
   clear hS2 hH1
   go_wp2
   go_roundw
   case rel => exact ⟨H + 1, by have := HH.out; omega, by have := HH.out; omega, by go_num, rfl, HB9⟩
   case measure => have := HH.out; simp [intOf]; omega
  ·have hjm : J = m := by omega
   have d1 : decide ((m : Int) < (m : Int)) = false := by rw [decide_eq_false_iff_not]; omega
   have d1' : decide (m < m) = false := decide_eq_false (by omega)
   rw [hjm]
   clear hJ1 hge hJ2 hjm
   go_wp2
   go_loopw [17] (fun kv wr2 => kv = .int .i64 (m : Int) ∧ Hid (Below w.heap.size w wr2)) (fun _ _ => 0)
   case atStart => exact ⟨rfl, HW⟩
   case round =>
    obtain ⟨rfl, HW2⟩ := hrel
    go_wp2
    refine bodyPost_ret (v := .tuple #[]) (by simp [results, Tryz.results127, go_sem]) rfl ?_
    exact ⟨rfl, HW2.out⟩
set_option maxRecDepth 100000 in
set_option maxHeartbeats 8000000 in
theorem symE_hi {w : World} {b0 o c : Nat} {l : List ME} (h : RowE w b0 o l) (hr : RisE l) (a m b n : Nat) (hn : n = l.length) (ham : a + 1 < m) (hmb : m + 1 < b) (hb : b ≤ n) (hl : n ≤ 64) (hih : ∀ (w' : World), RowE w' b0 o l → ∀ a' m' b' : Nat, a' < m' → m' < b' → b' ≤ n → b' - a' < b - a → Calls Tryz.prog 127 #[.slice (some ⟨b0, o, none⟩) n c, .int .i64 (a' : Int), .int .i64 (m' : Int), .int .i64 (b' : Int), .func (.func 47) #[] #[]] w' fun e w'' => e = .returned (.tuple #[]) ∧ Below w'.heap.size w' w'') (hM : (a + b) / 2 < m) :
  Calls Tryz.prog 127 #[.slice (some ⟨b0, o, none⟩) n c, .int .i64 (a : Int), .int .i64 (m : Int), .int .i64 (b : Int), .func (.func 47) #[] #[]] w fun e w' => e = .returned (.tuple #[]) ∧ Below w.heap.size w w' := by
 have HN := Ld hn
 have HR := Ld hr
 have HROW := Ld h
 have q0 : (0 : Int) ≤ (a : Int) := by omega
 have q1 : (a : Int) ≤ 64 := by omega
 have q2 : (0 : Int) ≤ (b : Int) := by omega
 have q3 : (b : Int) ≤ 64 := by omega
 have q4 : (0 : Int) ≤ (m : Int) := by omega
 have q5 : (m : Int) ≤ 64 := by omega
 have HIH := Ld hih
 have e1 : ¬ (b : Int) - (m : Int) = 1 := by omega
 have e1' : decide ((b : Int) - (m : Int) = 1) = false := decide_eq_false e1
 have e1'' : ((b : Int) - (m : Int) == 1) = false := beq_eq_false_iff_ne.2 e1
 have e2 : ¬ (m : Int) - (a : Int) = 1 := by omega
 have e3 : decide ((m : Int) - (a : Int) = 1) = false := decide_eq_false e2
 have e4 : ((m : Int) - (a : Int) == 1) = false := beq_eq_false_iff_ne.2 e2
 obtain ⟨M, hMM⟩ : ∃ M, M = (a + b) / 2 := ⟨_, rfl⟩
 rw [← hMM] at hM
 obtain ⟨N, hNN⟩ : ∃ N, N = M + m := ⟨_, rfl⟩
 obtain ⟨P, hPP⟩ : ∃ P, P = N - 1 := ⟨_, rfl⟩
 have m1 : ((a : Int) + (b : Int)) / 2 = (M : Int) := by omega
 have m2 : (M : Int) + (m : Int) = (N : Int) := by omega
 have m3 : (N : Int) - 1 = (P : Int) := by omega
 have b1 : (0 : Int) ≤ (M : Int) := by omega
 have b2 : (M : Int) ≤ 64 := by omega
 have b3 : (0 : Int) ≤ (N : Int) := by omega
 have b4 : (N : Int) ≤ 128 := by omega
 have b5 : (0 : Int) ≤ (P : Int) := by omega
 have b6 : (P : Int) ≤ 128 := by omega
 obtain ⟨T, hTT⟩ : ∃ T, T = N - b := ⟨_, rfl⟩
 have m4 : (N : Int) - (b : Int) = (T : Int) := by omega
 have b7 : (0 : Int) ≤ (T : Int) := by omega
 have b8 : (T : Int) ≤ 64 := by omega
 have m5 : decide ((m : Int) > (M : Int)) = true := by rw [decide_eq_true_iff]; omega
 have m5' : decide ((M : Int) < (m : Int)) = true := by rw [decide_eq_true_iff]; omega
 have m5'' : decide (M < m) = true := decide_eq_true hM
 have HAL : Hid (M < m ∧ a + 1 < m ∧ m + 1 < b ∧ M = (a + b) / 2 ∧ N = M + m ∧ P = N - 1 ∧ T = N - b) := Ld ⟨hM, ham, hmb, hMM, hNN, hPP, hTT⟩
 clear hTT
 clear hn hr h ham hmb hih hM hMM hNN hPP
 go_enter Tryz.func127, Tryz.ntmps127
 go_wp2
 go_loopw [20, 21] (fun iv jv wr => ∃ J : Nat, T ≤ J ∧ J ≤ M ∧ iv = .int .i64 (J : Int) ∧ jv = .int .i64 (M : Int) ∧ Hid (Below w.heap.size w wr)) (fun iv _ _ => 66 - (intOf iv).toNat)
 case atStart => exact ⟨T, Nat.le_refl _, by have := HAL.out; omega, rfl, rfl, Ld (Below.refl _ _)⟩
 case round =>
  obtain ⟨J, hJ1, hJ2, rfl, rfl, HW⟩ := hrel
  have g1 : (0 : Int) ≤ (J : Int) := by omega
  have g2 : (J : Int) ≤ 64 := by have := HAL.out; omega
  rcases Nat.lt_or_ge J M with hlt | hge
  ·have d1 : decide ((J : Int) < (M : Int)) = true := by rw [decide_eq_true_iff]; omega
   have d1' : decide (J < M) = true := decide_eq_true hlt
   obtain ⟨C, hC⟩ : ∃ C, C = (J + M) / 2 := ⟨_, rfl⟩
   have hC1 : ((J : Int) + (M : Int)) / 2 = (C : Int) := by omega
   have hC2 : J ≤ C ∧ C < M := by omega
   have hal := HAL.out
   obtain ⟨D, hD⟩ : ∃ D, D = P - C := ⟨_, rfl⟩
   have hD1 : (P : Int) - (C : Int) = (D : Int) := by omega
   have hD2 : C < D ∧ D < b := by omega
   have HC := Ld hC2
   clear hlt hC hD
   have hI : D < l.length := by rw [← HN.out]; omega
   have hJ : C < l.length := by rw [← HN.out]; omega
   obtain ⟨x, hx⟩ : ∃ x, l[D] = x := ⟨_, rfl⟩
   obtain ⟨y, hy⟩ : ∃ x, l[C] = x := ⟨_, rfl⟩
   have hcc := HR.out (C) (D) (by omega) hI
   rw [hx, hy] at hcc
   have HCC := Ld hcc
   have HFx := Ld (fun V hV => HROW.out V hV (D) hI x hx)
   have HFy := Ld (fun V hV => HROW.out V hV (C) hJ y hy)
   clear hx hy hcc hI hJ
   clear hal
   have iD1 : (0 : Int) ≤ (D : Int) := by omega
   have iD2 : (D : Int) < (n : Int) := by omega
   have iD3 : D < n := by omega
   have iC1 : (0 : Int) ≤ (C : Int) := by omega
   have iC2 : (C : Int) < (n : Int) := by omega
   have iC3 : C < n := by omega
   have w1 : IntKind.i64.wrap (D : Int) = (D : Int) := IntWalk.i64_in _ (by omega)
   clear hC2 hD2
   go_wp2
   refine wp_region_held_drew (S := fun V => Below w.heap.size w V) (by kernel_rfl) (HW.out.drew) (fun hS1 => ?_)
   refine tk 0 (some 158) (.func (.func 47) #[] #[]) rfl (fun V hS => by go_simp) hS1 ?_
   simp only [nf]
   refine tk 1 (some 159) (.slice (some ⟨b0, o, none⟩) n c) rfl (fun V hS => by go_simp) hS1 ?_
   simp only [nf]
   refine tk 2 (some 160) (.int .i64 (P : Int)) rfl (fun V hS => by go_simp) hS1 ?_
   simp only [nf]
   refine tk 3 (some 161) (.int .i64 (C : Int)) rfl (fun V hS => by go_simp) hS1 ?_
   simp only [nf]
   refine tk 4 (some 162) (.int .i64 (D : Int)) rfl (fun V hS => by go_simp) hS1 ?_
   simp only [nf]
   refine tk 5 (some 163) (.pointer (some ⟨b0, o + D * 4, none⟩)) rfl (fun V hS => by go_simp) hS1 ?_
   simp only [nf]
   refine tk 6 (some 164) (.agg #[.string x.name, .int .i64 x.ver, .int .i64 x.len, .string x.hash]) rfl (fun V hS => by obtain ⟨h0, h1, h2, h3⟩ := HFx.out V hS; go_simp) hS1 ?_
   simp only [nf]
   refine tk 7 (some 165) (.slice (some ⟨b0, o, none⟩) n c) rfl (fun V hS => by go_simp) hS1 ?_
   simp only [nf]
   refine tk 8 (some 166) (.int .i64 (C : Int)) rfl (fun V hS => by go_simp) hS1 ?_
   simp only [nf]
   refine tk 9 (some 167) (.pointer (some ⟨b0, o + C * 4, none⟩)) rfl (fun V hS => by go_simp) hS1 ?_
   simp only [nf]
   refine tk 10 (some 168) (.agg #[.string y.name, .int .i64 y.ver, .int .i64 y.len, .string y.hash]) rfl (fun V hS => by obtain ⟨h0, h1, h2, h3⟩ := HFy.out V hS; go_simp) hS1 ?_
   simp only [nf]
   refine rd1 11 rfl (fun K' hK => ?_)
   go_simp
   refine (byName_gt HCC.out _).mono ?_
   rintro e w9 ⟨rfl, hb9⟩
   go_simp
   refine hK.out _ _ ((hS1).trans (hb9.mono (hS1).size)) (fun hS2 => ?_)
   clear hK K' hS1
   refine tk 12 (some 170) (.bool false) rfl (fun V hS => by go_simp) hS2 ?_
   simp only [nf]
   refine tk 13 (some 171) (.bool true) rfl (fun V hS => by go_simp) hS2 ?_
   simp only [nf]
   refine wpAnyH_done (by kernel_rfl) ?_ _
   have HB9 := Ld (hS2)
   clear hS2 hC1
   go_wp2
   go_roundw
   case rel => exact ⟨C + 1, by have := HC.out; omega, by have := HC.out; omega, by go_num, rfl, HB9⟩
   case measure => have := HC.out; simp [intOf]; omega
  ·have hjm : J = M := by omega
   have d1 : decide ((M : Int) < (M : Int)) = false := by rw [decide_eq_false_iff_not]; omega
   have d1' : decide (M < M) = false := decide_eq_false (by omega)
   rw [hjm]
   have hal := HAL.out
   have f1 : (N : Int) - (M : Int) = (m : Int) := by omega
   have f2 : decide ((m : Int) < (m : Int)) = false := by rw [decide_eq_false_iff_not]; omega
   have f3 : decide ((m : Int) < (b : Int)) = true := by rw [decide_eq_true_iff]; omega
   have f4 : decide (m < b) = true := by rw [decide_eq_true_iff]; omega
   have f5 : decide ((a : Int) < (M : Int)) = true := by rw [decide_eq_true_iff]; omega
   have f6 : decide (a < M) = true := by rw [decide_eq_true_iff]; omega
   clear hJ1 hge hJ2 hjm hal
   go_wp2_with fail
   refine (HIH.out _ (HROW.out.bel HW.out) M m b (by have := HAL.out; omega) (by have := HAL.out; omega) hb (by have := HAL.out; omega)).mono ?_
   rintro e w2 ⟨rfl, hb2⟩
   have HB2 := Ld (HW.out.trans (hb2.mono HW.out.size))
   clear hb2
   go_wp2
   refine bodyPost_end (v := .tuple #[]) (by simp [results, Tryz.results127, go_sem]) rfl ?_
   exact ⟨rfl, HB2.out⟩
set_option maxRecDepth 100000 in
set_option maxHeartbeats 8000000 in
theorem symE_lo {w : World} {b0 o c : Nat} {l : List ME} (h : RowE w b0 o l) (hr : RisE l) (a m b n : Nat) (hn : n = l.length) (ham : a + 1 < m) (hmb : m + 1 < b) (hb : b ≤ n) (hl : n ≤ 64) (hih : ∀ (w' : World), RowE w' b0 o l → ∀ a' m' b' : Nat, a' < m' → m' < b' → b' ≤ n → b' - a' < b - a → Calls Tryz.prog 127 #[.slice (some ⟨b0, o, none⟩) n c, .int .i64 (a' : Int), .int .i64 (m' : Int), .int .i64 (b' : Int), .func (.func 47) #[] #[]] w' fun e w'' => e = .returned (.tuple #[]) ∧ Below w'.heap.size w' w'') (hM : m ≤ (a + b) / 2) :
  Calls Tryz.prog 127 #[.slice (some ⟨b0, o, none⟩) n c, .int .i64 (a : Int), .int .i64 (m : Int), .int .i64 (b : Int), .func (.func 47) #[] #[]] w fun e w' => e = .returned (.tuple #[]) ∧ Below w.heap.size w w' := by
 have HN := Ld hn
 have HR := Ld hr
 have HROW := Ld h
 have q0 : (0 : Int) ≤ (a : Int) := by omega
 have q1 : (a : Int) ≤ 64 := by omega
 have q2 : (0 : Int) ≤ (b : Int) := by omega
 have q3 : (b : Int) ≤ 64 := by omega
 have q4 : (0 : Int) ≤ (m : Int) := by omega
 have q5 : (m : Int) ≤ 64 := by omega
 have HIH := Ld hih
 have e1 : ¬ (b : Int) - (m : Int) = 1 := by omega
 have e1' : decide ((b : Int) - (m : Int) = 1) = false := decide_eq_false e1
 have e1'' : ((b : Int) - (m : Int) == 1) = false := beq_eq_false_iff_ne.2 e1
 have e2 : ¬ (m : Int) - (a : Int) = 1 := by omega
 have e3 : decide ((m : Int) - (a : Int) = 1) = false := decide_eq_false e2
 have e4 : ((m : Int) - (a : Int) == 1) = false := beq_eq_false_iff_ne.2 e2
 obtain ⟨M, hMM⟩ : ∃ M, M = (a + b) / 2 := ⟨_, rfl⟩
 rw [← hMM] at hM
 obtain ⟨N, hNN⟩ : ∃ N, N = M + m := ⟨_, rfl⟩
 obtain ⟨P, hPP⟩ : ∃ P, P = N - 1 := ⟨_, rfl⟩
 have m1 : ((a : Int) + (b : Int)) / 2 = (M : Int) := by omega
 have m2 : (M : Int) + (m : Int) = (N : Int) := by omega
 have m3 : (N : Int) - 1 = (P : Int) := by omega
 have b1 : (0 : Int) ≤ (M : Int) := by omega
 have b2 : (M : Int) ≤ 64 := by omega
 have b3 : (0 : Int) ≤ (N : Int) := by omega
 have b4 : (N : Int) ≤ 128 := by omega
 have b5 : (0 : Int) ≤ (P : Int) := by omega
 have b6 : (P : Int) ≤ 128 := by omega
 have m5 : decide ((m : Int) > (M : Int)) = false := by rw [decide_eq_false_iff_not]; omega
 have m5' : decide ((M : Int) < (m : Int)) = false := by rw [decide_eq_false_iff_not]; omega
 have m5'' : decide (M < m) = false := decide_eq_false (by omega)
 have HAL : Hid (m ≤ M ∧ a + 1 < m ∧ m + 1 < b ∧ M = (a + b) / 2 ∧ N = M + m ∧ P = N - 1) := Ld ⟨hM, ham, hmb, hMM, hNN, hPP⟩
 clear hn hr h ham hmb hih hM hMM hNN hPP
 go_enter Tryz.func127, Tryz.ntmps127
 go_wp2
 go_loopw [20, 21] (fun iv jv wr => ∃ J : Nat, a ≤ J ∧ J ≤ m ∧ iv = .int .i64 (J : Int) ∧ jv = .int .i64 (m : Int) ∧ Hid (Below w.heap.size w wr)) (fun iv _ _ => 66 - (intOf iv).toNat)
 case atStart => exact ⟨a, Nat.le_refl _, by have := HAL.out; omega, rfl, rfl, Ld (Below.refl _ _)⟩
 case round =>
  obtain ⟨J, hJ1, hJ2, rfl, rfl, HW⟩ := hrel
  have g1 : (0 : Int) ≤ (J : Int) := by omega
  have g2 : (J : Int) ≤ 64 := by have := HAL.out; omega
  rcases Nat.lt_or_ge J m with hlt | hge
  ·have d1 : decide ((J : Int) < (m : Int)) = true := by rw [decide_eq_true_iff]; omega
   have d1' : decide (J < m) = true := decide_eq_true hlt
   obtain ⟨C, hC⟩ : ∃ C, C = (J + m) / 2 := ⟨_, rfl⟩
   have hC1 : ((J : Int) + (m : Int)) / 2 = (C : Int) := by omega
   have hC2 : J ≤ C ∧ C < m := by omega
   have hal := HAL.out
   obtain ⟨D, hD⟩ : ∃ D, D = P - C := ⟨_, rfl⟩
   have hD1 : (P : Int) - (C : Int) = (D : Int) := by omega
   have hD2 : C < D ∧ D < b := by omega
   have HC := Ld hC2
   clear hlt hC hD
   have hI : D < l.length := by rw [← HN.out]; omega
   have hJ : C < l.length := by rw [← HN.out]; omega
   obtain ⟨x, hx⟩ : ∃ x, l[D] = x := ⟨_, rfl⟩
   obtain ⟨y, hy⟩ : ∃ x, l[C] = x := ⟨_, rfl⟩
   have hcc := HR.out (C) (D) (by omega) hI
   rw [hx, hy] at hcc
   have HCC := Ld hcc
   have HFx := Ld (fun V hV => HROW.out V hV (D) hI x hx)
   have HFy := Ld (fun V hV => HROW.out V hV (C) hJ y hy)
   clear hx hy hcc hI hJ
   clear hal
   have iD1 : (0 : Int) ≤ (D : Int) := by omega
   have iD2 : (D : Int) < (n : Int) := by omega
   have iD3 : D < n := by omega
   have iC1 : (0 : Int) ≤ (C : Int) := by omega
   have iC2 : (C : Int) < (n : Int) := by omega
   have iC3 : C < n := by omega
   have w1 : IntKind.i64.wrap (D : Int) = (D : Int) := IntWalk.i64_in _ (by omega)
   clear hC2 hD2
   go_wp2
   refine wp_region_held_drew (S := fun V => Below w.heap.size w V) (by kernel_rfl) (HW.out.drew) (fun hS1 => ?_)
   refine tk 0 (some 158) (.func (.func 47) #[] #[]) rfl (fun V hS => by go_simp) hS1 ?_
   simp only [nf]
   refine tk 1 (some 159) (.slice (some ⟨b0, o, none⟩) n c) rfl (fun V hS => by go_simp) hS1 ?_
   simp only [nf]
   refine tk 2 (some 160) (.int .i64 (P : Int)) rfl (fun V hS => by go_simp) hS1 ?_
   simp only [nf]
   refine tk 3 (some 161) (.int .i64 (C : Int)) rfl (fun V hS => by go_simp) hS1 ?_
   simp only [nf]
   refine tk 4 (some 162) (.int .i64 (D : Int)) rfl (fun V hS => by go_simp) hS1 ?_
   simp only [nf]
   refine tk 5 (some 163) (.pointer (some ⟨b0, o + D * 4, none⟩)) rfl (fun V hS => by go_simp) hS1 ?_
   simp only [nf]
   refine tk 6 (some 164) (.agg #[.string x.name, .int .i64 x.ver, .int .i64 x.len, .string x.hash]) rfl (fun V hS => by obtain ⟨h0, h1, h2, h3⟩ := HFx.out V hS; go_simp) hS1 ?_
   simp only [nf]
   refine tk 7 (some 165) (.slice (some ⟨b0, o, none⟩) n c) rfl (fun V hS => by go_simp) hS1 ?_
   simp only [nf]
   refine tk 8 (some 166) (.int .i64 (C : Int)) rfl (fun V hS => by go_simp) hS1 ?_
   simp only [nf]
   refine tk 9 (some 167) (.pointer (some ⟨b0, o + C * 4, none⟩)) rfl (fun V hS => by go_simp) hS1 ?_
   simp only [nf]
   refine tk 10 (some 168) (.agg #[.string y.name, .int .i64 y.ver, .int .i64 y.len, .string y.hash]) rfl (fun V hS => by obtain ⟨h0, h1, h2, h3⟩ := HFy.out V hS; go_simp) hS1 ?_
   simp only [nf]
   refine rd1 11 rfl (fun K' hK => ?_)
   go_simp
   refine (byName_gt HCC.out _).mono ?_
   rintro e w9 ⟨rfl, hb9⟩
   go_simp
   refine hK.out _ _ ((hS1).trans (hb9.mono (hS1).size)) (fun hS2 => ?_)
   clear hK K' hS1
   refine tk 12 (some 170) (.bool false) rfl (fun V hS => by go_simp) hS2 ?_
   simp only [nf]
   refine tk 13 (some 171) (.bool true) rfl (fun V hS => by go_simp) hS2 ?_
   simp only [nf]
   refine wpAnyH_done (by kernel_rfl) ?_ _
   have HB9 := Ld (hS2)
   clear hS2 hC1
   go_wp2
   go_roundw
   case rel => exact ⟨C + 1, by have := HC.out; omega, by have := HC.out; omega, by go_num, rfl, HB9⟩
   case measure => have := HC.out; simp [intOf]; omega
  ·have hjm : J = m := by omega
   have d1 : decide ((m : Int) < (m : Int)) = false := by rw [decide_eq_false_iff_not]; omega
   have d1' : decide (m < m) = false := decide_eq_false (by omega)
   rw [hjm]
   have hal := HAL.out
   have f1 : (N : Int) - (m : Int) = (M : Int) := by omega
   have f2 : decide ((M : Int) < (M : Int)) = false := by rw [decide_eq_false_iff_not]; omega
   have f2' : decide (M < M) = false := decide_eq_false (by omega)
   have f5 : decide ((a : Int) < (m : Int)) = true := by rw [decide_eq_true_iff]; omega
   have f6 : decide (a < m) = true := by rw [decide_eq_true_iff]; omega
   rcases Nat.lt_or_ge m M with hx | hx
   ·have f3 : decide ((m : Int) < (M : Int)) = true := by rw [decide_eq_true_iff]; omega
    have f4 : decide (m < M) = true := by rw [decide_eq_true_iff]; omega
    have HX := Ld hx
    clear hJ1 hge hJ2 hjm hal hx
    go_wp2_with fail
    refine (HIH.out _ (HROW.out.bel HW.out) a m M (by have := HAL.out; omega) HX.out (by have := HAL.out; omega) (by have := HAL.out; omega)).mono ?_
    rintro e w2 ⟨rfl, hb2⟩
    have HB2 := Ld (HW.out.trans (hb2.mono HW.out.size))
    clear hb2
    go_wp2
    refine bodyPost_end (v := .tuple #[]) (by simp [results, Tryz.results127, go_sem]) rfl ?_
    exact ⟨rfl, HB2.out⟩
   ·have f3 : decide ((m : Int) < (M : Int)) = false := by rw [decide_eq_false_iff_not]; omega
    have f4 : decide (m < M) = false := decide_eq_false (by omega)
    clear hJ1 hge hJ2 hjm hal hx
    go_wp2
    refine bodyPost_end (v := .tuple #[]) (by simp [results, Tryz.results127, go_sem]) rfl ?_
    exact ⟨rfl, HW.out⟩
theorem symE_any {c n b0 o : Nat} {l : List ME} (hr : RisE l) (hn : n = l.length) (hl : n ≤ 64) : ∀ (d : Nat) (w : World), RowE w b0 o l → ∀ a m b : Nat, a < m → m < b → b ≤ n → b - a ≤ d →
  Calls Tryz.prog 127 #[.slice (some ⟨b0, o, none⟩) n c, .int .i64 (a : Int), .int .i64 (m : Int), .int .i64 (b : Int), .func (.func 47) #[] #[]] w fun e w' => e = .returned (.tuple #[]) ∧ Below w.heap.size w w'
 | 0, w, h, a, m, b, h1, h2, h3, h4 => by omega
 | d + 1, w, h, a, m, b, h1, h2, h3, h4 => by
  have ih := fun w' hw' a' m' b' x1 x2 x3 (x4 : b' - a' < b - a) => symE_any hr hn hl (c := c) (b0 := b0) (o := o) d w' hw' a' m' b' x1 x2 x3 (by omega)
  by_cases k1 : m = a + 1
  ·exact symE_one h hr a m b n hn k1 h2 h3 hl
  ·by_cases k2 : b = m + 1
   ·exact symE_two h hr a m b n hn (by omega) k2 h3 hl
   ·by_cases k3 : (a + b) / 2 < m
    ·exact symE_hi h hr a m b n hn (by omega) (by omega) h3 hl ih k3
    ·exact symE_lo h hr a m b n hn (by omega) (by omega) h3 hl ih (by omega)
end Go.Proofs.YtefkpphahimkgaaGreatDoor
