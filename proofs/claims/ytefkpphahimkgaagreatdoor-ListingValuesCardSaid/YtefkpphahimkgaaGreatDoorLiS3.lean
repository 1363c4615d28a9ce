/-
 slices.SortStableFunc at files whose names rise.
-/
import Derived.Test.YtefkpphahimkgaaGreatDoorTk
import Derived.Test.YtefkpphahimkgaaGreatDoorLiS2
namespace Go.Proofs.YtefkpphahimkgaaGreatDoor
open Go.RowKit
attribute [local go_sem ↓] Go.wp_at_zero Go.wp_at_succ
set_option linter.unusedVariables false
set_option linter.unusedSimpArgs false
set_option maxRecDepth 100000 in
set_option maxHeartbeats 8000000 in
theorem stableE_any {w : World} {b0 o c n : Nat} {l : List ME} (h : RowE w b0 o l) (hr : RisE l) (hn : n = l.length) (hl : n ≤ 64) :
  Calls Tryz.prog 90 #[.slice (some ⟨b0, o, none⟩) n c, .int .i64 (n : Int), .func (.func 47) #[] #[]] w fun e w' => e = .returned (.tuple #[]) ∧ Below w.heap.size w w' := by
 have HROW := Ld h
 have HI := Ld (fun (W : World) (hW : RowE W b0 o l) (a b : Nat) (h1 : b ≤ n) (h2 : a ≤ n) => insE_any (c := c) hW hr a b n hn h1 h2 hl)
 have HS := Ld (fun (W : World) (hW : RowE W b0 o l) (a m b : Nat) (h1 : a < m) (h2 : m < b) (h3 : b ≤ n) => symE_any (c := c) hr hn hl (b - a) W hW a m b h1 h2 h3 (Nat.le_refl _))
 have q0 : (0 : Int) ≤ (n : Int) := by omega
 have q1 : (n : Int) ≤ 64 := by omega
 have HL := Ld hl
 clear h hr hn hl
 go_enter Tryz.func90, Tryz.ntmps90
 go_wp2
 go_loopw [7, 8] (fun av bv wr => ∃ A b : Nat, b = A + 20 ∧ A ≤ n ∧ av = .int .i64 (A : Int) ∧ bv = .int .i64 (b : Int) ∧ Hid (Below w.heap.size w wr)) (fun av _ _ => 100 - (intOf av).toNat)
 case atStart => exact ⟨0, 20, rfl, Nat.zero_le _, rfl, rfl, Ld (Below.refl _ _)⟩
 case round =>
  obtain ⟨A, b, hb, hA, rfl, rfl, HW⟩ := hrel
  have hl := HL.out
  have g1 : (0 : Int) ≤ (A : Int) := by omega
  have g2 : (A : Int) ≤ 64 := by omega
  have g3 : (0 : Int) ≤ (b : Int) := by omega
  have g4 : (b : Int) ≤ 84 := by omega
  have HB := Ld hb
  rcases Nat.lt_or_ge n b with hlt | hge
  ·have d1 : decide ((b : Int) ≤ (n : Int)) = false := by rw [decide_eq_false_iff_not]; omega
   have d1' : decide (b ≤ n) = false := decide_eq_false (by omega)
   have HA := Ld hA
   clear hl hb hA hlt
   go_wp2_with fail
   refine (HI.out _ (HROW.out.bel HW.out) A n (Nat.le_refl _) HA.out).mono ?_
   rintro e w2 ⟨rfl, hb2⟩
   have HW2 := Ld (HW.out.trans (hb2.mono HW.out.size))
   clear hb2 d1 d1'
   go_wp2
   go_loopw [6] (fun sv wr => ∃ S : Nat, 20 ≤ S ∧ S ≤ 128 ∧ sv = .int .i64 (S : Int) ∧ Hid (Below w.heap.size w wr)) (fun sv _ => 200 - (intOf sv).toNat)
   case atStart => exact ⟨20, Nat.le_refl _, by omega, rfl, HW2⟩
   case round =>
    obtain ⟨S, hS1, hS2, rfl, HW3⟩ := hrel
    have hl := HL.out
    have s1 : (0 : Int) ≤ (S : Int) := by omega
    have s2 : (S : Int) ≤ 128 := by omega
    rcases Nat.lt_or_ge S n with hlt | hge
    ·have d1 : decide ((S : Int) < (n : Int)) = true := by rw [decide_eq_true_iff]; omega
     have d1' : decide (S < n) = true := decide_eq_true hlt
     have HSS : Hid (20 ≤ S ∧ S < n) := Ld ⟨hS1, hlt⟩
     obtain ⟨T, hT⟩ : ∃ T, T = 2 * S := ⟨_, rfl⟩
     have t1 : 2 * (S : Int) = (T : Int) := by omega
     have t2 : (S : Int) * 2 = (T : Int) := by omega
     have t3 : (0 : Int) ≤ (T : Int) := by omega
     have t4 : (T : Int) ≤ 128 := by omega
     have HT := Ld hT
     clear hl hS1 hS2 hlt hT
     go_wp2
     go_loopw [7, 8] (fun av bv wr => ∃ A b : Nat, b = A + T ∧ A ≤ n ∧ av = .int .i64 (A : Int) ∧ bv = .int .i64 (b : Int) ∧ Hid (Below w.heap.size w wr)) (fun av _ _ => 100 - (intOf av).toNat)
     case atStart => exact ⟨0, T, by omega, Nat.zero_le _, rfl, rfl, HW3⟩
     case round =>
      obtain ⟨A4, b4, hb, hA, rfl, rfl, HW4⟩ := hrel
      have hl := HL.out
      have g1 : (0 : Int) ≤ (A4 : Int) := by omega
      have g2 : (A4 : Int) ≤ 64 := by omega
      have g3 : (0 : Int) ≤ (b4 : Int) := by omega
      have g4 : (b4 : Int) ≤ 192 := by omega
      obtain ⟨m, hm⟩ : ∃ m, m = A4 + S := ⟨_, rfl⟩
      have m1 : (A4 : Int) + (S : Int) = (m : Int) := by omega
      have m2 : (0 : Int) ≤ (m : Int) := by omega
      have m3 : (m : Int) ≤ 192 := by have := HSS.out; omega
      have HAB : Hid (b4 = A4 + T ∧ A4 ≤ n ∧ m = A4 + S) := Ld ⟨hb, hA, hm⟩
      clear hm
      rcases Nat.lt_or_ge n b4 with hlt | hge
      ·have d2 : decide ((b4 : Int) ≤ (n : Int)) = false := by rw [decide_eq_false_iff_not]; omega
       have d2' : decide (b4 ≤ n) = false := decide_eq_false (by omega)
       clear hl hb hA hlt
       rcases Nat.lt_or_ge m n with hmn | hmn
       ·have d3 : decide ((m : Int) < (n : Int)) = true := by rw [decide_eq_true_iff]; omega
        have d3' : decide (m < n) = true := decide_eq_true hmn
        have HMN := Ld hmn
        clear hmn
        go_wp2_with fail
        refine (HS.out _ (HROW.out.bel HW4.out) A4 m n (by have := HAB.out; have := HSS.out; omega) HMN.out (Nat.le_refl _)).mono ?_
        rintro e w5 ⟨rfl, hb5⟩
        have HW5 := Ld (HW4.out.trans (hb5.mono HW4.out.size))
        clear hb5
        go_wp2
        go_roundw
        case rel => exact ⟨T, by have := HT.out; have := HSS.out; omega, by have := HT.out; have := HSS.out; have := HL.out; omega, rfl, HW5⟩
        case measure => have := HT.out; have := HSS.out; have := HL.out; simp [intOf]; omega
       ·have d3 : decide ((m : Int) < (n : Int)) = false := by rw [decide_eq_false_iff_not]; omega
        have d3' : decide (m < n) = false := decide_eq_false (by omega)
        clear hmn
        go_wp2
        go_roundw
        case rel => exact ⟨T, by have := HT.out; have := HSS.out; omega, by have := HT.out; have := HSS.out; have := HL.out; omega, rfl, HW4⟩
        case measure => have := HT.out; have := HSS.out; have := HL.out; simp [intOf]; omega
      ·have d2 : decide ((b4 : Int) ≤ (n : Int)) = true := by rw [decide_eq_true_iff]; omega
       have d2' : decide (b4 ≤ n) = true := decide_eq_true hge
       have HGE := Ld hge
       clear hl hb hA hge
       go_wp2_with fail
       refine (HS.out _ (HROW.out.bel HW4.out) A4 m b4 (by have := HAB.out; have := HSS.out; omega) (by have := HAB.out; have := HSS.out; have := HT.out; omega) HGE.out).mono ?_
       rintro e w5 ⟨rfl, hb5⟩
       have HW5 := Ld (HW4.out.trans (hb5.mono HW4.out.size))
       clear hb5
       go_wp2
       go_roundw
       case rel => exact ⟨b4, b4 + T, rfl, HGE.out, rfl, by go_num, HW5⟩
       case measure => have := HAB.out; have := HSS.out; have := HT.out; have := HGE.out; have := HL.out; simp [intOf]; omega
    ·have d1 : decide ((S : Int) < (n : Int)) = false := by rw [decide_eq_false_iff_not]; omega
     have d1' : decide (S < n) = false := decide_eq_false (by omega)
     clear hl hS1 hS2 hge
     go_wp2
     refine bodyPost_end (v := .tuple #[]) (by simp [results, Tryz.results90, go_sem]) rfl ?_
     exact ⟨rfl, HW3.out⟩
  ·have d1 : decide ((b : Int) ≤ (n : Int)) = true := by rw [decide_eq_true_iff]; omega
   have d1' : decide (b ≤ n) = true := decide_eq_true hge
   have HGE := Ld hge
   have HA := Ld hA
   clear hl hb hA hge
   go_wp2_with fail
   refine (HI.out _ (HROW.out.bel HW.out) A b HGE.out HA.out).mono ?_
   rintro e w2 ⟨rfl, hb2⟩
   have HW2 := Ld (HW.out.trans (hb2.mono HW.out.size))
   clear hb2
   go_wp2
   go_roundw
   case rel => exact ⟨b, b + 20, rfl, HGE.out, rfl, by go_num, HW2⟩
   case measure => have := HB.out; have := HGE.out; have := HL.out; simp [intOf]; omega
set_option maxHeartbeats 2000000 in
theorem sortE_any {w : World} {A : Option Addr} {c : Nat} {l : List ME} (h : MAt w A c l) (hr : RisE l) (hp : 0 < l.length) (hl : l.length ≤ 64) :
  Calls Tryz.prog 46 #[.slice A l.length c, .func (.func 47) #[] #[]] w fun e w' => e = .returned (.tuple #[]) ∧ Below w.heap.size w w' := by
 obtain ⟨b0, o, hA, hrow⟩ := h.row hp
 subst hA
 obtain ⟨n, hn⟩ : ∃ n, n = l.length := ⟨_, rfl⟩
 rw [← hn] at hl ⊢
 have HS := Ld (stableE_any (c := c) hrow hr hn hl)
 clear h hr hp hl hrow hn
 go_enter Tryz.func46, Tryz.ntmps46
 go_wp2_with fail
 refine HS.out.mono ?_
 rintro e w2 ⟨rfl, hb2⟩
 have HB2 := Ld hb2
 clear hb2
 go_wp2
 refine bodyPost_end (v := .tuple #[]) (by simp [results, Tryz.results46, go_sem]) rfl ?_
 exact ⟨rfl, HB2.out⟩
end Go.Proofs.YtefkpphahimkgaaGreatDoor
