/-
 slices.SortStableFunc at files whose names rise: nothing is written. The insertion sort.
-/
import Derived.Test.YtefkpphahimkgaaGreatDoorTk
import Derived.Test.YtefkpphahimkgaaGreatDoorLiW2
import Derived.Deep.RegionHeld3
namespace Go.Proofs.YtefkpphahimkgaaGreatDoor
open Go.RowKit
attribute [local go_sem ↓] Go.wp_at_zero Go.wp_at_succ
set_option linter.unusedVariables false
set_option linter.unusedSimpArgs false
def RisE (l : List ME) : Prop := ∀ i j (hi : i < j) (hj : j < l.length), bl (l[i]'(by omega)).name (l[j]).name = true
theorem cmp_gt {a b : ByteArray} (h : bl b a = true) : cmpS a b = 1 := by
 have h2 : bl a b = false := bytesLess_asym _ _ h
 unfold cmpS
 rw [if_neg (by rw [h2]; decide), if_pos h]
theorem byName_gt {a b : ME} (h : bl b.name a.name = true) (w : World) : Calls Tryz.prog 47 #[.agg #[.string a.name, .int .i64 a.ver, .int .i64 a.len, .string a.hash], .agg #[.string b.name, .int .i64 b.ver, .int .i64 b.len, .string b.hash]] w fun e w' => e = .returned (.int .i64 1) ∧ Below w.heap.size w w' := by
 rw [← cmp_gt h]
 exact byName_any a b w
def RowE (w : World) (b0 o : Nat) (l : List ME) : Prop := ∀ V, Below w.heap.size w V → ∀ k (hk : k < l.length) (x : ME), l[k] = x → V.cell? ⟨b0, o + k * 4, none⟩ = some (.string x.name) ∧ V.cell? ⟨b0, o + k * 4 + 1, none⟩ = some (.int .i64 x.ver) ∧ V.cell? ⟨b0, o + k * 4 + 2, none⟩ = some (.int .i64 x.len) ∧ V.cell? ⟨b0, o + k * 4 + 3, none⟩ = some (.string x.hash)
theorem MAt.row {w : World} {A : Option Addr} {c : Nat} {l : List ME} (h : MAt w A c l) (hl : 0 < l.length) : ∃ b0 o, A = some ⟨b0, o, none⟩ ∧ RowE w b0 o l := by
 obtain ⟨b0, o, hA, hb, hc⟩ := h.at_ hl
 refine ⟨b0, o, hA, fun V hV k hk x hx => ?_⟩
 subst hx
 have h0 := hc k hk 0 (by omega)
 have h1 := hc k hk 1 (by omega)
 have h2 := hc k hk 2 (by omega)
 have h3 := hc k hk 3 (by omega)
 exact ⟨(hV.cell (by exact hb)).trans h0, (hV.cell (by exact hb)).trans h1, (hV.cell (by exact hb)).trans h2, (hV.cell (by exact hb)).trans h3⟩
theorem RowE.bel {w w' : World} {b0 o : Nat} {l : List ME} (h : RowE w b0 o l) (hb : Below w.heap.size w w') : RowE w' b0 o l := fun V hV k hk x hx => h V (hb.trans (hV.mono hb.size)) k hk x hx
set_option maxRecDepth 100000 in
set_option maxHeartbeats 4000000 in
theorem insE_any {w : World} {b0 o c : Nat} {l : List ME} (h : RowE w b0 o l) (hr : RisE l) (a b n : Nat) (hn : n = l.length) (hb : b ≤ n) (hab : a ≤ n) (hl : n ≤ 64) :
  Calls Tryz.prog 126 #[.slice (some ⟨b0, o, none⟩) n c, .int .i64 (a : Int), .int .i64 (b : Int), .func (.func 47) #[] #[]] w fun e w' => e = .returned (.tuple #[]) ∧ Below w.heap.size w w' := by
 have HN := Ld hn
 have HR := Ld hr
 have HROW := Ld h
 have q0 : (0 : Int) ≤ (a : Int) := by omega
 have q1 : (a : Int) ≤ 64 := by omega
 have q2 : (0 : Int) ≤ (b : Int) := by omega
 have q3 : (b : Int) ≤ 64 := by omega
 clear hn hr h
 go_enter Tryz.func126, Tryz.ntmps126
 go_wp2
 go_loopw [8] (fun iv wr => ∃ k : Nat, a ≤ k ∧ (k < b ∨ k = a) ∧ iv = .int .i64 ((k : Int) + 1) ∧ Hid (Below w.heap.size w wr)) (fun iv _ => 66 - (intOf iv).toNat)
 case atStart => exact ⟨a, Nat.le_refl _, .inr rfl, rfl, Ld (Below.refl _ _)⟩
 case round =>
  obtain ⟨k, hk, hkb, rfl, HW⟩ := hrel
  have g4 : (0 : Int) ≤ (k : Int) := by omega
  have g7 : (0 : Int) ≤ (k : Int) + 1 := by omega
  have g8 : (k : Int) ≤ 64 := by omega
  have g9 : (k : Int) + 1 ≤ 65 := by omega
  rcases Nat.lt_or_ge (k + 1) b with hlt | hge
  ·have d1 : decide ((k : Int) + 1 < (b : Int)) = true := by rw [decide_eq_true_iff]; omega
   have d1' : decide (k + 1 < b) = true := decide_eq_true hlt
   have d2 : decide ((k : Int) + 1 > (a : Int)) = true := by rw [decide_eq_true_iff]; omega
   have d2' : decide ((a : Int) < (k : Int) + 1) = true := by rw [decide_eq_true_iff]; omega
   have d2'' : decide (a < k + 1) = true := by rw [decide_eq_true_iff]; omega
   have HLT := Ld hlt
   clear hkb hlt
   go_wp2
   go_loopw [9] (fun jv wr2 => jv = .int .i64 ((k : Int) + 1) ∧ Hid (Below w.heap.size w wr2)) (fun _ _ => 0)
   case atStart => exact ⟨rfl, HW⟩
   case round =>
    obtain ⟨rfl, HW2⟩ := hrel
    have hlt := HLT.out
    have hI : k + 1 < l.length := by rw [← HN.out]; omega
    have hJ : k < l.length := by rw [← HN.out]; omega
    obtain ⟨x, hx⟩ : ∃ x, l[k + 1] = x := ⟨_, rfl⟩
    obtain ⟨y, hy⟩ : ∃ x, l[k] = x := ⟨_, rfl⟩
    have hcc := HR.out (k) (k + 1) (by omega) hI
    rw [hx, hy] at hcc
    have HCC := Ld hcc
    have HFx := Ld (fun V hV => HROW.out V hV (k + 1) hI x hx)
    have HFy := Ld (fun V hV => HROW.out V hV (k) hJ y hy)
    clear hx hy hcc hI hJ
    have g1 : ((k : Int) + 1).toNat = k + 1 := by omega
    have g2 : k + 1 < n := by omega
    have g3 : k < n := by omega
    have g5 : (k : Int) + 1 < (n : Int) := by omega
    have g6 : (k : Int) < (n : Int) := by omega
    have gw : IntKind.i64.wrap ((k : Int) + 1 - 1) = (k : Int) := by rw [Int.add_sub_cancel]; exact IntWalk.i64_in _ (by omega)
    have gw2 : IntKind.i64.wrap (k : Int) = (k : Int) := IntWalk.i64_in _ (by omega)
    have gx : (k : Int) + 1 - 1 = (k : Int) := by omega
    clear hlt
    go_wp2
    refine wp_region_held_drew (S := fun V => Below w.heap.size w V) (by kernel_rfl) (HW2.out.drew) (fun hS1 => ?_)
    refine tk 0 (some 18) (.int .i64 ((k : Int) + 1)) rfl (fun V hS => by go_simp) hS1 ?_
    simp only [nf]
    refine tk 1 (some 19) (.int .i64 (a : Int)) rfl (fun V hS => by go_simp) hS1 ?_
    simp only [nf]
    refine tk 2 (some 20) (.bool true) rfl (fun V hS => by go_simp) hS1 ?_
    simp only [nf]
    refine tk 3 (some 21) (.bool true) rfl (fun V hS => by go_simp) hS1 ?_
    simp only [nf]
    refine tk 4 (some 22) (.func (.func 47) #[] #[]) rfl (fun V hS => by go_simp) hS1 ?_
    simp only [nf]
    refine tk 5 (some 23) (.slice (some ⟨b0, o, none⟩) n c) rfl (fun V hS => by go_simp) hS1 ?_
    simp only [nf]
    refine tk 6 (some 24) (.int .i64 ((k : Int) + 1)) rfl (fun V hS => by go_simp) hS1 ?_
    simp only [nf]
    refine tk 7 (some 25) (.pointer (some ⟨b0, o + (k + 1) * 4, none⟩)) rfl (fun V hS => by go_simp) hS1 ?_
    simp only [nf]
    refine tk 8 (some 26) (.agg #[.string x.name, .int .i64 x.ver, .int .i64 x.len, .string x.hash]) rfl (fun V hS => by obtain ⟨h0, h1, h2, h3⟩ := HFx.out V hS; go_simp) hS1 ?_
    simp only [nf]
    refine tk 9 (some 27) (.slice (some ⟨b0, o, none⟩) n c) rfl (fun V hS => by go_simp) hS1 ?_
    simp only [nf]
    refine tk 10 (some 28) (.int .i64 ((k : Int) + 1)) rfl (fun V hS => by go_simp) hS1 ?_
    simp only [nf]
    refine tk 11 (some 29) (.int .i64 (k : Int)) rfl (fun V hS => by go_simp) hS1 ?_
    simp only [nf]
    refine tk 12 (some 30) (.pointer (some ⟨b0, o + k * 4, none⟩)) rfl (fun V hS => by go_simp) hS1 ?_
    simp only [nf]
    refine tk 13 (some 31) (.agg #[.string y.name, .int .i64 y.ver, .int .i64 y.len, .string y.hash]) rfl (fun V hS => by obtain ⟨h0, h1, h2, h3⟩ := HFy.out V hS; go_simp) hS1 ?_
    simp only [nf]
    refine rd1 14 rfl (fun K' hK => ?_)
    go_simp
    refine (byName_gt HCC.out _).mono ?_
    rintro e w9 ⟨rfl, hb9⟩
    go_simp
    refine hK.out _ _ ((hS1).trans (hb9.mono (hS1).size)) (fun hS2 => ?_)
    clear hK K' hS1
    refine tk 15 (some 33) (.bool false) rfl (fun V hS => by go_simp) hS2 ?_
    simp only [nf]
    refine tk 16 (some 34) (.bool false) rfl (fun V hS => by go_simp) hS2 ?_
    simp only [nf]
    refine wpAnyH_done (by kernel_rfl) ?_ _
    have HB9 := Ld (hS2)
    clear hS2
    go_wp2
    go_roundw
    case rel => exact ⟨k + 1, by omega, .inl HLT.out, by go_num, HB9⟩
    case measure => simp [intOf]; omega
  ·have d1 : decide ((k : Int) + 1 < (b : Int)) = false := by rw [decide_eq_false_iff_not]; omega
   have d1' : decide (k + 1 < b) = false := decide_eq_false (by omega)
   clear hkb hge
   go_wp2
   refine bodyPost_end (v := .tuple #[]) (by simp [results, Tryz.results126, go_sem]) rfl ?_
   exact ⟨rfl, HW.out⟩
end Go.Proofs.YtefkpphahimkgaaGreatDoor
