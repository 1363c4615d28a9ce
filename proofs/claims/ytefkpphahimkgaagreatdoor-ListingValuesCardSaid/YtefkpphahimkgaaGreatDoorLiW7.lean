/-
 slices.Equal at files, listing.Same, the document's Same: at the same fields.
-/
import Derived.Test.YtefkpphahimkgaaGreatDoorTk
import Derived.Test.YtefkpphahimkgaaGreatDoorLiP
import Derived.Laws.StructEq
import Derived.Deep.QuietTactic
import Derived.BigQuiet
namespace Go.Proofs.YtefkpphahimkgaaGreatDoor
open Go.RowKit
attribute [local go_sem ↓] Go.wp_at_zero Go.wp_at_succ
set_option linter.unusedVariables false
set_option linter.unusedSimpArgs false
theorem belowD {B : Nat} {a w : World} (h : Below B a w) (n : Nat) : Below B a (w.drewN n) := ⟨h.os, h.tape, h.output, h.size, h.block⟩
theorem equalIn_me (x : ME) (w : World) : (Op.equalIn 10000 44 (.agg #[.string x.name, .int .i64 x.ver, .int .i64 x.len, .string x.hash]) (.agg #[.string x.name, .int .i64 x.ver, .int .i64 x.len, .string x.hash])).run Tryz.prog w = .ok true w := by
 have u3 := Tryz.underlying3
 have u9 := Tryz.underlying9
 have a3 := Tryz.isAgg3
 have z3 := Tryz.sizeOf3
 have a9 := Tryz.isAgg9
 have z9 := Tryz.sizeOf9
 have hS : Tryz.prog.underlying 44 = some (.struct (Tryz.prog.fieldsOf 44)) := by kernel_rfl
 have hp : Tryz.prog.stoodInHeld 44 = false := by kernel_rfl
 rw [show (10000 : Nat) = 9999 + 1 from rfl, run_equalIn_struct w 9999 44 _ _ hS hp]
 simp only [Program.fieldsOf, Tryz.underlying44]
 go_simp
theorem noGuardE : Tryz.prog.eqGuardType Tryz.prog.depth 44 = false := by kernel_rfl
set_option maxRecDepth 100000 in
set_option maxHeartbeats 4000000 in
theorem equalE_any {w : World} {A A2 : Option Addr} {c c2 : Nat} {l : List ME} (h : MAt w A c l) (h2 : MAt w A2 c2 l) :
  Calls Tryz.prog 61 #[.slice A l.length c, .slice A2 l.length c2] w fun e w' => BoP true w e w' := by
 have hbig : l.length ≤ 9223372036854775807 := by have h1 := h.cap; have h2 := h.mx; unfold maxLen at h2; omega
 obtain ⟨n, hn⟩ : ∃ n, n = l.length := ⟨_, rfl⟩
 rw [← hn] at hbig ⊢
 have HN : Hid (l.length = n) := Ld hn.symm
 have HF := Ld h
 have HF2 := Ld h2
 clear h h2 hn
 go_enter Tryz.func61, Tryz.ntmps61
 go_wp2
 go_loopw [5, 13] (fun _ y wr => ∃ k : Nat, k ≤ n ∧ y = .int .i64 (k : Int) ∧ Hid (Below w.heap.size w wr)) (fun _ y _ => n - (intOf y).toNat)
 case atStart => exact ⟨0, Nat.zero_le _, rfl, Ld (Below.refl _ _)⟩
 case round =>
  obtain ⟨k, hk, rfl, HB⟩ := hrel
  rcases (by omega : k < n ∨ k = n) with hlt | heq
  ·have q0 : decide ((k : Int) < (n : Int)) = true := by rw [decide_eq_true_iff]; omega
   have q0' : decide (k < n) = true := by rw [decide_eq_true_iff]; omega
   have hkl : k < l.length := by rw [HN.out]; exact hlt
   obtain ⟨b, o, hA, hbl, c0, c1, c2', c3⟩ := (HF.out.bel HB.out).four hkl
   subst hA
   obtain ⟨b2, o2, hA2, hbl2, g0, g1, g2, g3⟩ := (HF2.out.bel HB.out).four hkl
   subst hA2
   obtain ⟨x, hx⟩ : ∃ x, x = l[k] := ⟨_, rfl⟩
   rw [← hx] at c0 c1 c2' c3 g0 g1 g2 g3
   have hki : (k : Int) < (n : Int) := by omega
   have hk0 : (0 : Int) ≤ (k : Int) := by omega
   have hq := equalIn_me x
   have hng := noGuardE
   clear hbl hbl2 hx
   go_wp2
   go_quiet (fail)
   have HB2 : Hid (Below w.heap.size w (wr.drewN nq)) := Ld (belowD HB.out nq)
   clear hq c0 c1 c2' c3 g0 g1 g2 g3
   go_wp2
   go_roundw
   case rel => exact ⟨k + 1, by omega, by go_num, HB2⟩
   case measure => simp [intOf]; omega
  ·have q0 : decide ((k : Int) < (n : Int)) = false := by rw [decide_eq_false_iff_not]; omega
   have q0' : decide (k < n) = false := by rw [decide_eq_false_iff_not]; omega
   clear heq
   go_wp2
   go_ret
   exact ⟨rfl, HB.out⟩
set_option maxRecDepth 100000 in
set_option maxHeartbeats 2000000 in
theorem lsame_any {w : World} (v e0 : Int) {A A2 : Option Addr} {c c2 : Nat} {l : List ME} (h : MAt w A c l) (h2 : MAt w A2 c2 l) :
  Calls Tryz.prog 25 #[.agg #[.int .i64 v, .int .i64 e0, .slice A l.length c], .agg #[.int .i64 v, .int .i64 e0, .slice A2 l.length c2]] w fun e w' => BoP true w e w' := by
 obtain ⟨W2, hW2⟩ : ∃ W2, W2 = (w.alloc (.cells #[.int .i64 v, .int .i64 e0, .slice A l.length c] 24)).alloc (.cells #[.int .i64 v, .int .i64 e0, .slice A2 l.length c2] 24) := ⟨_, rfl⟩
 obtain ⟨hb2, hk1, hk2, hs2⟩ := new2_ w _ _ _ _ W2 hW2
 have HE := Ld (equalE_any (h.bel hb2) (h2.bel hb2))
 have HB2 := Ld hb2
 have HW2 := Ld hW2
 clear h h2 hb2 hk1 hk2 hs2 hW2
 go_enter Tryz.func25, Tryz.ntmps25
 go_wp2_with fail
 rw [← HW2.out]
 refine HE.out.mono ?_
 rintro e w3 ⟨rfl, hb3⟩
 go_wp2
 go_ret
 exact ⟨rfl, HB2.out.trans (hb3.mono HB2.out.size)⟩
set_option maxRecDepth 100000 in
set_option maxHeartbeats 4000000 in
theorem rsame15_any {w : World} (v e0 : Int) {A A2 : Option Addr} {c c2 : Nat} {l : List ME} (h : MAt w A c l) (h2 : MAt w A2 c2 l) :
  Calls Tryz.prog 16 #[.agg #[.int .i64 v, .int .i64 e0, .slice A l.length c], .agg #[.int .i64 v, .int .i64 e0, .slice A2 l.length c2]] w fun e w' => BoP true w e w' := by
 have hbig : l.length ≤ 9223372036854775807 := by have h1 := h.cap; have h2 := h.mx; unfold maxLen at h2; omega
 obtain ⟨n, hn⟩ : ∃ n, n = l.length := ⟨_, rfl⟩
 rw [← hn] at hbig ⊢
 have HN : Hid (l.length = n) := Ld hn.symm
 have HF := Ld h
 have HF2 := Ld h2
 obtain ⟨hb2, hk1, hk2, hs2⟩ := new2_ w #[.int .i64 v, .int .i64 e0, .slice A n c] #[.int .i64 v, .int .i64 e0, .slice A2 n c2] 24 24 _ rfl
 have HB2 := Ld hb2
 have HK1 := Ld hk1
 have HK2 := Ld hk2
 clear h h2 hn hb2 hk1 hk2 hs2
 go_enter Tryz.func16, Tryz.ntmps16
 go_wp2
 go_loopw [5] (fun y wr => ∃ k : Nat, k ≤ n ∧ y = .int .i64 (k : Int) ∧ Hid (Below w.heap.size w wr) ∧ Hid (Blk wr w.heap.size 24 #[.int .i64 v, .int .i64 e0, .slice A n c]) ∧ Hid (Blk wr (w.heap.size + 1) 24 #[.int .i64 v, .int .i64 e0, .slice A2 n c2])) (fun y _ => n - (intOf y).toNat)
 case atStart => exact ⟨0, Nat.zero_le _, rfl, HB2, HK1, HK2⟩
 case round =>
  obtain ⟨k, hk, rfl, HB, HKA, HKB⟩ := hrel
  have b2 := HKA.out.cell 2
  have b3 := HKB.out.cell 2
  simp only [gz] at b2 b3
  rcases (by omega : k < n ∨ k = n) with hlt | heq
  ·have q0 : decide ((k : Int) < (n : Int)) = true := by rw [decide_eq_true_iff]; omega
   have q0' : decide (k < n) = true := by rw [decide_eq_true_iff]; omega
   have hkl : k < l.length := by rw [HN.out]; exact hlt
   obtain ⟨b, o, hA, hbl, c0, c1, c2', c3⟩ := (HF.out.bel HB.out).four hkl
   subst hA
   obtain ⟨bb, oo, hA2, hbl2, g0, g1, g2, g3⟩ := (HF2.out.bel HB.out).four hkl
   subst hA2
   obtain ⟨x, hx⟩ : ∃ x, x = l[k] := ⟨_, rfl⟩
   rw [← hx] at c0 c1 c2' c3 g0 g1 g2 g3
   have hki : (k : Int) < (n : Int) := by omega
   have hk0 : (0 : Int) ≤ (k : Int) := by omega
   have hq := equalIn_me x
   have hng := noGuardE
   clear hbl hbl2 hx
   go_wp2
   go_quiet (fail)
   have HB3 : Hid (Below w.heap.size w (wr.drewN nq)) := Ld (belowD HB.out nq)
   have HKA3 := Ld (HKA.out.drewN nq)
   have HKB3 := Ld (HKB.out.drewN nq)
   clear hq c0 c1 c2' c3 g0 g1 g2 g3 b2 b3
   go_wp2
   go_roundw
   case rel => exact ⟨k + 1, by omega, by go_num, HB3, HKA3, HKB3⟩
   case measure => simp [intOf]; omega
  ·have q0 : decide ((k : Int) < (n : Int)) = false := by rw [decide_eq_false_iff_not]; omega
   have q0' : decide (k < n) = false := by rw [decide_eq_false_iff_not]; omega
   clear heq
   go_wp2
   go_ret
   exact ⟨rfl, HB.out⟩
end Go.Proofs.YtefkpphahimkgaaGreatDoor
