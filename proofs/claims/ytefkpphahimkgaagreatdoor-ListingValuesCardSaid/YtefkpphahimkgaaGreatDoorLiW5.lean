/-
 The document's May, for any listing; Large.
-/
import Derived.Test.YtefkpphahimkgaaGreatDoorTk
import Derived.Test.YtefkpphahimkgaaGreatDoorLiW4
namespace Go.Proofs.YtefkpphahimkgaaGreatDoor
open Go.RowKit
attribute [local go_sem ↓] Go.wp_at_zero Go.wp_at_succ
set_option linter.unusedVariables false
set_option linter.unusedSimpArgs false
theorem may_v {kind : ByteArray} {v e : Int} {l : List ME} (h : ¬ (1 ≤ v ∧ v ≤ 1099511627776 ∧ 0 ≤ e ∧ e ≤ 253402300799)) : mayL kind v e l = false := by
 unfold mayL
 rw [← Bool.not_eq_true]
 simp only [Bool.and_eq_true, decide_eq_true_eq]
 rintro ⟨h1, h2, h3, h4, _⟩
 exact h ⟨h1, h2, h3, h4⟩
theorem may_k {kind : ByteArray} {v e : Int} {l : List ME} (h1 : kind ≠ tsN) (h2 : kind ≠ ssN) : mayL kind v e l = false := by
 unfold mayL
 rw [decide_eq_false h1, decide_eq_false h2]
 simp
theorem may_l {kind : ByteArray} {v e : Int} {l : List ME} (h1 : 64 < l.length) : mayL kind v e l = false := by
 unfold mayL risB
 rw [decide_eq_false (show ¬ l.length ≤ 64 by omega)]
 simp
set_option maxRecDepth 100000 in
set_option maxHeartbeats 4000000 in
theorem rmay15_any {w : World} (kind : ByteArray) (v e0 : Int) {A : Option Addr} {c : Nat} {l : List ME} (h : MAt w A c l) :
  Calls Tryz.prog 11 #[.string kind, .agg #[.int .i64 v, .int .i64 e0, .slice A l.length c]] w fun e w' => PFb (BoP (mayL kind v e0 l) w) e w' := by
 have hbx : Below w.heap.size w (w.alloc (.cells #[.int .i64 v, .int .i64 e0, .slice A l.length c] 24)) := (Below.refl _ _).alloc (Nat.le_refl _) _
 by_cases hts : kind = tsN
 ·have hss : kind ≠ ssN := fun e => ts_ne_ss (hts.symm.trans e)
  by_cases hb : 1 ≤ v ∧ v ≤ 1099511627776 ∧ 0 ≤ e0 ∧ e0 ≤ 253402300799
  ·by_cases hl : l.length ≤ 64
   ·exact rmay_loop kind v e0 h false (decide_eq_true hts) (decide_eq_false hss) hb.1 hb.2.1 hb.2.2.1 hb.2.2.2 hl
   ·rw [may_l (by omega)]
    have kp : kind.toList = [116, 105, 109, 101, 115, 116, 97, 109, 112] := by rw [hts, tsN, ByteArray.toList_eq]
    have d1 : decide (v < 1) = false := decide_eq_false (by omega)
    have d2 : decide (v > 1099511627776) = false := decide_eq_false (by omega)
    have d2' : decide (1099511627776 < v) = false := decide_eq_false (by omega)
    have d3 : decide (e0 < 0) = false := decide_eq_false (by omega)
    have d4 : decide (e0 > 253402300799) = false := decide_eq_false (by omega)
    have d4' : decide (253402300799 < e0) = false := decide_eq_false (by omega)
    obtain ⟨n, hn⟩ : ∃ n, n = l.length := ⟨_, rfl⟩
    rw [← hn] at hl hbx ⊢
    have d5 : decide ((n : Int) > 64) = true := decide_eq_true (by omega)
    have d5' : decide ((64 : Int) < (n : Int)) = true := decide_eq_true (by omega)
    have d5n : decide (64 < n) = true := decide_eq_true (by omega)
    have HBX := Ld hbx
    clear hts hss h hb hl hn hbx
    go_enter Tryz.func11, Tryz.ntmps11
    go_wp2
    go_ret
    exact ⟨rfl, HBX.out⟩
  ·rw [may_v hb]
   have kp : kind.toList = [116, 105, 109, 101, 115, 116, 97, 109, 112] := by rw [hts, tsN, ByteArray.toList_eq]
   have HBX := Ld hbx
   by_cases h1 : v < 1
   ·have d1 : decide (v < 1) = true := decide_eq_true h1
    clear hts hss h hb h1 hbx
    go_enter Tryz.func11, Tryz.ntmps11
    go_wp2
    go_ret
    exact ⟨rfl, HBX.out⟩
   have d1 : decide (v < 1) = false := decide_eq_false h1
   by_cases h2 : 1099511627776 < v
   ·have d2 : decide (v > 1099511627776) = true := decide_eq_true h2
    have d2' : decide (1099511627776 < v) = true := decide_eq_true h2
    clear hts hss h hb h1 h2 hbx
    go_enter Tryz.func11, Tryz.ntmps11
    go_wp2
    go_ret
    exact ⟨rfl, HBX.out⟩
   have d2 : decide (v > 1099511627776) = false := decide_eq_false h2
   have d2' : decide (1099511627776 < v) = false := decide_eq_false h2
   by_cases h3 : e0 < 0
   ·have d3 : decide (e0 < 0) = true := decide_eq_true h3
    clear hts hss h hb h1 h2 h3 hbx
    go_enter Tryz.func11, Tryz.ntmps11
    go_wp2
    go_ret
    exact ⟨rfl, HBX.out⟩
   have d3 : decide (e0 < 0) = false := decide_eq_false h3
   have h4 : 253402300799 < e0 := by omega
   have d4 : decide (e0 > 253402300799) = true := decide_eq_true h4
   have d4' : decide (253402300799 < e0) = true := decide_eq_true h4
   clear hts hss h hb h1 h2 h3 h4 hbx
   go_enter Tryz.func11, Tryz.ntmps11
   go_wp2
   go_ret
   exact ⟨rfl, HBX.out⟩
 ·by_cases hss : kind = ssN
  ·by_cases hb : 1 ≤ v ∧ v ≤ 1099511627776 ∧ 0 ≤ e0 ∧ e0 ≤ 253402300799
   ·by_cases hl : l.length ≤ 64
    ·exact rmay_loop kind v e0 h true (decide_eq_false hts) (decide_eq_true hss) hb.1 hb.2.1 hb.2.2.1 hb.2.2.2 hl
    ·rw [may_l (by omega)]
     have kp : kind.toList = [115, 110, 97, 112, 115, 104, 111, 116] := by rw [hss, ssN, ByteArray.toList_eq]
     have d1 : decide (v < 1) = false := decide_eq_false (by omega)
     have d2 : decide (v > 1099511627776) = false := decide_eq_false (by omega)
     have d2' : decide (1099511627776 < v) = false := decide_eq_false (by omega)
     have d3 : decide (e0 < 0) = false := decide_eq_false (by omega)
     have d4 : decide (e0 > 253402300799) = false := decide_eq_false (by omega)
     have d4' : decide (253402300799 < e0) = false := decide_eq_false (by omega)
     obtain ⟨n, hn⟩ : ∃ n, n = l.length := ⟨_, rfl⟩
     rw [← hn] at hl hbx ⊢
     have d5 : decide ((n : Int) > 64) = true := decide_eq_true (by omega)
     have d5' : decide ((64 : Int) < (n : Int)) = true := decide_eq_true (by omega)
     have d5n : decide (64 < n) = true := decide_eq_true (by omega)
     have HBX := Ld hbx
     clear hts hss h hb hl hn hbx
     go_enter Tryz.func11, Tryz.ntmps11
     go_wp2
     go_ret
     exact ⟨rfl, HBX.out⟩
   ·rw [may_v hb]
    have kp : kind.toList = [115, 110, 97, 112, 115, 104, 111, 116] := by rw [hss, ssN, ByteArray.toList_eq]
    have HBX := Ld hbx
    by_cases h1 : v < 1
    ·have d1 : decide (v < 1) = true := decide_eq_true h1
     clear hts hss h hb h1 hbx
     go_enter Tryz.func11, Tryz.ntmps11
     go_wp2
     go_ret
     exact ⟨rfl, HBX.out⟩
    have d1 : decide (v < 1) = false := decide_eq_false h1
    by_cases h2 : 1099511627776 < v
    ·have d2 : decide (v > 1099511627776) = true := decide_eq_true h2
     have d2' : decide (1099511627776 < v) = true := decide_eq_true h2
     clear hts hss h hb h1 h2 hbx
     go_enter Tryz.func11, Tryz.ntmps11
     go_wp2
     go_ret
     exact ⟨rfl, HBX.out⟩
    have d2 : decide (v > 1099511627776) = false := decide_eq_false h2
    have d2' : decide (1099511627776 < v) = false := decide_eq_false h2
    by_cases h3 : e0 < 0
    ·have d3 : decide (e0 < 0) = true := decide_eq_true h3
     clear hts hss h hb h1 h2 h3 hbx
     go_enter Tryz.func11, Tryz.ntmps11
     go_wp2
     go_ret
     exact ⟨rfl, HBX.out⟩
    have d3 : decide (e0 < 0) = false := decide_eq_false h3
    have h4 : 253402300799 < e0 := by omega
    have d4 : decide (e0 > 253402300799) = true := decide_eq_true h4
    have d4' : decide (253402300799 < e0) = true := decide_eq_true h4
    clear hts hss h hb h1 h2 h3 h4 hbx
    go_enter Tryz.func11, Tryz.ntmps11
    go_wp2
    go_ret
    exact ⟨rfl, HBX.out⟩
  ·rw [may_k hts hss]
   have k1 : ¬ kind.toList = [116, 105, 109, 101, 115, 116, 97, 109, 112] := fun e => hts (toList_injV (e.trans (by rw [tsN, ByteArray.toList_eq])))
   have k2 : ¬ kind.toList = [115, 110, 97, 112, 115, 104, 111, 116] := fun e => hss (toList_injV (e.trans (by rw [ssN, ByteArray.toList_eq])))
   have HBX := Ld hbx
   clear hts hss h hbx
   go_enter Tryz.func11, Tryz.ntmps11
   go_wp2
   go_ret
   exact ⟨rfl, HBX.out⟩
theorem rLarge15_any {w : World} (v e0 : Int) {A : Option Addr} {c : Nat} {l : List ME} (h : MAt w A c l) :
  Calls Tryz.prog 7 #[.agg #[.int .i64 v, .int .i64 e0, .slice A l.length c]] w fun e w' => BoP (decide (200 < l.length)) w e w' := by
 obtain ⟨n, hn⟩ : ∃ n, n = l.length := ⟨_, rfl⟩
 rw [← hn]
 obtain ⟨r, hr⟩ : ∃ r, r = decide (200 < n) := ⟨_, rfl⟩
 have hr1 : decide ((200 : Int) < (n : Int)) = r := by rw [hr]; exact decide_eq_decide.2 (by omega)
 have hr2 : decide ((n : Int) > 200) = r := hr1
 have hr3 : decide (200 < n) = r := hr.symm
 rw [← hr]
 clear hr hn h
 go_enter Tryz.func7, Tryz.ntmps7
 go_wp2
 go_ret
 exact ⟨rfl, (Below.refl _ _).alloc (Nat.le_refl _) _⟩
end Go.Proofs.YtefkpphahimkgaaGreatDoor
