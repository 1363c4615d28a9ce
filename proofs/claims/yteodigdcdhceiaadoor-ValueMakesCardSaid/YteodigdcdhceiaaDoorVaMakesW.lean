/-
  The walk of ValueMakes.
-/
import Derived.Test.YteodigdcdhceiaaDoorVaSamesW
namespace Go.Proofs.YteodigdcdhceiaaDoor
open Go.RowKit
attribute [local go_sem ↓] Go.wp_at_zero Go.wp_at_succ
set_option linter.unusedVariables false
set_option linter.unusedSimpArgs false

def Was (b b' : Bool) : Prop := b = false → b' = false
theorem Was.refl {b : Bool} : Was b b := fun e => e
theorem Was.long {b : Bool} : Was true b := fun e => by cases e
theorem Was.next {b b' : Bool} (h : Was false b') : Was b b' := fun _ => h rfl
/-- none of some is large -/
def SmallL (l : List MV) (i : Nat) (b : Bool) : Prop := b = false → ∀ x ∈ l.take i, FitV x
theorem SmallL.next {l : List MV} {i : Nat} {b : Bool} (h : SmallL l i false) (hi : i < l.length) (hx : b = false → FitV l[i]) : SmallL l (i + 1) b := fun e x hxm => by
  rw [List.take_succ_eq_append_getElem hi] at hxm
  rcases List.mem_append.1 hxm with hxm | hxm
  · exact h rfl x hxm
  · rw [List.mem_singleton] at hxm
    subst hxm
    exact hx e
theorem SmallL.long {l : List MV} {i : Nat} : SmallL l i true := fun e => by cases e
theorem one_at (w : World) {k n : Int} (s : ByteArray) (hk : (Lit.int .i64 k).wf = true) (hn : (Lit.int .i64 n).wf = true) : VAt w (.one k n s) := (VOwn.one 0 w s hk hn).at_
/-- Exact says yes -/
theorem exact_yes {w : World} {a b : MV} (ha : VAt w a) (hb : VAt w b) (e : a.pv = b.pv) : Calls Tryd.prog 12 #[a.val, b.val] w fun e w' => PF (RiP true w) e w' := by
  have h := rexact_any ha b w (Below.refl _ _) hb
  rw [show ExP a b w = RiP true w from by unfold ExP RiP; rw [decide_eq_true e]] at h
  exact h
set_option maxRecDepth 100000 in
set_option maxHeartbeats 8000000 in
theorem vmakes_long1 (n : Int) (s : ByteArray) (is : Bool) (lA : Option Addr) (nl lc : Nat) (mA : Option Addr) (nm mc : Nat) (w : World) (ht : tabU w) (hnb : nl ≤ 9223372036854775807) (hmb : nm ≤ 9223372036854775807) (h2 : 200 < nl) :
    Calls Tryd.prog 4 #[.int .i64 n, .string s, .bool is, .slice lA nl lc, .slice mA nm mc] w fun e w' => PF (RiP true w) e w' := by
  have HT := Lib.hid ht
  clear ht
  have q1 : decide ((200 : Int) < (nl : Int)) = true := by rw [decide_eq_true_iff]; omega
  have q1' : decide (200 < nl) = true := by rw [decide_eq_true_iff]; omega
  clear h2
  go_enter Tryd.func4, Tryd.ntmps4
  go_wp2
  go_loopw [11, 12] (fun z y wr => ∃ i : Nat, z = .bool true ∧ y = .int .i64 (i : Int) ∧ i ≤ nl ∧ i ≤ 300 ∧ Hid (wr = w)) (fun _ y _ => 300 - (intOf y).toNat)
  case atStart => exact ⟨0, rfl, rfl, Nat.zero_le _, by omega, Lib.hid rfl⟩
  case round =>
    obtain ⟨i, rfl, rfl, hi, hi3, HW⟩ := hrel
    have HW' : w = wr := HW.out.symm
    clear HW
    subst HW'
    rcases (by omega : (i < nl ∧ i < 300) ∨ i = nl ∨ (i < nl ∧ i = 300)) with ⟨hlt, h300⟩ | heq | ⟨hlt, heq⟩
    · have q5 : decide ((i : Int) < (nl : Int)) = true := by rw [decide_eq_true_iff]; omega
      have q5' : decide (i < nl) = true := by rw [decide_eq_true_iff]; omega
      have q6 : decide ((i : Int) < 300) = true := by rw [decide_eq_true_iff]; omega
      have q6' : decide (i < 300) = true := by rw [decide_eq_true_iff]; omega
      go_wp2
      go_roundw
      case rel => exact ⟨i + 1, rfl, by go_num, by omega, by omega, Lib.hid trivial⟩
      case measure => simp [intOf]; omega
    · have q5 : decide ((i : Int) < (nl : Int)) = false := by rw [decide_eq_false_iff_not]; omega
      have q5' : decide (i < nl) = false := by rw [decide_eq_false_iff_not]; omega
      clear heq
      go_wp2
      clear q5 q5'
      go_loopw [11, 13] (fun z y wr => ∃ i : Nat, z = .bool true ∧ y = .int .i64 (i : Int) ∧ i ≤ nm ∧ i ≤ 300 ∧ Hid (wr = w)) (fun _ y _ => 300 - (intOf y).toNat)
      case atStart => exact ⟨0, rfl, rfl, Nat.zero_le _, by omega, Lib.hid rfl⟩
      case round =>
        obtain ⟨i, rfl, rfl, hi, hi3, HW⟩ := hrel
        have HW' : w = wr := HW.out.symm
        clear HW
        subst HW'
        rcases (by omega : (i < nm ∧ i < 300) ∨ i = nm ∨ (i < nm ∧ i = 300)) with ⟨hlt, h300⟩ | heq | ⟨hlt, heq⟩
        · have q5 : decide ((i : Int) < (nm : Int)) = true := by rw [decide_eq_true_iff]; omega
          have q5' : decide (i < nm) = true := by rw [decide_eq_true_iff]; omega
          have q6 : decide ((i : Int) < 300) = true := by rw [decide_eq_true_iff]; omega
          have q6' : decide (i < 300) = true := by rw [decide_eq_true_iff]; omega
          go_wp2
          go_roundw
          case rel => exact ⟨i + 1, rfl, by go_num, by omega, by omega, Lib.hid trivial⟩
          case measure => simp [intOf]; omega
        · have q5 : decide ((i : Int) < (nm : Int)) = false := by rw [decide_eq_false_iff_not]; omega
          have q5' : decide (i < nm) = false := by rw [decide_eq_false_iff_not]; omega
          clear heq
          go_wp2_with fail
          refine (vlives_any _ HT.out).mono ?_
          rintro e u1 ⟨rfl, hb1⟩
          have HBE := Lib.hid hb1
          clear hb1
          go_wp2
          go_ret
          exact ⟨rfl, HBE.out⟩
        · have q5 : decide ((i : Int) < (nm : Int)) = true := by rw [decide_eq_true_iff]; omega
          have q5' : decide (i < nm) = true := by rw [decide_eq_true_iff]; omega
          have q6 : decide ((i : Int) < 300) = false := by rw [decide_eq_false_iff_not]; omega
          have q6' : decide (i < 300) = false := by rw [decide_eq_false_iff_not]; omega
          clear heq
          go_wp2_with fail
          refine (vlives_any _ HT.out).mono ?_
          rintro e u1 ⟨rfl, hb1⟩
          have HBE := Lib.hid hb1
          clear hb1
          go_wp2
          go_ret
          exact ⟨rfl, HBE.out⟩
    · have q5 : decide ((i : Int) < (nl : Int)) = true := by rw [decide_eq_true_iff]; omega
      have q5' : decide (i < nl) = true := by rw [decide_eq_true_iff]; omega
      have q6 : decide ((i : Int) < 300) = false := by rw [decide_eq_false_iff_not]; omega
      have q6' : decide (i < 300) = false := by rw [decide_eq_false_iff_not]; omega
      clear heq
      go_wp2
      clear q5 q5'
      go_loopw [11, 13] (fun z y wr => ∃ i : Nat, z = .bool true ∧ y = .int .i64 (i : Int) ∧ i ≤ nm ∧ i ≤ 300 ∧ Hid (wr = w)) (fun _ y _ => 300 - (intOf y).toNat)
      case atStart => exact ⟨0, rfl, rfl, Nat.zero_le _, by omega, Lib.hid rfl⟩
      case round =>
        obtain ⟨i, rfl, rfl, hi, hi3, HW⟩ := hrel
        have HW' : w = wr := HW.out.symm
        clear HW
        subst HW'
        rcases (by omega : (i < nm ∧ i < 300) ∨ i = nm ∨ (i < nm ∧ i = 300)) with ⟨hlt, h300⟩ | heq | ⟨hlt, heq⟩
        · have q5 : decide ((i : Int) < (nm : Int)) = true := by rw [decide_eq_true_iff]; omega
          have q5' : decide (i < nm) = true := by rw [decide_eq_true_iff]; omega
          have q6 : decide ((i : Int) < 300) = true := by rw [decide_eq_true_iff]; omega
          have q6' : decide (i < 300) = true := by rw [decide_eq_true_iff]; omega
          go_wp2
          go_roundw
          case rel => exact ⟨i + 1, rfl, by go_num, by omega, by omega, Lib.hid trivial⟩
          case measure => simp [intOf]; omega
        · have q5 : decide ((i : Int) < (nm : Int)) = false := by rw [decide_eq_false_iff_not]; omega
          have q5' : decide (i < nm) = false := by rw [decide_eq_false_iff_not]; omega
          clear heq
          go_wp2_with fail
          refine (vlives_any _ HT.out).mono ?_
          rintro e u1 ⟨rfl, hb1⟩
          have HBE := Lib.hid hb1
          clear hb1
          go_wp2
          go_ret
          exact ⟨rfl, HBE.out⟩
        · have q5 : decide ((i : Int) < (nm : Int)) = true := by rw [decide_eq_true_iff]; omega
          have q5' : decide (i < nm) = true := by rw [decide_eq_true_iff]; omega
          have q6 : decide ((i : Int) < 300) = false := by rw [decide_eq_false_iff_not]; omega
          have q6' : decide (i < 300) = false := by rw [decide_eq_false_iff_not]; omega
          clear heq
          go_wp2_with fail
          refine (vlives_any _ HT.out).mono ?_
          rintro e u1 ⟨rfl, hb1⟩
          have HBE := Lib.hid hb1
          clear hb1
          go_wp2
          go_ret
          exact ⟨rfl, HBE.out⟩
set_option maxRecDepth 100000 in
set_option maxHeartbeats 8000000 in
theorem vmakes_long2 (n : Int) (s : ByteArray) (is : Bool) (lA : Option Addr) (nl lc : Nat) (mA : Option Addr) (nm mc : Nat) (w : World) (ht : tabU w) (hnb : nl ≤ 9223372036854775807) (hmb : nm ≤ 9223372036854775807) (h1 : ¬ 200 < nl) (h2 : 200 < nm) :
    Calls Tryd.prog 4 #[.int .i64 n, .string s, .bool is, .slice lA nl lc, .slice mA nm mc] w fun e w' => PF (RiP true w) e w' := by
  have HT := Lib.hid ht
  clear ht
  have q1 : decide ((200 : Int) < (nl : Int)) = false := by rw [decide_eq_false_iff_not]; omega
  have q1' : decide (200 < nl) = false := by rw [decide_eq_false_iff_not]; omega
  have q2 : decide ((200 : Int) < (nm : Int)) = true := by rw [decide_eq_true_iff]; omega
  have q2' : decide (200 < nm) = true := by rw [decide_eq_true_iff]; omega
  clear h1 h2
  go_enter Tryd.func4, Tryd.ntmps4
  go_wp2
  go_loopw [11, 12] (fun z y wr => ∃ i : Nat, z = .bool true ∧ y = .int .i64 (i : Int) ∧ i ≤ nl ∧ i ≤ 300 ∧ Hid (wr = w)) (fun _ y _ => 300 - (intOf y).toNat)
  case atStart => exact ⟨0, rfl, rfl, Nat.zero_le _, by omega, Lib.hid rfl⟩
  case round =>
    obtain ⟨i, rfl, rfl, hi, hi3, HW⟩ := hrel
    have HW' : w = wr := HW.out.symm
    clear HW
    subst HW'
    rcases (by omega : (i < nl ∧ i < 300) ∨ i = nl ∨ (i < nl ∧ i = 300)) with ⟨hlt, h300⟩ | heq | ⟨hlt, heq⟩
    · have q5 : decide ((i : Int) < (nl : Int)) = true := by rw [decide_eq_true_iff]; omega
      have q5' : decide (i < nl) = true := by rw [decide_eq_true_iff]; omega
      have q6 : decide ((i : Int) < 300) = true := by rw [decide_eq_true_iff]; omega
      have q6' : decide (i < 300) = true := by rw [decide_eq_true_iff]; omega
      go_wp2
      go_roundw
      case rel => exact ⟨i + 1, rfl, by go_num, by omega, by omega, Lib.hid trivial⟩
      case measure => simp [intOf]; omega
    · have q5 : decide ((i : Int) < (nl : Int)) = false := by rw [decide_eq_false_iff_not]; omega
      have q5' : decide (i < nl) = false := by rw [decide_eq_false_iff_not]; omega
      clear heq
      go_wp2
      clear q5 q5'
      go_loopw [11, 13] (fun z y wr => ∃ i : Nat, z = .bool true ∧ y = .int .i64 (i : Int) ∧ i ≤ nm ∧ i ≤ 300 ∧ Hid (wr = w)) (fun _ y _ => 300 - (intOf y).toNat)
      case atStart => exact ⟨0, rfl, rfl, Nat.zero_le _, by omega, Lib.hid rfl⟩
      case round =>
        obtain ⟨i, rfl, rfl, hi, hi3, HW⟩ := hrel
        have HW' : w = wr := HW.out.symm
        clear HW
        subst HW'
        rcases (by omega : (i < nm ∧ i < 300) ∨ i = nm ∨ (i < nm ∧ i = 300)) with ⟨hlt, h300⟩ | heq | ⟨hlt, heq⟩
        · have q5 : decide ((i : Int) < (nm : Int)) = true := by rw [decide_eq_true_iff]; omega
          have q5' : decide (i < nm) = true := by rw [decide_eq_true_iff]; omega
          have q6 : decide ((i : Int) < 300) = true := by rw [decide_eq_true_iff]; omega
          have q6' : decide (i < 300) = true := by rw [decide_eq_true_iff]; omega
          go_wp2
          go_roundw
          case rel => exact ⟨i + 1, rfl, by go_num, by omega, by omega, Lib.hid trivial⟩
          case measure => simp [intOf]; omega
        · have q5 : decide ((i : Int) < (nm : Int)) = false := by rw [decide_eq_false_iff_not]; omega
          have q5' : decide (i < nm) = false := by rw [decide_eq_false_iff_not]; omega
          clear heq
          go_wp2_with fail
          refine (vlives_any _ HT.out).mono ?_
          rintro e u1 ⟨rfl, hb1⟩
          have HBE := Lib.hid hb1
          clear hb1
          go_wp2
          go_ret
          exact ⟨rfl, HBE.out⟩
        · have q5 : decide ((i : Int) < (nm : Int)) = true := by rw [decide_eq_true_iff]; omega
          have q5' : decide (i < nm) = true := by rw [decide_eq_true_iff]; omega
          have q6 : decide ((i : Int) < 300) = false := by rw [decide_eq_false_iff_not]; omega
          have q6' : decide (i < 300) = false := by rw [decide_eq_false_iff_not]; omega
          clear heq
          go_wp2_with fail
          refine (vlives_any _ HT.out).mono ?_
          rintro e u1 ⟨rfl, hb1⟩
          have HBE := Lib.hid hb1
          clear hb1
          go_wp2
          go_ret
          exact ⟨rfl, HBE.out⟩
    · have q5 : decide ((i : Int) < (nl : Int)) = true := by rw [decide_eq_true_iff]; omega
      have q5' : decide (i < nl) = true := by rw [decide_eq_true_iff]; omega
      have q6 : decide ((i : Int) < 300) = false := by rw [decide_eq_false_iff_not]; omega
      have q6' : decide (i < 300) = false := by rw [decide_eq_false_iff_not]; omega
      clear heq
      go_wp2
      clear q5 q5'
      go_loopw [11, 13] (fun z y wr => ∃ i : Nat, z = .bool true ∧ y = .int .i64 (i : Int) ∧ i ≤ nm ∧ i ≤ 300 ∧ Hid (wr = w)) (fun _ y _ => 300 - (intOf y).toNat)
      case atStart => exact ⟨0, rfl, rfl, Nat.zero_le _, by omega, Lib.hid rfl⟩
      case round =>
        obtain ⟨i, rfl, rfl, hi, hi3, HW⟩ := hrel
        have HW' : w = wr := HW.out.symm
        clear HW
        subst HW'
        rcases (by omega : (i < nm ∧ i < 300) ∨ i = nm ∨ (i < nm ∧ i = 300)) with ⟨hlt, h300⟩ | heq | ⟨hlt, heq⟩
        · have q5 : decide ((i : Int) < (nm : Int)) = true := by rw [decide_eq_true_iff]; omega
          have q5' : decide (i < nm) = true := by rw [decide_eq_true_iff]; omega
          have q6 : decide ((i : Int) < 300) = true := by rw [decide_eq_true_iff]; omega
          have q6' : decide (i < 300) = true := by rw [decide_eq_true_iff]; omega
          go_wp2
          go_roundw
          case rel => exact ⟨i + 1, rfl, by go_num, by omega, by omega, Lib.hid trivial⟩
          case measure => simp [intOf]; omega
        · have q5 : decide ((i : Int) < (nm : Int)) = false := by rw [decide_eq_false_iff_not]; omega
          have q5' : decide (i < nm) = false := by rw [decide_eq_false_iff_not]; omega
          clear heq
          go_wp2_with fail
          refine (vlives_any _ HT.out).mono ?_
          rintro e u1 ⟨rfl, hb1⟩
          have HBE := Lib.hid hb1
          clear hb1
          go_wp2
          go_ret
          exact ⟨rfl, HBE.out⟩
        · have q5 : decide ((i : Int) < (nm : Int)) = true := by rw [decide_eq_true_iff]; omega
          have q5' : decide (i < nm) = true := by rw [decide_eq_true_iff]; omega
          have q6 : decide ((i : Int) < 300) = false := by rw [decide_eq_false_iff_not]; omega
          have q6' : decide (i < 300) = false := by rw [decide_eq_false_iff_not]; omega
          clear heq
          go_wp2_with fail
          refine (vlives_any _ HT.out).mono ?_
          rintro e u1 ⟨rfl, hb1⟩
          have HBE := Lib.hid hb1
          clear hb1
          go_wp2
          go_ret
          exact ⟨rfl, HBE.out⟩
set_option maxRecDepth 100000 in
set_option maxHeartbeats 8000000 in
theorem valueMakes_walk (n : Int) (s : ByteArray) (is : Bool) (lA : Option Addr) (lc : Nat) (l : List MV) (mA : Option Addr) (mc : Nat) (m : List MV) (w : World) (ht : tabU w) (hn : (Lit.int .i64 n).wf = true) (hsz : s.size ≤ 140737488351232) (ha : VAt w (.mk ⟨#[]⟩ 5 0 ⟨#[]⟩ lA lc l none 0 [])) (sa : SzV (.mk ⟨#[]⟩ 5 0 ⟨#[]⟩ lA lc l none 0 [])) (hb : VAt w (.mk ⟨#[]⟩ 6 0 ⟨#[]⟩ none 0 [] mA mc m)) (sb : SzV (.mk ⟨#[]⟩ 6 0 ⟨#[]⟩ none 0 [] mA mc m)) :
    Calls Tryd.prog 4 #[.int .i64 n, .string s, .bool is, .slice lA l.length lc, .slice mA m.length mc] w fun e w' => e = .returned (.bool true) ∧ Below w.heap.size w w' := by
  show Calls Tryd.prog 4 #[.int .i64 n, .string s, .bool is, .slice lA l.length lc, .slice mA m.length mc] w fun e w' => PF (RiP true w) e w'
  have hcap := ha.caps
  have hcap' := hb.caps
  obtain ⟨nl, hnl⟩ : ∃ nl, nl = l.length := ⟨_, rfl⟩
  obtain ⟨nm, hnm⟩ : ∃ nm, nm = m.length := ⟨_, rfl⟩
  have hnb : nl ≤ 9223372036854775807 := by rw [hnl]; have h1 := hcap.1; have h2 := hcap.2.1; simp only [maxLen, MV.l, MV.lc] at h1 h2; omega
  have hmb : nm ≤ 9223372036854775807 := by rw [hnm]; have h1 := hcap'.2.2.1; have h2 := hcap'.2.2.2; simp only [maxLen, MV.m, MV.mc] at h1 h2; omega
  rw [← hnl, ← hnm]
  by_cases h1 : 200 < nl
  · exact vmakes_long1 n s is lA nl lc mA nm mc w ht hnb hmb h1
  by_cases h2 : 200 < nm
  · exact vmakes_long2 n s is lA nl lc mA nm mc w ht hnb hmb h1 h2
  have HT := Lib.hid ht
  have HVA := Lib.hid ha
  have HVB := Lib.hid hb
  have HSL : Hid (∀ x ∈ l, SzV x) := Lib.hid (by cases sa; assumption)
  have HSM : Hid (∀ x ∈ m, SzV x) := Lib.hid (by cases sb; assumption)
  have HN := Lib.hid hn
  have HNL : Hid (l.length = nl) := Lib.hid hnl.symm
  have HNM : Hid (m.length = nm) := Lib.hid hnm.symm
  have q1 : decide ((200 : Int) < (nl : Int)) = false := by rw [decide_eq_false_iff_not]; omega
  have q1' : decide (200 < nl) = false := by rw [decide_eq_false_iff_not]; omega
  have q2 : decide ((200 : Int) < (nm : Int)) = false := by rw [decide_eq_false_iff_not]; omega
  have q2' : decide (200 < nm) = false := by rw [decide_eq_false_iff_not]; omega
  have hnl2 : nl ≤ 200 := by omega
  have hnm2 : nm ≤ 200 := by omega
  clear ht hn hsz ha sa hb sb hcap hcap' hnl hnm h1 h2 hnb hmb
  go_enter Tryd.func4, Tryd.ntmps4
  go_wp2
  go_loopw [11, 12] (fun z y wr => ∃ (i : Nat) (b : Bool), z = .bool b ∧ y = .int .i64 (i : Int) ∧ i ≤ nl ∧ Hid (SmallL l i b) ∧ Hid (Below w.heap.size w wr)) (fun _ y _ => nl - (intOf y).toNat)
  case atStart => exact ⟨0, false, rfl, rfl, Nat.zero_le _, Lib.hid (fun _ x hx => by cases hx), Lib.hid (Below.refl _ _)⟩
  case round =>
    obtain ⟨i, lb, rfl, rfl, hi, HSI, HW⟩ := hrel
    rcases (by omega : i < nl ∨ i = nl) with hlt | heq
    · have q5 : decide ((i : Int) < (nl : Int)) = true := by rw [decide_eq_true_iff]; omega
      have q5' : decide (i < nl) = true := by rw [decide_eq_true_iff]; omega
      have q6 : decide ((i : Int) < 300) = true := by rw [decide_eq_true_iff]; omega
      have q6' : decide (i < 300) = true := by rw [decide_eq_true_iff]; omega
      cases lb with
      | true =>
        go_wp2
        go_roundw
        case rel => exact ⟨i + 1, true, rfl, by go_num, by omega, Lib.hid SmallL.long, HW⟩
        case measure => simp [intOf]; omega
      | false =>
        have hil : i < l.length := by rw [HNL.out]; exact hlt
        obtain ⟨b, o, hA0, _, hc0⟩ := (HVA.out.bel HW.out).la (i := i) hil
        have hA : lA = some ⟨b, o, none⟩ := hA0
        have hc : ∀ j, j < 5 → wr.cell? ⟨b, o + i * 5 + j, none⟩ = l[i].cs[j]? := hc0
        clear hA0 hc0
        obtain ⟨x, hx⟩ : ∃ x, x = l[i] := ⟨_, rfl⟩
        have hxm : x ∈ l := by rw [hx]; exact List.getElem_mem hil
        rw [← hx] at hc
        have d0 : wr.cell? ⟨b, o + i * 5, none⟩ = some (.int .i64 x.k) := hc 0 (by omega)
        have d1 : wr.cell? ⟨b, o + i * 5 + 1, none⟩ = some (.int .i64 x.n) := hc 1 (by omega)
        have d2 : wr.cell? ⟨b, o + i * 5 + 2, none⟩ = some (.string x.s) := hc 2 (by omega)
        have d3 : wr.cell? ⟨b, o + i * 5 + 3, none⟩ = some (.slice x.lA x.l.length x.lc) := hc 3 (by omega)
        have d4 : wr.cell? ⟨b, o + i * 5 + 4, none⟩ = some (.slice x.mA x.m.length x.mc) := hc 4 (by omega)
        have hcc := rLarge_any ((HVA.out.bel HW.out).l x hxm) (HSL.out x hxm)
        unfold MV.val at hcc
        have HCC := Lib.hid hcc
        have HX := Lib.hid hx
        have HIL := Lib.hid hil
        have hii : (i : Int) < (nl : Int) := by omega
        have hi0 : (0 : Int) ≤ (i : Int) := by omega
        have HlA := Lib.hid hA
        subst hA
        clear hc hxm hx hcc
        go_wp2_with fail
        refine HCC.out.mono ?_
        clear d0 d1 d2 d3 d4
        rintro e w3 ⟨lb, rfl, hb3, hsm⟩
        have HW3 := Lib.hid (HW.out.trans (hb3.mono HW.out.size))
        have HS3 : Hid (SmallL l (i + 1) lb) := Lib.hid (HSI.out.next HIL.out (fun e => by rw [← HX.out]; exact (hsm e).2.2))
        clear hb3 hsm
        go_wp2
        go_roundw
        case rel => exact ⟨i + 1, lb, rfl, by go_num, by omega, HS3, HW3⟩
        case measure => simp [intOf]; omega
    · have q5 : decide ((i : Int) < (nl : Int)) = false := by rw [decide_eq_false_iff_not]; omega
      have q5' : decide (i < nl) = false := by rw [decide_eq_false_iff_not]; omega
      have HSE : Hid (SmallL l l.length lb) := Lib.hid (by have h9 := HSI.out; rw [heq, ← HNL.out] at h9; exact h9)
      clear heq HSI
      go_wp2
      clear q5 q5'
      obtain ⟨w1, rfl⟩ : ∃ w1, w1 = wr := ⟨_, rfl⟩
      have HW1 := HW
      have HSEL := HSE
      obtain ⟨lb1, rfl⟩ : ∃ b, b = lb := ⟨_, rfl⟩
      clear HW HSE
      go_loopw [11, 13] (fun z y wr => ∃ (i : Nat) (b : Bool), z = .bool b ∧ y = .int .i64 (i : Int) ∧ i ≤ nm ∧ Hid (SmallL m i b) ∧ Hid (Was b lb1) ∧ Hid (Below w.heap.size w wr)) (fun _ y _ => nm - (intOf y).toNat)
      case atStart => exact ⟨0, lb1, rfl, rfl, Nat.zero_le _, Lib.hid (fun _ x hx => by cases hx), Lib.hid Was.refl, HW1⟩
      case round =>
        obtain ⟨i, lb, rfl, rfl, hi, HSI, HLL, HW⟩ := hrel
        rcases (by omega : i < nm ∨ i = nm) with hlt | heq
        · have q5 : decide ((i : Int) < (nm : Int)) = true := by rw [decide_eq_true_iff]; omega
          have q5' : decide (i < nm) = true := by rw [decide_eq_true_iff]; omega
          have q6 : decide ((i : Int) < 300) = true := by rw [decide_eq_true_iff]; omega
          have q6' : decide (i < 300) = true := by rw [decide_eq_true_iff]; omega
          cases lb with
          | true =>
            go_wp2
            go_roundw
            case rel => exact ⟨i + 1, true, rfl, by go_num, by omega, Lib.hid SmallL.long, Lib.hid Was.long, HW⟩
            case measure => simp [intOf]; omega
          | false =>
            have hil : i < m.length := by rw [HNM.out]; exact hlt
            obtain ⟨b, o, hA0, _, hc0⟩ := (HVB.out.bel HW.out).ma (i := i) hil
            have hA : mA = some ⟨b, o, none⟩ := hA0
            have hc : ∀ j, j < 6 → wr.cell? ⟨b, o + i * 6 + j, none⟩ = m[i].pcs[j]? := hc0
            clear hA0 hc0
            obtain ⟨x, hx⟩ : ∃ x, x = m[i] := ⟨_, rfl⟩
            have hxm : x ∈ m := by rw [hx]; exact List.getElem_mem hil
            rw [← hx] at hc
            have d0 : wr.cell? ⟨b, o + i * 6 + 1, none⟩ = some (.int .i64 x.k) := hc 1 (by omega)
            have d1 : wr.cell? ⟨b, o + i * 6 + 1 + 1, none⟩ = some (.int .i64 x.n) := hc 2 (by omega)
            have d2 : wr.cell? ⟨b, o + i * 6 + 1 + 2, none⟩ = some (.string x.s) := hc 3 (by omega)
            have d3 : wr.cell? ⟨b, o + i * 6 + 1 + 3, none⟩ = some (.slice x.lA x.l.length x.lc) := hc 4 (by omega)
            have d4 : wr.cell? ⟨b, o + i * 6 + 1 + 4, none⟩ = some (.slice x.mA x.m.length x.mc) := hc 5 (by omega)
            have hcc := rLarge_any ((HVB.out.bel HW.out).m x hxm) (HSM.out x hxm)
            unfold MV.val at hcc
            have HCC := Lib.hid hcc
            have HX := Lib.hid hx
            have HIL := Lib.hid hil
            have hii : (i : Int) < (nm : Int) := by omega
            have hi0 : (0 : Int) ≤ (i : Int) := by omega
            have HmA := Lib.hid hA
            subst hA
            clear hc hxm hx hcc
            go_wp2_with fail
            refine HCC.out.mono ?_
            clear d0 d1 d2 d3 d4
            rintro e w3 ⟨lb, rfl, hb3, hsm⟩
            have HW3 := Lib.hid (HW.out.trans (hb3.mono HW.out.size))
            have HS3 : Hid (SmallL m (i + 1) lb) := Lib.hid (HSI.out.next HIL.out (fun e => by rw [← HX.out]; exact (hsm e).2.2))
            clear hb3 hsm
            go_wp2
            go_roundw
            case rel => exact ⟨i + 1, lb, rfl, by go_num, by omega, HS3, Lib.hid HLL.out.next, HW3⟩
            case measure => simp [intOf]; omega
        · have q5 : decide ((i : Int) < (nm : Int)) = false := by rw [decide_eq_false_iff_not]; omega
          have q5' : decide (i < nm) = false := by rw [decide_eq_false_iff_not]; omega
          have HSE : Hid (SmallL m m.length lb) := Lib.hid (by have h9 := HSI.out; rw [heq, ← HNM.out] at h9; exact h9)
          clear heq HSI
          cases lb with
          | true =>
            go_wp2_with fail
            refine (vlives_any wr (HT.out.below HW.out)).mono ?_
            rintro e u1 ⟨rfl, hb1⟩
            have HBE := Lib.hid (HW.out.trans (hb1.mono HW.out.size))
            clear hb1
            go_wp2
            go_ret
            exact ⟨rfl, HBE.out⟩
          | false =>
            have HFL : Hid (FitV (.mk ⟨#[]⟩ 5 0 ⟨#[]⟩ lA lc l none 0 [])) := Lib.hid (.mk (by have := HNL.out; simp only [List.length_nil]; omega) (fun x hx => HSEL.out (HLL.out rfl) x (by rw [List.take_length]; exact hx)) (fun x hx => by cases hx))
            have HFM : Hid (FitV (.mk ⟨#[]⟩ 6 0 ⟨#[]⟩ none 0 [] mA mc m)) := Lib.hid (.mk (by have := HNM.out; simp only [List.length_nil]; omega) (fun x hx => by cases hx) (fun x hx => HSE.out rfl x (by rw [List.take_length]; exact hx)))
            cases is with
            | true =>
              obtain ⟨W1, hW1⟩ : ∃ W1, W1 = wr := ⟨_, rfl⟩
              have B1 : Hid (Below w.heap.size w W1) := by rw [hW1]; exact HW
              rw [← hW1]
              clear hW1
              have hcc := vlives_any W1 (HT.out.below B1.out)
              have HCC := Lib.hid hcc
              clear hcc
              go_wp2_with fail
              refine HCC.out.mono ?_
              rintro e W2 ⟨rfl, hb⟩
              have B2 := Lib.hid (B1.out.trans (hb.mono B1.out.size))
              clear hb HCC
              have hcc := null_any W2
              have HCC := Lib.hid hcc
              clear hcc
              go_wp2_with fail
              refine HCC.out.mono ?_
              rintro e W3 ⟨v1, rfl, hp, ho, hb⟩
              have B3 := Lib.hid (B2.out.trans (hb.mono B2.out.size))
              have HV1 := Lib.hid (And.intro hp ho.at_)
              unfold MV.val
              clear hp ho hb HCC
              have hcc := exact_yes (b := MV.one 1 0 ⟨#[]⟩) HV1.out.2 (one_at W3 _ rfl rfl) (HV1.out.1.trans rfl)
              rw [show (MV.one 1 0 ⟨#[]⟩).val = .agg #[.int .i64 1, .int .i64 0, .string ⟨#[]⟩, .slice none 0 0, .slice none 0 0] from rfl] at hcc
              unfold MV.val at hcc
              have HCC := Lib.hid hcc
              clear hcc
              go_wp2_with fail
              refine HCC.out.mono ?_
              rintro e W4 ⟨rfl, hb⟩
              have B4 := Lib.hid (B3.out.trans (hb.mono B3.out.size))
              clear hb HCC HV1
              have hcc := bool_any true W4
              have HCC := Lib.hid hcc
              clear hcc
              go_wp2_with fail
              refine HCC.out.mono ?_
              rintro e W5 ⟨v1, rfl, hp, ho, hb⟩
              have B5 := Lib.hid (B4.out.trans (hb.mono B4.out.size))
              have HV1 := Lib.hid (And.intro hp ho.at_)
              unfold MV.val
              clear hp ho hb HCC
              have hcc := exact_yes (b := MV.one 2 1 ⟨#[]⟩) HV1.out.2 (one_at W5 _ rfl rfl) (HV1.out.1.trans rfl)
              rw [show (MV.one 2 1 ⟨#[]⟩).val = .agg #[.int .i64 2, .int .i64 1, .string ⟨#[]⟩, .slice none 0 0, .slice none 0 0] from rfl] at hcc
              unfold MV.val at hcc
              have HCC := Lib.hid hcc
              clear hcc
              go_wp2_with fail
              refine HCC.out.mono ?_
              rintro e W6 ⟨rfl, hb⟩
              have B6 := Lib.hid (B5.out.trans (hb.mono B5.out.size))
              clear hb HCC HV1
              have hcc := int_any n W6 HN.out
              have HCC := Lib.hid hcc
              clear hcc
              go_wp2_with fail
              refine HCC.out.mono ?_
              rintro e W7 ⟨v1, rfl, hp, ho, hb⟩
              have B7 := Lib.hid (B6.out.trans (hb.mono B6.out.size))
              have HV1 := Lib.hid (And.intro hp ho.at_)
              unfold MV.val
              clear hp ho hb HCC
              have hcc := exact_yes (b := MV.one 3 n ⟨#[]⟩) HV1.out.2 (one_at W7 _ rfl HN.out) (HV1.out.1.trans rfl)
              rw [show (MV.one 3 n ⟨#[]⟩).val = .agg #[.int .i64 3, .int .i64 n, .string ⟨#[]⟩, .slice none 0 0, .slice none 0 0] from rfl] at hcc
              unfold MV.val at hcc
              have HCC := Lib.hid hcc
              clear hcc
              go_wp2_with fail
              refine HCC.out.mono ?_
              rintro e W8 ⟨rfl, hb⟩
              have B8 := Lib.hid (B7.out.trans (hb.mono B7.out.size))
              clear hb HCC HV1
              have hcc := text_any s W8
              have HCC := Lib.hid hcc
              clear hcc
              go_wp2_with fail
              refine HCC.out.mono ?_
              rintro e W9 ⟨v1, rfl, hp, ho, hb⟩
              have B9 := Lib.hid (B8.out.trans (hb.mono B8.out.size))
              have HV1 := Lib.hid (And.intro hp ho.at_)
              unfold MV.val
              clear hp ho hb HCC
              have hcc := exact_yes (b := MV.one 4 0 s) HV1.out.2 (one_at W9 _ rfl rfl) (HV1.out.1.trans rfl)
              rw [show (MV.one 4 0 s).val = .agg #[.int .i64 4, .int .i64 0, .string s, .slice none 0 0, .slice none 0 0] from rfl] at hcc
              unfold MV.val at hcc
              have HCC := Lib.hid hcc
              clear hcc
              go_wp2_with fail
              refine HCC.out.mono ?_
              rintro e W10 ⟨rfl, hb⟩
              have B10 := Lib.hid (B9.out.trans (hb.mono B9.out.size))
              clear hb HCC HV1
              have hcc := list_any (HVA.out.bel B10.out) HFL.out
              rw [HNL.out] at hcc
              have HCC := Lib.hid hcc
              clear hcc
              go_wp2_with fail
              refine HCC.out.mono ?_
              rintro e W11 ⟨v1, rfl, hp, ho, hb⟩
              have B11 := Lib.hid (B10.out.trans (hb.mono B10.out.size))
              have HV1 := Lib.hid (And.intro hp ho.at_)
              unfold MV.val
              clear hp ho hb HCC
              have hcc := exact_yes (b := MV.mk ⟨#[]⟩ 5 0 ⟨#[]⟩ lA lc l none 0 []) HV1.out.2 (HVA.out.bel B11.out) (HV1.out.1.trans (by rw [MV.pv]; rfl))
              rw [show (MV.mk ⟨#[]⟩ 5 0 ⟨#[]⟩ lA lc l none 0 []).val = .agg #[.int .i64 5, .int .i64 0, .string ⟨#[]⟩, .slice lA l.length lc, .slice none 0 0] from rfl] at hcc
              rw [HNL.out] at hcc
              unfold MV.val at hcc
              have HCC := Lib.hid hcc
              clear hcc
              go_wp2_with fail
              refine HCC.out.mono ?_
              rintro e W12 ⟨rfl, hb⟩
              have B12 := Lib.hid (B11.out.trans (hb.mono B11.out.size))
              clear hb HCC HV1
              have hcc := map_any (HVB.out.bel B12.out) HFM.out
              rw [HNM.out] at hcc
              have HCC := Lib.hid hcc
              clear hcc
              go_wp2_with fail
              refine HCC.out.mono ?_
              rintro e W13 ⟨v1, rfl, hp, ho, hb⟩
              have B13 := Lib.hid (B12.out.trans (hb.mono B12.out.size))
              have HV1 := Lib.hid (And.intro hp ho.at_)
              unfold MV.val
              clear hp ho hb HCC
              have hcc := exact_yes (b := MV.mk ⟨#[]⟩ 6 0 ⟨#[]⟩ none 0 [] mA mc m) HV1.out.2 (HVB.out.bel B13.out) (HV1.out.1.trans (by rw [MV.pv]; rfl))
              rw [show (MV.mk ⟨#[]⟩ 6 0 ⟨#[]⟩ none 0 [] mA mc m).val = .agg #[.int .i64 6, .int .i64 0, .string ⟨#[]⟩, .slice none 0 0, .slice mA m.length mc] from rfl] at hcc
              rw [HNM.out] at hcc
              unfold MV.val at hcc
              have HCC := Lib.hid hcc
              clear hcc
              go_wp2_with fail
              refine HCC.out.mono ?_
              rintro e W14 ⟨rfl, hb⟩
              have B14 := Lib.hid (B13.out.trans (hb.mono B13.out.size))
              clear hb HCC HV1
              go_wp2
              go_ret
              exact ⟨rfl, B14.out⟩
            | false =>
              obtain ⟨W1, hW1⟩ : ∃ W1, W1 = wr := ⟨_, rfl⟩
              have B1 : Hid (Below w.heap.size w W1) := by rw [hW1]; exact HW
              rw [← hW1]
              clear hW1
              have hcc := vlives_any W1 (HT.out.below B1.out)
              have HCC := Lib.hid hcc
              clear hcc
              go_wp2_with fail
              refine HCC.out.mono ?_
              rintro e W2 ⟨rfl, hb⟩
              have B2 := Lib.hid (B1.out.trans (hb.mono B1.out.size))
              clear hb HCC
              have hcc := null_any W2
              have HCC := Lib.hid hcc
              clear hcc
              go_wp2_with fail
              refine HCC.out.mono ?_
              rintro e W3 ⟨v1, rfl, hp, ho, hb⟩
              have B3 := Lib.hid (B2.out.trans (hb.mono B2.out.size))
              have HV1 := Lib.hid (And.intro hp ho.at_)
              unfold MV.val
              clear hp ho hb HCC
              have hcc := exact_yes (b := MV.one 1 0 ⟨#[]⟩) HV1.out.2 (one_at W3 _ rfl rfl) (HV1.out.1.trans rfl)
              rw [show (MV.one 1 0 ⟨#[]⟩).val = .agg #[.int .i64 1, .int .i64 0, .string ⟨#[]⟩, .slice none 0 0, .slice none 0 0] from rfl] at hcc
              unfold MV.val at hcc
              have HCC := Lib.hid hcc
              clear hcc
              go_wp2_with fail
              refine HCC.out.mono ?_
              rintro e W4 ⟨rfl, hb⟩
              have B4 := Lib.hid (B3.out.trans (hb.mono B3.out.size))
              clear hb HCC HV1
              have hcc := bool_any false W4
              have HCC := Lib.hid hcc
              clear hcc
              go_wp2_with fail
              refine HCC.out.mono ?_
              rintro e W5 ⟨v1, rfl, hp, ho, hb⟩
              have B5 := Lib.hid (B4.out.trans (hb.mono B4.out.size))
              have HV1 := Lib.hid (And.intro hp ho.at_)
              unfold MV.val
              clear hp ho hb HCC
              have hcc := exact_yes (b := MV.one 2 0 ⟨#[]⟩) HV1.out.2 (one_at W5 _ rfl rfl) (HV1.out.1.trans rfl)
              rw [show (MV.one 2 0 ⟨#[]⟩).val = .agg #[.int .i64 2, .int .i64 0, .string ⟨#[]⟩, .slice none 0 0, .slice none 0 0] from rfl] at hcc
              unfold MV.val at hcc
              have HCC := Lib.hid hcc
              clear hcc
              go_wp2_with fail
              refine HCC.out.mono ?_
              rintro e W6 ⟨rfl, hb⟩
              have B6 := Lib.hid (B5.out.trans (hb.mono B5.out.size))
              clear hb HCC HV1
              have hcc := int_any n W6 HN.out
              have HCC := Lib.hid hcc
              clear hcc
              go_wp2_with fail
              refine HCC.out.mono ?_
              rintro e W7 ⟨v1, rfl, hp, ho, hb⟩
              have B7 := Lib.hid (B6.out.trans (hb.mono B6.out.size))
              have HV1 := Lib.hid (And.intro hp ho.at_)
              unfold MV.val
              clear hp ho hb HCC
              have hcc := exact_yes (b := MV.one 3 n ⟨#[]⟩) HV1.out.2 (one_at W7 _ rfl HN.out) (HV1.out.1.trans rfl)
              rw [show (MV.one 3 n ⟨#[]⟩).val = .agg #[.int .i64 3, .int .i64 n, .string ⟨#[]⟩, .slice none 0 0, .slice none 0 0] from rfl] at hcc
              unfold MV.val at hcc
              have HCC := Lib.hid hcc
              clear hcc
              go_wp2_with fail
              refine HCC.out.mono ?_
              rintro e W8 ⟨rfl, hb⟩
              have B8 := Lib.hid (B7.out.trans (hb.mono B7.out.size))
              clear hb HCC HV1
              have hcc := text_any s W8
              have HCC := Lib.hid hcc
              clear hcc
              go_wp2_with fail
              refine HCC.out.mono ?_
              rintro e W9 ⟨v1, rfl, hp, ho, hb⟩
              have B9 := Lib.hid (B8.out.trans (hb.mono B8.out.size))
              have HV1 := Lib.hid (And.intro hp ho.at_)
              unfold MV.val
              clear hp ho hb HCC
              have hcc := exact_yes (b := MV.one 4 0 s) HV1.out.2 (one_at W9 _ rfl rfl) (HV1.out.1.trans rfl)
              rw [show (MV.one 4 0 s).val = .agg #[.int .i64 4, .int .i64 0, .string s, .slice none 0 0, .slice none 0 0] from rfl] at hcc
              unfold MV.val at hcc
              have HCC := Lib.hid hcc
              clear hcc
              go_wp2_with fail
              refine HCC.out.mono ?_
              rintro e W10 ⟨rfl, hb⟩
              have B10 := Lib.hid (B9.out.trans (hb.mono B9.out.size))
              clear hb HCC HV1
              have hcc := list_any (HVA.out.bel B10.out) HFL.out
              rw [HNL.out] at hcc
              have HCC := Lib.hid hcc
              clear hcc
              go_wp2_with fail
              refine HCC.out.mono ?_
              rintro e W11 ⟨v1, rfl, hp, ho, hb⟩
              have B11 := Lib.hid (B10.out.trans (hb.mono B10.out.size))
              have HV1 := Lib.hid (And.intro hp ho.at_)
              unfold MV.val
              clear hp ho hb HCC
              have hcc := exact_yes (b := MV.mk ⟨#[]⟩ 5 0 ⟨#[]⟩ lA lc l none 0 []) HV1.out.2 (HVA.out.bel B11.out) (HV1.out.1.trans (by rw [MV.pv]; rfl))
              rw [show (MV.mk ⟨#[]⟩ 5 0 ⟨#[]⟩ lA lc l none 0 []).val = .agg #[.int .i64 5, .int .i64 0, .string ⟨#[]⟩, .slice lA l.length lc, .slice none 0 0] from rfl] at hcc
              rw [HNL.out] at hcc
              unfold MV.val at hcc
              have HCC := Lib.hid hcc
              clear hcc
              go_wp2_with fail
              refine HCC.out.mono ?_
              rintro e W12 ⟨rfl, hb⟩
              have B12 := Lib.hid (B11.out.trans (hb.mono B11.out.size))
              clear hb HCC HV1
              have hcc := map_any (HVB.out.bel B12.out) HFM.out
              rw [HNM.out] at hcc
              have HCC := Lib.hid hcc
              clear hcc
              go_wp2_with fail
              refine HCC.out.mono ?_
              rintro e W13 ⟨v1, rfl, hp, ho, hb⟩
              have B13 := Lib.hid (B12.out.trans (hb.mono B12.out.size))
              have HV1 := Lib.hid (And.intro hp ho.at_)
              unfold MV.val
              clear hp ho hb HCC
              have hcc := exact_yes (b := MV.mk ⟨#[]⟩ 6 0 ⟨#[]⟩ none 0 [] mA mc m) HV1.out.2 (HVB.out.bel B13.out) (HV1.out.1.trans (by rw [MV.pv]; rfl))
              rw [show (MV.mk ⟨#[]⟩ 6 0 ⟨#[]⟩ none 0 [] mA mc m).val = .agg #[.int .i64 6, .int .i64 0, .string ⟨#[]⟩, .slice none 0 0, .slice mA m.length mc] from rfl] at hcc
              rw [HNM.out] at hcc
              unfold MV.val at hcc
              have HCC := Lib.hid hcc
              clear hcc
              go_wp2_with fail
              refine HCC.out.mono ?_
              rintro e W14 ⟨rfl, hb⟩
              have B14 := Lib.hid (B13.out.trans (hb.mono B13.out.size))
              clear hb HCC HV1
              go_wp2
              go_ret
              exact ⟨rfl, B14.out⟩
end Go.Proofs.YteodigdcdhceiaaDoor
