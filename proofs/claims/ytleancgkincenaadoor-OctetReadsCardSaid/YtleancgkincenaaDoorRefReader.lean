/-
  pursuivantref01.Reader's methods: what they return, and what the reader is behind them.
-/
import Derived.Test.YtleancgkincenaaDoorBePlain
import Derived.Test.YtleancgkincenaaDoorOctUnhexesW
import Derived.Deep.RegionHeld
namespace Go.Proofs.YtleancgkincenaaDoor
open Go.RowKit
set_option linter.unusedVariables false

/-- The reference's reader: the bytes that are left; is it bad? -/
def RX (w : World) (r : Nat) (l : List UInt8) (bad : Bool) : Prop :=
  ∃ A c, Blk w r 59 #[.slice A l.length c, .bool bad] ∧ RB w A l ∧ l.length ≤ c ∧ c ≤ maxLen ∧ l.length ≤ 70368744177664 ∧ (bad = true → l = []) ∧ ∀ ad, A = some ad → ∃ cs, Blk w ad.block 5 cs
theorem RX.fr {S : Nat → Prop} {w w' : World} {r : Nat} {l : List UInt8} {bad : Bool} (h : RX w r l bad) (hf : Fr S w w') (hr : ¬ S r) (hS : ∀ k cs, S k → ¬ Blk w k 5 cs) : RX w' r l bad := by
  obtain ⟨A, c, hb, hR, hc, hm, hln, hbad, hA⟩ := h
  have hA' : ∀ ad, A = some ad → ¬ S ad.block := fun ad e hs => by
    obtain ⟨cs, hcs⟩ := hA ad e
    exact hS _ cs hs hcs
  exact ⟨A, c, hb.fr hf hr, hR.fr hf hA', hc, hm, hln, hbad, fun ad e => by
    obtain ⟨cs, hcs⟩ := hA ad e
    exact ⟨cs, hcs.fr hf (hA' ad e)⟩⟩
theorem RX.below {w w' : World} {r : Nat} {l : List UInt8} {bad : Bool} (h : RX w r l bad) (hb : Below w.heap.size w w') : RX w' r l bad :=
  h.fr (S := fun _ => False) (Fr.of_below hb) (fun x => x) (fun _ _ x => x.elim)
theorem RX.parts {w : World} {r : Nat} {l : List UInt8} {bad : Bool} (h : RX w r l bad) :
    ∃ A c, w.cell? ⟨r, 0, none⟩ = some (.slice A l.length c) ∧ w.cell? ⟨r, 1, none⟩ = some (.bool bad) ∧ w.frozen? ⟨r, 0, none⟩ = false ∧ w.frozen? ⟨r, 1, none⟩ = false := by
  obtain ⟨A, c, hb, _⟩ := h
  exact ⟨A, c, hb.cell 0, hb.cell 1, hb.frozen 0, hb.frozen 1⟩
theorem RX.len {w : World} {r : Nat} {l : List UInt8} {bad : Bool} (h : RX w r l bad) : l.length ≤ 70368744177664 := by
  obtain ⟨A, c, hb, hR, hc, hm, hln, hbad, hA⟩ := h
  exact hln
theorem RX.spoiled {w : World} {r : Nat} {l : List UInt8} {bad : Bool} (h : RX w r l bad) : RX ((w.setCell ⟨r, 1, none⟩ (.bool true)).setCell ⟨r, 0, none⟩ (.slice none 0 0)) r [] true := by
  obtain ⟨A, c, hb, hR, hc, hm, hln, hbad, hA⟩ := h
  exact ⟨none, 0, (hb.set_ 1 _).set_ 0 _, RB.nil _, by simp, by simp [maxLen], by simp, by simp, by simp⟩

theorem RX.advance {w : World} {r : Nat} {l : List UInt8} {n c : Nat} {A : Option Addr} {bad : Bool} (hb : Blk w r 59 #[.slice A l.length c, .bool bad]) (hR : RB w A l) (hc : l.length ≤ c) (hm : c ≤ maxLen) (hln : l.length ≤ 70368744177664)
    (hA : ∀ ad, A = some ad → ∃ cs, Blk w ad.block 5 cs) (hn : n ≤ l.length) (hbad : bad = true → l = []) :
    (c = n → RX (w.setCell ⟨r, 0, none⟩ (.slice A (l.length - n) 0)) r (l.drop n) bad) ∧
    (¬ c = n → RX (w.setCell ⟨r, 0, none⟩ (.slice (A.map fun x => x.add n) (l.length - n) (c - n))) r (l.drop n) bad) := by
  have hne : ∀ ad, A = some ad → ad.block ≠ r := fun ad e => by
    obtain ⟨cs, hcs⟩ := hA ad e
    exact hcs.ne_ hb (by decide)
  have hcut := hR.cut (cap := c) hn hc
  have hF : ∀ u, Fr (· = r) w (w.setCell ⟨r, 0, none⟩ u) := fun u => (Fr.refl _ _).setCell (by simp) u
  constructor
  · intro e
    rw [if_pos e] at hcut
    have hl0 : l.length - n = 0 := by omega
    refine ⟨A, 0, ?_, hcut.fr (hF _) hne, by rw [List.length_drop]; omega, by simp [maxLen], by rw [List.length_drop]; omega, fun hb2 => by rw [hbad hb2]; simp, fun ad e' => ?_⟩
    · have := hb.set_ 0 (.slice A (l.length - n) 0)
      rw [List.length_drop]
      exact this
    · obtain ⟨cs, hcs⟩ := hA ad e'
      exact ⟨cs, hcs.fr (hF _) (hne ad e')⟩
  · intro e
    rw [if_neg e] at hcut
    refine ⟨A.map fun x => x.add n, c - n, ?_, hcut.fr (hF _) ?_, by rw [List.length_drop]; omega, by omega, by rw [List.length_drop]; omega, fun hb2 => by rw [hbad hb2]; simp, fun ad e' => ?_⟩
    · have := hb.set_ 0 (.slice (A.map fun x => x.add n) (l.length - n) (c - n))
      rw [List.length_drop]
      exact this
    · intro ad e'
      cases A with
      | none => cases e'
      | some a0 => cases e'; rw [block_of_add]; exact hne a0 rfl
    · cases A with
      | none => cases e'
      | some a0 =>
        cases e'
        obtain ⟨cs, hcs⟩ := hA a0 rfl
        rw [block_of_add]
        exact ⟨cs, hcs.fr (hF _) (hne a0 rfl)⟩

set_option maxHeartbeats 400000 in
theorem xspoil_any (w : World) (r : Nat) (l : List UInt8) (bad : Bool) (h : RX w r l bad) : Calls Tryd.prog 67 #[.pointer (some ⟨r, 0, none⟩)] w fun e w' => e = .returned (.tuple #[]) ∧ RX w' r [] true ∧ Fr (· = r) w w' := by
  have hs := h.spoiled
  obtain ⟨A, c, h0, h1, h2, h3⟩ := h.parts
  go_enter Tryd.func67, Tryd.ntmps67
  go_wp2
  go_end0
  exact ⟨rfl, hs, ((Fr.refl _ _).setCell (by simp) _).setCell (by simp) _⟩

set_option maxRecDepth 100000 in
set_option maxHeartbeats 400000 in
theorem xbytes_no (w : World) (r : Nat) (l : List UInt8) (bad : Bool) (n : Int) (h : RX w r l bad) (hn : n < 0 ∨ (l.length : Int) < n) :
    Calls Tryd.prog 65 #[.pointer (some ⟨r, 0, none⟩), .int .i64 n] w fun e w' => e = .returned (.slice none 0 0) ∧ RX w' r [] true ∧ Fr (· = r) w w' := by
  have hln := h.len
  obtain ⟨A, c, h0, h1, h2, h3⟩ := h.parts
  rcases (by omega : n < 0 ∨ 0 ≤ n) with h1 | h1
  · have d1 : decide (n < 0) = true := by rw [decide_eq_true_iff]; omega
    go_enter Tryd.func65, Tryd.ntmps65
    go_wp2_with (go_at_call 67; refine (xspoil_any _ r l bad h).mono ?_; rintro e w' ⟨rfl, hsp, hfr⟩)
    go_ret
    exact ⟨rfl, hsp, hfr⟩
  · have d1 : decide (n < 0) = false := by rw [decide_eq_false_iff_not]; omega
    have d2 : decide ((l.length : Int) < n) = true := by rw [decide_eq_true_iff]; omega
    go_enter Tryd.func65, Tryd.ntmps65
    go_wp2_with (go_at_call 67; refine (xspoil_any _ r l bad h).mono ?_; rintro e w' ⟨rfl, hsp, hfr⟩)
    go_ret
    exact ⟨rfl, hsp, hfr⟩

set_option maxRecDepth 100000 in
set_option maxHeartbeats 400000 in
theorem xbytes_ok (w : World) (r : Nat) (l : List UInt8) (bad : Bool) (n : Nat) (h : RX w r l bad) (hn : n ≤ l.length) :
    Calls Tryd.prog 65 #[.pointer (some ⟨r, 0, none⟩), .int .i64 n] w fun e w' => ∃ v, e = .returned v ∧ OB w' w.heap.size v (l.take n) ∧ RX w' r (l.drop n) bad ∧ Fr (· = r) w w' := by
  have hln := h.len
  have hd0 : decide ((n : Int) < 0) = false := by simp
  have hd1 : decide (l.length < n) = false := by rw [decide_eq_false_iff_not]; omega
  obtain ⟨A, c, hb, hR, hc, hm, _, hbad, hA⟩ := h
  have h0 := hb.cell 0
  have h1 := hb.cell 1
  have h2 := hb.frozen 0
  have h3 := hb.frozen 1
  have HT : Hid ((l.take n).length = n) := by show _ = _; rw [List.length_take]; omega
  have HR := Lib.hid (hR.take hn)
  have hrlt := hb.lt
  have HB := Lib.hid hb
  have HA := Lib.hid hA
  have HR0 := Lib.hid hR
  have HM := Lib.hid hm
  have HBAD := Lib.hid hbad
  clear hb hbad hA hR
  unfold maxLen at hm
  go_enter Tryd.func65, Tryd.ntmps65
  go_wp2_with (at_builtin; refine app_bytes _ rfl _ _ rfl w.heap.size _ [] rfl (emptyOB w w.heap.size (Nat.le_refl _)) A n c (l.take n) rfl HT.out (HR.out.alloc _) (by simp; omega) (by simp) ?_; intro v1 w1 ho1 hg1 hat1; have hb1 : Below w.heap.size w w1 := ((Below.refl _ _).alloc (Nat.le_refl _) _).grown hg1 (by simp) (by intro j hj; cases hj; exact Nat.le_refl _); have ho1' : OB w1 w.heap.size v1 (l.take n) := ho1; obtain ⟨A3, c3, rfl, hh1, hh2, hk3⟩ := ho1'.kb_n HT.out; have k0 : w1.cell? ⟨r, 0, none⟩ = some (.slice A l.length c) := (hb1.cell (p := ⟨r, 0, none⟩) hrlt).trans h0; have k2 : w1.frozen? ⟨r, 0, none⟩ = false := (hb1.frozen (p := ⟨r, 0, none⟩) hrlt).trans h2; have HV := Lib.hid ho1'; clear ho1 ho1' hg1 hat1 hk3)
  all_goals
    have HAD := Lib.hid (RX.advance (n := n) (HB.out.below hb1 hrlt) (HR0.out.below hb1) hc HM.out hln (fun ad e => by obtain ⟨cs, hcs⟩ := HA.out ad e; exact ⟨cs, hcs.below hb1 hcs.lt⟩) hn HBAD.out)
    go_ret
  · have hcn : c = n := by assumption
    exact ⟨_, rfl, HV.out.below_set hrlt _ _, HAD.out.1 hcn, (Fr.of_below hb1).setCell (by simp) _⟩
  · have hcn : ¬ c = n := by assumption
    exact ⟨_, rfl, HV.out.below_set hrlt _ _, HAD.out.2 hcn, (Fr.of_below hb1).setCell (by simp) _⟩


set_option maxRecDepth 100000 in
set_option maxHeartbeats 400000 in
theorem xint_no (w : World) (r : Nat) (l : List UInt8) (bad : Bool) (n : Int) (h : RX w r l bad) (hn : n < 1 ∨ 8 < n ∨ (l.length : Int) < n) :
    Calls Tryd.prog 64 #[.pointer (some ⟨r, 0, none⟩), .int .i64 n] w fun e w' => e = .returned (.int .i64 0) ∧ RX w' r [] true ∧ Fr (· = r) w w' := by
  have hln := h.len
  obtain ⟨A, c, h0, h1, h2, h3⟩ := h.parts
  rcases (by omega : n < 1 ∨ 1 ≤ n) with h1 | h1
  · have d1 : decide (n < 1) = true := by rw [decide_eq_true_iff]; omega
    go_enter Tryd.func64, Tryd.ntmps64
    go_wp2_with (go_at_call 67; refine (xspoil_any _ r l bad h).mono ?_; rintro e w' ⟨rfl, hsp, hfr⟩)
    go_ret
    exact ⟨rfl, hsp, hfr⟩
  · have d1 : decide (n < 1) = false := by rw [decide_eq_false_iff_not]; omega
    rcases (by omega : 8 < n ∨ n ≤ 8) with h2 | h2
    · have d2 : decide (8 < n) = true := by rw [decide_eq_true_iff]; omega
      go_enter Tryd.func64, Tryd.ntmps64
      go_wp2_with (go_at_call 67; refine (xspoil_any _ r l bad h).mono ?_; rintro e w' ⟨rfl, hsp, hfr⟩)
      go_ret
      exact ⟨rfl, hsp, hfr⟩
    · have d2 : decide (8 < n) = false := by rw [decide_eq_false_iff_not]; omega
      have h3 : (l.length : Int) < n := by omega
      have d3 : decide ((l.length : Int) < n) = true := by rw [decide_eq_true_iff]; omega
      go_enter Tryd.func64, Tryd.ntmps64
      go_wp2_with (go_at_call 67; refine (xspoil_any _ r l bad h).mono ?_; rintro e w' ⟨rfl, hsp, hfr⟩)
      go_ret
      exact ⟨rfl, hsp, hfr⟩
set_option maxRecDepth 100000 in
set_option maxHeartbeats 400000 in
theorem xint_ok (w : World) (r : Nat) (l : List UInt8) (bad : Bool) (n : Nat) (h : RX w r l bad) (h1 : 1 ≤ n) (h8 : n < 8) (hnl : n ≤ l.length) :
    Calls Tryd.prog 64 #[.pointer (some ⟨r, 0, none⟩), .int .i64 n] w fun e w' => e = .returned (.int .i64 (beVal (l.take n))) ∧ RX w' r (l.drop n) bad ∧ Fr (· = r) w w' := by
  have hln := h.len
  obtain ⟨A, c, hb, hR, hc, hm, _, hbad, hA⟩ := h
  have h0 := hb.cell 0
  have h2 := hb.frozen 0
  have d1 : decide ((n : Int) < 1) = false := by rw [decide_eq_false_iff_not]; omega
  have d2 : decide (8 < (n : Int)) = false := by rw [decide_eq_false_iff_not]; omega
  have d3 : decide (l.length < n) = false := by rw [decide_eq_false_iff_not]; omega
  have d4 : ((n : Int) == 8) = false := by rw [beq_eq_false_iff_ne]; omega
  have HTL : Hid ((l.take n).length = n) := by show _ = _; rw [List.length_take]; omega
  have HAD := Lib.hid (RX.advance (n := n) hb hR hc hm hln hA hnl hbad)
  have HR := Lib.hid hR
  unfold maxLen at hm
  clear hb hR hbad hA
  go_enter Tryd.func64, Tryd.ntmps64
  go_wp2
  go_loopw [5, 6] (fun v i wr => ∃ k : Nat, k ≤ n ∧ i = .int .i64 k ∧ v = .int .i64 (beVal ((l.take n).take k)) ∧ wr = w) (fun _ i _ => n - (intOf i).toNat)
  case atStart => exact ⟨0, Nat.zero_le _, rfl, rfl, rfl⟩
  case round =>
    obtain ⟨k, hk, rfl, rfl, rfl⟩ := hrel
    by_cases hlt : k < n
    · have hkl : k < (l.take n).length := by rw [HTL.out]; exact hlt
      have hkll : k < l.length := by omega
      obtain ⟨ad, rfl, _, hc1⟩ := HR.out.at_ (k := k) hkll
      have hxe : (l.take n)[k] = l[k] := List.getElem_take
      have hvb2 := beVal_take_lt (l.take n) k (by omega)
      have hx := l[k].toNat_lt
      have HS := Lib.hid ((beVal_take (l.take n) k hkl).symm.trans rfl)
      rw [hxe] at HS
      clear hxe
      generalize beVal ((l.take n).take k) = v at *
      generalize l[k] = x at *
      go_wp2
      go_roundw
      case rel => exact ⟨k + 1, by omega, by go_num, by rw [← HS.out]; exact congrArg (Value.int .i64) (by omega), by first | rfl | trivial⟩
      case measure => simp [intOf]; omega
    · have hkn : k = n := by omega
      have HK := Lib.hid hkn
      clear hkn
      go_wp2
      · have hcn : c = n := by assumption
        go_ret
        refine ⟨ret_int ?_, HAD.out.1 hcn, (Fr.refl _ _).setCell (by simp) _⟩
        rw [HK.out, List.take_of_length_le (by rw [HTL.out]; exact Nat.le_refl _)]
      · have hcn : ¬ c = n := by assumption
        go_ret
        refine ⟨ret_int ?_, HAD.out.2 hcn, (Fr.refl _ _).setCell (by simp) _⟩
        rw [HK.out, List.take_of_length_le (by rw [HTL.out]; exact Nat.le_refl _)]

set_option maxRecDepth 100000 in
set_option maxHeartbeats 400000 in
theorem xint8_ok (w : World) (r : Nat) (c0 : UInt8) (l : List UInt8) (bad : Bool) (h : RX w r (c0 :: l) bad) (hnl0 : 7 ≤ l.length) (hc0 : c0.toNat ≤ 127) :
    Calls Tryd.prog 64 #[.pointer (some ⟨r, 0, none⟩), .int .i64 8] w fun e w' => e = .returned (.int .i64 (beVal ((c0 :: l).take 8))) ∧ RX w' r ((c0 :: l).drop 8) bad ∧ Fr (· = r) w w' := by
  have hln := h.len
  obtain ⟨A, c, hb, hR, hc, hm, _, hbad, hA⟩ := h
  have h0 := hb.cell 0
  have h2 := hb.frozen 0
  obtain ⟨ad, rfl, _, hcell⟩ := hR.at_ (k := 0) (by simp)
  have d3 : decide (((c0 :: l).length : Int) < 8) = false := by rw [decide_eq_false_iff_not]; simp; omega
  have d4 : decide (127 < (c0.toNat : Int)) = false := by rw [decide_eq_false_iff_not]; omega
  rw [addr_add_zero] at hcell
  simp only [List.getElem_cons_zero] at hcell
  have HTL : Hid (((c0 :: l).take 8).length = 8) := by show _ = _; rw [List.length_take, List.length_cons]; omega
  have HB8 := Lib.hid (beVal_take_lt8 c0 (l.take 7) hc0)
  rw [show c0 :: l.take 7 = (c0 :: l).take 8 from rfl] at HB8
  have hnl : 8 ≤ (c0 :: l).length := by simp; omega
  have hpos : 0 < (c0 :: l).length := by simp
  generalize c0 :: l = L at *
  have HAD := Lib.hid (RX.advance (n := 8) hb hR hc hm hln hA hnl hbad)
  have HR := Lib.hid hR
  unfold maxLen at hm
  clear hb hR hbad hA
  go_enter Tryd.func64, Tryd.ntmps64
  go_wp2
  go_loopw [5, 6] (fun v i wr => ∃ k : Nat, k ≤ 8 ∧ i = .int .i64 k ∧ v = .int .i64 (beVal ((L.take 8).take k)) ∧ wr = w) (fun _ i _ => 8 - (intOf i).toNat)
  case atStart => exact ⟨0, Nat.zero_le _, rfl, rfl, rfl⟩
  case round =>
    obtain ⟨k, hk, rfl, rfl, rfl⟩ := hrel
    by_cases hlt : k < 8
    · have hkl : k < (L.take 8).length := by rw [HTL.out]; exact hlt
      have hkll : k < L.length := by omega
      obtain ⟨ad', e', _, hc1⟩ := HR.out.at_ (k := k) hkll
      cases e'
      have hxe : (L.take 8)[k] = L[k] := List.getElem_take
      have hvb2 := HB8.out k (by omega)
      have hx := L[k].toNat_lt
      have HS := Lib.hid ((beVal_take (L.take 8) k hkl).symm.trans rfl)
      rw [hxe] at HS
      clear hxe
      generalize beVal ((L.take 8).take k) = v at *
      generalize L[k] = x at *
      go_wp2
      go_roundw
      case rel => exact ⟨k + 1, by omega, by go_num, by rw [← HS.out]; exact congrArg (Value.int .i64) (by omega), by first | rfl | trivial⟩
      case measure => simp [intOf]; omega
    · have hkn : k = 8 := by omega
      have HK := Lib.hid hkn
      clear hkn
      go_wp2
      · have hcn : c = 8 := by assumption
        go_ret
        refine ⟨ret_int ?_, HAD.out.1 hcn, (Fr.refl _ _).setCell (by simp) _⟩
        rw [HK.out, List.take_of_length_le (by rw [HTL.out]; exact Nat.le_refl _)]
      · have hcn : ¬ c = 8 := by assumption
        go_ret
        refine ⟨ret_int ?_, HAD.out.2 hcn, (Fr.refl _ _).setCell (by simp) _⟩
        rw [HK.out, List.take_of_length_le (by rw [HTL.out]; exact Nat.le_refl _)]


set_option maxRecDepth 100000 in
set_option maxHeartbeats 400000 in
theorem xint_big (w : World) (r : Nat) (c0 : UInt8) (l : List UInt8) (bad : Bool) (h : RX w r (c0 :: l) bad) (hn : 7 ≤ l.length) (hc : 127 < c0.toNat) :
    Calls Tryd.prog 64 #[.pointer (some ⟨r, 0, none⟩), .int .i64 8] w fun e w' => e = .returned (.int .i64 0) ∧ RX w' r [] true ∧ Fr (· = r) w w' := by
  have hln := h.len
  have H := Lib.hid h
  obtain ⟨A, cp, hb, hR, hcc, hm, _, hbad, hA⟩ := h
  have h0 := hb.cell 0
  obtain ⟨ad, rfl, _, hcell⟩ := hR.at_ (k := 0) (by simp)
  have hlc : (c0 :: l).length = l.length + 1 := rfl
  rw [hlc] at h0 hln
  have d3 : decide ((l.length : Int) + 1 < 8) = false := by rw [decide_eq_false_iff_not]; omega
  have d4 : decide (127 < (c0.toNat : Int)) = true := by rw [decide_eq_true_iff]; omega
  clear hb hR hA hbad hlc
  rw [addr_add_zero] at hcell
  simp only [List.getElem_cons_zero] at hcell
  go_enter Tryd.func64, Tryd.ntmps64
  go_wp2_with (go_at_call 67; refine (xspoil_any _ r (c0 :: l) bad H.out).mono ?_; rintro e w' ⟨rfl, hsp, hfr⟩)
  go_ret
  exact ⟨rfl, hsp, hfr⟩

theorem xint4_ok (w : World) (r : Nat) (l : List UInt8) (bad : Bool) (h : RX w r l bad) (hnl : 4 ≤ l.length) :
    Calls Tryd.prog 64 #[.pointer (some ⟨r, 0, none⟩), .int .i64 4] w fun e w' => e = .returned (.int .i64 (beVal (l.take 4))) ∧ RX w' r (l.drop 4) bad ∧ Fr (· = r) w w' :=
  xint_ok w r l bad 4 h (by omega) (by omega) hnl
theorem xint4_no (w : World) (r : Nat) (l : List UInt8) (bad : Bool) (h : RX w r l bad) (hnl : l.length < 4) :
    Calls Tryd.prog 64 #[.pointer (some ⟨r, 0, none⟩), .int .i64 4] w fun e w' => e = .returned (.int .i64 0) ∧ RX w' r [] true ∧ Fr (· = r) w w' :=
  xint_no w r l bad 4 h (by omega)

set_option maxRecDepth 100000 in
set_option maxHeartbeats 400000 in
theorem xtext_no (w : World) (r : Nat) (l : List UInt8) (bad : Bool) (most : Int) (h : RX w r l bad) (hnl : l.length < 4) :
    Calls Tryd.prog 66 #[.pointer (some ⟨r, 0, none⟩), .int .i64 most] w fun e w' => e = .returned (.string ⟨#[]⟩) ∧ RX w' r [] true ∧ Fr (· = r) w w' := by
  go_enter Tryd.func66, Tryd.ntmps66
  go_wp2_with fail
  refine (xint4_no _ r l bad h hnl).mono ?_
  rintro e w1 ⟨rfl, h1, hf1⟩
  obtain ⟨A, c, q0, q1, q2, q3⟩ := h1.parts
  go_wp2_with fail
  refine (xspoil_any _ r [] true h1).mono ?_
  rintro e w2 ⟨rfl, h2, hf2⟩
  clear q0 q1 q2 q3
  go_wp2
  go_ret
  exact ⟨rfl, h2, hf1.trans hf2⟩
set_option maxRecDepth 100000 in
set_option maxHeartbeats 400000 in
theorem xtext_long (w : World) (r : Nat) (l : List UInt8) (most : Int) (h : RX w r l false) (hnl : 4 ≤ l.length) (hm : most < beVal (l.take 4)) :
    Calls Tryd.prog 66 #[.pointer (some ⟨r, 0, none⟩), .int .i64 most] w fun e w' => e = .returned (.string ⟨#[]⟩) ∧ RX w' r [] true ∧ Fr (· = r) w w' := by
  have d1 : decide (most < (beVal (l.take 4) : Int)) = true := by rw [decide_eq_true_iff]; exact hm
  go_enter Tryd.func66, Tryd.ntmps66
  go_wp2_with fail
  refine (xint4_ok _ r l false h hnl).mono ?_
  rintro e w1 ⟨rfl, h1, hf1⟩
  obtain ⟨A, c, q0, q1, q2, q3⟩ := h1.parts
  go_wp2_with fail
  refine (xspoil_any _ r _ false h1).mono ?_
  rintro e w2 ⟨rfl, h2, hf2⟩
  clear q0 q1 q2 q3
  go_wp2
  go_ret
  exact ⟨rfl, h2, hf1.trans hf2⟩
set_option maxRecDepth 100000 in
set_option maxHeartbeats 400000 in
theorem xtext_short (w : World) (r : Nat) (l : List UInt8) (most : Int) (h : RX w r l false) (hnl : 4 ≤ l.length) (hm : (beVal (l.take 4) : Int) ≤ most) (hs : l.length - 4 < beVal (l.take 4)) :
    Calls Tryd.prog 66 #[.pointer (some ⟨r, 0, none⟩), .int .i64 most] w fun e w' => e = .returned (.string ⟨#[]⟩) ∧ RX w' r [] true ∧ Fr (· = r) w w' := by
  have d1 : decide (most < (beVal (l.take 4) : Int)) = false := by rw [decide_eq_false_iff_not]; omega
  have hsn := fun W => run_string (RB.nil W) 0 0 rfl
  go_enter Tryd.func66, Tryd.ntmps66
  go_wp2_with fail
  refine (xint4_ok _ r l false h hnl).mono ?_
  rintro e w1 ⟨rfl, h1, hf1⟩
  obtain ⟨A, c, q0, q1, q2, q3⟩ := h1.parts
  go_wp2_with fail
  refine (xbytes_no _ r _ false _ h1 (.inr (by rw [List.length_drop]; omega))).mono ?_
  rintro e w2 ⟨rfl, h2, hf2⟩
  clear q0 q1 q2 q3
  go_wp2
  go_ret
  exact ⟨rfl, h2, hf1.trans hf2⟩
set_option maxRecDepth 100000 in
set_option maxHeartbeats 400000 in
theorem xtext_ok (w : World) (r : Nat) (l : List UInt8) (most : Int) (h : RX w r l false) (hnl : 4 ≤ l.length) (hm : (beVal (l.take 4) : Int) ≤ most) (hs : beVal (l.take 4) ≤ l.length - 4) :
    Calls Tryd.prog 66 #[.pointer (some ⟨r, 0, none⟩), .int .i64 most] w fun e w' => e = .returned (.string ⟨((l.drop 4).take (beVal (l.take 4))).toArray⟩) ∧ RX w' r ((l.drop 4).drop (beVal (l.take 4))) false ∧ Fr (· = r) w w' := by
  have d1 : decide (most < (beVal (l.take 4) : Int)) = false := by rw [decide_eq_false_iff_not]; omega
  go_enter Tryd.func66, Tryd.ntmps66
  go_wp2_with fail
  refine (xint4_ok _ r l false h hnl).mono ?_
  rintro e w1 ⟨rfl, h1, hf1⟩
  have HTL : Hid (((l.drop 4).take (beVal (l.take 4))).length = beVal (l.take 4)) := by show _ = _; rw [List.length_take, List.length_drop]; omega
  obtain ⟨A0, c0, q0, q1, q2, q3⟩ := h1.parts
  go_wp2_with fail
  refine (xbytes_ok _ r _ false _ h1 (by rw [List.length_drop]; omega)).mono ?_
  rintro e w2 ⟨v, rfl, hv, h2, hf2⟩
  clear q0 q1 q2 q3
  obtain ⟨A, c, rfl, hcl, hcm, hRB, hAd⟩ := hv.shape_n HTL.out
  have hstr := run_string hRB _ c HTL.out
  have HRD := Lib.hid h2
  clear hv hAd h2 hRB
  go_wp2
  go_ret
  exact ⟨rfl, HRD.out, hf1.trans hf2⟩

end Go.Proofs.YtleancgkincenaaDoor
