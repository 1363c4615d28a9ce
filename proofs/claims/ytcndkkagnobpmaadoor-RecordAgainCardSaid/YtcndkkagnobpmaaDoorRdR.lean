/-
  octet.Reader's methods: what they return, and what the reader is behind them.
-/
import Derived.Test.YtcndkkagnobpmaaDoorRdC
namespace Go.Proofs.YtcndkkagnobpmaaDoor
open Go.RowKit
set_option linter.unusedVariables false

theorem RD.parts {w : World} {r : Nat} {l : List UInt8} {bad : Bool} (h : RD w r l bad) :
    ∃ A c, w.cell? ⟨r, 0, none⟩ = some (.slice A l.length c) ∧ w.cell? ⟨r, 1, none⟩ = some (.bool bad) ∧ w.frozen? ⟨r, 0, none⟩ = false ∧ w.frozen? ⟨r, 1, none⟩ = false := by
  obtain ⟨A, c, hb, _⟩ := h
  exact ⟨A, c, hb.cell 0, hb.cell 1, hb.frozen 0, hb.frozen 1⟩
theorem RD.len {w : World} {r : Nat} {l : List UInt8} {bad : Bool} (h : RD w r l bad) : l.length ≤ 70368744177664 := by
  obtain ⟨A, c, hb, hR, hc, hm, hln, hbad, hA⟩ := h
  exact hln
theorem RD.spoiled {w : World} {r : Nat} {l : List UInt8} {bad : Bool} (h : RD w r l bad) : RD ((w.setCell ⟨r, 0, none⟩ (.slice none 0 0)).setCell ⟨r, 1, none⟩ (.bool true)) r [] true := by
  obtain ⟨A, c, hb, hR, hc, hm, hln, hbad, hA⟩ := h
  exact ⟨none, 0, (hb.set_ 0 _).set_ 1 _, RB.nil _, by simp, by simp [maxLen], by simp, by simp, by simp⟩

set_option maxHeartbeats 400000 in
theorem left_nil (w : World) : Calls Tryd.prog 86 #[.pointer none] w fun e w' => e = .returned (.int .i64 0) ∧ w = w' := by
  go_enter Tryd.func86, Tryd.ntmps86
  go_wp2
  go_ret
  exact ⟨rfl, rfl⟩
set_option maxHeartbeats 400000 in
theorem left_any (w : World) (r : Nat) (l : List UInt8) (bad : Bool) (h : RD w r l bad) : Calls Tryd.prog 86 #[.pointer (some ⟨r, 0, none⟩)] w fun e w' => e = .returned (.int .i64 l.length) ∧ w = w' := by
  have hln := h.len
  obtain ⟨A, c, h0, _, _, _⟩ := h.parts
  go_enter Tryd.func86, Tryd.ntmps86
  go_wp2
  go_ret
  exact ⟨rfl, rfl⟩
set_option maxHeartbeats 400000 in
theorem bad_nil (w : World) : Calls Tryd.prog 62 #[.pointer none] w fun e w' => e = .returned (.bool true) ∧ w = w' := by
  go_enter Tryd.func62, Tryd.ntmps62
  go_wp2
  go_ret
  exact ⟨rfl, rfl⟩
set_option maxHeartbeats 400000 in
theorem bad_any (w : World) (r : Nat) (l : List UInt8) (bad : Bool) (h : RD w r l bad) : Calls Tryd.prog 62 #[.pointer (some ⟨r, 0, none⟩)] w fun e w' => e = .returned (.bool bad) ∧ w = w' := by
  obtain ⟨A, c, _, h1, _, _⟩ := h.parts
  go_enter Tryd.func62, Tryd.ntmps62
  go_wp2
  go_ret
  exact ⟨rfl, rfl⟩
set_option maxHeartbeats 400000 in
theorem spoil_nil (w : World) : Calls Tryd.prog 87 #[.pointer none] w fun e w' => e = .returned (.tuple #[]) ∧ w = w' := by
  go_enter Tryd.func87, Tryd.ntmps87
  go_wp2
  go_end0
  exact ⟨rfl, rfl⟩
set_option maxHeartbeats 400000 in
theorem spoil_any (w : World) (r : Nat) (l : List UInt8) (bad : Bool) (h : RD w r l bad) : Calls Tryd.prog 87 #[.pointer (some ⟨r, 0, none⟩)] w fun e w' => e = .returned (.tuple #[]) ∧ RD w' r [] true ∧ Fr (· = r) w w' := by
  have hs := h.spoiled
  obtain ⟨A, c, h0, h1, h2, h3⟩ := h.parts
  go_enter Tryd.func87, Tryd.ntmps87
  go_wp2
  go_end0
  exact ⟨rfl, hs, ((Fr.refl _ _).setCell (by simp) _).setCell (by simp) _⟩

theorem RD.advance {w : World} {r : Nat} {l : List UInt8} {n c : Nat} {A : Option Addr} (hb : Blk w r 118 #[.slice A l.length c, .bool false]) (hR : RB w A l) (hc : l.length ≤ c) (hm : c ≤ maxLen) (hln : l.length ≤ 70368744177664)
    (hA : ∀ ad, A = some ad → ∃ cs, Blk w ad.block 5 cs) (hn : n ≤ l.length) :
    (c = n → RD (w.setCell ⟨r, 0, none⟩ (.slice A (l.length - n) 0)) r (l.drop n) false) ∧
    (¬ c = n → RD (w.setCell ⟨r, 0, none⟩ (.slice (A.map fun x => x.add n) (l.length - n) (c - n))) r (l.drop n) false) := by
  have hne : ∀ ad, A = some ad → ad.block ≠ r := fun ad e => by
    obtain ⟨cs, hcs⟩ := hA ad e
    exact hcs.ne_ hb (by decide)
  have hcut := hR.cut (cap := c) hn hc
  have hF : ∀ u, Fr (· = r) w (w.setCell ⟨r, 0, none⟩ u) := fun u => (Fr.refl _ _).setCell (by simp) u
  constructor
  · intro e
    rw [if_pos e] at hcut
    have hl0 : l.length - n = 0 := by omega
    refine ⟨A, 0, ?_, hcut.fr (hF _) hne, by rw [List.length_drop]; omega, by simp [maxLen], by rw [List.length_drop]; omega, by simp, fun ad e' => ?_⟩
    · have := hb.set_ 0 (.slice A (l.length - n) 0)
      rw [List.length_drop]
      exact this
    · obtain ⟨cs, hcs⟩ := hA ad e'
      exact ⟨cs, hcs.fr (hF _) (hne ad e')⟩
  · intro e
    rw [if_neg e] at hcut
    refine ⟨A.map fun x => x.add n, c - n, ?_, hcut.fr (hF _) ?_, by rw [List.length_drop]; omega, by omega, by rw [List.length_drop]; omega, by simp, fun ad e' => ?_⟩
    · have := hb.set_ 0 (.slice (A.map fun x => x.add n) (l.length - n) (c - n))
      rw [List.length_drop]
      exact this
    · intro ad e'
      cases A with
      | none => cases e'
      | some a0 => cases e'; rw [block_of_add]; exact hne a0 rfl
    · cases A with
      | none => cases e'
      | some a0 =>
        cases e'
        obtain ⟨cs, hcs⟩ := hA a0 rfl
        rw [block_of_add]
        exact ⟨cs, hcs.fr (hF _) (hne a0 rfl)⟩
theorem OB.below_set {w w1 : World} {v : Value} {l : List UInt8} {r : Nat} (h : OB w1 w.heap.size v l) (hr : r < w.heap.size) (j : Nat) (u : Value) : OB (w1.setCell ⟨r, j, none⟩ u) w.heap.size v l :=
  h.fr (S := (· = r)) ((Fr.refl _ _).setCell (by simp) u) (fun g hg e => by have := (World.ownsRow.lt h g hg).1; omega)

set_option maxRecDepth 100000 in
set_option maxHeartbeats 400000 in
theorem bytes_ok (w : World) (r : Nat) (l : List UInt8) (n : Nat) (h : RD w r l false) (hn : n ≤ l.length) :
    Calls Tryd.prog 88 #[.pointer (some ⟨r, 0, none⟩), .int .i64 n] w fun e w' => ∃ v, e = .returned v ∧ OB w' w.heap.size v (l.take n) ∧ RD w' r (l.drop n) false ∧ Fr (· = r) w w' := by
  have hln := h.len
  have hd0 : decide ((n : Int) < 0) = false := by simp
  have hd1 : decide (l.length < n) = false := by rw [decide_eq_false_iff_not]; omega
  have H := Lib.hid h
  obtain ⟨A, c, hb, hR, hc, hm, _, hbad, hA⟩ := h
  have h0 := hb.cell 0
  have h1 := hb.cell 1
  have h2 := hb.frozen 0
  have h3 := hb.frozen 1
  have htl : (l.take n).length = n := by rw [List.length_take]; omega
  have HT := Lib.hid htl
  have HR := Lib.hid (hR.take hn)
  have hrlt := hb.lt
  have HB := Lib.hid hb
  have HA := Lib.hid hA
  have HR0 := Lib.hid hR
  have HM := Lib.hid hm
  clear hb htl hbad hA hR
  unfold maxLen at hm
  go_enter Tryd.func88, Tryd.ntmps88
  go_wp2_with (first | (go_at_call 62; refine (bad_any _ r l false H.out).mono ?_; rintro e w' ⟨rfl, rfl⟩) | (go_at_call 86; refine (left_any _ r l false H.out).mono ?_; rintro e w' ⟨rfl, rfl⟩) | fail)
  refine (clone_n A n c _ _ HT.out (by omega) HR.out).mono ?_
  rintro e w1 ⟨v, rfl, hv, hbw⟩
  have hv0 := hv.shape
  rw [HT.out] at hv0
  obtain ⟨A', c', rfl, -⟩ := hv0
  have HV := Lib.hid hv
  have HAD := Lib.hid (RD.advance (n := n) (HB.out.below hbw hrlt) (HR0.out.below hbw) hc HM.out hln (fun ad e => by obtain ⟨cs, hcs⟩ := HA.out ad e; exact ⟨cs, hcs.below hbw hcs.lt⟩) hn)
  clear hv
  have k0 : w1.cell? ⟨r, 0, none⟩ = some (.slice A l.length c) := (hbw.cell (p := ⟨r, 0, none⟩) hrlt).trans h0
  have k2 : w1.frozen? ⟨r, 0, none⟩ = false := (hbw.frozen (p := ⟨r, 0, none⟩) hrlt).trans h2
  go_wp2
  · have hcn : c = n := by assumption
    go_ret
    refine ⟨_, rfl, HV.out.below_set hrlt _ _, HAD.out.1 hcn, (Fr.of_below hbw).setCell (by simp) _⟩
  · have hcn : ¬ c = n := by assumption
    go_ret
    refine ⟨_, rfl, HV.out.below_set hrlt _ _, HAD.out.2 hcn, (Fr.of_below hbw).setCell (by simp) _⟩

set_option maxRecDepth 100000 in
set_option maxHeartbeats 400000 in
theorem bytes_no (w : World) (r : Nat) (l : List UInt8) (bad : Bool) (n : Int) (h : RD w r l bad) (hn : n < 0 ∨ (l.length : Int) < n ∨ bad = true) :
    Calls Tryd.prog 88 #[.pointer (some ⟨r, 0, none⟩), .int .i64 n] w fun e w' => e = .returned (.slice none 0 0) ∧ RD w' r [] true ∧ Fr (· = r) w w' := by
  have hln := h.len
  rcases (by omega : n < 0 ∨ 0 ≤ n) with h1 | h1
  · have d1 : decide (n < 0) = true := by rw [decide_eq_true_iff]; omega
    go_enter Tryd.func88, Tryd.ntmps88
    go_wp2_with (first | (go_at_call 62; refine (bad_any _ r l bad h).mono ?_; rintro e w' ⟨rfl, rfl⟩) | (go_at_call 86; refine (left_any _ r l bad h).mono ?_; rintro e w' ⟨rfl, rfl⟩) | (go_at_call 87; refine (spoil_any _ r l bad h).mono ?_; rintro e w' ⟨rfl, hsp, hfr⟩))
    go_ret
    exact ⟨rfl, hsp, hfr⟩
  · have d1 : decide (n < 0) = false := by rw [decide_eq_false_iff_not]; omega
    rcases (by omega : (l.length : Int) < n ∨ n ≤ l.length) with h2 | h2
    · have d2 : decide ((l.length : Int) < n) = true := by rw [decide_eq_true_iff]; omega
      go_enter Tryd.func88, Tryd.ntmps88
      go_wp2_with (first | (go_at_call 62; refine (bad_any _ r l bad h).mono ?_; rintro e w' ⟨rfl, rfl⟩) | (go_at_call 86; refine (left_any _ r l bad h).mono ?_; rintro e w' ⟨rfl, rfl⟩) | (go_at_call 87; refine (spoil_any _ r l bad h).mono ?_; rintro e w' ⟨rfl, hsp, hfr⟩))
      go_ret
      exact ⟨rfl, hsp, hfr⟩
    · have d2 : decide ((l.length : Int) < n) = false := by rw [decide_eq_false_iff_not]; omega
      obtain rfl : bad = true := by
        rcases hn with hn | hn | hn
        · omega
        · omega
        · exact hn
      go_enter Tryd.func88, Tryd.ntmps88
      go_wp2_with (first | (go_at_call 62; refine (bad_any _ r l true h).mono ?_; rintro e w' ⟨rfl, rfl⟩) | (go_at_call 86; refine (left_any _ r l true h).mono ?_; rintro e w' ⟨rfl, rfl⟩) | (go_at_call 87; refine (spoil_any _ r l true h).mono ?_; rintro e w' ⟨rfl, hsp, hfr⟩))
      go_ret
      exact ⟨rfl, hsp, hfr⟩

theorem ret_int {k : IntKind} {a b : Int} (h : a = b) : Ending.returned (.int k a) = .returned (.int k b) := by rw [h]
theorem addr_add_zero (a : Addr) : a.add 0 = a := by simp [Addr.add]
theorem OB.shape_n {w : World} {base n : Nat} {v : Value} {l : List UInt8} (h : OB w base v l) (hn : l.length = n) : ∃ A c, v = .slice A n c ∧ n ≤ c ∧ c ≤ maxLen ∧ RB w A l ∧ (∀ ad, A = some ad → base ≤ ad.block ∧ ad.block < w.heap.size ∧ ad = ⟨ad.block, 0, none⟩) := by
  subst hn; exact h.shape
def beVal (l : List UInt8) : Nat := l.foldl (fun n c => n * 256 + c.toNat) 0
theorem beVal_snoc (l : List UInt8) (c : UInt8) : beVal (l ++ [c]) = beVal l * 256 + c.toNat := by simp [beVal]
theorem beVal_lt (l : List UInt8) : beVal l < 256 ^ l.length := by
  suffices h : ∀ (r : List UInt8), beVal r.reverse < 256 ^ r.length by
    have := h l.reverse
    simpa using this
  intro r
  induction r with
  | nil => simp [beVal]
  | cons c r ih =>
    rw [List.reverse_cons, beVal_snoc, List.length_cons, Nat.pow_succ]
    have := c.toNat_lt
    omega

set_option maxRecDepth 100000 in
set_option maxHeartbeats 400000 in
theorem int_no (w : World) (r : Nat) (l : List UInt8) (bad : Bool) (n : Int) (h : RD w r l bad) (hn : n < 1 ∨ 8 < n ∨ (l.length : Int) < n) :
    Calls Tryd.prog 61 #[.pointer (some ⟨r, 0, none⟩), .int .i64 n] w fun e w' => e = .returned (.int .i64 0) ∧ RD w' r [] true ∧ Fr (· = r) w w' := by
  have hln := h.len
  rcases (by omega : n < 1 ∨ 1 ≤ n) with h1 | h1
  · have d1 : decide (n < 1) = true := by rw [decide_eq_true_iff]; omega
    go_enter Tryd.func61, Tryd.ntmps61
    go_wp2_with (first | (go_at_call 62; refine (bad_any _ r l bad h).mono ?_; rintro e w' ⟨rfl, rfl⟩) | (go_at_call 86; refine (left_any _ r l bad h).mono ?_; rintro e w' ⟨rfl, rfl⟩) | (go_at_call 87; refine (spoil_any _ r l bad h).mono ?_; rintro e w' ⟨rfl, hsp, hfr⟩))
    go_ret
    exact ⟨rfl, hsp, hfr⟩
  · have d1 : decide (n < 1) = false := by rw [decide_eq_false_iff_not]; omega
    rcases (by omega : 8 < n ∨ n ≤ 8) with h2 | h2
    · have d2 : decide (8 < n) = true := by rw [decide_eq_true_iff]; omega
      go_enter Tryd.func61, Tryd.ntmps61
      go_wp2_with (first | (go_at_call 62; refine (bad_any _ r l bad h).mono ?_; rintro e w' ⟨rfl, rfl⟩) | (go_at_call 86; refine (left_any _ r l bad h).mono ?_; rintro e w' ⟨rfl, rfl⟩) | (go_at_call 87; refine (spoil_any _ r l bad h).mono ?_; rintro e w' ⟨rfl, hsp, hfr⟩))
      go_ret
      exact ⟨rfl, hsp, hfr⟩
    · have d2 : decide (8 < n) = false := by rw [decide_eq_false_iff_not]; omega
      have h3 : (l.length : Int) < n := by omega
      have d3 : decide ((l.length : Int) < n) = true := by rw [decide_eq_true_iff]; omega
      go_enter Tryd.func61, Tryd.ntmps61
      go_wp2_with (first | (go_at_call 62; refine (bad_any _ r l bad h).mono ?_; rintro e w' ⟨rfl, rfl⟩) | (go_at_call 86; refine (left_any _ r l bad h).mono ?_; rintro e w' ⟨rfl, rfl⟩) | (go_at_call 87; refine (spoil_any _ r l bad h).mono ?_; rintro e w' ⟨rfl, hsp, hfr⟩))
      go_ret
      exact ⟨rfl, hsp, hfr⟩
set_option maxRecDepth 100000 in
set_option maxHeartbeats 400000 in
theorem int_big (w : World) (r : Nat) (c : UInt8) (l : List UInt8) (bad : Bool) (h : RD w r (c :: l) bad) (hn : 7 ≤ l.length) (hc : 127 < c.toNat) :
    Calls Tryd.prog 61 #[.pointer (some ⟨r, 0, none⟩), .int .i64 8] w fun e w' => e = .returned (.int .i64 0) ∧ RD w' r [] true ∧ Fr (· = r) w w' := by
  have hln := h.len
  have H := Lib.hid h
  obtain ⟨A, cp, hb, hR, hcc, hm, _, hbad, hA⟩ := h
  have h0 := hb.cell 0
  obtain ⟨ad, rfl, _, hcell⟩ := hR.at_ (k := 0) (by simp)
  have hlc : (c :: l).length = l.length + 1 := rfl
  rw [hlc] at h0 hln
  have d3 : decide ((l.length : Int) + 1 < 8) = false := by rw [decide_eq_false_iff_not]; omega
  have d4 : decide (127 < (c.toNat : Int)) = true := by rw [decide_eq_true_iff]; omega
  clear hb hR hA hbad hlc
  rw [addr_add_zero] at hcell
  simp only [List.getElem_cons_zero] at hcell
  go_enter Tryd.func61, Tryd.ntmps61
  go_wp2_with (first | (go_at_call 62; refine (bad_any _ r (c :: l) bad H.out).mono ?_; rintro e w' ⟨rfl, rfl⟩) | (go_at_call 86; refine (left_any _ r (c :: l) bad H.out).mono ?_; rintro e w' ⟨rfl, rfl⟩) | (go_at_call 87; refine (spoil_any _ r (c :: l) bad H.out).mono ?_; rintro e w' ⟨rfl, hsp, hfr⟩))
  go_ret
  exact ⟨rfl, hsp, hfr⟩

theorem ofInt_i64' (a : Nat) (ha : a < 9223372036854775808) : (BitVec.ofInt 64 (a : Int)).toNat = a := by
  rw [BitVec.ofInt_natCast, BitVec.toNat_ofNat]; exact Nat.mod_eq_of_lt (by omega)
theorem or_byteR (v x : Nat) (hv : v < 36028797018963968) (hx : x < 256) : bits .or .i64 ((v : Int) * 256) (x : Int) = ((v * 256 + x : Nat) : Int) := by
  have e : ((v : Int) * 256) = ((v * 256 : Nat) : Int) := by simp
  have h2 : v * 256 ||| x = v * 256 + x := by
    have := Nat.two_pow_add_eq_or_of_lt (i := 8) (b := x) hx v
    rw [Nat.mul_comm v 256]
    exact this.symm
  rw [e]
  show IntKind.i64.wrap ((BitVec.ofInt 64 ((v * 256 : Nat) : Int) ||| BitVec.ofInt 64 (x : Int)).toNat : Int) = _
  rw [BitVec.toNat_or, ofInt_i64' _ (by omega), ofInt_i64' x (by omega), h2, IntKind.wrap_i64]
  omega
theorem beVal_take (l : List UInt8) (k : Nat) (h : k < l.length) : beVal (l.take (k + 1)) = beVal (l.take k) * 256 + (l[k]).toNat := by
  rw [List.take_succ_eq_append_getElem h, beVal_snoc]
theorem beVal_take_lt (l : List UInt8) (k : Nat) (h : k ≤ 6) : beVal (l.take k) < 281474976710656 := by
  have hvb := beVal_lt (l.take k)
  have hp : 256 ^ (l.take k).length ≤ 256 ^ 6 := Nat.pow_le_pow_right (by omega) (by rw [List.length_take]; omega)
  omega
theorem beVal_cons (c : UInt8) (l : List UInt8) : beVal (c :: l) = c.toNat * 256 ^ l.length + beVal l := by
  suffices h : ∀ (r : List UInt8), beVal (c :: r.reverse) = c.toNat * 256 ^ r.length + beVal r.reverse by
    have := h l.reverse
    simpa using this
  intro r
  induction r with
  | nil => simp [beVal]
  | cons d r ih =>
    rw [List.reverse_cons, ← List.cons_append, beVal_snoc, beVal_snoc, ih, List.length_cons, Nat.pow_succ]
    rw [Nat.add_mul, ← Nat.mul_assoc, Nat.add_assoc]
theorem beVal_take_lt8 (c : UInt8) (l : List UInt8) (hc : c.toNat ≤ 127) (k : Nat) (h : k ≤ 7) : beVal ((c :: l).take k) < 36028797018963968 := by
  rcases k with _ | k
  · simp [beVal]
  · rw [List.take_succ_cons, beVal_cons]
    have hvb := beVal_lt (l.take k)
    have hl : (l.take k).length ≤ 6 := by rw [List.length_take]; omega
    have hp : 256 ^ (l.take k).length ≤ 256 ^ 6 := Nat.pow_le_pow_right (by omega) hl
    have : c.toNat * 256 ^ (l.take k).length ≤ 127 * 256 ^ 6 := Nat.mul_le_mul hc hp
    omega

set_option maxRecDepth 100000 in
set_option maxHeartbeats 400000 in
theorem int_ok (w : World) (r : Nat) (l : List UInt8) (n : Nat) (h : RD w r l false) (h1 : 1 ≤ n) (h8 : n < 8) (hnl : n ≤ l.length) :
    Calls Tryd.prog 61 #[.pointer (some ⟨r, 0, none⟩), .int .i64 n] w fun e w' => e = .returned (.int .i64 (beVal (l.take n))) ∧ RD w' r (l.drop n) false ∧ Fr (· = r) w w' := by
  have hln := h.len
  have H := Lib.hid h
  have d1 : decide ((n : Int) < 1) = false := by rw [decide_eq_false_iff_not]; omega
  have d2 : decide (8 < (n : Int)) = false := by rw [decide_eq_false_iff_not]; omega
  have d3 : decide (l.length < n) = false := by rw [decide_eq_false_iff_not]; omega
  have d4 : ((n : Int) == 8) = false := by rw [beq_eq_false_iff_ne]; omega
  have HTL : Hid ((l.take n).length = n) := by show _ = _; rw [List.length_take]; omega
  clear h
  go_enter Tryd.func61, Tryd.ntmps61
  go_wp2_with (first | (go_at_call 86; refine (left_any _ r l false H.out).mono ?_; rintro e w' ⟨rfl, rfl⟩) | (go_at_call 88; refine (bytes_ok _ r l n H.out hnl).mono ?_; rintro e w1 ⟨v, rfl, hv, hrd, hfr⟩; obtain ⟨A, c, rfl, hcl, hcm, hRB, hAd⟩ := hv.shape_n HTL.out; have HRD := Lib.hid hrd; clear hv hrd hAd))
  go_loopw [5, 39] (fun v i wr => ∃ k : Nat, k ≤ n ∧ i = .int .i64 k ∧ v = .int .i64 (beVal ((l.take n).take k)) ∧ wr = w1) (fun _ i _ => n - (intOf i).toNat)
  case atStart => exact ⟨0, Nat.zero_le _, rfl, rfl, rfl⟩
  case round =>
    obtain ⟨k, hk, rfl, rfl, rfl⟩ := hrel
    by_cases hlt : k < n
    · have hkl : k < (l.take n).length := by rw [HTL.out]; exact hlt
      obtain ⟨ad, rfl, _, hc⟩ := hRB.at_ (k := k) hkl
      clear hRB
      have hvb2 := beVal_take_lt (l.take n) k (by omega)
      have hx := (l.take n)[k].toNat_lt
      have HS := Lib.hid ((beVal_take (l.take n) k hkl).symm.trans rfl)
      generalize beVal ((l.take n).take k) = v at *
      generalize (l.take n)[k] = x at *
      have hor := or_byteR v x.toNat (by omega) hx
      go_wp2
      go_roundw
      case rel => exact ⟨k + 1, by omega, by go_num, by rw [← HS.out]; go_num, by first | rfl | trivial⟩
      case measure => simp [intOf]; omega
    · have hkn : k = n := by omega
      have HK := Lib.hid hkn
      clear hkn
      go_wp2
      go_ret
      refine ⟨ret_int ?_, HRD.out, hfr⟩
      rw [HK.out, List.take_of_length_le (by rw [HTL.out]; exact Nat.le_refl _)]
set_option maxRecDepth 100000 in
set_option maxHeartbeats 400000 in
theorem int8_ok (w : World) (r : Nat) (c0 : UInt8) (l : List UInt8) (h : RD w r (c0 :: l) false) (hnl : 7 ≤ l.length) (hc0 : c0.toNat ≤ 127) :
    Calls Tryd.prog 61 #[.pointer (some ⟨r, 0, none⟩), .int .i64 8] w fun e w' => e = .returned (.int .i64 (beVal ((c0 :: l).take 8))) ∧ RD w' r ((c0 :: l).drop 8) false ∧ Fr (· = r) w w' := by
  have hln := h.len
  have H := Lib.hid h
  obtain ⟨A, cp, hb, hR, hcc, hm, _, hbad, hA⟩ := h
  have h0 := hb.cell 0
  obtain ⟨ad, rfl, _, hcell⟩ := hR.at_ (k := 0) (by simp)
  have hlc : (c0 :: l).length = l.length + 1 := rfl
  have d3 : decide (((c0 :: l).length : Int) < 8) = false := by rw [decide_eq_false_iff_not]; omega
  have d4 : decide (127 < (c0.toNat : Int)) = false := by rw [decide_eq_false_iff_not]; omega
  clear hb hR hA hbad hlc
  rw [addr_add_zero] at hcell
  simp only [List.getElem_cons_zero] at hcell
  have HTL : Hid (((c0 :: l).take 8).length = 8) := by show _ = _; rw [List.length_take, List.length_cons]; omega
  have HB8 := Lib.hid (beVal_take_lt8 c0 (l.take 7) hc0)
  rw [show c0 :: l.take 7 = (c0 :: l).take 8 from rfl] at HB8
  have HN : Hid (8 ≤ (c0 :: l).length) := by show 8 ≤ _; simp; omega
  have hpos : 0 < (c0 :: l).length := by simp
  generalize c0 :: l = L at *
  go_enter Tryd.func61, Tryd.ntmps61
  go_wp2_with (first | (go_at_call 86; refine (left_any _ r L false H.out).mono ?_; rintro e w' ⟨rfl, rfl⟩) | (go_at_call 88; refine (bytes_ok _ r L 8 H.out HN.out).mono ?_; rintro e w1 ⟨v, rfl, hv, hrd, hfr⟩; obtain ⟨A, c, rfl, hcl, hcm, hRB, hAd⟩ := hv.shape_n HTL.out; have HRD := Lib.hid hrd; clear hv hrd hAd))
  go_loopw [5, 39] (fun v i wr => ∃ k : Nat, k ≤ 8 ∧ i = .int .i64 k ∧ v = .int .i64 (beVal ((L.take 8).take k)) ∧ wr = w1) (fun _ i _ => 8 - (intOf i).toNat)
  case atStart => exact ⟨0, Nat.zero_le _, rfl, rfl, rfl⟩
  case round =>
    obtain ⟨k, hk, rfl, rfl, rfl⟩ := hrel
    by_cases hlt : k < 8
    · have hkl : k < (L.take 8).length := by rw [HTL.out]; exact hlt
      obtain ⟨ad, rfl, _, hc⟩ := hRB.at_ (k := k) hkl
      clear hRB
      have hvb2 := HB8.out k (by omega)
      have hx := (L.take 8)[k].toNat_lt
      have HS := Lib.hid ((beVal_take (L.take 8) k hkl).symm.trans rfl)
      generalize beVal ((L.take 8).take k) = v at *
      generalize (L.take 8)[k] = x at *
      have hor := or_byteR v x.toNat (by omega) hx
      go_wp2
      go_roundw
      case rel => exact ⟨k + 1, by omega, by go_num, by rw [← HS.out]; go_num, by first | rfl | trivial⟩
      case measure => simp [intOf]; omega
    · have hkn : k = 8 := by omega
      have HK := Lib.hid hkn
      clear hkn
      go_wp2
      go_ret
      refine ⟨ret_int ?_, HRD.out, hfr⟩
      rw [HK.out, List.take_of_length_le (by rw [HTL.out]; exact Nat.le_refl _)]

end Go.Proofs.YtcndkkagnobpmaaDoor
