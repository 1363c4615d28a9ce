/-
  The document's has, load; SameTexts.
-/
import Derived.Test.YthidjdjcjjbpbaaGreatDoorSeC
namespace Go.Proofs.YthidjdjcjjbpbaaGreatDoor
open Go.RowKit Sea
set_option linter.unusedVariables false
set_option linter.unusedSimpArgs false

theorem hasB_at {l : List ByteArray} {x : ByteArray} {k : Nat} (hk : k < l.length) (h : decide (l[k] = x) = true) : hasB l x = true := by
  rw [hasB_mem]; rw [decide_eq_true_iff] at h; rw [← h]; exact List.getElem_mem hk
theorem hasB_none {l : List ByteArray} {x : ByteArray} (h : ∀ j (hj : j < l.length), decide (l[j] = x) = false) : hasB l x = false := by
  cases hb : hasB l x with
  | false => rfl
  | true =>
    rw [hasB_mem] at hb
    obtain ⟨j, hj, e⟩ := List.getElem_of_mem hb
    have := h j hj
    rw [decide_eq_false_iff_not] at this
    exact absurd e this
set_option maxRecDepth 100000 in
set_option maxHeartbeats 2000000 in
theorem rhas_any (A : Option Addr) (n c : Nat) (l : List ByteArray) (x : ByteArray) (w : World) (h : SS w A l) (hn : l.length = n) (hs : n ≤ 1000000) :
    Calls Tryz.prog 23 #[.slice A n c, .string x] w fun e w' => PF (BoP (hasB l x) w) e w' := by
  have HN := Lib.hid hn
  have HV := Lib.hid h
  clear hn h
  obtain ⟨r, hr⟩ : ∃ r, r = hasB l x := ⟨_, rfl⟩
  rw [← hr]
  have HR := Lib.hid hr
  clear hr
  go_enter Tryz.func23, Tryz.ntmps23
  go_wp2
  go_loopw [5] (fun i wr => ∃ k : Nat, k ≤ n ∧ i = .int .i64 k ∧ Hid (∀ j (hj : j < l.length), j < k → decide (l[j] = x) = false) ∧ Hid (Below w.heap.size w wr)) (fun i _ => n - (intOf i).toNat)
  case atStart => exact ⟨0, Nat.zero_le _, rfl, Lib.hid (fun j hj h => by omega), Lib.hid (Below.refl _ _)⟩
  case round =>
    obtain ⟨k, hk, rfl, HB, HW⟩ := hrel
    rcases (by omega : k < n ∨ k = n) with hlt | heq
    · have q0 : decide ((k : Int) < (n : Int)) = true := by rw [decide_eq_true_iff]; omega
      have q0' : decide (k < n) = true := by rw [decide_eq_true_iff]; omega
      have hkl : k < l.length := by rw [HN.out]; exact hlt
      obtain ⟨ad, rfl, hbl, hc⟩ := (HV.out.below HW.out).at_ hkl
      obtain ⟨y, hy⟩ : ∃ y, y = l[k] := ⟨_, rfl⟩
      rw [← hy] at hc
      have HX := Lib.hid hy
      have hki : (k : Int) < (n : Int) := by omega
      have hk0 : (0 : Int) ≤ (k : Int) := by omega
      have hq := nm_beq y x
      clear hy hbl
      cases hd : decide (y = x) with
      | true =>
        rw [hd] at hq
        have HI : Hid (r = true) := by show _ = _; rw [HR.out]; exact hasB_at hkl (by rw [← HX.out]; exact hd)
        clear hd
        go_wp2
        go_ret
        exact ⟨by rw [HI.out]; rfl, HW.out⟩
      | false =>
        rw [hd] at hq
        have HD := Lib.hid hd
        clear hd
        go_wp2
        go_roundw
        case rel => exact ⟨k + 1, by omega, by go_num, Lib.hid (fun j hj h => by
          rcases (by omega : j < k ∨ j = k) with h1 | h1
          · exact HB.out j hj h1
          · subst h1; rw [← HX.out]; exact HD.out), HW⟩
        case measure => simp [intOf]; omega
    · have q0 : decide ((k : Int) < (n : Int)) = false := by rw [decide_eq_false_iff_not]; omega
      have q0' : decide (k < n) = false := by rw [decide_eq_false_iff_not]; omega
      have HI : Hid (r = false) := by show _ = _; rw [HR.out]; exact hasB_none (fun j hj => HB.out j hj (by rw [HN.out] at hj; omega))
      clear heq
      go_wp2
      go_ret
      exact ⟨by rw [HI.out]; rfl, HW.out⟩
theorem below_drwN {B : Nat} {a w : World} (h : Below B a w) (n : Nat) : Below B a (w.drewN n) := ⟨h.os, h.tape, h.output, h.size, h.block⟩
theorem strs_ne {l m : List ByteArray} {k : Nat} (hk : k < l.length) (hk' : k < m.length) (h : decide (l[k] = m[k]) = false) : decide (l = m) = false := by
  rw [decide_eq_false_iff_not] at h ⊢
  rintro rfl
  exact h rfl
theorem strs_eq {l m : List ByteArray} (hlen : l.length = m.length) (h : ∀ j (hj : j < l.length) (hj' : j < m.length), decide (l[j] = m[j]) = true) : decide (l = m) = true := by
  rw [decide_eq_true_iff]
  exact List.ext_getElem hlen fun j h1 h2 => by have := h j h1 h2; rwa [decide_eq_true_iff] at this
set_option maxRecDepth 100000 in
set_option maxHeartbeats 2000000 in
theorem rsameTexts_any (A B : Option Addr) (n c m d : Nat) (l l' : List ByteArray) (w : World) (h : SS w A l) (h' : SS w B l') (hn : l.length = n) (hm : l'.length = m) (hs : n ≤ 1000000) (hs' : m ≤ 1000000) :
    Calls Tryz.prog 11 #[.slice A n c, .slice B m d] w fun e w' => PF (BoP (decide (l = l')) w) e w' := by
  obtain ⟨r, hr⟩ : ∃ r, r = decide (l = l') := ⟨_, rfl⟩
  rw [← hr]
  have HR := Lib.hid hr
  have HN := Lib.hid hn
  have HM := Lib.hid hm
  have HV := Lib.hid h
  have HV' := Lib.hid h'
  clear hr hn hm h h'
  by_cases hnm : n = m
  · subst hnm
    go_enter Tryz.func11, Tryz.ntmps11
    go_wp2
    go_loopw [5] (fun i wr => ∃ k : Nat, k ≤ n ∧ i = .int .i64 k ∧ Hid (∀ j (hj : j < l.length) (hj' : j < l'.length), j < k → decide (l[j] = l'[j]) = true) ∧ Hid (Below w.heap.size w wr)) (fun i _ => n - (intOf i).toNat)
    case atStart => exact ⟨0, Nat.zero_le _, rfl, Lib.hid (fun j hj hj' h => by omega), Lib.hid (Below.refl _ _)⟩
    case round =>
      obtain ⟨k, hk, rfl, HB, HW⟩ := hrel
      rcases (by omega : k < n ∨ k = n) with hlt | heq
      · have q0 : decide ((k : Int) < (n : Int)) = true := by rw [decide_eq_true_iff]; omega
        have q0' : decide (k < n) = true := by rw [decide_eq_true_iff]; omega
        have hkl : k < l.length := by rw [HN.out]; exact hlt
        have hkl' : k < l'.length := by rw [HM.out]; exact hlt
        obtain ⟨ad, rfl, hbl, hc⟩ := (HV.out.below HW.out).at_ hkl
        obtain ⟨ad', rfl, hbl', hc'⟩ := (HV'.out.below HW.out).at_ hkl'
        obtain ⟨y, hy⟩ : ∃ y, y = l[k] := ⟨_, rfl⟩
        obtain ⟨z, hz⟩ : ∃ z, z = l'[k] := ⟨_, rfl⟩
        rw [← hy] at hc
        rw [← hz] at hc'
        have HX := Lib.hid hy
        have HZ := Lib.hid hz
        have hki : (k : Int) < (n : Int) := by omega
        have hk0 : (0 : Int) ≤ (k : Int) := by omega
        have hq := nm_beq y z
        clear hy hz hbl hbl'
        cases hd : decide (y = z) with
        | true =>
          rw [hd] at hq
          have HD := Lib.hid hd
          clear hd
          go_wp2_with (go_quiet (fail))
          go_roundw
          case rel => exact ⟨k + 1, by omega, by go_num, Lib.hid (fun j hj hj' h => by
            rcases (by omega : j < k ∨ j = k) with h1 | h1
            · exact HB.out j hj hj' h1
            · subst h1; rw [← HX.out, ← HZ.out]; exact HD.out), Lib.hid (below_drwN HW.out _)⟩
          case measure => simp [intOf]; omega
        | false =>
          rw [hd] at hq
          have HI : Hid (r = false) := by show _ = _; rw [HR.out]; exact strs_ne hkl hkl' (by rw [← HX.out, ← HZ.out]; exact hd)
          clear hd
          go_wp2_with (go_quiet (fail))
          go_ret
          exact ⟨by rw [HI.out]; rfl, below_drwN HW.out _⟩
      · have q0 : decide ((k : Int) < (n : Int)) = false := by rw [decide_eq_false_iff_not]; omega
        have q0' : decide (k < n) = false := by rw [decide_eq_false_iff_not]; omega
        have HI : Hid (r = true) := by show _ = _; rw [HR.out]; exact strs_eq (by rw [HN.out, HM.out]) (fun j hj hj' => HB.out j hj hj' (by rw [HN.out] at hj; omega))
        clear heq
        go_wp2
        go_ret
        exact ⟨by rw [HI.out]; rfl, HW.out⟩
  · have HI : Hid (r = false) := by
      show _ = _
      rw [HR.out, decide_eq_false_iff_not]
      intro e
      have := congrArg List.length e
      rw [HN.out, HM.out] at this
      exact hnm this
    have q0 : decide ((n : Int) = (m : Int)) = false := by rw [decide_eq_false_iff_not]; omega
    have q1 : decide (n = m) = false := by rw [decide_eq_false_iff_not]; exact hnm
    have q2 : ((n : Int) == (m : Int)) = false := by rw [beq_eq_false_iff_ne]; omega
    have q3 : (n == m) = false := by rw [beq_eq_false_iff_ne]; exact hnm
    go_enter Tryz.func11, Tryz.ntmps11
    go_wp2
    go_ret
    exact ⟨by rw [HI.out]; rfl, Below.refl _ _⟩
end Go.Proofs.YthidjdjcjjbpbaaGreatDoor
