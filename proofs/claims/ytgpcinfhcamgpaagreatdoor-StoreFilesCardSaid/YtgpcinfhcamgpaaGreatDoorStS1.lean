/-
  Files: whether two are the same; slices.EqualFunc at them.
-/
import Derived.Test.YtgpcinfhcamgpaaGreatDoorStW4
import Derived.Test.YtgpcinfhcamgpaaGreatDoorShelf
import Derived.Handy
namespace Go.Proofs.YtgpcinfhcamgpaaGreatDoor
open Go.RowKit
attribute [local go_sem ↓] Go.wp_at_zero Go.wp_at_succ
set_option linter.unusedVariables false
set_option linter.unusedSimpArgs false

theorem arr_beq (a b : List UInt8) : ((⟨a.toArray⟩ : ByteArray).toList == (⟨b.toArray⟩ : ByteArray).toList) = decide (a = b) := by
  rw [Lib.toList_data, Lib.toList_data]
  by_cases h : a = b
  · subst h; simp
  · rw [decide_eq_false h, beq_eq_false_iff_ne]; simpa using h
theorem nm_beq (a b : ByteArray) : (a.toList == b.toList) = decide (a = b) := by
  by_cases h : a = b
  · subst h; simp
  · rw [decide_eq_false h, beq_eq_false_iff_ne]; exact fun e => h (toList_inj' e)
theorem bytesEq_any (A B : Option Addr) (n m c d : Nat) (a b : List UInt8) (w : World) (ha : RB w A a) (hb : RB w B b) (hn : a.length = n) (hm : b.length = m) :
    Calls Tryz.prog 50 #[.slice A n c, .slice B m d] w fun e w' => e = .returned (.bool (decide (a = b))) ∧ w' = w := by
  rw [← arr_beq]
  exact Tryz.bytes_Equal_strs _ _ _ _ w (run_string ha n c hn) (run_string hb m d hm)
set_option maxRecDepth 100000 in
set_option maxHeartbeats 2000000 in
theorem sameFile_any (x y : FV) (nx ny : Nat) (w : World) (hx : RB w x.A x.b) (hy : RB w y.A y.b) (hnx : x.b.length = nx) (hny : y.b.length = ny) :
    Calls Tryz.prog 52 #[.agg #[.string x.nm, .slice x.A nx x.c], .agg #[.string y.nm, .slice y.A ny y.c]] w fun e w' => e = .returned (.bool (decide (x.nm = y.nm ∧ x.b = y.b))) ∧ Below w.heap.size w w' := by
  obtain ⟨r, hr⟩ : ∃ r, r = decide (x.nm = y.nm ∧ x.b = y.b) := ⟨_, rfl⟩
  rw [← hr]
  have HR := Lib.hid hr
  have HB : ∀ V, Below w.heap.size w V → Calls Tryz.prog 50 #[.slice x.A nx x.c, .slice y.A ny y.c] V fun e w' => e = .returned (.bool (decide (x.b = y.b))) ∧ w' = V := fun V hV => bytesEq_any x.A y.A nx ny x.c y.c x.b y.b V (hx.below hV) (hy.below hV) hnx hny
  have HBB := Lib.hid HB
  have HE : Hid (Below w.heap.size w ((w.alloc (.cells #[.string x.nm, .slice x.A nx x.c] 55)).alloc (.cells #[.string y.nm, .slice y.A ny y.c] 55))) := Lib.hid (((Below.refl _ _).alloc (Nat.le_refl _) _).alloc (by simp) _)
  have hq := nm_beq x.nm y.nm
  clear hx hy hnx hny HB hr
  by_cases h : x.nm = y.nm
  · rw [decide_eq_true h] at hq
    have H := Lib.hid h
    clear h
    go_enter Tryz.func52, Tryz.ntmps52
    go_wp2_with fail
    refine (HBB.out _ HE.out).mono ?_
    rintro e w' ⟨rfl, rfl⟩
    go_wp2
    go_ret
    have HV : Hid (r = decide (x.b = y.b)) := by show _ = _; rw [HR.out]; simp only [H.out, true_and]
    exact ⟨by rw [HV.out]; rfl, HE.out⟩
  · rw [decide_eq_false h] at hq
    have HI : Hid (r = false) := by show _ = _; rw [HR.out, decide_eq_false_iff_not]; exact fun e => h e.1
    clear h
    go_enter Tryz.func52, Tryz.ntmps52
    go_wp2
    go_ret
    exact ⟨by rw [HI.out]; rfl, HE.out⟩
set_option maxRecDepth 100000 in
set_option maxHeartbeats 4000000 in
theorem equalFiles_any (A B : Option Addr) (n m c d : Nat) (fs gs : List FV) (w : World) (h : Fls w A fs) (h2 : Fls w B gs) (hn : fs.length = n) (hm : gs.length = m) (hbig : n ≤ 140737488355328) (hbig2 : m ≤ 140737488355328) :
    Calls Tryz.prog 51 #[.slice A n c, .slice B m d, .func (.func 52) #[] #[]] w fun e w' => e = .returned (.bool (decide (fiL fs = fiL gs))) ∧ Below w.heap.size w w' := by
  have HN := Lib.hid hn
  have HM := Lib.hid hm
  have HF := Lib.hid h
  have HG := Lib.hid h2
  obtain ⟨r, hr⟩ : ∃ r, r = decide (fiL fs = fiL gs) := ⟨_, rfl⟩
  rw [← hr]
  have HR := Lib.hid hr
  clear hr hn hm h h2
  by_cases hnm : n = m
  · subst hnm
    have e1 : ((n : Int) != (n : Int)) = false := by simp
    have e1' : (n != n) = false := by simp
    go_enter Tryz.func51, Tryz.ntmps51
    go_wp2
    go_loopw [17] (fun i wr => ∃ k : Nat, k ≤ n ∧ i = .int .i64 (k : Int) ∧ Hid (SamK fs gs k) ∧ Hid (Below w.heap.size w wr)) (fun i _ => n - (intOf i).toNat)
    case atStart => exact ⟨0, Nat.zero_le _, rfl, Lib.hid (by simp [SamK]), Lib.hid (Below.refl _ _)⟩
    case round =>
      obtain ⟨k, hk, rfl, HK, HB⟩ := hrel
      rcases (by omega : k < n ∨ k = n) with hlt | heq
      · have q0 : decide ((k : Int) < (n : Int)) = true := by rw [decide_eq_true_iff]; omega
        have q0' : decide (k < n) = true := by rw [decide_eq_true_iff]; omega
        have hkl : k < fs.length := by rw [HN.out]; exact hlt
        have hkm : k < gs.length := by rw [HM.out]; exact hlt
        obtain ⟨b, o, hA, hb, c0, c1, hrb, hbc, hbm⟩ := (HF.out.below HB.out).at_ hkl
        obtain ⟨b2, o2, hA2, hb2, d0, d1, hrb2, hbc2, hbm2⟩ := (HG.out.below HB.out).at_ hkm
        subst hA
        subst hA2
        obtain ⟨x, hx⟩ : ∃ x, x = fs[k] := ⟨_, rfl⟩
        obtain ⟨y, hy⟩ : ∃ y, y = gs[k] := ⟨_, rfl⟩
        rw [← hx] at c0 c1 hrb hbc hbm
        rw [← hy] at d0 d1 hrb2 hbc2 hbm2
        obtain ⟨nx, hnx⟩ : ∃ nx, nx = x.b.length := ⟨_, rfl⟩
        obtain ⟨ny, hny⟩ : ∃ ny, ny = y.b.length := ⟨_, rfl⟩
        rw [← hnx] at c1 hbc
        rw [← hny] at d1 hbc2
        have HX := Lib.hid hx
        have HY := Lib.hid hy
        have hki : (k : Int) < (n : Int) := by omega
        have hk0 : (0 : Int) ≤ (k : Int) := by omega
        have HSF : Hid (∀ V, Below wr.heap.size wr V → Calls Tryz.prog 52 #[.agg #[.string x.nm, .slice x.A nx x.c], .agg #[.string y.nm, .slice y.A ny y.c]] V fun e w' => e = .returned (.bool (decide (x.nm = y.nm ∧ x.b = y.b))) ∧ Below V.heap.size V w') := Lib.hid (fun V hV => sameFile_any x y nx ny V (hrb.below hV) (hrb2.below hV) hnx.symm hny.symm)
        have HBW : Hid (Below wr.heap.size wr ((wr.alloc (.cells #[.string x.nm, .slice x.A nx x.c] 55)).alloc (.cells #[.string y.nm, .slice y.A ny y.c] 55))) := Lib.hid (((Below.refl _ _).alloc (Nat.le_refl _) _).alloc (by simp) _)
        clear hx hy hnx hny hrb hrb2
        by_cases hE : x.nm = y.nm ∧ x.b = y.b
        · rw [decide_eq_true hE] at HSF
          have HI : Hid (SamK fs gs (k + 1)) := Lib.hid (sam_step HK.out hkl hkm (by rw [← HX.out, ← HY.out]; exact hE.1) (by rw [← HX.out, ← HY.out]; exact hE.2))
          clear hE
          go_wp2_with fail
          refine (HSF.out _ HBW.out).mono ?_
          rintro e w5 ⟨rfl, hb5⟩
          have HB5 : Hid (Below w.heap.size w w5) := Lib.hid (HB.out.trans ((HBW.out.trans (hb5.mono HBW.out.size)).mono HB.out.size))
          clear hb5
          go_wp2
          go_roundw
          case rel => exact ⟨k + 1, by omega, by go_num, HI, HB5⟩
          case measure => simp [intOf]; omega
        · rw [decide_eq_false hE] at HSF
          have HI : Hid (r = false) := by show _ = _; rw [HR.out]; exact sam_not hkl hkm (by rw [← HX.out, ← HY.out]; exact hE)
          clear hE
          go_wp2_with fail
          refine (HSF.out _ HBW.out).mono ?_
          rintro e w5 ⟨rfl, hb5⟩
          have HB5 : Hid (Below w.heap.size w w5) := Lib.hid (HB.out.trans ((HBW.out.trans (hb5.mono HBW.out.size)).mono HB.out.size))
          clear hb5
          go_wp2
          go_ret
          exact ⟨by rw [HI.out]; rfl, HB5.out⟩
      · have q0 : decide ((k : Int) < (n : Int)) = false := by rw [decide_eq_false_iff_not]; omega
        have q0' : decide (k < n) = false := by rw [decide_eq_false_iff_not]; omega
        have HI : Hid (r = true) := by
          show _ = _
          rw [HR.out, decide_eq_true_iff]
          have h1 := HK.out
          unfold SamK at h1
          rw [heq] at h1
          rw [List.take_of_length_le (by rw [fiL_len, HN.out]; omega), List.take_of_length_le (by rw [fiL_len, HM.out]; omega)] at h1
          exact h1
        clear heq
        go_wp2
        go_ret
        exact ⟨by rw [HI.out]; rfl, HB.out⟩
  · have HI : Hid (r = false) := by
      show _ = _
      rw [HR.out, decide_eq_false_iff_not]
      intro e
      have := congrArg List.length e
      rw [fiL_len, fiL_len, HN.out, HM.out] at this
      exact hnm this
    have e1 : ((n : Int) != (m : Int)) = true := by rw [bne_iff_ne]; omega
    have e1' : (n != m) = true := by rw [bne_iff_ne]; exact hnm
    clear hnm
    go_enter Tryz.func51, Tryz.ntmps51
    go_wp2
    go_ret
    exact ⟨by rw [HI.out]; rfl, Below.refl _ _⟩
end Go.Proofs.YtgpcinfhcamgpaaGreatDoor
