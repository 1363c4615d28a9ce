/-
  container/heap.down over a row.
-/
import Derived.Test.YtdhilhjiccpkkaaDueW7
namespace Go.Proofs.Ytdhilhjiccpkkaa
open Go.RowKit
attribute [local go_sem ↓] Go.wp_at_zero Go.wp_at_succ
set_option linter.unusedVariables false

/-- between two rounds of down -/
structure DownInv (w wr : World) (base r M : Nat) (v : Value) (l l' : List Du) (n i0 i : Nat) : Prop where
  perm : l'.Perm l
  far : ∀ k, n ≤ k → gd l' k = gd l k
  hr : HR wr base r M v l'
  fr : Fr (RS r M v) w wr
  hole : Hole ltD (gd l) n i0
  at_ : (i = i0 ∧ l' = l) ∨ (i0 < i ∧ DownAt ltD (gd l') n i)
def DownPost (w : World) (base r M : Nat) (v : Value) (l : List Du) (n i0 : Nat) (e : Ending) (w' : World) : Prop :=
  ∃ (l' : List Du) (b : Bool), e = .returned (.bool b) ∧ l'.Perm l ∧ (∀ k, n ≤ k → gd l' k = gd l k) ∧ HR w' base r M v l' ∧ Fr (RS r M v) w w' ∧ (b = true → IsHeap ltD (gd l') n) ∧ (b = false → l' = l ∧ UpAt ltD (gd l) n i0)
theorem DownInv.below {w wr w1 : World} {base r M : Nat} {v : Value} {l l' : List Du} {n i0 i : Nat} (h : DownInv w wr base r M v l l' n i0 i) (hb : Below wr.heap.size wr w1) : DownInv w w1 base r M v l l' n i0 i :=
  ⟨h.perm, h.far, (h.hr.fr_below h.fr hb).1, (h.hr.fr_below h.fr hb).2, h.hole, h.at_⟩
theorem DownInv.step {w wr w1 : World} {base r M : Nat} {v : Value} {l l' : List Du} {n i0 i c : Nat} (h : DownInv w wr base r M v l l' n i0 i) (hcp : (c - 1) / 2 = i) (hc0 : 0 < c) (hcn : c < n) (hnl : n ≤ l'.length)
    (hm : ∀ k, 0 < k → k < n → (k - 1) / 2 = i → ltD (gd l' k) (gd l' c) = false) (hl : ltD (gd l' c) (gd l' i) = true) (hr : HR w1 base r M v (swL l' i c)) (hf : Fr (RS r M v) wr w1) : DownInv w w1 base r M v l (swL l' i c) n i0 c := by
  have hi : i < l'.length := by omega
  have hc : c < l'.length := by omega
  have hd : DownAt ltD (gd l') n i := by
    rcases h.at_ with ⟨e1, e2⟩ | ⟨_, hd⟩
    · rw [e2, e1]
      exact hole_down ordD h.hole (hcp.trans e1) hc0 hcn (by rw [e2, e1] at hl; exact hl)
    · exact hd
  refine ⟨(swL_perm hi hc).trans h.perm, fun k hk => ?_, hr, h.fr.trans hf, h.hole, .inr ⟨?_, ?_⟩⟩
  · rw [swL_gd hi hc, sw_o _ (by omega) (by omega)]
    exact h.far k hk
  · rcases h.at_ with ⟨e1, _⟩ | ⟨e, _⟩ <;> omega
  · rw [swL_gd hi hc]
    exact down_step ordD hd hcp hc0 hcn hm hl
theorem DownInv.done {w wr : World} {base r M : Nat} {v : Value} {l l' : List Du} {n i0 i : Nat} (h : DownInv w wr base r M v l l' n i0 i) {b : Bool} (hb : b = decide (i0 < i)) (hm : ∀ k, 0 < k → k < n → (k - 1) / 2 = i → ltD (gd l' k) (gd l' i) = false) : DownPost w base r M v l n i0 (.returned (.bool b)) wr := by
  refine ⟨l', b, rfl, h.perm, h.far, h.hr, h.fr, fun e => ?_, fun e => ?_⟩
  · rcases h.at_ with ⟨e1, _⟩ | ⟨_, hd⟩
    · subst hb; simp [e1] at e
    · exact down_stop ordD hd hm
  · rcases h.at_ with ⟨e1, e2⟩ | ⟨e1, _⟩
    · subst e1 e2
      exact ⟨rfl, hole_up h.hole hm⟩
    · subst hb; simp [e1] at e
theorem stop_of {f : Nat → Du} {n i c : Nat} (hm : ∀ k, 0 < k → k < n → (k - 1) / 2 = i → ltD (f k) (f c) = false) (hl : ltD (f c) (f i) = false) : ∀ k, 0 < k → k < n → (k - 1) / 2 = i → ltD (f k) (f i) = false :=
  fun k h1 h2 h3 => ordD.ntr _ _ _ (hm k h1 h2 h3) hl
set_option maxRecDepth 100000 in
set_option maxHeartbeats 8000000 in
theorem down_any {w : World} {base r M : Nat} {v : Value} {l : List Du} (h : HR w base r M v l) {n i0 : Nat} (hh : Hole ltD (gd l) n i0) (hi : i0 < n) (hn : n ≤ l.length) :
    Calls Try.prog 41 #[.iface 52 (.pointer (some ⟨r, 0, none⟩)), .int .i64 (i0 : Int), .int .i64 (n : Int)] w fun e w' => DownPost w base r M v l n i0 e w' := by
  have HI0 : Hid (DownInv w w base r M v l l n i0 i0) := Lib.hid ⟨List.Perm.refl _, fun _ _ => rfl, h, Fr.refl _ _, hh, .inl ⟨rfl, rfl⟩⟩
  have hfew := h.few
  obtain ⟨N, hN⟩ : ∃ N, N = l.length := ⟨_, rfl⟩
  rw [← hN] at hn hfew
  have HN := Lib.hid hN
  have ml := fun w => meth_less ⟨r, 0, none⟩ w
  have ms := fun w => meth_swap ⟨r, 0, none⟩ w
  clear h hh hN
  go_enter Try.func41, Try.ntmps41
  go_wp2_with fail
  go_loopw [7] (fun iv wr => ∃ (i : Nat) (l' : List Du), i < n ∧ iv = .int .i64 (i : Int) ∧ Hid (DownInv w wr base r M v l l' n i0 i)) (fun iv _ => n - (intOf iv).toNat)
  case atStart => exact ⟨i0, l, hi, rfl, HI0⟩
  case round =>
    obtain ⟨i, l', hin, rfl, HI⟩ := hrel
    clear HI0
    have HL : Hid (l'.length = N) := Lib.hid (by rw [HN.out]; exact HI.out.perm.length_eq)
    have q0 : (0 : Int) ≤ (i : Int) := by omega
    have q1 : (i : Int) ≤ 256 := by omega
    have HLE : Hid (i0 ≤ i) := Lib.hid (by rcases HI.out.at_ with ⟨e, _⟩ | ⟨e, _⟩ <;> omega)
    have g1 : decide (2 * (i : Int) + 1 < 0) = false := by rw [decide_eq_false_iff_not]; omega
    rcases Nat.lt_or_ge (2 * i + 1) n with hc1 | hc1
    · have k0 : decide ((n : Int) ≤ 2 * (i : Int) + 1) = false := by rw [decide_eq_false_iff_not]; omega
      rcases Nat.lt_or_ge (2 * i + 2) n with hc2 | hc2
      · obtain ⟨b2, hb2⟩ : ∃ b2, b2 = ltD (gd l' (2 * i + 2)) (gd l' (2 * i + 1)) := ⟨_, rfl⟩
        have HB2 := Lib.hid hb2
        have HC2 : Hid (Calls Try.prog 80 #[.pointer (some ⟨r, 0, none⟩), .int .i64 (2 * (i : Int) + 1 + 1), .int .i64 (2 * (i : Int) + 1)] wr fun e w' => e = .returned (.bool b2) ∧ Below wr.heap.size wr w') := by
          have := row_less HI.out.hr (i := 2 * i + 2) (k := 2 * i + 1) (by rw [HL.out]; omega) (by rw [HL.out]; omega)
          rw [← hb2, show ((2 * i + 2 : Nat) : Int) = 2 * (i : Int) + 1 + 1 from by omega, show ((2 * i + 1 : Nat) : Int) = 2 * (i : Int) + 1 from by omega] at this
          exact Lib.hid this
        clear hb2
        cases b2 with
        | false =>
          have k1 : decide (2 * (i : Int) + 1 + 1 < (n : Int)) = true := by rw [decide_eq_true_iff]; omega
          have k2 : decide (2 * (i : Int) + 2 < (n : Int)) = true := by rw [decide_eq_true_iff]; omega
          have HM : Hid (∀ k, 0 < k → k < n → (k - 1) / 2 = i → ltD (gd l' k) (gd l' (2 * i + 1)) = false) := Lib.hid (child_left ordD ltD_irrefl (.inr HB2.out.symm))
          obtain ⟨c, hc⟩ : ∃ c, c = 2 * i + 1 := ⟨_, rfl⟩
          rw [← hc] at HM
          have HCP : Hid ((c - 1) / 2 = i ∧ 0 < c ∧ c < n ∧ i < c) := Lib.hid ⟨by omega, by omega, by omega, by omega⟩
          obtain ⟨b, hb⟩ : ∃ b, b = ltD (gd l' c) (gd l' i) := ⟨_, rfl⟩
          have HB := Lib.hid hb
          have HCC : Hid ((c : Int) = 2 * (i : Int) + 1) := Lib.hid (by omega)
          clear hc hb hc2
          go_wp2_with fail
          refine HC2.out.mono ?_
          rintro e w1 ⟨rfl, hb1⟩
          have HI1 := Lib.hid (HI.out.below hb1)
          have HCI : Hid (Calls Try.prog 80 #[.pointer (some ⟨r, 0, none⟩), .int .i64 (2 * (i : Int) + 1), .int .i64 (i : Int)] w1 fun e w' => e = .returned (.bool b) ∧ Below w1.heap.size w1 w') := by
            have := row_less HI1.out.hr (i := c) (k := i) (by rw [HL.out]; have := HCP.out; omega) (by rw [HL.out]; omega)
            rw [← HB.out, HCC.out] at this
            exact Lib.hid this
          clear hb1
          cases b with
          | false =>
            have HB' : Hid (ltD (gd l' c) (gd l' i) = false) := Lib.hid HB.out.symm
            rcases Nat.lt_or_ge i0 i with hx | hx
            · have x1 : decide ((i0 : Int) < (i : Int)) = true := by rw [decide_eq_true_iff]; omega
              have x2 : decide (i0 < i) = true := decide_eq_true hx
              have HX : Hid (i0 < i) := Lib.hid hx
              clear hx
              go_wp2_with (go_at_call 80; refine HCI.out.mono ?_; rintro e w2 ⟨rfl, hb2⟩)
              have HI2 := Lib.hid (HI1.out.below hb2)
              clear hb2
              go_ret
              exact DownInv.done HI2.out (by rw [decide_eq_true HX.out]) (stop_of HM.out HB'.out)
            · have x1 : decide ((i0 : Int) < (i : Int)) = false := by rw [decide_eq_false_iff_not]; omega
              have x2 : decide (i0 < i) = false := decide_eq_false (by omega)
              have HX : Hid (¬ i0 < i) := Lib.hid (by omega)
              clear hx
              go_wp2_with (go_at_call 80; refine HCI.out.mono ?_; rintro e w2 ⟨rfl, hb2⟩)
              have HI2 := Lib.hid (HI1.out.below hb2)
              clear hb2
              go_ret
              exact DownInv.done HI2.out (by rw [decide_eq_false HX.out]) (stop_of HM.out HB'.out)
          | true =>
            have HB' : Hid (ltD (gd l' c) (gd l' i) = true) := Lib.hid HB.out.symm
            go_wp2_with (go_at_call 80; refine HCI.out.mono ?_; rintro e w2 ⟨rfl, hb2⟩)
            have HI2 := Lib.hid (HI1.out.below hb2)
            have HS : Hid (Calls Try.prog 83 #[.pointer (some ⟨r, 0, none⟩), .int .i64 (i : Int), .int .i64 (2 * (i : Int) + 1)] w2 fun e w' => e = .returned (.tuple #[]) ∧ HR w' base r M v (swL l' i c) ∧ Fr (RS r M v) w2 w') := by
              have hcp := HCP.out
              have := row_swap HI2.out.hr (i := i) (k := c) (by rw [HL.out]; omega) (by rw [HL.out]; omega) (by omega)
              rw [HCC.out] at this
              exact Lib.hid this
            clear hb2
            go_wp2_with (go_at_call 83; refine HS.out.mono ?_; rintro e w3 ⟨rfl, h3, f3⟩)
            have HI3 : Hid (DownInv w w3 base r M v l (swL l' i c) n i0 c) := by
              have hcp := HCP.out
              exact Lib.hid (HI2.out.step hcp.1 hcp.2.1 hcp.2.2.1 (by rw [HL.out]; exact hn) HM.out HB'.out h3 f3)
            clear h3 f3
            go_roundw
            case rel => exact ⟨c, swL l' i c, HCP.out.2.2.1, by rw [HCC.out], HI3⟩
            case measure => have := HCP.out; have := HCC.out; simp [intOf]; omega
        | true =>
          have k1 : decide (2 * (i : Int) + 1 + 1 < (n : Int)) = true := by rw [decide_eq_true_iff]; omega
          have k2 : decide (2 * (i : Int) + 2 < (n : Int)) = true := by rw [decide_eq_true_iff]; omega
          have HM : Hid (∀ k, 0 < k → k < n → (k - 1) / 2 = i → ltD (gd l' k) (gd l' (2 * i + 2)) = false) := Lib.hid (child_right ordD ltD_irrefl HB2.out.symm)
          obtain ⟨c, hc⟩ : ∃ c, c = 2 * i + 2 := ⟨_, rfl⟩
          rw [← hc] at HM
          have HCP : Hid ((c - 1) / 2 = i ∧ 0 < c ∧ c < n ∧ i < c) := Lib.hid ⟨by omega, by omega, by omega, by omega⟩
          obtain ⟨b, hb⟩ : ∃ b, b = ltD (gd l' c) (gd l' i) := ⟨_, rfl⟩
          have HB := Lib.hid hb
          have HCC : Hid ((c : Int) = 2 * (i : Int) + 1 + 1) := Lib.hid (by omega)
          clear hc hb hc2
          go_wp2_with fail
          refine HC2.out.mono ?_
          rintro e w1 ⟨rfl, hb1⟩
          have HI1 := Lib.hid (HI.out.below hb1)
          have HCI : Hid (Calls Try.prog 80 #[.pointer (some ⟨r, 0, none⟩), .int .i64 (2 * (i : Int) + 1 + 1), .int .i64 (i : Int)] w1 fun e w' => e = .returned (.bool b) ∧ Below w1.heap.size w1 w') := by
            have := row_less HI1.out.hr (i := c) (k := i) (by rw [HL.out]; have := HCP.out; omega) (by rw [HL.out]; omega)
            rw [← HB.out, HCC.out] at this
            exact Lib.hid this
          clear hb1
          cases b with
          | false =>
            have HB' : Hid (ltD (gd l' c) (gd l' i) = false) := Lib.hid HB.out.symm
            rcases Nat.lt_or_ge i0 i with hx | hx
            · have x1 : decide ((i0 : Int) < (i : Int)) = true := by rw [decide_eq_true_iff]; omega
              have x2 : decide (i0 < i) = true := decide_eq_true hx
              have HX : Hid (i0 < i) := Lib.hid hx
              clear hx
              go_wp2_with (go_at_call 80; refine HCI.out.mono ?_; rintro e w2 ⟨rfl, hb2⟩)
              have HI2 := Lib.hid (HI1.out.below hb2)
              clear hb2
              go_ret
              exact DownInv.done HI2.out (by rw [decide_eq_true HX.out]) (stop_of HM.out HB'.out)
            · have x1 : decide ((i0 : Int) < (i : Int)) = false := by rw [decide_eq_false_iff_not]; omega
              have x2 : decide (i0 < i) = false := decide_eq_false (by omega)
              have HX : Hid (¬ i0 < i) := Lib.hid (by omega)
              clear hx
              go_wp2_with (go_at_call 80; refine HCI.out.mono ?_; rintro e w2 ⟨rfl, hb2⟩)
              have HI2 := Lib.hid (HI1.out.below hb2)
              clear hb2
              go_ret
              exact DownInv.done HI2.out (by rw [decide_eq_false HX.out]) (stop_of HM.out HB'.out)
          | true =>
            have HB' : Hid (ltD (gd l' c) (gd l' i) = true) := Lib.hid HB.out.symm
            go_wp2_with (go_at_call 80; refine HCI.out.mono ?_; rintro e w2 ⟨rfl, hb2⟩)
            have HI2 := Lib.hid (HI1.out.below hb2)
            have HS : Hid (Calls Try.prog 83 #[.pointer (some ⟨r, 0, none⟩), .int .i64 (i : Int), .int .i64 (2 * (i : Int) + 1 + 1)] w2 fun e w' => e = .returned (.tuple #[]) ∧ HR w' base r M v (swL l' i c) ∧ Fr (RS r M v) w2 w') := by
              have hcp := HCP.out
              have := row_swap HI2.out.hr (i := i) (k := c) (by rw [HL.out]; omega) (by rw [HL.out]; omega) (by omega)
              rw [HCC.out] at this
              exact Lib.hid this
            clear hb2
            go_wp2_with (go_at_call 83; refine HS.out.mono ?_; rintro e w3 ⟨rfl, h3, f3⟩)
            have HI3 : Hid (DownInv w w3 base r M v l (swL l' i c) n i0 c) := by
              have hcp := HCP.out
              exact Lib.hid (HI2.out.step hcp.1 hcp.2.1 hcp.2.2.1 (by rw [HL.out]; exact hn) HM.out HB'.out h3 f3)
            clear h3 f3
            go_roundw
            case rel => exact ⟨c, swL l' i c, HCP.out.2.2.1, by rw [HCC.out], HI3⟩
            case measure => have := HCP.out; have := HCC.out; simp [intOf]; omega
      · skip
        have hc2' : n ≤ 2 * i + 2 := hc2
        have k1 : decide (2 * (i : Int) + 1 + 1 < (n : Int)) = false := by rw [decide_eq_false_iff_not]; omega
        have k2 : decide (2 * (i : Int) + 2 < (n : Int)) = false := by rw [decide_eq_false_iff_not]; omega
        have HM : Hid (∀ k, 0 < k → k < n → (k - 1) / 2 = i → ltD (gd l' k) (gd l' (2 * i + 1)) = false) := Lib.hid (child_left ordD ltD_irrefl (.inl hc2'))
        obtain ⟨c, hc⟩ : ∃ c, c = 2 * i + 1 := ⟨_, rfl⟩
        rw [← hc] at HM
        have HCP : Hid ((c - 1) / 2 = i ∧ 0 < c ∧ c < n ∧ i < c) := Lib.hid ⟨by omega, by omega, by omega, by omega⟩
        obtain ⟨b, hb⟩ : ∃ b, b = ltD (gd l' c) (gd l' i) := ⟨_, rfl⟩
        have HB := Lib.hid hb
        have HCC : Hid ((c : Int) = 2 * (i : Int) + 1) := Lib.hid (by omega)
        have HI1 := HI
        have HCI : Hid (Calls Try.prog 80 #[.pointer (some ⟨r, 0, none⟩), .int .i64 (2 * (i : Int) + 1), .int .i64 (i : Int)] wr fun e w' => e = .returned (.bool b) ∧ Below wr.heap.size wr w') := by
          have := row_less HI1.out.hr (i := c) (k := i) (by rw [HL.out]; omega) (by rw [HL.out]; omega)
          rw [← HB.out, HCC.out] at this
          exact Lib.hid this
        clear hc hb hc2' hc2
        cases b with
        | false =>
          have HB' : Hid (ltD (gd l' c) (gd l' i) = false) := Lib.hid HB.out.symm
          rcases Nat.lt_or_ge i0 i with hx | hx
          · have x1 : decide ((i0 : Int) < (i : Int)) = true := by rw [decide_eq_true_iff]; omega
            have x2 : decide (i0 < i) = true := decide_eq_true hx
            have HX : Hid (i0 < i) := Lib.hid hx
            clear hx
            go_wp2_with (go_at_call 80; refine HCI.out.mono ?_; rintro e w2 ⟨rfl, hb2⟩)
            have HI2 := Lib.hid (HI1.out.below hb2)
            clear hb2
            go_ret
            exact DownInv.done HI2.out (by rw [decide_eq_true HX.out]) (stop_of HM.out HB'.out)
          · have x1 : decide ((i0 : Int) < (i : Int)) = false := by rw [decide_eq_false_iff_not]; omega
            have x2 : decide (i0 < i) = false := decide_eq_false (by omega)
            have HX : Hid (¬ i0 < i) := Lib.hid (by omega)
            clear hx
            go_wp2_with (go_at_call 80; refine HCI.out.mono ?_; rintro e w2 ⟨rfl, hb2⟩)
            have HI2 := Lib.hid (HI1.out.below hb2)
            clear hb2
            go_ret
            exact DownInv.done HI2.out (by rw [decide_eq_false HX.out]) (stop_of HM.out HB'.out)
        | true =>
          have HB' : Hid (ltD (gd l' c) (gd l' i) = true) := Lib.hid HB.out.symm
          go_wp2_with (go_at_call 80; refine HCI.out.mono ?_; rintro e w2 ⟨rfl, hb2⟩)
          have HI2 := Lib.hid (HI1.out.below hb2)
          have HS : Hid (Calls Try.prog 83 #[.pointer (some ⟨r, 0, none⟩), .int .i64 (i : Int), .int .i64 (2 * (i : Int) + 1)] w2 fun e w' => e = .returned (.tuple #[]) ∧ HR w' base r M v (swL l' i c) ∧ Fr (RS r M v) w2 w') := by
            have hcp := HCP.out
            have := row_swap HI2.out.hr (i := i) (k := c) (by rw [HL.out]; omega) (by rw [HL.out]; omega) (by omega)
            rw [HCC.out] at this
            exact Lib.hid this
          clear hb2
          go_wp2_with (go_at_call 83; refine HS.out.mono ?_; rintro e w3 ⟨rfl, h3, f3⟩)
          have HI3 : Hid (DownInv w w3 base r M v l (swL l' i c) n i0 c) := by
            have hcp := HCP.out
            exact Lib.hid (HI2.out.step hcp.1 hcp.2.1 hcp.2.2.1 (by rw [HL.out]; exact hn) HM.out HB'.out h3 f3)
          clear h3 f3
          go_roundw
          case rel => exact ⟨c, swL l' i c, HCP.out.2.2.1, by rw [HCC.out], HI3⟩
          case measure => have := HCP.out; have := HCC.out; simp [intOf]; omega
    · have k0 : decide ((n : Int) ≤ 2 * (i : Int) + 1) = true := by rw [decide_eq_true_iff]; omega
      have HC1 := Lib.hid hc1
      rcases Nat.lt_or_ge i0 i with hx | hx
      · have x1 : decide ((i0 : Int) < (i : Int)) = true := by rw [decide_eq_true_iff]; omega
        have x2 : decide (i0 < i) = true := decide_eq_true hx
        have HX : Hid (i0 < i) := Lib.hid hx
        clear hx
        go_wp2
        go_ret
        exact DownInv.done HI.out (by rw [decide_eq_true HX.out]) (fun k h1 h2 h3 => by have := HC1.out; omega)
      · have x1 : decide ((i0 : Int) < (i : Int)) = false := by rw [decide_eq_false_iff_not]; omega
        have x2 : decide (i0 < i) = false := decide_eq_false (by omega)
        have HX : Hid (¬ i0 < i) := Lib.hid (by omega)
        clear hx
        go_wp2
        go_ret
        exact DownInv.done HI.out (by rw [decide_eq_false HX.out]) (fun k h1 h2 h3 => by have := HC1.out; omega)
end Go.Proofs.Ytdhilhjiccpkkaa
