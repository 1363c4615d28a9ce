/-
  container/heap.up over a row.
-/
import Derived.Test.YtdhilhjiccpkkaaDueW6
namespace Go.Proofs.Ytdhilhjiccpkkaa
open Go.RowKit
attribute [local go_sem ↓] Go.wp_at_zero Go.wp_at_succ
set_option linter.unusedVariables false

theorem meth_less (a : Addr) (w : World) : (method 224 52 (.pointer (some a)) "Less").run Try.prog w = .ok (80, .pointer (some a)) w := by kernel_rfl
theorem meth_swap (a : Addr) (w : World) : (method 224 52 (.pointer (some a)) "Swap").run Try.prog w = .ok (83, .pointer (some a)) w := by kernel_rfl
theorem meth_len (a : Addr) (w : World) : (method 224 52 (.pointer (some a)) "Len").run Try.prog w = .ok (26, .pointer (some a)) w := by kernel_rfl
theorem meth_push (a : Addr) (w : World) : (method 224 52 (.pointer (some a)) "Push").run Try.prog w = .ok (82, .pointer (some a)) w := by kernel_rfl
theorem meth_pop (a : Addr) (w : World) : (method 224 52 (.pointer (some a)) "Pop").run Try.prog w = .ok (81, .pointer (some a)) w := by kernel_rfl
/-- between two rounds of up -/
structure UpInv (w wr : World) (base r M : Nat) (v : Value) (l l' : List Du) (n j j' : Nat) : Prop where
  perm : l'.Perm l
  up : UpAt ltD (gd l') n j'
  le : j' ≤ j
  far : ∀ k, j < k → gd l' k = gd l k
  hr : HR wr base r M v l'
  fr : Fr (RS r M v) w wr
def UpPost (w : World) (base r M : Nat) (v : Value) (l : List Du) (n j : Nat) (e : Ending) (w' : World) : Prop :=
  ∃ l', e = .returned (.tuple #[]) ∧ l'.Perm l ∧ IsHeap ltD (gd l') n ∧ (∀ k, j < k → gd l' k = gd l k) ∧ HR w' base r M v l' ∧ Fr (RS r M v) w w'
theorem HR.fr_below {w wr w1 : World} {base r M : Nat} {v : Value} {l : List Du} (h : HR wr base r M v l) (hf : Fr (RS r M v) w wr) (hb : Below wr.heap.size wr w1) : HR w1 base r M v l ∧ Fr (RS r M v) w w1 :=
  ⟨h.below hb, hf.trans ((Fr.of_below (S := fun _ => False) hb).mono (fun _ _ x => False.elim x))⟩
theorem UpInv.below {w wr w1 : World} {base r M : Nat} {v : Value} {l l' : List Du} {n j j' : Nat} (h : UpInv w wr base r M v l l' n j j') (hb : Below wr.heap.size wr w1) : UpInv w w1 base r M v l l' n j j' :=
  ⟨h.perm, h.up, h.le, h.far, (h.hr.fr_below h.fr hb).1, (h.hr.fr_below h.fr hb).2⟩
theorem UpInv.step {w wr w1 : World} {base r M : Nat} {v : Value} {l l' : List Du} {n j j' : Nat} (h : UpInv w wr base r M v l l' n j j') (h0 : 0 < j') (hj : j' < l'.length) (hl : ltD (gd l' j') (gd l' ((j' - 1) / 2)) = true)
    (hr : HR w1 base r M v (swL l' ((j' - 1) / 2) j')) (hf : Fr (RS r M v) wr w1) : UpInv w w1 base r M v l (swL l' ((j' - 1) / 2) j') n j ((j' - 1) / 2) := by
  have hp : (j' - 1) / 2 < l'.length := by omega
  refine ⟨(swL_perm hp hj).trans h.perm, ?_, by have := h.le; omega, fun k hk => ?_, hr, h.fr.trans hf⟩
  · rw [swL_gd hp hj]
    exact up_step ordD h.up h0 hl
  · have := h.le
    rw [swL_gd hp hj, sw_o _ (by omega) (by omega)]
    exact h.far k hk
set_option maxRecDepth 100000 in
set_option maxHeartbeats 4000000 in
theorem up_any {w : World} {base r M : Nat} {v : Value} {l : List Du} (h : HR w base r M v l) {n j : Nat} (hu : UpAt ltD (gd l) n j) (hj : j < l.length) :
    Calls Try.prog 42 #[.iface 52 (.pointer (some ⟨r, 0, none⟩)), .int .i64 (j : Int)] w fun e w' => UpPost w base r M v l n j e w' := by
  have HI0 : Hid (UpInv w w base r M v l l n j j) := Lib.hid ⟨List.Perm.refl _, hu, Nat.le_refl _, fun _ _ => rfl, h, Fr.refl _ _⟩
  have hfew := h.few
  obtain ⟨N, hN⟩ : ∃ N, N = l.length := ⟨_, rfl⟩
  rw [← hN] at hj hfew
  have HN := Lib.hid hN
  have ml := fun w => meth_less ⟨r, 0, none⟩ w
  have ms := fun w => meth_swap ⟨r, 0, none⟩ w
  clear h hu hN
  go_enter Try.func42, Try.ntmps42
  go_wp2_with fail
  go_loopw [1] (fun jv wr => ∃ (j' : Nat) (l' : List Du), j' < N ∧ jv = .int .i64 (j' : Int) ∧ Hid (UpInv w wr base r M v l l' n j j')) (fun jv _ => (intOf jv).toNat)
  case atStart => exact ⟨j, l, hj, rfl, HI0⟩
  case round =>
    obtain ⟨j', l', hjn, rfl, HI⟩ := hrel
    clear HI0
    have HL : Hid (l'.length = N) := Lib.hid (by rw [HN.out]; exact HI.out.perm.length_eq)
    rcases Nat.eq_zero_or_pos j' with h0 | h0
    · subst h0
      go_wp2_with fail
      go_end0
      exact ⟨l', rfl, HI.out.perm, up_stop HI.out.up (.inl rfl), HI.out.far, HI.out.hr, HI.out.fr⟩
    · obtain ⟨p, hp⟩ : ∃ p, p = (j' - 1) / 2 := ⟨_, rfl⟩
      have hpj : p < j' := by omega
      have hpe : ((j' : Int) - 1) / 2 = (p : Int) := by omega
      have q1 : (1 : Int) ≤ (j' : Int) := by omega
      have d1 : ((p : Int) == (j' : Int)) = false := by rw [beq_eq_false_iff_ne]; omega
      have d2 : (p == j') = false := by rw [beq_eq_false_iff_ne]; omega
      have HP := Lib.hid hp
      obtain ⟨b, hb⟩ : ∃ b, b = ltD (gd l' j') (gd l' p) := ⟨_, rfl⟩
      have HC : Hid (Calls Try.prog 80 #[.pointer (some ⟨r, 0, none⟩), .int .i64 (j' : Int), .int .i64 (p : Int)] wr fun e w' => e = .returned (.bool b) ∧ Below wr.heap.size wr w') := by
        rw [hb]
        exact Lib.hid (row_less HI.out.hr (by rw [HL.out]; omega) (by rw [HL.out]; omega))
      have HBB := Lib.hid hb
      clear hp hb
      cases b with
      | false =>
        go_wp2_with (go_at_call 80; refine HC.out.mono ?_; rintro e w1 ⟨rfl, hb1⟩)
        have HI1 := Lib.hid (HI.out.below hb1)
        go_end0
        exact ⟨l', rfl, HI1.out.perm, up_stop HI1.out.up (.inr (by rw [← HP.out]; exact HBB.out.symm)), HI1.out.far, HI1.out.hr, HI1.out.fr⟩
      | true =>
        go_wp2_with (go_at_call 80; refine HC.out.mono ?_; rintro e w1 ⟨rfl, hb1⟩)
        have HI1 := Lib.hid (HI.out.below hb1)
        have HS := Lib.hid (row_swap HI1.out.hr (i := p) (k := j') (by rw [HL.out]; omega) (by rw [HL.out]; exact hjn) (by omega))
        clear hb1
        go_wp2_with (go_at_call 83; refine HS.out.mono ?_; rintro e w2 ⟨rfl, h2, f2⟩)
        have HI2 : Hid (UpInv w w2 base r M v l (swL l' p j') n j p) := by
          have hp := HP.out
          have hbb := HBB.out
          subst hp
          exact Lib.hid (HI1.out.step h0 (by rw [HL.out]; exact hjn) hbb.symm h2 f2)
        clear h2 f2
        go_roundw
        case rel => exact ⟨p, swL l' p j', by omega, rfl, HI2⟩
        case measure => simp [intOf]; omega
end Go.Proofs.Ytdhilhjiccpkkaa
