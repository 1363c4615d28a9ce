/-
  The document's queue: Drop of any name, Until.
-/
import Derived.Test.YtdhilhjiccpkkaaDueR2
namespace Go.Proofs.Ytdhilhjiccpkkaa
open Go.RowKit
set_option linter.unusedVariables false

theorem take_drop_erase {X : List Du} {s : ByteArray} {i : Nat} (hn : (Nm X).Nodup) (hi : idxL X s = some i) : X.take i ++ X.drop (i + 1) = dropX X s := by
  obtain ⟨h1, h2⟩ := (idx_iff hn).1 hi
  rw [← erase_filter hn h1 h2, List.eraseIdx_eq_take_drop_succ]
set_option maxRecDepth 100000 in
theorem xdrop_none {x c : Nat} {A : Option Addr} {X : List Du} (w : World) (h : XAt w x A c X) (s : ByteArray) (hf : X.length ≤ 256) (hi : idxL X s = none) :
    Calls Try.prog 23 #[.pointer (some ⟨x, 0, none⟩), .string s] w fun e w' => e = .returned (.int .i64 4) ∧ w' = w := by
  have HF := Lib.hid (xfind_any w h s hf)
  have hfi : findI X s = -1 := by unfold findI; rw [hi]
  rw [hfi] at HF
  clear h hf hi hfi
  go_enter Try.func23, Try.ntmps23
  go_wp2_with fail
  refine HF.out.mono ?_
  rintro e w1 ⟨rfl, rfl⟩
  go_wp2
  go_ret
  exact ⟨rfl, rfl⟩
theorem xdrop_any {x c : Nat} {A : Option Addr} {X : List Du} (w : World) (h : XAt w x A c X) (s : ByteArray) (hf : X.length ≤ 256) (hn : (Nm X).Nodup) :
    Calls Try.prog 23 #[.pointer (some ⟨x, 0, none⟩), .string s] w fun e w' => XPost w x A (.returned (.int .i64 (dropE X s))) (dropX X s) e w' := by
  cases hi : idxL X s with
  | none =>
    refine (xdrop_none w h s hf hi).mono ?_
    rintro e w' ⟨rfl, rfl⟩
    unfold dropE
    rw [if_pos hi, drop_none (idx_none.1 hi)]
    exact ⟨A, c, rfl, h, Fr.refl _ _, fun ad e => .inl ⟨ad, e, rfl⟩⟩
  | some i =>
    have := xdrop_some w h s hf hi
    unfold dropE
    rw [if_neg (by rw [hi]; simp), ← take_drop_erase hn hi]
    exact this
/-- what stands in the list is not the queue's own cell -/
theorem RL.ne {w : World} {A : Option Addr} {L : List Du} {x : Nat} {t : TypeId} {v : Value} (h : RL w A L) (hb : Blk w x t #[v]) (hv : ∀ s, v ≠ .string s) : L = [] ∨ ∀ ad, A = some ad → ad.block ≠ x := by
  rcases h with h | ⟨b, o, rfl, _, hc⟩
  · exact .inl h
  · rcases Nat.eq_zero_or_pos L.length with h0 | h0
    · exact .inl (List.eq_nil_of_length_eq_zero h0)
    · refine .inr fun ad e e2 => ?_
      cases e
      subst e2
      have h1 := (hc 0 h0).1
      rw [Nat.zero_mul, Nat.add_zero, hb.cell] at h1
      cases o with
      | zero =>
        simp at h1
        exact hv _ h1
      | succ k => simp at h1
theorem RL.setx {w : World} {A : Option Addr} {L : List Du} {x : Nat} {t : TypeId} {v : Value} (h : RL w A L) (hb : Blk w x t #[v]) (hv : ∀ s, v ≠ .string s) (u : Value) : RL (w.setCell ⟨x, 0, none⟩ u) A L := by
  rcases h.ne hb hv with e | e
  · exact .inl e
  · exact h.fr (fr_cell' x 0 u) (fun ad e1 e2 => e ad e1 e2)
/-- behind the two cuts -/
theorem XAt.cut {w : World} {x c k : Nat} {A A' : Option Addr} {X : List Du} (h : XAt w x A c X) (hk : k ≤ X.length) (c' : Nat) (hr : RL w A' (X.drop k)) (hc : X.length - k ≤ c' ∧ c' ≤ c) (hform : (A' = none ∧ c' = 0) ∨ ∃ b o, A' = some ⟨b, o, none⟩ ∧ b < w.heap.size) :
    XAt (w.setCell ⟨x, 0, none⟩ (.slice A' (X.length - k) c')) x A' c' (X.drop k) := by
  have hx := h.blk.lt
  have hf : Fr (· = x) w (w.setCell ⟨x, 0, none⟩ (.slice A' (X.length - k) c')) := fr_cell' x 0 _
  refine ⟨?_, hr.setx h.blk (fun s e => by cases e) _, by rw [List.length_drop]; exact hc.1, Nat.le_trans hc.2 h.cm, ?_⟩
  · have := h.blk.set_ 0 (.slice A' (X.length - k) c')
    rw [List.length_drop]
    exact this
  · rcases hform with e | ⟨b, o, e, hb⟩
    · exact .inl e
    · exact .inr ⟨b, o, e, Nat.lt_of_lt_of_le hb hf.size⟩
def XUntil (w : World) (x : Nat) (A : Option Addr) (X : List Du) (t : Int) (e : Ending) (w' : World) : Prop :=
  ∃ A' c' A0 c0, e = .returned (.slice A0 (untilL X t).length c0) ∧ RL w' A0 (untilL X t) ∧ XAt w' x A' c' (untilR X t) ∧ Fr (· = x) w w' ∧ ∀ ad, A' = some ad → ∃ ad0, A = some ad0 ∧ ad0.block = ad.block
set_option maxRecDepth 100000 in
set_option maxHeartbeats 2000000 in
theorem xuntil_any {x c : Nat} {A : Option Addr} {X : List Du} (w : World) (h : XAt w x A c X) (t : Int) (hf : X.length ≤ 256) :
    Calls Try.prog 24 #[.pointer (some ⟨x, 0, none⟩), .int .i64 t] w fun e w' => XUntil w x A X t e w' := by
  have c0 := h.blk.cell 0
  have f0 := h.blk.frozen 0
  simp only [List.getElem?_toArray, List.getElem?_cons_zero] at c0 f0
  obtain ⟨n, hn⟩ : ∃ n, n = X.length := ⟨_, rfl⟩
  have hle := h.le
  have hcm := h.cm
  unfold maxLen at hcm
  rw [← hn] at c0 hf hle
  have HN := Lib.hid hn
  have HH := Lib.hid h
  have HR := Lib.hid h.rl
  clear h hn
  go_enter Try.func24, Try.ntmps24
  go_wp2
  go_loopw [5] (fun i wr => ∃ k : Nat, k ≤ n ∧ i = .int .i64 (k : Int) ∧ wr = w ∧ Hid (∀ j, j < k → (gd X j).2 ≤ t)) (fun i _ => n - (intOf i).toNat)
  case atStart => exact ⟨0, Nat.zero_le _, rfl, rfl, Lib.hid (fun j hj => by omega)⟩
  case round =>
    obtain ⟨k, hk, rfl, rfl, HI⟩ := hrel
    have fin : Hid (k = n ∨ t < (gd X k).2) → k ≤ n → True := fun _ _ => trivial
    rcases (by omega : k < n ∨ k = n) with hlt | heq
    · have hkX : k < X.length := by rw [← HN.out]; exact hlt
      rcases HR.out with e | ⟨b, o, rfl, _, hc⟩
      · subst e; simp at hkX
      have x1 := (hc k hkX).2
      have q0 : decide ((k : Int) < (n : Int)) = true := by rw [decide_eq_true_iff]; omega
      have q0' : decide (k < n) = true := by rw [decide_eq_true_iff]; omega
      have q1 : (0 : Int) ≤ (k : Int) := by omega
      have q2 : (k : Int) < (n : Int) := by omega
      obtain ⟨a, ha⟩ : ∃ a, a = (gd X k).2 := ⟨_, rfl⟩
      rw [← ha] at x1
      have HA := Lib.hid ha
      have HC := Lib.hid hc
      clear hc ha hkX fin
      by_cases hE : a ≤ t
      · have b0 : decide (a ≤ t) = true := decide_eq_true hE
        have HI2 : Hid (∀ j, j < k + 1 → (gd X j).2 ≤ t) := Lib.hid (fun j hj => by
          rcases (by omega : j < k ∨ j = k) with h | rfl
          · exact HI.out j h
          · rw [← HA.out]; exact hE)
        clear hE
        go_wp2
        go_roundw
        case rel => exact ⟨k + 1, by omega, by go_num, by first | rfl | trivial, HI2⟩
        case measure => simp [intOf]; omega
      · have b0 : decide (a ≤ t) = false := decide_eq_false hE
        have hU := until_at HI.out (by rw [← HN.out]; exact hk) (.inr (by rw [← HA.out]; omega))
        have HU := Lib.hid hU
        have q3 : (k : Int) ≤ (c : Int) := by omega
        have q4 : (k : Int) ≤ (n : Int) := by omega
        have q5 : (n : Int) ≤ (c : Int) := by omega
        have hkc : k < c := by omega
        clear hE hU
        have HE : Hid (XUntil wr x (some ⟨b, o, none⟩) X t (.returned (.slice (some ⟨b, o, none⟩) k c)) (wr.setCell ⟨x, 0, none⟩ (.slice (some ⟨b, o + k * 2, none⟩) (n - k) (c - k)))) := Lib.hid (by
          have hk2 : k ≤ X.length := by rw [← HN.out]; exact hk
          have h1 := HH.out.cut hk2 (c - k) (HR.out.drop k) (by rw [← HN.out]; omega) (.inr ⟨b, _, rfl, by assumption⟩)
          rw [← HN.out] at h1
          have hl : (untilL X t).length = k := by rw [HU.out.1, List.length_take]; omega
          refine ⟨_, _, some ⟨b, o, none⟩, c, by rw [hl], ?_, by rw [HU.out.2]; exact h1, fr_cell' x 0 _, fun ad e => ⟨_, rfl, by cases e; rfl⟩⟩
          rw [HU.out.1]
          exact (HR.out.take hk2).setx HH.out.blk (fun s e => by cases e) _)
        go_wp2
        go_ret
        exact HE.out
    · have hU := until_at HI.out (by rw [← HN.out]; exact hk) (.inl (by rw [heq]; exact HN.out))
      have HU := Lib.hid hU
      have q0 : decide ((k : Int) < (n : Int)) = false := by rw [decide_eq_false_iff_not]; omega
      have q0' : decide (k < n) = false := by rw [decide_eq_false_iff_not]; omega
      have HK := Lib.hid heq
      clear hU heq fin
      rcases HH.out.form with ⟨rfl, rfl⟩ | ⟨b, o, rfl, hb⟩
      · obtain rfl : n = 0 := by omega
        obtain rfl : k = 0 := HK.out
        have HE : Hid (XUntil wr x none X t (.returned (.slice none 0 0)) (wr.setCell ⟨x, 0, none⟩ (.slice none 0 0))) := Lib.hid (by
          have h1 := HH.out.cut (k := 0) (Nat.zero_le _) 0 (A' := none) (by rw [List.drop_zero]; exact HR.out) (by rw [← HN.out]; omega) (.inl ⟨rfl, rfl⟩)
          rw [← HN.out] at h1
          have hl : (untilL X t).length = 0 := by rw [HU.out.1, List.length_take]; omega
          refine ⟨_, _, none, 0, by rw [hl], ?_, by rw [HU.out.2]; exact h1, fr_cell' x 0 _, fun ad e => by cases e⟩
          rw [HU.out.1]
          exact .inl (by simp))
        clear hle hcm hf hk
        rw [show ((0 : Nat) : Int) = 0 from rfl] at *
        go_wp2
        go_ret
        exact HE.out
      · have q4 : (k : Int) ≤ (n : Int) := by omega
        have q5 : (n : Int) ≤ (c : Int) := by omega
        have q6 : (k : Int) ≤ (c : Int) := by omega
        have q7 : (0 : Int) ≤ (k : Int) := by omega
        have hRN : Hid (∀ (w1 : World) A1, RL w1 A1 (X.drop k)) := Lib.hid (fun w1 A1 => .inl (List.eq_nil_of_length_eq_zero (by rw [List.length_drop, ← HN.out, HK.out]; omega)))
        have hk2 : k ≤ X.length := by rw [← HN.out]; exact hk
        have HK2 := Lib.hid hk2
        have hl : (untilL X t).length = k := by rw [HU.out.1, List.length_take]; omega
        have HL := Lib.hid hl
        have HB := Lib.hid hb
        clear hk2 hl hb
        by_cases hcap : k = c
        · have HE : Hid (XUntil wr x (some ⟨b, o, none⟩) X t (.returned (.slice (some ⟨b, o, none⟩) k c)) (wr.setCell ⟨x, 0, none⟩ (.slice (some ⟨b, o, none⟩) (n - k) 0))) := Lib.hid (by
            have h1 := HH.out.cut HK2.out 0 (hRN.out wr (some ⟨b, o, none⟩)) (by rw [← HN.out, HK.out]; omega) (.inr ⟨b, _, rfl, HB.out⟩)
            rw [← HN.out] at h1
            refine ⟨_, _, some ⟨b, o, none⟩, c, by rw [HL.out], ?_, by rw [HU.out.2]; exact h1, fr_cell' x 0 _, fun ad e => ⟨_, rfl, by cases e; rfl⟩⟩
            rw [HU.out.1]
            exact (HR.out.take HK2.out).setx HH.out.blk (fun s e => by cases e) _)
          rw [show n - k = 0 from by omega, hcap] at HE
          go_wp2
          go_ret
          exact HE.out
        · have hkc : k < c := by omega
          have HE : Hid (XUntil wr x (some ⟨b, o, none⟩) X t (.returned (.slice (some ⟨b, o, none⟩) k c)) (wr.setCell ⟨x, 0, none⟩ (.slice (some ⟨b, o + k * 2, none⟩) (n - k) (c - k)))) := Lib.hid (by
            have h1 := HH.out.cut HK2.out (c - k) (hRN.out wr (some ⟨b, o + k * 2, none⟩)) (by rw [← HN.out, HK.out]; omega) (.inr ⟨b, _, rfl, HB.out⟩)
            rw [← HN.out] at h1
            refine ⟨_, _, some ⟨b, o, none⟩, c, by rw [HL.out], ?_, by rw [HU.out.2]; exact h1, fr_cell' x 0 _, fun ad e => ⟨_, rfl, by cases e; rfl⟩⟩
            rw [HU.out.1]
            exact (HR.out.take HK2.out).setx HH.out.blk (fun s e => by cases e) _)
          clear hcap
          go_wp2
          go_ret
          exact HE.out
end Go.Proofs.Ytdhilhjiccpkkaa
