/-
  due.Queue: New, made, Len, Get, First.
-/
import Derived.Test.YtdhilhjiccpkkaaDuePlain2
import Derived.Test.YtdhilhjiccpkkaaDueW9
namespace Go.Proofs.Ytdhilhjiccpkkaa
open Go.RowKit
attribute [local go_sem ↓] Go.wp_at_zero Go.wp_at_succ
set_option linter.unusedVariables false

/-- a queue in memory: X is what it has, in the order -/
structure QAt (w : World) (base q r M : Nat) (v : Value) (l X : List Du) : Prop where
  ge : base ≤ q
  blk : Blk w q 57 #[.pointer (some ⟨r, 0, none⟩)]
  hr : HR w base r M v l
  qp : QP l X
def QS (q r M : Nat) (v : Value) (k : Nat) : Prop := k = q ∨ RS r M v k
section
variable {w w' : World} {base q r M : Nat} {v : Value} {l X : List Du} {S : Nat → Prop}
theorem QAt.fr (h : QAt w base q r M v l X) (hf : Fr S w w') (hs : ∀ k, QS q r M v k → ¬ S k) : QAt w' base q r M v l X :=
  ⟨h.ge, h.blk.fr' hf (hs q (.inl rfl)), h.hr.fr hf (fun k e => hs k (.inr e)), h.qp⟩
theorem QAt.below (h : QAt w base q r M v l X) (hb : Below w.heap.size w w') : QAt w' base q r M v l X :=
  h.fr (S := fun _ => False) (Fr.of_below hb) (fun _ _ x => x)
theorem QAt.lt (h : QAt w base q r M v l X) : ∀ k, QS q r M v k → k < w.heap.size := by
  rintro k (rfl | e)
  · exact h.blk.lt
  · exact h.hr.lt k e
theorem QAt.geS (h : QAt w base q r M v l X) : ∀ k, QS q r M v k → base ≤ k := by
  rintro k (rfl | e)
  · exact h.ge
  · exact h.hr.geS k e
theorem QAt.len (h : QAt w base q r M v l X) : l.length = X.length ∧ X.length ≤ 256 := ⟨h.qp.len, by rw [← h.qp.len]; exact h.hr.few⟩
theorem QAt.ne (h : QAt w base q r M v l X) : q ≠ r ∧ q ≠ M ∧ ∀ g, v.ownBlock = some g → q ≠ g := by
  refine ⟨Blk.ne_ h.blk h.hr.row (by decide), h.hr.map.not_blk h.blk, fun g hg => ?_⟩
  rcases h.hr.own.shape with ⟨rfl, rfl⟩ | ⟨g', cap, cur, rfl, _, hh, _⟩
  · cases hg
  · cases hg
    exact Blk.ne_ h.blk hh (by decide)
end
set_option maxRecDepth 100000 in
theorem due_new (w : World) : Calls Try.prog 8 #[] w fun e w' => ∃ q r M, e = .returned (.pointer (some ⟨q, 0, none⟩)) ∧ QAt w' w.heap.size q r M (.slice none 0 0) [] [] ∧ Below w.heap.size w w' := by
  have hmm := @run_makeMap Try.prog
  go_enter Try.func8, Try.ntmps8
  go_wp2
  go_ret
  have h1 := Blk.new (w.alloc (.map #[] 0)) 55 #[.slice none 0 0, .map (some w.heap.size)]
  have h2 := Blk.new ((w.alloc (.map #[] 0)).alloc (.cells #[.slice none 0 0, .map (some w.heap.size)] 55)) 57 #[.pointer (some ⟨w.heap.size + 1, 0, none⟩)]
  rw [World.size_alloc] at h1
  rw [World.size_alloc, World.size_alloc] at h2
  have hb : Below w.heap.size w (((w.alloc (.map #[] 0)).alloc (.cells #[.slice none 0 0, .map (some w.heap.size)] 55)).alloc (.cells #[.pointer (some ⟨w.heap.size + 1, 0, none⟩)] 57)) := (((Below.refl _ _).alloc (Nat.le_refl _) _).alloc (by simp) _).alloc (by simp; omega) _
  have hm := (((SM.new w).below ((Below.refl _ _).alloc (Nat.le_refl _) (.cells #[.slice none 0 0, .map (some w.heap.size)] 55))).below ((Below.refl _ _).alloc (Nat.le_refl _) (.cells #[.pointer (some ⟨w.heap.size + 1, 0, none⟩)] 57)))
  refine ⟨w.heap.size + 2, w.heap.size + 1, w.heap.size, rfl, ⟨by omega, h2, ⟨⟨by omega, by omega⟩, h1.alloc _, DR.nil _ _, hm.congr (fun s => rfl), by simp [Nm], by simp, fun d hd => by cases hd⟩, QP.nil⟩, hb⟩
theorem made_nil (w : World) : Calls Try.prog 25 #[.pointer none] w fun e w' => e = .returned (.bool false) ∧ w' = w := by
  go_enter Try.func25, Try.ntmps25
  go_wp2
  go_ret
  exact ⟨rfl, rfl⟩
theorem made_yes {w : World} {q r : Nat} (h : Blk w q 57 #[.pointer (some ⟨r, 0, none⟩)]) : Calls Try.prog 25 #[.pointer (some ⟨q, 0, none⟩)] w fun e w' => e = .returned (.bool true) ∧ w' = w := by
  have c0 := h.cell 0
  simp only [List.getElem?_toArray, List.getElem?_cons_zero] at c0
  clear h
  go_enter Try.func25, Try.ntmps25
  go_wp2
  go_ret
  exact ⟨rfl, rfl⟩
theorem qlen_nil (w : World) : Calls Try.prog 11 #[.pointer none] w fun e w' => e = .returned (.int .i64 0) ∧ w' = w := by
  go_enter Try.func11, Try.ntmps11
  go_wp2_with (go_at_call 25; refine (made_nil _).mono ?_; rintro e w ⟨rfl, rfl⟩)
  go_ret
  exact ⟨rfl, rfl⟩
theorem qlen_any {w : World} {base q r M : Nat} {v : Value} {l X : List Du} (h : QAt w base q r M v l X) : Calls Try.prog 11 #[.pointer (some ⟨q, 0, none⟩)] w fun e w' => e = .returned (.int .i64 (X.length : Int)) ∧ w' = w := by
  have HM := Lib.hid (made_yes h.blk)
  have HL := row_len h.hr
  rw [h.qp.len] at HL
  have HL := Lib.hid HL
  have c0 := h.blk.cell 0
  simp only [List.getElem?_toArray, List.getElem?_cons_zero] at c0
  obtain ⟨n, hn⟩ : ∃ n, n = X.length := ⟨_, rfl⟩
  rw [← hn] at HL ⊢
  clear h hn
  go_enter Try.func11, Try.ntmps11
  go_wp2_with (first
    | (go_at_call 25; refine HM.out.mono ?_; rintro e w ⟨rfl, rfl⟩)
    | (go_at_call 26; refine HL.out.mono ?_; rintro e w ⟨rfl, rfl⟩))
  go_ret
  exact ⟨rfl, rfl⟩
theorem qget_nil (s : ByteArray) (w : World) : Calls Try.prog 19 #[.pointer none, .string s] w fun e w' => e = .returned (.tuple #[.int .i64 0, .bool false]) ∧ w' = w := by
  go_enter Try.func19, Try.ntmps19
  go_wp2_with (go_at_call 25; refine (made_nil _).mono ?_; rintro e w ⟨rfl, rfl⟩)
  go_ret2
  exact ⟨rfl, rfl⟩
set_option maxRecDepth 100000 in
set_option maxHeartbeats 1000000 in
theorem qget_any {w : World} {base q r M : Nat} {v : Value} {l X : List Du} (h : QAt w base q r M v l X) (s : ByteArray) (hs : s.size ≤ maxLen) : Calls Try.prog 19 #[.pointer (some ⟨q, 0, none⟩), .string s] w fun e w' => e = .returned (.tuple #[.int .i64 ((getX X s).getD 0), .bool (getX X s).isSome]) ∧ w' = w := by
  have HM := Lib.hid (made_yes h.blk)
  have hlk := h.hr.map.look s hs
  have hg := h.qp.get s
  have c0 := h.blk.cell 0
  have d0 := h.hr.row.cell 0
  have d1 := h.hr.row.cell 1
  simp only [List.getElem?_toArray, List.getElem?_cons_zero, List.getElem?_cons_succ] at c0 d0 d1
  have hfew := h.hr.few
  obtain ⟨y, hy⟩ : ∃ y, y = (getX X s).getD 0 := ⟨_, rfl⟩
  obtain ⟨z, hz⟩ : ∃ z, z = (getX X s).isSome := ⟨_, rfl⟩
  rw [← hy, ← hz]
  rw [← hg] at hy hz
  unfold getX at hy hz
  cases e : idxL l s with
  | none =>
    rw [e] at hlk hy hz
    have HY : Hid (y = 0 ∧ z = false) := Lib.hid ⟨hy, hz⟩
    simp only [Option.getD_none, Option.isSome_none] at hlk
    clear hy hz hg e h
    go_enter Try.func19, Try.ntmps19
    go_wp2_with (go_at_call 25; refine HM.out.mono ?_; rintro e w ⟨rfl, rfl⟩)
    go_ret2
    exact ⟨by rw [HY.out.1, HY.out.2]; rfl, rfl⟩
  | some i =>
    rw [e] at hlk hy hz
    have HY : Hid (y = (gd l i).2 ∧ z = true) := Lib.hid ⟨hy, hz⟩
    simp only [Option.getD_some, Option.isSome_some] at hlk
    obtain ⟨hi, _⟩ := (idx_iff h.hr.nd).1 e
    obtain ⟨g, cap, cur, rfl, _, hB, hn, hm, _, hdc⟩ := h.hr.open_ (by omega)
    have e1 := (hdc i hi).2
    rw [← hB.cell] at e1
    obtain ⟨x, hx⟩ : ∃ x, x = (gd l i).2 := ⟨_, rfl⟩
    rw [← hx] at HY e1
    obtain ⟨n, hn'⟩ : ∃ n, n = l.length := ⟨_, rfl⟩
    rw [← hn'] at hi d0 hn hfew
    have q1 : (0 : Int) ≤ (i : Int) := by omega
    have q2 : (i : Int) < (n : Int) := by omega
    clear hy hz hg e h hB hdc hx hn'
    go_enter Try.func19, Try.ntmps19
    go_wp2_with (go_at_call 25; refine HM.out.mono ?_; rintro e w ⟨rfl, rfl⟩)
    go_ret2
    exact ⟨by rw [HY.out.1, HY.out.2]; rfl, rfl⟩
end Go.Proofs.Ytdhilhjiccpkkaa
