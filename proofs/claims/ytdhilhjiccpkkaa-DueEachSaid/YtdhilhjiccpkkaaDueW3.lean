/-
  due.row: Len, Less.
-/
import Derived.Test.YtdhilhjiccpkkaaDueMem
namespace Go.Proofs.Ytdhilhjiccpkkaa
open Go.RowKit
attribute [local go_sem ↓] Go.wp_at_zero Go.wp_at_succ
set_option linter.unusedVariables false

theorem HR.val {w : World} {base r M : Nat} {v : Value} {l : List Du} (h : HR w base r M v l) : ∃ A c, v = .slice A l.length c := by
  rcases h.own.shape with ⟨rfl, rfl⟩ | ⟨g, cap, cur, rfl, _⟩
  · exact ⟨none, 0, rfl⟩
  · exact ⟨_, _, rfl⟩
theorem row_len {w : World} {base r M : Nat} {v : Value} {l : List Du} (h : HR w base r M v l) :
    Calls Try.prog 26 #[.pointer (some ⟨r, 0, none⟩)] w fun e w' => e = .returned (.int .i64 (l.length : Int)) ∧ w' = w := by
  obtain ⟨A, c, rfl⟩ := h.val
  have c0 := h.row.cell 0
  simp only [List.getElem?_toArray, List.getElem?_cons_zero] at c0
  clear h
  go_enter Try.func26, Try.ntmps26
  go_wp2
  go_ret
  exact ⟨rfl, rfl⟩
/-- what is read of a row of which one place at least is there -/
theorem HR.open_ {w : World} {base r M : Nat} {v : Value} {l : List Du} (h : HR w base r M v l) (hn : 0 < l.length) : ∃ g cap cur, v = .slice (some ⟨g, 0, none⟩) l.length cap ∧ base ≤ g ∧ Blk w g 44 cur ∧ l.length ≤ cap ∧ cap ≤ maxLen ∧ cur.size = cap * 2 ∧ DC cur l := by
  rcases h.own.shape with ⟨rfl, rfl⟩ | h
  · simp at hn
  · exact h
set_option maxRecDepth 100000 in
set_option maxHeartbeats 1000000 in
theorem row_less {w : World} {base r M : Nat} {v : Value} {l : List Du} (h : HR w base r M v l) {i k : Nat} (hi : i < l.length) (hk : k < l.length) :
    Calls Try.prog 80 #[.pointer (some ⟨r, 0, none⟩), .int .i64 (i : Int), .int .i64 (k : Int)] w fun e w' => e = .returned (.bool (ltD (gd l i) (gd l k))) ∧ Below w.heap.size w w' := by
  obtain ⟨g, cap, cur, rfl, hg, hB, hn, hm, hs, hdc⟩ := h.open_ (by omega)
  have c0 := h.row.cell 0
  simp only [List.getElem?_toArray, List.getElem?_cons_zero] at c0
  have e0 := (hdc i hi).1
  have e1 := (hdc i hi).2
  have f0 := (hdc k hk).1
  have f1 := (hdc k hk).2
  rw [← hB.cell] at e0 e1 f0 f1
  have hrl := h.row.lt
  have hgl := hB.lt
  obtain ⟨a, ha⟩ : ∃ a, a = gd l i := ⟨_, rfl⟩
  obtain ⟨b, hb⟩ : ∃ b, b = gd l k := ⟨_, rfl⟩
  rw [← ha] at e0 e1 ⊢
  rw [← hb] at f0 f1 ⊢
  obtain ⟨n, hn'⟩ : ∃ n, n = l.length := ⟨_, rfl⟩
  have hfew := h.few
  rw [← hn'] at hi hk c0 hn hfew
  obtain ⟨c, hc⟩ : ∃ c, c = cmpD a b := ⟨_, rfl⟩
  obtain ⟨x, hx⟩ : ∃ x, x = ltD a b := ⟨_, rfl⟩
  have HX : Hid (decide (c < 0) = x) := Lib.hid (by rw [hc, hx]; exact cmpD_lt a b)
  rw [← hx]
  obtain ⟨a1, a2⟩ := a
  obtain ⟨b1, b2⟩ := b
  have HC : Hid (∀ W, Calls Try.prog 29 #[.agg #[.string a1, .int .i64 a2], .agg #[.string b1, .int .i64 b2]] W fun e w' => e = .returned (.int .i64 c) ∧ Below W.heap.size W w') := Lib.hid (fun W => by rw [hc]; exact due_compare (a1, a2) (b1, b2) W)
  unfold maxLen at hm
  have q1 : (0 : Int) ≤ (i : Int) := by omega
  have q2 : (i : Int) < (n : Int) := by omega
  have q3 : (0 : Int) ≤ (k : Int) := by omega
  have q4 : (k : Int) < (n : Int) := by omega
  simp only at e0 e1 f0 f1
  have HBW := Lib.hid (Below.refl w.heap.size w)
  clear h hB hdc ha hb hn' hc hx hs
  go_enter Try.func80, Try.ntmps80
  go_wp2
  go_region_held3 (fun V => V.cell? ⟨r, 0, none⟩ = some (.slice (some ⟨g, 0, none⟩) n cap) ∧ V.cell? ⟨g, i * 2, none⟩ = some (.string a1) ∧ V.cell? ⟨g, i * 2 + 1, none⟩ = some (.int .i64 a2) ∧ V.cell? ⟨g, k * 2, none⟩ = some (.string b1) ∧ V.cell? ⟨g, k * 2 + 1, none⟩ = some (.int .i64 b2)) (first | go_keep | (refine ⟨?_, ?_, ?_, ?_, ?_⟩ <;> (refine (hb.cell (by first | exact hrl | exact hgl)).trans ?_; assumption)))
    (first
      | (go_at_call 29; refine (HC.out _).mono ?_; rintro e w' ⟨rfl, hb⟩))
  have HB2 : Hid (Below w.heap.size w w') := Lib.hid (((Below.refl w.heap.size w).drew).trans hb)
  clear hb
  go_wp2
  go_ret
  exact ⟨by rw [← HX.out]; rfl, HB2.out⟩
end Go.Proofs.Ytdhilhjiccpkkaa
