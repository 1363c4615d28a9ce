/-
  due.Queue: All.
-/
import Derived.Test.YtdhilhjiccpkkaaDueQ5
namespace Go.Proofs.Ytdhilhjiccpkkaa
open Go.RowKit
set_option linter.unusedVariables false

theorem ins_zero (A : Option Addr) (c : Nat) (f : Value) (w : World) : Calls Try.prog 48 #[.slice A 0 c, .int .i64 0, .int .i64 0, f] w fun e w' => e = .returned (.tuple #[]) ∧ w' = w := by
  go_enter Try.func48, Try.ntmps48
  go_wp2_with fail
  refine wp_loop_rounds 1 ?_
  rw [rounds_succ]
  go_wp2_with fail
  go_end0
  exact ⟨rfl, rfl⟩
set_option maxRecDepth 100000 in
set_option maxHeartbeats 1000000 in
theorem pdq_zero (A : Option Addr) (c : Nat) (k : Int) (f : Value) (w : World) : Calls Try.prog 44 #[.slice A 0 c, .int .i64 0, .int .i64 0, .int .i64 k, f] w fun e w' => e = .returned (.tuple #[]) ∧ w' = w := by
  go_enter Try.func44, Try.ntmps44
  go_wp2_with fail
  refine wp_loop_rounds 1 ?_
  rw [rounds_succ]
  go_wp2_with fail
  refine (ins_zero _ _ _ _).mono ?_
  rintro e w' ⟨rfl, rfl⟩
  go_wp2_with fail
  refine bodyPost_ret (results_none rfl _ _ _) rfl ?_
  exact ⟨rfl, rfl⟩
theorem bits_zero (w : World) : Calls Try.prog 45 #[.int .u64 0] w fun e w' => (∃ k : Int, e = .returned (.int .i64 k)) ∧ w' = w := by
  have h := Go.Proofs.Any.bits_Len (Go.Proofs.SlLaysF0.n15.bits { Try.sortDue with }) 0 w (by omega) (by omega)
  exact h.mono fun e w' ⟨he, hw⟩ => ⟨⟨_, he⟩, hw⟩
theorem sort_zero (A : Option Addr) (c : Nat) (f : Value) (w : World) : Calls Try.prog 36 #[.slice A 0 c, f] w fun e w' => e = .returned (.tuple #[]) ∧ w' = w := by
  go_enter Try.func36, Try.ntmps36
  go_wp2_with fail
  refine (bits_zero _).mono ?_
  rintro e w' ⟨⟨k, rfl⟩, rfl⟩
  go_wp2_with fail
  refine (pdq_zero _ _ _ _ _).mono ?_
  rintro e w' ⟨rfl, rfl⟩
  go_wp2_with fail
  go_end0
  exact ⟨rfl, rfl⟩
theorem due_sort {w : World} {base : Nat} {v : Value} {l : List Du} (h : DR w base v l) (hf : l.length ≤ 256) :
    Calls Try.prog 36 #[v, .func (.func 29) #[] #[]] w fun e w' => SortPost w base v l e w' := by
  rcases h.shape with ⟨rfl, rfl⟩ | ⟨g, cap, cur, rfl, hg, hB, hc, hm, hs, hdc⟩
  · refine (sort_zero none 0 _ w).mono ?_
    rintro e w' ⟨rfl, rfl⟩
    exact ⟨[], rfl, List.Perm.refl _, List.Pairwise.nil, h, Fr.refl _ _⟩
  · exact due_sort_row rfl hg hB hc hm hs hdc hf
theorem collect_any (Bs : Nat) {base : Nat} {v : Value} {L : List Du} (w : World) (hd : DR w base v L) (hf : L.length ≤ 256) (h1 : Blk w Bs 26 #[v]) :
    Calls Try.prog 35 #[.func (.func 37) #[] #[.pointer (some ⟨Bs, 0, none⟩)]] w fun e w' => AppPost w L e w' := by
  have HA := Lib.hid (appendSeq_any Bs w hd hf h1)
  clear hd h1
  go_enter Try.func35, Try.ntmps35
  go_wp2_with fail
  refine HA.out.mono ?_
  rintro e w' ⟨v', rfl, h2, h3⟩
  have H2 := Lib.hid h2
  have H3 := Lib.hid h3
  clear h2 h3
  go_wp2_with fail
  go_ret
  exact ⟨v', rfl, H2.out, H3.out⟩
def SortedPost (w : World) (L : List Du) (e : Ending) (w' : World) : Prop := ∃ v L', e = .returned v ∧ L'.Perm L ∧ L'.Pairwise (fun a b => ltD b a = false) ∧ DR w' w.heap.size v L' ∧ Below w.heap.size w w'
theorem sorted_any (Bs : Nat) {base : Nat} {v : Value} {L : List Du} (w : World) (hd : DR w base v L) (hf : L.length ≤ 256) (h1 : Blk w Bs 26 #[v]) :
    Calls Try.prog 27 #[.func (.func 37) #[] #[.pointer (some ⟨Bs, 0, none⟩)], .func (.func 29) #[] #[]] w fun e w' => SortedPost w L e w' := by
  have HA := Lib.hid (collect_any Bs w hd hf h1)
  have HF := Lib.hid hf
  clear hd h1 hf
  go_enter Try.func27, Try.ntmps27
  go_wp2_with fail
  refine HA.out.mono ?_
  rintro e w1 ⟨v1, rfl, h2, h3⟩
  have HS := Lib.hid (due_sort h2 HF.out)
  have H2 := Lib.hid h2
  have H3 := Lib.hid h3
  clear h2 h3
  go_wp2_with fail
  refine HS.out.mono ?_
  rintro e w2 ⟨L', rfl, k1, k2, k3, k4⟩
  have K1 := Lib.hid k1
  have K2 := Lib.hid k2
  have K3 := Lib.hid k3
  have K4 : Hid (Below w.heap.size w w2) := Lib.hid (Fr.below_trans H3.out k4 H3.out.size (fun g e => H2.out.ge g e))
  clear k1 k2 k3 k4
  go_wp2_with fail
  go_ret
  exact ⟨v1, L', rfl, K1.out, K2.out, K3.out, K4.out⟩
theorem qall_nil (w : World) : Calls Try.prog 13 #[.pointer none] w fun e w' => e = .returned (.slice none 0 0) ∧ w' = w := by
  go_enter Try.func13, Try.ntmps13
  go_wp2_with (go_at_call 25; refine (made_nil _).mono ?_; rintro e w ⟨rfl, rfl⟩)
  go_ret
  exact ⟨rfl, rfl⟩
/-- all, in the order: a row of the call's own -/
theorem qall_any {w : World} {base q r M : Nat} {v : Value} {l X : List Du} (h : QAt w base q r M v l X) : Calls Try.prog 13 #[.pointer (some ⟨q, 0, none⟩)] w fun e w' => AppPost w X e w' := by
  have HM := Lib.hid (made_yes h.blk)
  have HQ := Lib.hid h
  obtain ⟨A, c, hv⟩ := h.hr.val
  have c0 := h.blk.cell 0
  have f0 := h.hr.row.cell 0
  simp only [List.getElem?_toArray, List.getElem?_cons_zero] at c0 f0
  have hal : Below w.heap.size w (w.alloc (.cells #[v] 26)) := (Below.refl _ _).alloc (Nat.le_refl _) _
  have HS := Lib.hid (sorted_any w.heap.size _ (h.hr.own.below hal) h.hr.few (Blk.new w 26 #[v]))
  have HAL := Lib.hid hal
  obtain ⟨n, hn⟩ : ∃ n, n = l.length := ⟨_, rfl⟩
  rw [← hn] at hv
  subst hv
  have HZ : Hid (w.heap.size ≤ (w.alloc (.cells #[.slice A n c] 26)).heap.size) := Lib.hid hal.size
  clear h hal hn
  go_enter Try.func13, Try.ntmps13
  go_wp2_with (first
    | (go_at_call 25; refine HM.out.mono ?_; rintro e w ⟨rfl, rfl⟩)
    | (go_at_call 28; refine (values_any _ _ _ _).mono ?_; rintro e w' ⟨rfl, rfl⟩))
  refine HS.out.mono ?_
  rintro e w2 ⟨v1, L', rfl, k1, k2, k3, k4⟩
  have hX : L' = X := sorted_uniq k2 HQ.out.qp.srt (k1.trans HQ.out.qp.perm)
  subst hX
  have K3 := Lib.hid (k3.mono HZ.out)
  have K4 : Hid (Below w.heap.size w w2) := Lib.hid (HAL.out.trans (k4.mono HZ.out))
  clear k1 k2 k3 k4
  go_wp2_with fail
  go_ret
  exact ⟨v1, rfl, K3.out, K4.out⟩
end Go.Proofs.Ytdhilhjiccpkkaa
