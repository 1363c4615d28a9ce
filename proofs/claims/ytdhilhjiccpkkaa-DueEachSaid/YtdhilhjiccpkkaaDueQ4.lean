/-
  slices.Values, slices.Collect at []api.Due.
-/
import Derived.RangeFuncNested
import Derived.RangeFuncBound
import Derived.RangeFuncCalls
import Derived.RangeFuncLeaves
import Derived.Shelf.Abstract
import Derived.Shelf.RegionOpen
import Derived.WalkKit
import Derived.OwnWalkIn
import Derived.TacticsInMore
import Derived.LoopNIn
import Derived.LoopIn
import Derived.Test.YtdhilhjiccpkkaaDueQ3
namespace Go.Proofs.Ytdhilhjiccpkkaa
open Go.RowKit Go.Shelf
attribute [local go_sem] Oper.semAt_some
set_option linter.unusedVariables false

theorem grownBy_alloc_none (W : World) (o : Obj) : W.grownBy (W.alloc o) none := World.grownBy_alloc W o none
set_option maxRecDepth 100000 in
set_option maxHeartbeats 2000000 in
theorem vals1_in (l Bs g n₀ len cap : Nat) (cur : Array Value) (L : List Du) (hlen : len = L.length) (hf : len ≤ 256) (hg : g < n₀) (J Jx : List Du → World → Prop) (W : World) (hn : n₀ ≤ W.heap.size) (hJ : AbidesFrom W.heap.size J)
    (hY : ∀ pre x W1, J pre W1 → pre.length < len → YieldAt Fence.wide 2 Try.prog l #[.agg #[.string x.1, .int .i64 x.2]] W1 fun e W' =>
      (e = .returned (.bool true) ∧ J (pre ++ [x]) W' ∧ Below n₀ W1 W') ∨ (e = .returned (.bool false) ∧ Jx (pre ++ [x]) W'))
    (h1 : Blk W Bs 26 #[.slice (some ⟨g, 0, none⟩) len cap]) (h2 : Blk W g 44 cur) (hdc : DC cur L) (h0 : J [] W) :
    CallsIn Fence.wide 3 Try.prog 37 #[.func (.yield l) #[] #[], .pointer (some ⟨Bs, 0, none⟩)] W fun e W' => (∃ v, e = .returned v) ∧
      ((∃ ys, ys = L ∧ J ys W') ∨ (∃ pre, (∃ k, k ≤ len ∧ pre = L.take k) ∧ Jx pre W')) := by
  have c1 := h1.cell 0
  simp only [List.getElem?_toArray, List.getElem?_cons_zero] at c1
  have HLEN := Lib.hid hlen
  clear hlen
  refine callsIn_of_wp Try.func37 rfl trivial ?_ rfl
  simp only [Try.ntmps37, List.size_toArray, List.length_cons, List.length_nil, Nat.reduceAdd, Nat.reduceSub, Array.replicate_succ, Array.replicate_zero, List.push_toArray, List.append_toArray, List.nil_append, List.cons_append]
  gi_wp2
  gi_loopw [7] (fun i wr => ∃ k : Nat, k ≤ len ∧ i = .int .i64 (k : Int) ∧ J (L.take k) wr ∧ Below n₀ W wr) (fun i _ => len - (intOf i).toNat)
  case atStart => exact ⟨0, Nat.zero_le _, rfl, h0, Below.refl _ _⟩
  case round =>
    obtain ⟨k, hk, rfl, hJs, hb⟩ := hrel
    by_cases hlt : k < len
    · have hB2 : Blk wr g 44 cur := h2.below hb hg
      have e0 := (hdc k (by have := HLEN.out; omega)).1
      have e1 := (hdc k (by have := HLEN.out; omega)).2
      rw [← hB2.cell] at e0 e1
      obtain ⟨d, hd⟩ : ∃ d, d = gd L k := ⟨_, rfl⟩
      rw [← hd] at e0 e1
      obtain ⟨a, b⟩ := d
      simp only at e0 e1
      have hJ2 : J (L.take k) (wr.alloc (.cells #[.string a, .int .i64 b] 44)) := hJ _ wr _ none hJs (grownBy_alloc_none _ _) (fun r e => by cases e)
      obtain ⟨fn, tmps, assign, body, hy, hR⟩ := hY (L.take k) (a, b) _ hJ2 (by rw [List.length_take]; omega)
      have HR := Lib.hid hR
      have HB := Lib.hid hb
      have HD := Lib.hid hd
      have hX := Blk.new wr 44 #[.string a, .int .i64 b]
      have x0 := hX.cell 0
      have x1 := hX.cell 1
      simp only [List.getElem?_toArray, List.getElem?_cons_zero, List.getElem?_cons_succ] at x0 x1
      have q1 : (0 : Int) ≤ (k : Int) := by omega
      have q2 : (k : Int) < (len : Int) := by omega
      have q3 : decide ((k : Int) < (len : Int)) = true := by rw [decide_eq_true_iff]; exact q2
      clear hR hY hJ2 hJs hJ hB2 hd hX hdc h0 hb
      dsimp only at hy
      gi_wp2
      refine HR.out.mono ?_
      rintro e W3 (⟨rfl, hJ3, hk3⟩ | ⟨rfl, hJx3⟩)
      · have HJ3 : Hid (J (L.take (k + 1)) W3) := Lib.hid (by rw [take_snoc (by have := HLEN.out; omega), ← HD.out]; exact hJ3)
        have HB3 : Hid (Below n₀ W W3) := Lib.hid ((HB.out.alloc (Nat.le_trans hn HB.out.size) _).trans hk3)
        clear hJ3 hk3
        gi_wp2
        go_roundw
        case rel => exact ⟨k + 1, by omega, by go_num, HJ3.out, HB3.out⟩
        case measure => simp [intOf]; omega
      · have HJX : Hid (Jx (L.take (k + 1)) W3) := Lib.hid (by rw [take_snoc (by have := HLEN.out; omega), ← HD.out]; exact hJx3)
        gi_wp2
        refine bodyPost_ret (results_none rfl _ _ _) rfl ?_
        exact ⟨⟨_, rfl⟩, .inr ⟨_, ⟨k + 1, by omega, rfl⟩, HJX.out⟩⟩
    · have HK : Hid (L.take k = L) := Lib.hid (List.take_of_length_le (by have := HLEN.out; omega))
      have HJ0 := Lib.hid hJs
      have q3 : decide ((k : Int) < (len : Int)) = false := by rw [decide_eq_false_iff_not]; omega
      clear hJs hY hJ h0 hdc
      gi_wp2
      go_end0
      exact ⟨⟨_, rfl⟩, .inl ⟨_, rfl, by rw [← HK.out]; exact HJ0.out⟩⟩
set_option maxRecDepth 100000 in
set_option maxHeartbeats 1000000 in
theorem vals0_in (l Bs c : Nat) (A : Option Addr) (J : List Du → World → Prop) (W : World) (h1 : Blk W Bs 26 #[.slice A 0 c]) (h0 : J [] W) :
    CallsIn Fence.wide 3 Try.prog 37 #[.func (.yield l) #[] #[], .pointer (some ⟨Bs, 0, none⟩)] W fun e W' => (∃ v, e = .returned v) ∧ J [] W' := by
  have c1 := h1.cell 0
  simp only [List.getElem?_toArray, List.getElem?_cons_zero] at c1
  refine callsIn_of_wp Try.func37 rfl trivial ?_ rfl
  simp only [Try.ntmps37, List.size_toArray, List.length_cons, List.length_nil, Nat.reduceAdd, Nat.reduceSub, Array.replicate_succ, Array.replicate_zero, List.push_toArray, List.append_toArray, List.nil_append, List.cons_append]
  gi_wp2
  gi_loopw [7] (fun i wr => i = .int .i64 0 ∧ wr = W) (fun _ _ => 0)
  case atStart => exact ⟨rfl, rfl⟩
  case round =>
    obtain ⟨rfl, rfl⟩ := hrel
    gi_wp2
    go_end0
    exact ⟨⟨_, rfl⟩, h0⟩
/-- slices.Values(l) hands on all of l, in order -/
theorem vals_stops (Bs n₀ : Nat) {base : Nat} {v : Value} {L : List Du} (w : World) (hd : DR w base v L) (hf : L.length ≤ 256) (h1 : Blk w Bs 26 #[v]) (hv : ∀ g, v.ownBlock = some g → g < n₀) (hn : n₀ ≤ w.heap.size) :
    SeqStopsK Fence.wide 3 Try.prog 37 #[.pointer (some ⟨Bs, 0, none⟩)] (fun x : Du => #[.agg #[.string x.1, .int .i64 x.2]]) (Below n₀)
      (fun ys => ys = L) (fun pre => ∃ k, k ≤ L.length ∧ pre = L.take k) L.length w := fun l J Jx W hW hJ _ hY h0 => by
  have b1 := h1.below hW h1.lt
  rcases (hd.below hW).shape with ⟨rfl, rfl⟩ | ⟨g, cap, cur, rfl, _, hB, _, _, _, hdc⟩
  · refine (vals0_in l Bs 0 none J W b1 h0).mono ?_
    rintro e W' ⟨he, hj⟩
    exact ⟨he, .inl ⟨[], rfl, hj⟩⟩
  · exact vals1_in l Bs g n₀ L.length cap cur L rfl hf (hv g rfl) J Jx W (Nat.le_trans hn hW.size) hJ hY b1 hB hdc h0
theorem values_any (A : Option Addr) (n c : Nat) (w : World) : Calls Try.prog 28 #[.slice A n c] w fun e w' => e = .returned (.func (.func 37) #[] #[.pointer (some ⟨w.heap.size, 0, none⟩)]) ∧ w' = w.alloc (.cells #[.slice A n c] 26) := by
  go_enter Try.func28, Try.ntmps28
  go_wp2
  go_ret
  exact ⟨rfl, rfl⟩
/-- between two rounds of AppendSeq -/
structure ApI (w : World) (pre : List Du) (W : World) : Prop where
  box : ∃ v, Blk W w.heap.size 26 #[v] ∧ DR W w.heap.size v pre
  bel : Below w.heap.size w W
  siz : w.heap.size < W.heap.size
theorem blk_kept {W W' : World} {row : Option Nat} {g : Nat} {t : TypeId} {cs : Array Value} (h : Blk W g t cs) (hg : W.grownBy W' row) (hr : ∀ r, row = some r → ∃ o : Obj, W.heap[r]? = some o ∧ o.isCells = false) : Blk W' g t cs :=
  (grownBy_keeps_cells hg hr h rfl).trans h
theorem DR.kept {W W' : World} {row : Option Nat} {base : Nat} {v : Value} {L : List Du} (h : DR W base v L) (hg : W.grownBy W' row) (hr : ∀ r, row = some r → ∃ o : Obj, W.heap[r]? = some o ∧ o.isCells = false) : DR W' base v L := by
  rcases h.shape with ⟨rfl, rfl⟩ | ⟨g, cap, cur, rfl, h1, hB, h2, h3, h4, hdc⟩
  · exact DR.nil _ _
  · exact DR.mk h1 (blk_kept hB hg hr) h2 h3 h4 hdc
theorem ApI.own (w : World) (B : Nat) (hB : w.heap.size < B) : OwnFrom B (fun pre W => ApI w pre W) := by
  intro pre W W' row h hg hr
  have hr' : ∀ r, row = some r → ∃ o : Obj, W.heap[r]? = some o ∧ o.isCells = false := fun r e => (hr r e).2
  obtain ⟨⟨v, h1, h2⟩, h3, h4⟩ := h
  exact ⟨⟨v, blk_kept h1 hg hr', h2.kept hg hr'⟩, h3.grown hg h3.size (fun k e => by have := (hr k e).1; omega), Nat.lt_of_lt_of_le h4 hg.size⟩
def AppPost (w : World) (L : List Du) (e : Ending) (w' : World) : Prop := ∃ v, e = .returned v ∧ DR w' w.heap.size v L ∧ Below w.heap.size w w'
set_option maxRecDepth 100000 in
set_option maxHeartbeats 4000000 in
theorem appendSeq_any (Bs : Nat) {base : Nat} {v : Value} {L : List Du} (w : World) (hd : DR w base v L) (hf : L.length ≤ 256) (h1 : Blk w Bs 26 #[v]) :
    Calls Try.prog 43 #[.slice none 0 0, .func (.func 37) #[] #[.pointer (some ⟨Bs, 0, none⟩)]] w fun e w' => AppPost w L e w' := by
  refine (callsIn_wide (n := 4)).1 ?_
  refine callsIn_of_wp_marks Try.func43 rfl trivial ?_ rfl
  simp only [Try.ntmps43, List.size_toArray, List.length_cons, List.length_nil, Nat.reduceAdd, Nat.reduceSub, Array.replicate_succ, Array.replicate_zero, List.push_toArray, List.append_toArray, List.nil_append, List.cons_append]
  gi_wp2
  have hal : Below w.heap.size w (w.alloc (.cells #[.slice none 0 0] 26)) := (Below.refl _ _).alloc (Nat.le_refl _) _
  have hI0 : ApI w [] (w.alloc (.cells #[.slice none 0 0] 26)) := ⟨⟨_, Blk.new _ _ _, DR.nil _ _⟩, hal, by simp⟩
  have hz : (w.alloc (.cells #[.slice none 0 0] 26)).heap.size = w.heap.size + 1 := by simp
  have hst := vals_stops Bs w.heap.size (w.alloc (.cells #[.slice none 0 0] 26)) (hd.below hal) hf (h1.below hal h1.lt) hd.lt (by omega)
  generalize w.alloc (.cells #[.slice none 0 0] 26) = W0 at hal hI0 hz hst ⊢
  refine wpIn_rangeFunc_ownH (α := Du) rfl (by omega) (gf := 37) (lb := #[.pointer (some ⟨Bs, 0, none⟩)]) rfl trivial (enters_of Try.func37 (by kernel_rfl) rfl)
    (F := Fence.wide) (n := 4) hst belowK_t (belowK_b (by omega)) (Below.refl _ _) (fun _ => rfl)
    (fun pre W => ApI w pre W) (fun _ _ _ => False) (ApI.own w _ (by omega)) (fun _ _ _ _ _ hs _ _ => hs) hI0
    (fun x a' W => ∃ Bx, w.heap.size < Bx ∧ Blk W Bx 44 #[.string x.1, .int .i64 x.2] ∧ a' = { tmps := #[.slice none 0 0, .func (.func 37) #[] #[.pointer (some ⟨Bs, 0, none⟩)], .pointer (some ⟨w.heap.size, 0, none⟩), undef, .slice none 0 0, .pointer (some ⟨Bx, 0, none⟩), .func (.func 37) #[] #[.pointer (some ⟨Bs, 0, none⟩)], .agg #[.string x.1, .int .i64 x.2], undef, undef, undef, undef, undef], defers := [] })
    (fun x a' _ X Y row hs hg hr => by obtain ⟨Bx, h1, h2, h3⟩ := hs; exact ⟨Bx, h1, blk_kept h2 hg (fun r e => (hr r e).2), h3⟩)
    ?assign ?body ?done ?stop
  case assign =>
    rintro l pre x W K hI hK
    gi_wp2
    have hg := World.grownBy_alloc W (.cells #[.string x.1, .int .i64 x.2] 44) none
    exact hK _ _ ((KeepsOthers.alloc _ _).from _) ((Below.refl _ W).alloc hI.bel.size _) (ApI.own w (w.heap.size + 1) (by omega) pre W _ none hI hg (fun r e => by cases e)) ⟨W.heap.size, hI.siz, Blk.new W 44 _, rfl⟩
  case body =>
    rintro l pre x a' W hl _ hI ⟨Bx, hBx, bX, rfl⟩ hlt
    obtain ⟨⟨vv, hb, hd2⟩, hbel, hsz⟩ := hI
    obtain ⟨A, c, rfl⟩ := dr_val hd2
    have c0 := hb.cell 0
    have x0 := bX.cell 0
    have x1 := bX.cell 1
    simp only [List.getElem?_toArray, List.getElem?_cons_zero, List.getElem?_cons_succ] at c0 x0 x1
    obtain ⟨i0, hi0, hz0, hz1, hz2⟩ := info_parts infoDue
    have t0 : 0 < 2 := by omega
    have t1 : ∀ u ∈ [Value.string x.1, .int .i64 x.2], u.oneCell' = true := by simp [Value.oneCell']
    obtain ⟨k, hk⟩ : ∃ k, k = pre.length := ⟨_, rfl⟩
    have hkf : k < 256 := by omega
    have t2 : k + 1 ≤ maxLen := by unfold maxLen; omega
    have t3 : (k + 1) * 24 ≤ 140737488355328 := by omega
    have t4 : w.heap.size ≤ (W.alloc (.cells #[.string x.1, .int .i64 x.2] 44)).heap.size := by simp; omega
    have hrd := (reads_due W 44 (.string x.1) (.int .i64 x.2) W.heap.size rfl)
    have hcells : ∀ j u, [Value.string x.1, .int .i64 x.2][j]? = some u → (W.alloc (.cells #[.string x.1, .int .i64 x.2] 44)).cell? ((⟨W.heap.size, 0, none⟩ : Addr).add j) = some u := by
      obtain ⟨ad, e, _, h⟩ := hrd.2 (by omega)
      cases e
      exact h
    rw [← hk] at c0
    have hown : W.ownsRow w.heap.size 44 2 (.slice A k c) k (dcells pre) := by
      have := hd2
      unfold DR at this
      rw [← hk] at this
      exact this
    have HOW := Lib.hid hown
    have HOA := Lib.hid (hown.alloc (.cells #[.string x.1, .int .i64 x.2] 44))
    have HCL := Lib.hid hcells
    have HBX := Lib.hid hb
    have HK := Lib.hid hk
    have HBE := Lib.hid hbel
    have HI0 := Lib.hid hi0
    have HZ0 := Lib.hid hz0
    have HZ1 := Lib.hid hz1
    have HZ2 := Lib.hid hz2
    have T1 := Lib.hid t1
    clear hown hcells hb hk hbel hi0 hz0 hz1 hz2 t1 hrd hd2 hst hI0
    gi_wp2_with (gi_at_builtin; refine wpListIn_append_own _ rfl (.tmp 8) (.tmp 10) 26 rfl w.heap.size 44 i0 (.agg #[.string ⟨#[]⟩, .int .i64 0]) 2 24 Try.underlying26 HI0.out HZ0.out HZ1.out HZ2.out rfl t0 (.slice A k c) k (dcells pre) rfl HOA.out ⟨W.heap.size, 0, none⟩ 1 1 [.string x.1, .int .i64 x.2] rfl rfl HCL.out T1.out t2 t3 t4 ?_; intro v' w1 ho hg _; obtain ⟨A', c', rfl⟩ := own_val ho; have HAP := Lib.hid (Boxed.appended (B := w.heap.size) (t := 26) (v := .slice A k c) (by have := HBX.out; rw [← HK.out] at this; exact this) (by decide) HOW.out (Nat.le_of_lt hsz) (Nat.le_refl _) ho hg); have g0 := Blk.cell (show Blk w1 w.heap.size 26 #[.slice A k c] from HAP.out.1) 0; have g1 := Blk.frozen (show Blk w1 w.heap.size 26 #[.slice A k c] from HAP.out.1) 0; simp only [List.getElem?_toArray, List.getElem?_cons_zero] at g0; clear ho hg)
    obtain ⟨y1, y2, y3, y4, y5⟩ := HAP.out
    refine ⟨y4.from _, y5, ⟨⟨_, y2, ?_⟩, HBE.out.trans y5, Nat.lt_of_lt_of_le hsz y5.size⟩⟩
    unfold DR
    rw [dcells_append, List.length_append, ← HK.out]
    exact y3
  case done =>
    rintro D ys W hD rfl ⟨⟨vv, hb, hd2⟩, hbel, hsz⟩ hK
    have c0 := hb.cell 0
    simp only [List.getElem?_toArray, List.getElem?_cons_zero] at c0
    have HD2 := Lib.hid hd2
    have HBE := Lib.hid hbel
    clear hb hd2 hbel hst hI0
    gi_wp2
    refine ⟨by simp, .inl ⟨_, _, rfl, run_takeDeferred hK, ?_⟩⟩
    have hg' := grownBy_putObj' W D (.deferred none)
    exact ⟨_, results_tmp rfl _ _ _, vv, rfl, HD2.out.kept hg' (fun r e => by cases e; exact ⟨_, hK, rfl⟩), HBE.out.trans (belowK_b (w := w) (Nat.le_refl _) W D _ _ (by omega) hK rfl rfl)⟩
  case stop =>
    rintro D c pre W _ _ h
    exact h.elim
end Go.Proofs.Ytdhilhjiccpkkaa
