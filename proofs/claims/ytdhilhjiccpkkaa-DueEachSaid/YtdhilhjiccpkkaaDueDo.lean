/-
  One call of both queues: they do not part.
-/
import Derived.Test.YtdhilhjiccpkkaaDueL2
import Derived.Deep.RegionHeld3
namespace Go.Proofs.Ytdhilhjiccpkkaa
open Go.RowKit
set_option linter.unusedVariables false

/-- the lists stay alike -/
def DoPost (B : Nat) (q x : Nat) (e : Ending) (w' : World) (w : World) : Prop := e = .returned (.bool true) ∧ (∃ X', QX B (fun _ => False) w' q x X' X') ∧ Below B w w'
set_option maxRecDepth 100000 in
set_option maxHeartbeats 4000000 in
theorem do_set {B q x : Nat} {X : List Du} (w : World) (h : QX B (fun _ => False) w q x X X) (s : ByteArray) (a : Int) (hs : s.size ≤ maxLen) :
    Calls Try.prog 10 #[.pointer (some ⟨q, 0, none⟩), .pointer (some ⟨x, 0, none⟩), .agg #[.int .i64 1, .string s, .int .i64 a]] w fun e w' => DoPost B q x e w' w := by
  obtain ⟨w1, hw1⟩ : ∃ w1, w1 = w.alloc (.cells #[.int .i64 1, .string s, .int .i64 a] 31) := ⟨_, rfl⟩
  have hb1 : Below w.heap.size w w1 := by rw [hw1]; exact (Below.refl _ _).alloc (Nat.le_refl _) _
  have hx1 : Blk w1 w.heap.size 31 #[.int .i64 1, .string s, .int .i64 a] := by rw [hw1]; exact Blk.new w 31 _
  have HQ : Hid (QX B (· = w.heap.size) w1 q x X X) := Lib.hid (by rw [hw1]; exact h.box _)
  have HB1 := Lib.hid (hb1.mono h.size)
  have HX1 := Lib.hid hx1
  have x0 := hx1.cell 0
  have x1 := hx1.cell 1
  have x2 := hx1.cell 2
  simp only [List.getElem?_toArray, List.getElem?_cons_zero, List.getElem?_cons_succ] at x0 x1 x2
  have HW1 := Lib.hid hw1
  have HFI := Lib.hid (bfind_x w1 HQ.out s)
  have HSZ := Lib.hid hs
  obtain ⟨N, hN⟩ : ∃ N, N = w.heap.size := ⟨_, rfl⟩
  rw [← hN] at HQ HX1 x0 x1 x2
  have HN := Lib.hid hN
  clear hb1 hx1 h hw1 hs hN
  go_enter Try.func10, Try.ntmps10
  go_wp2_with fail
  rw [← HW1.out, ← HN.out]
  refine HFI.out.mono ?_
  rintro e w1 ⟨rfl, rfl⟩
  go_wp2_with fail
  have HQD := Lib.hid (HQ.out.below ((Below.refl _ _).drew))
  have HBD : Hid (Below B w w1.drew) := Lib.hid (HB1.out.trans (((Below.refl _ _).drew).mono HQ.out.size))
  have HXD : Hid (Blk w1.drew N 31 _) := Lib.hid HX1.out
  have hz1 : w1.drew.cell? ⟨N, 1, none⟩ = some (.string s) := x1
  have hz2 : w1.drew.cell? ⟨N, 2, none⟩ = some (.int .i64 a) := x2
  have HC1 := Lib.hid (bset_q _ HQD.out s a)
  go_region_held3 (fun V : World => V.cell? ⟨N, 1, none⟩ = some (.string s) ∧ V.cell? ⟨N, 2, none⟩ = some (.int .i64 a))
    (go_keep)
    (first
    | (go_at_call 14; refine HC1.out.mono ?_; rintro e w2 ⟨rfl, k1, k2, k3⟩; have HQ2 := Lib.hid k1; have HB2 := Lib.hid (HBD.out.trans k2); have HX2 := Lib.hid (k3 N _ _ rfl HXD.out); have z1 := HX2.out.cell 1; have z2 := HX2.out.cell 2; simp only [List.getElem?_toArray, List.getElem?_cons_zero, List.getElem?_cons_succ] at z1 z2; clear k1 k2 k3)
    | (go_at_call 22; refine (bset_x _ HQ2.out s a).mono ?_; rintro e w3 ⟨rfl, k1, k2, k3⟩; have HQ3 := Lib.hid k1; have HB3 := Lib.hid (HB2.out.trans k2); have HX3 := Lib.hid (k3 N _ _ rfl HX2.out); have u1 := HX3.out.cell 1; have u2 := HX3.out.cell 2; simp only [List.getElem?_toArray, List.getElem?_cons_zero, List.getElem?_cons_succ] at u1 u2; clear k1 k2 k3))
  go_wp2
  go_ret
  exact ⟨by simp, ⟨_, HQ3.out.weak⟩, HB3.out⟩
set_option maxRecDepth 100000 in
set_option maxHeartbeats 4000000 in
theorem do_drop {B q x : Nat} {X : List Du} (w : World) (h : QX B (fun _ => False) w q x X X) (s : ByteArray) (a : Int) (hs : s.size ≤ maxLen) :
    Calls Try.prog 10 #[.pointer (some ⟨q, 0, none⟩), .pointer (some ⟨x, 0, none⟩), .agg #[.int .i64 2, .string s, .int .i64 a]] w fun e w' => DoPost B q x e w' w := by
  obtain ⟨w1, hw1⟩ : ∃ w1, w1 = w.alloc (.cells #[.int .i64 2, .string s, .int .i64 a] 31) := ⟨_, rfl⟩
  have hb1 : Below w.heap.size w w1 := by rw [hw1]; exact (Below.refl _ _).alloc (Nat.le_refl _) _
  have hx1 : Blk w1 w.heap.size 31 #[.int .i64 2, .string s, .int .i64 a] := by rw [hw1]; exact Blk.new w 31 _
  have HQ : Hid (QX B (· = w.heap.size) w1 q x X X) := Lib.hid (by rw [hw1]; exact h.box _)
  have HB1 := Lib.hid (hb1.mono h.size)
  have HX1 := Lib.hid hx1
  have x0 := hx1.cell 0
  have x1 := hx1.cell 1
  have x2 := hx1.cell 2
  simp only [List.getElem?_toArray, List.getElem?_cons_zero, List.getElem?_cons_succ] at x0 x1 x2
  have HW1 := Lib.hid hw1
  have HFI := Lib.hid (bfind_x w1 HQ.out s)
  have HSZ := Lib.hid hs
  obtain ⟨N, hN⟩ : ∃ N, N = w.heap.size := ⟨_, rfl⟩
  rw [← hN] at HQ HX1 x0 x1 x2
  have HN := Lib.hid hN
  clear hb1 hx1 h hw1 hs hN
  go_enter Try.func10, Try.ntmps10
  go_wp2_with fail
  rw [← HW1.out, ← HN.out]
  refine HFI.out.mono ?_
  rintro e w1 ⟨rfl, rfl⟩
  go_wp2_with fail
  have HQD := Lib.hid (HQ.out.below ((Below.refl _ _).drew))
  have HBD : Hid (Below B w w1.drew) := Lib.hid (HB1.out.trans (((Below.refl _ _).drew).mono HQ.out.size))
  have HXD : Hid (Blk w1.drew N 31 _) := Lib.hid HX1.out
  have hz1 : w1.drew.cell? ⟨N, 1, none⟩ = some (.string s) := x1
  have hz2 : w1.drew.cell? ⟨N, 2, none⟩ = some (.int .i64 a) := x2
  have HC1 := Lib.hid (bdrop_q _ HQD.out s HSZ.out)
  go_region_held3 (fun V : World => V.cell? ⟨N, 1, none⟩ = some (.string s) ∧ V.cell? ⟨N, 2, none⟩ = some (.int .i64 a))
    (go_keep)
    (first
    | (go_at_call 16; refine HC1.out.mono ?_; rintro e w2 ⟨rfl, k1, k2, k3⟩; have HQ2 := Lib.hid k1; have HB2 := Lib.hid (HBD.out.trans k2); have HX2 := Lib.hid (k3 N _ _ rfl HXD.out); have z1 := HX2.out.cell 1; have z2 := HX2.out.cell 2; simp only [List.getElem?_toArray, List.getElem?_cons_zero, List.getElem?_cons_succ] at z1 z2; clear k1 k2 k3)
    | (go_at_call 23; refine (bdrop_x _ HQ2.out s).mono ?_; rintro e w3 ⟨rfl, k1, k2, k3⟩; have HQ3 := Lib.hid k1; have HB3 := Lib.hid (HB2.out.trans k2); have HX3 := Lib.hid (k3 N _ _ rfl HX2.out); have u1 := HX3.out.cell 1; have u2 := HX3.out.cell 2; simp only [List.getElem?_toArray, List.getElem?_cons_zero, List.getElem?_cons_succ] at u1 u2; clear k1 k2 k3))
  go_wp2
  go_ret
  exact ⟨by simp, ⟨_, HQ3.out.weak⟩, HB3.out⟩
set_option maxRecDepth 100000 in
set_option maxHeartbeats 4000000 in
theorem do_until {B q x : Nat} {X : List Du} (w : World) (h : QX B (fun _ => False) w q x X X) (s : ByteArray) (a : Int) (hs : s.size ≤ maxLen) :
    Calls Try.prog 10 #[.pointer (some ⟨q, 0, none⟩), .pointer (some ⟨x, 0, none⟩), .agg #[.int .i64 5, .string s, .int .i64 a]] w fun e w' => DoPost B q x e w' w := by
  obtain ⟨w1, hw1⟩ : ∃ w1, w1 = w.alloc (.cells #[.int .i64 5, .string s, .int .i64 a] 31) := ⟨_, rfl⟩
  have hb1 : Below w.heap.size w w1 := by rw [hw1]; exact (Below.refl _ _).alloc (Nat.le_refl _) _
  have hx1 : Blk w1 w.heap.size 31 #[.int .i64 5, .string s, .int .i64 a] := by rw [hw1]; exact Blk.new w 31 _
  have HQ : Hid (QX B (· = w.heap.size) w1 q x X X) := Lib.hid (by rw [hw1]; exact h.box _)
  have HB1 := Lib.hid (hb1.mono h.size)
  have HX1 := Lib.hid hx1
  have x0 := hx1.cell 0
  have x1 := hx1.cell 1
  have x2 := hx1.cell 2
  simp only [List.getElem?_toArray, List.getElem?_cons_zero, List.getElem?_cons_succ] at x0 x1 x2
  have HW1 := Lib.hid hw1
  have HFI := Lib.hid (bfind_x w1 HQ.out s)
  have HSZ := Lib.hid hs
  obtain ⟨N, hN⟩ : ∃ N, N = w.heap.size := ⟨_, rfl⟩
  rw [← hN] at HQ HX1 x0 x1 x2
  have HN := Lib.hid hN
  clear hb1 hx1 h hw1 hs hN
  go_enter Try.func10, Try.ntmps10
  go_wp2_with fail
  rw [← HW1.out, ← HN.out]
  refine HFI.out.mono ?_
  rintro e w1 ⟨rfl, rfl⟩
  go_wp2_with fail
  have HQD := Lib.hid (HQ.out.below ((Below.refl _ _).drew))
  have HBD : Hid (Below B w w1.drew) := Lib.hid (HB1.out.trans (((Below.refl _ _).drew).mono HQ.out.size))
  have HXD : Hid (Blk w1.drew N 31 _) := Lib.hid HX1.out
  have hz1 : w1.drew.cell? ⟨N, 1, none⟩ = some (.string s) := x1
  have hz2 : w1.drew.cell? ⟨N, 2, none⟩ = some (.int .i64 a) := x2
  have HC1 := Lib.hid (buntil_q _ HQD.out a)
  have HUF : Hid ((untilL X a).length ≤ 512) := Lib.hid (by
    have h1 := (List.takeWhile_sublist (fun d : Du => decide (d.2 ≤ a)) (l := X)).length_le
    have h2 := HQ.out.few.1
    unfold untilL
    omega)
  go_region_held3 (fun V : World => V.cell? ⟨N, 1, none⟩ = some (.string s) ∧ V.cell? ⟨N, 2, none⟩ = some (.int .i64 a))
    (go_keep)
    (first
    | (go_at_call 17; refine HC1.out.mono ?_; rintro e w2 ⟨A2, c2, rfl, r1, r2, k1, k2, k3⟩; have HQ2 := Lib.hid k1; have HB2 := Lib.hid (HBD.out.trans k2); have HR2 := Lib.hid r1; have HG2 := Lib.hid r2; have HX2 := Lib.hid (k3 N _ _ rfl HXD.out); have z1 := HX2.out.cell 1; have z2 := HX2.out.cell 2; simp only [List.getElem?_toArray, List.getElem?_cons_zero, List.getElem?_cons_succ] at z1 z2; clear k1 k2 k3 r1 r2)
    | (go_at_call 24; refine (buntil_x _ HQ2.out a).mono ?_; rintro e w3 ⟨A3, c3, rfl, r1, k1, r2, k2, k3⟩; have HQ3 := Lib.hid k1; have HB3 := Lib.hid (HB2.out.trans k2); have HR3 := Lib.hid r1; have HR23 := Lib.hid (HR2.out.fr r2 (fun ad e e2 => by have h1 := HG2.out ad e; have h2 := HQD.out.xge.2; omega)); have HX3 := Lib.hid (k3 N _ _ rfl HX2.out); have u1 := HX3.out.cell 1; have u2 := HX3.out.cell 2; simp only [List.getElem?_toArray, List.getElem?_cons_zero, List.getElem?_cons_succ] at u1 u2; clear k1 k2 k3 r1 r2)
    | (go_at_call 12; refine (same_any _ HR23.out HR3.out HUF.out).mono ?_; rintro e w4 ⟨rfl, kb⟩; have HQ4 := Lib.hid (HQ3.out.below kb); have HB4 := Lib.hid (HB3.out.trans (kb.mono HQ3.out.size)); have HX4 := Lib.hid (HX3.out.below kb HX3.out.lt); have v1 := HX4.out.cell 1; have v2 := HX4.out.cell 2; simp only [List.getElem?_toArray, List.getElem?_cons_zero, List.getElem?_cons_succ] at v1 v2; clear kb))
  go_wp2
  go_ret
  exact ⟨by simp, ⟨_, HQ4.out.weak⟩, HB4.out⟩
set_option maxRecDepth 100000 in
set_option maxHeartbeats 4000000 in
theorem do_get_no {B q x : Nat} {X : List Du} (w : World) (h : QX B (fun _ => False) w q x X X) (s : ByteArray) (a : Int) (hi : idxL X s = none) (hs : s.size ≤ maxLen) :
    Calls Try.prog 10 #[.pointer (some ⟨q, 0, none⟩), .pointer (some ⟨x, 0, none⟩), .agg #[.int .i64 3, .string s, .int .i64 a]] w fun e w' => DoPost B q x e w' w := by
  obtain ⟨w1, hw1⟩ : ∃ w1, w1 = w.alloc (.cells #[.int .i64 3, .string s, .int .i64 a] 31) := ⟨_, rfl⟩
  have hb1 : Below w.heap.size w w1 := by rw [hw1]; exact (Below.refl _ _).alloc (Nat.le_refl _) _
  have hx1 : Blk w1 w.heap.size 31 #[.int .i64 3, .string s, .int .i64 a] := by rw [hw1]; exact Blk.new w 31 _
  have HQ : Hid (QX B (· = w.heap.size) w1 q x X X) := Lib.hid (by rw [hw1]; exact h.box _)
  have HB1 := Lib.hid (hb1.mono h.size)
  have HX1 := Lib.hid hx1
  have x0 := hx1.cell 0
  have x1 := hx1.cell 1
  have x2 := hx1.cell 2
  simp only [List.getElem?_toArray, List.getElem?_cons_zero, List.getElem?_cons_succ] at x0 x1 x2
  have HW1 := Lib.hid hw1
  have HFI := Lib.hid (bfind_x w1 HQ.out s)
  have HSZ := Lib.hid hs
  obtain ⟨N, hN⟩ : ∃ N, N = w.heap.size := ⟨_, rfl⟩
  rw [← hN] at HQ HX1 x0 x1 x2
  have HN := Lib.hid hN
  clear hb1 hx1 h hw1 hs hN
  have hfi : findI X s = -1 := by unfold findI; rw [hi]
  have hgx : getX X s = none := by unfold getX; rw [hi]; rfl
  have hG := bget_q w1 HQ.out s HSZ.out
  rw [hfi] at HFI
  rw [hgx] at hG
  have HG := Lib.hid hG
  clear hfi hgx hG hi
  go_enter Try.func10, Try.ntmps10
  go_wp2_with fail
  rw [← HW1.out, ← HN.out]
  refine HFI.out.mono ?_
  rintro e w1 ⟨rfl, rfl⟩
  go_wp2_with fail
  refine HG.out.mono ?_
  rintro e w1 ⟨rfl, rfl⟩
  go_wp2
  go_ret
  exact ⟨by simp, ⟨_, HQ.out.weak⟩, HB1.out⟩
set_option maxRecDepth 100000 in
set_option maxHeartbeats 4000000 in
theorem do_get_yes {B q x : Nat} {X : List Du} (w : World) (h : QX B (fun _ => False) w q x X X) (s : ByteArray) (a : Int) {i : Nat} (hi : idxL X s = some i) (hs : s.size ≤ maxLen) :
    Calls Try.prog 10 #[.pointer (some ⟨q, 0, none⟩), .pointer (some ⟨x, 0, none⟩), .agg #[.int .i64 3, .string s, .int .i64 a]] w fun e w' => DoPost B q x e w' w := by
  obtain ⟨w1, hw1⟩ : ∃ w1, w1 = w.alloc (.cells #[.int .i64 3, .string s, .int .i64 a] 31) := ⟨_, rfl⟩
  have hb1 : Below w.heap.size w w1 := by rw [hw1]; exact (Below.refl _ _).alloc (Nat.le_refl _) _
  have hx1 : Blk w1 w.heap.size 31 #[.int .i64 3, .string s, .int .i64 a] := by rw [hw1]; exact Blk.new w 31 _
  have HQ : Hid (QX B (· = w.heap.size) w1 q x X X) := Lib.hid (by rw [hw1]; exact h.box _)
  have HB1 := Lib.hid (hb1.mono h.size)
  have HX1 := Lib.hid hx1
  have x0 := hx1.cell 0
  have x1 := hx1.cell 1
  have x2 := hx1.cell 2
  simp only [List.getElem?_toArray, List.getElem?_cons_zero, List.getElem?_cons_succ] at x0 x1 x2
  have HW1 := Lib.hid hw1
  have HFI := Lib.hid (bfind_x w1 HQ.out s)
  have HSZ := Lib.hid hs
  obtain ⟨N, hN⟩ : ∃ N, N = w.heap.size := ⟨_, rfl⟩
  rw [← hN] at HQ HX1 x0 x1 x2
  have HN := Lib.hid hN
  clear hb1 hx1 h hw1 hs hN
  have hfi : findI X s = (i : Int) := by unfold findI; rw [hi]
  have hgx : getX X s = some (gd X i).2 := by unfold getX; rw [hi]; rfl
  have hiX : i < X.length := by
    unfold idxL at hi
    rw [List.findIdx?_eq_some_iff_getElem] at hi
    exact hi.1
  have hG := bget_q w1 HQ.out s HSZ.out
  rw [hfi] at HFI
  rw [hgx] at hG
  obtain ⟨AX, cX, hxa⟩ := HQ.out.doc
  have y0 := hxa.blk.cell 0
  simp only [List.getElem?_toArray, List.getElem?_cons_zero] at y0
  rcases hxa.rl with e | ⟨b, o, rfl, _, hc⟩
  · subst e; simp at hiX
  have y1 := (hc i hiX).2
  obtain ⟨n, hn⟩ : ∃ n, n = X.length := ⟨_, rfl⟩
  obtain ⟨d, hd⟩ : ∃ d, d = (gd X i).2 := ⟨_, rfl⟩
  rw [← hn] at y0 hiX
  rw [← hd] at y1 hG
  have HG := Lib.hid hG
  have q1 : (0 : Int) ≤ (i : Int) := by omega
  have q2 : (i : Int) < (n : Int) := by omega
  have q3 : decide ((0 : Int) ≤ (i : Int)) = true := by rw [decide_eq_true_iff]; omega
  clear hfi hgx hG hi hxa hc hn hd
  go_enter Try.func10, Try.ntmps10
  go_wp2_with fail
  rw [← HW1.out, ← HN.out]
  refine HFI.out.mono ?_
  rintro e w1 ⟨rfl, rfl⟩
  go_wp2_with fail
  refine HG.out.mono ?_
  rintro e w1 ⟨rfl, rfl⟩
  go_wp2
  go_ret
  exact ⟨by simp, ⟨_, HQ.out.weak⟩, HB1.out⟩
set_option maxRecDepth 100000 in
set_option maxHeartbeats 4000000 in
theorem do_other {B q x : Nat} {X : List Du} (w : World) (h : QX B (fun _ => False) w q x X X) (k : Int) (hk : k ≠ 1 ∧ k ≠ 2 ∧ k ≠ 3 ∧ k ≠ 4 ∧ k ≠ 5) (s : ByteArray) (a : Int) (hs : s.size ≤ maxLen) :
    Calls Try.prog 10 #[.pointer (some ⟨q, 0, none⟩), .pointer (some ⟨x, 0, none⟩), .agg #[.int .i64 k, .string s, .int .i64 a]] w fun e w' => DoPost B q x e w' w := by
  obtain ⟨w1, hw1⟩ : ∃ w1, w1 = w.alloc (.cells #[.int .i64 k, .string s, .int .i64 a] 31) := ⟨_, rfl⟩
  have hb1 : Below w.heap.size w w1 := by rw [hw1]; exact (Below.refl _ _).alloc (Nat.le_refl _) _
  have hx1 : Blk w1 w.heap.size 31 #[.int .i64 k, .string s, .int .i64 a] := by rw [hw1]; exact Blk.new w 31 _
  have HQ : Hid (QX B (· = w.heap.size) w1 q x X X) := Lib.hid (by rw [hw1]; exact h.box _)
  have HB1 := Lib.hid (hb1.mono h.size)
  have HX1 := Lib.hid hx1
  have x0 := hx1.cell 0
  have x1 := hx1.cell 1
  have x2 := hx1.cell 2
  simp only [List.getElem?_toArray, List.getElem?_cons_zero, List.getElem?_cons_succ] at x0 x1 x2
  have HW1 := Lib.hid hw1
  have HFI := Lib.hid (bfind_x w1 HQ.out s)
  have HSZ := Lib.hid hs
  obtain ⟨N, hN⟩ : ∃ N, N = w.heap.size := ⟨_, rfl⟩
  rw [← hN] at HQ HX1 x0 x1 x2
  have HN := Lib.hid hN
  clear hb1 hx1 h hw1 hs hN
  have e1 : (k == 1) = false := beq_eq_false_iff_ne.2 hk.1
  have e2 : (k == 2) = false := beq_eq_false_iff_ne.2 hk.2.1
  have e3 : (k == 3) = false := beq_eq_false_iff_ne.2 hk.2.2.1
  have e4 : (k == 4) = false := beq_eq_false_iff_ne.2 hk.2.2.2.1
  have e5 : (k == 5) = false := beq_eq_false_iff_ne.2 hk.2.2.2.2
  have f1 : decide (k = 1) = false := decide_eq_false hk.1
  have f2 : decide (k = 2) = false := decide_eq_false hk.2.1
  have f3 : decide (k = 3) = false := decide_eq_false hk.2.2.1
  have f4 : decide (k = 4) = false := decide_eq_false hk.2.2.2.1
  have f5 : decide (k = 5) = false := decide_eq_false hk.2.2.2.2
  clear hk
  go_enter Try.func10, Try.ntmps10
  go_wp2_with fail
  rw [← HW1.out, ← HN.out]
  refine HFI.out.mono ?_
  rintro e w1 ⟨rfl, rfl⟩
  go_wp2
  go_ret
  exact ⟨by simp, ⟨_, HQ.out.weak⟩, HB1.out⟩
set_option maxRecDepth 100000 in
set_option maxHeartbeats 4000000 in
theorem do_first_no {B q x : Nat} {X : List Du} (w : World) (h : QX B (fun _ => False) w q x X X) (s : ByteArray) (a : Int) (hn : X = []) (hs : s.size ≤ maxLen) :
    Calls Try.prog 10 #[.pointer (some ⟨q, 0, none⟩), .pointer (some ⟨x, 0, none⟩), .agg #[.int .i64 4, .string s, .int .i64 a]] w fun e w' => DoPost B q x e w' w := by
  obtain ⟨w1, hw1⟩ : ∃ w1, w1 = w.alloc (.cells #[.int .i64 4, .string s, .int .i64 a] 31) := ⟨_, rfl⟩
  have hb1 : Below w.heap.size w w1 := by rw [hw1]; exact (Below.refl _ _).alloc (Nat.le_refl _) _
  have hx1 : Blk w1 w.heap.size 31 #[.int .i64 4, .string s, .int .i64 a] := by rw [hw1]; exact Blk.new w 31 _
  have HQ : Hid (QX B (· = w.heap.size) w1 q x X X) := Lib.hid (by rw [hw1]; exact h.box _)
  have HB1 := Lib.hid (hb1.mono h.size)
  have HX1 := Lib.hid hx1
  have x0 := hx1.cell 0
  have x1 := hx1.cell 1
  have x2 := hx1.cell 2
  simp only [List.getElem?_toArray, List.getElem?_cons_zero, List.getElem?_cons_succ] at x0 x1 x2
  have HW1 := Lib.hid hw1
  have HFI := Lib.hid (bfind_x w1 HQ.out s)
  have HSZ := Lib.hid hs
  obtain ⟨N, hN⟩ : ∃ N, N = w.heap.size := ⟨_, rfl⟩
  rw [← hN] at HQ HX1 x0 x1 x2
  have HN := Lib.hid hN
  clear hb1 hx1 h hw1 hs hN
  subst hn
  have hF := bfirst_q w1 HQ.out
  rw [show gd [] 0 = (⟨#[]⟩, 0) from rfl, show decide (0 < ([] : List Du).length) = false from rfl] at hF
  have HFR := Lib.hid hF
  clear hF
  go_enter Try.func10, Try.ntmps10
  go_wp2_with fail
  rw [← HW1.out, ← HN.out]
  refine HFI.out.mono ?_
  rintro e w1 ⟨rfl, rfl⟩
  go_wp2_with fail
  refine HFR.out.mono ?_
  rintro e w2 ⟨rfl, hb2⟩
  have HQ2 := Lib.hid (HQ.out.below hb2)
  have HB2 := Lib.hid (HB1.out.trans (hb2.mono HQ.out.size))
  clear hb2 x0 x1 x2
  obtain ⟨w3, hw3⟩ : ∃ w3, w3 = w2.alloc (.cells #[.string ⟨#[]⟩, .int .i64 0] 44) := ⟨_, rfl⟩
  have hb3 : Below w2.heap.size w2 w3 := by rw [hw3]; exact (Below.refl _ _).alloc (Nat.le_refl _) _
  have hy3 : Blk w3 w2.heap.size 44 #[.string ⟨#[]⟩, .int .i64 0] := by rw [hw3]; exact Blk.new w2 44 _
  have HQ3 := Lib.hid (HQ2.out.below hb3)
  have HB3 := Lib.hid (HB2.out.trans (hb3.mono HQ2.out.size))
  have v0 := hy3.cell 0
  have v1 := hy3.cell 1
  simp only [List.getElem?_toArray, List.getElem?_cons_zero, List.getElem?_cons_succ] at v0 v1
  obtain ⟨AX, cX, hxa⟩ := HQ3.out.doc
  have y0 := hxa.blk.cell 0
  simp only [List.getElem?_toArray, List.getElem?_cons_zero] at y0
  have HXA := Lib.hid hxa
  have HW3 := Lib.hid hw3
  clear hw3 hb3 hy3 hxa
  have hq := equalIn_du ⟨#[]⟩ ⟨#[]⟩ 0 0
  rw [decide_eq_true rfl] at hq
  rw [List.length_nil] at y0
  have hng := noGuard
  go_wp2_with fail
  rw [← HW3.out]
  go_quiet (fail)
  have HQ4 := Lib.hid (HQ3.out.below (below_drewN (Below.refl _ _) nq))
  have HB4 := Lib.hid (HB3.out.trans ((below_drewN (Below.refl _ _) nq).mono HQ3.out.size))
  clear hq v0 v1 y0
  go_wp2
  go_ret
  exact ⟨by simp, ⟨_, HQ4.out.weak⟩, HB4.out⟩
set_option maxRecDepth 100000 in
set_option maxHeartbeats 4000000 in
theorem do_first_yes {B q x : Nat} {X : List Du} (w : World) (h : QX B (fun _ => False) w q x X X) (s : ByteArray) (a : Int) (hn : 0 < X.length) (hs : s.size ≤ maxLen) :
    Calls Try.prog 10 #[.pointer (some ⟨q, 0, none⟩), .pointer (some ⟨x, 0, none⟩), .agg #[.int .i64 4, .string s, .int .i64 a]] w fun e w' => DoPost B q x e w' w := by
  obtain ⟨w1, hw1⟩ : ∃ w1, w1 = w.alloc (.cells #[.int .i64 4, .string s, .int .i64 a] 31) := ⟨_, rfl⟩
  have hb1 : Below w.heap.size w w1 := by rw [hw1]; exact (Below.refl _ _).alloc (Nat.le_refl _) _
  have hx1 : Blk w1 w.heap.size 31 #[.int .i64 4, .string s, .int .i64 a] := by rw [hw1]; exact Blk.new w 31 _
  have HQ : Hid (QX B (· = w.heap.size) w1 q x X X) := Lib.hid (by rw [hw1]; exact h.box _)
  have HB1 := Lib.hid (hb1.mono h.size)
  have HX1 := Lib.hid hx1
  have x0 := hx1.cell 0
  have x1 := hx1.cell 1
  have x2 := hx1.cell 2
  simp only [List.getElem?_toArray, List.getElem?_cons_zero, List.getElem?_cons_succ] at x0 x1 x2
  have HW1 := Lib.hid hw1
  have HFI := Lib.hid (bfind_x w1 HQ.out s)
  have HSZ := Lib.hid hs
  obtain ⟨N, hN⟩ : ∃ N, N = w.heap.size := ⟨_, rfl⟩
  rw [← hN] at HQ HX1 x0 x1 x2
  have HN := Lib.hid hN
  clear hb1 hx1 h hw1 hs hN
  obtain ⟨f1, hf1⟩ : ∃ f1, f1 = (gd X 0).1 := ⟨_, rfl⟩
  obtain ⟨f2, hf2⟩ : ∃ f2, f2 = (gd X 0).2 := ⟨_, rfl⟩
  have hF := bfirst_q w1 HQ.out
  rw [decide_eq_true hn, ← hf1, ← hf2] at hF
  have HFR := Lib.hid hF
  have HNX := Lib.hid hn
  have HF1 := Lib.hid hf1
  have HF2 := Lib.hid hf2
  clear hF hn hf1 hf2
  go_enter Try.func10, Try.ntmps10
  go_wp2_with fail
  rw [← HW1.out, ← HN.out]
  refine HFI.out.mono ?_
  rintro e w1 ⟨rfl, rfl⟩
  go_wp2_with fail
  refine HFR.out.mono ?_
  rintro e w2 ⟨rfl, hb2⟩
  have HQ2 := Lib.hid (HQ.out.below hb2)
  have HB2 := Lib.hid (HB1.out.trans (hb2.mono HQ.out.size))
  clear hb2 x0 x1 x2
  obtain ⟨w3, hw3⟩ : ∃ w3, w3 = w2.alloc (.cells #[.string f1, .int .i64 f2] 44) := ⟨_, rfl⟩
  have hb3 : Below w2.heap.size w2 w3 := by rw [hw3]; exact (Below.refl _ _).alloc (Nat.le_refl _) _
  have hy3 : Blk w3 w2.heap.size 44 #[.string f1, .int .i64 f2] := by rw [hw3]; exact Blk.new w2 44 _
  have HQ3 := Lib.hid (HQ2.out.below hb3)
  have HB3 := Lib.hid (HB2.out.trans (hb3.mono HQ2.out.size))
  have v0 := hy3.cell 0
  have v1 := hy3.cell 1
  simp only [List.getElem?_toArray, List.getElem?_cons_zero, List.getElem?_cons_succ] at v0 v1
  obtain ⟨AX, cX, hxa⟩ := HQ3.out.doc
  have y0 := hxa.blk.cell 0
  simp only [List.getElem?_toArray, List.getElem?_cons_zero] at y0
  have HXA := Lib.hid hxa
  have HW3 := Lib.hid hw3
  clear hw3 hb3 hy3 hxa
  rcases HXA.out.rl with e | ⟨b, o, rfl, _, hc⟩
  · have := HNX.out; rw [e] at this; simp at this
  have y1 := (hc 0 HNX.out).1
  have y2 := (hc 0 HNX.out).2
  rw [Nat.zero_mul, Nat.add_zero, ← HF1.out] at y1
  rw [Nat.zero_mul, Nat.add_zero, ← HF2.out] at y2
  obtain ⟨n, hn⟩ : ∃ n, n = X.length := ⟨_, rfl⟩
  have hpos : 0 < n := by rw [hn]; exact HNX.out
  have q1 : (0 : Int) < (n : Int) := by omega
  have q2 : decide ((0 : Int) < (n : Int)) = true := by rw [decide_eq_true_iff]; omega
  have q3 : decide (0 < n) = true := by rw [decide_eq_true_iff]; omega
  rw [← hn] at y0
  have hq := equalIn_du f1 f1 f2 f2
  rw [decide_eq_true rfl] at hq
  clear hc hn
  have hng := noGuard
  go_wp2_with fail
  rw [← HW3.out]
  go_quiet (fail)
  have HQ4 := Lib.hid (HQ3.out.below (below_drewN (Below.refl _ _) nq))
  have HB4 := Lib.hid (HB3.out.trans ((below_drewN (Below.refl _ _) nq).mono HQ3.out.size))
  clear hq v0 v1 y0 y1 y2
  go_wp2
  go_ret
  exact ⟨by simp, ⟨_, HQ4.out.weak⟩, HB4.out⟩
theorem do_any {B q x : Nat} {X : List Du} (w : World) (h : QX B (fun _ => False) w q x X X) (k : Int) (s : ByteArray) (a : Int) (hs : s.size ≤ maxLen) :
    Calls Try.prog 10 #[.pointer (some ⟨q, 0, none⟩), .pointer (some ⟨x, 0, none⟩), .agg #[.int .i64 k, .string s, .int .i64 a]] w fun e w' => DoPost B q x e w' w := by
  rcases (by omega : k = 1 ∨ k = 2 ∨ k = 3 ∨ k = 4 ∨ k = 5 ∨ (k ≠ 1 ∧ k ≠ 2 ∧ k ≠ 3 ∧ k ≠ 4 ∧ k ≠ 5)) with rfl | rfl | rfl | rfl | rfl | hk
  · exact do_set w h s a hs
  · exact do_drop w h s a hs
  · cases hi : idxL X s with
    | none => exact do_get_no w h s a hi hs
    | some i => exact do_get_yes w h s a hi hs
  · rcases Nat.eq_zero_or_pos X.length with h0 | h0
    · exact do_first_no w h s a (List.eq_nil_of_length_eq_zero h0) hs
    · exact do_first_yes w h s a h0 hs
  · exact do_until w h s a hs
  · exact do_other w h k hk s a hs
end Go.Proofs.Ytdhilhjiccpkkaa
