/-
  target.Find, named.of, named.load; patterns of any size are refused at once.
-/
import Derived.Test.YthidjdjcjjbpbaaGreatDoorSeIx
import Derived.Test.YthidjdjcjjbpbaaGreatDoorGR
import Derived.Test.YthidjdjcjjbpbaaGreatDoorGA
namespace Go.Proofs.YthidjdjcjjbpbaaGreatDoor
open Go.RowKit Sea Glob
set_option linter.unusedVariables false
set_option linter.unusedSimpArgs false

def ptV : Option PT → Value
  | some x => .agg #[.string x.p, .int .i64 x.n, .string x.h]
  | none => .agg #[.string ⟨#[]⟩, .int .i64 0, .string ⟨#[]⟩]
/-- what target.Find answers -/
def TfP (x : Option PT) (w : World) (e : Ending) (w' : World) : Prop := e = .returned (.tuple #[ptV x, .bool x.isSome]) ∧ Below w.heap.size w w'
theorem below_al2 {B : Nat} {w w' : World} (o : Obj) (h : Below B w w') (hB : B ≤ w'.heap.size) : Below B w (w'.alloc o) := h.alloc hB o
theorem idx_case (path : ByteArray) (l : List PT) : (idxG (fun x : PT => decide (x.p = path)) l = -1 ∧ findT path l = none) ∨ ∃ k, ∃ hk : k < l.length, idxG (fun x : PT => decide (x.p = path)) l = k ∧ findT path l = some l[k] := idxG_find _ _
set_option maxRecDepth 100000 in
set_option maxHeartbeats 2000000 in
theorem tfind_any (X : Nat → Prop) (t : PM) (a : MA) (path : ByteArray) (w : World) (h : MOk X w t a) (hs : t.ts.length ≤ 200) : Calls Tryz.prog 26 #[t.val a, .string path] w fun e w' => PF (TfP (findT path t.ts) w) e w' := by
  obtain ⟨W3, hW3⟩ : ∃ W3, W3 = (((w.alloc (.cells #[.int .i64 t.ver, .int .i64 t.exp, .slice a.tA t.ts.length a.tc, .slice a.kA t.ks.length a.kc, .slice a.dA t.ds.length a.dc] 26)).alloc (.cells #[.string path] 9)).alloc (.cells #[.string ⟨#[]⟩, .int .i64 0, .string ⟨#[]⟩] 31)) := ⟨_, rfl⟩
  have hb3 : Below w.heap.size w W3 := by rw [hW3]; exact ((((Below.refl _ _).alloc (Nat.le_refl _) _).alloc (by simp) _).alloc (by simp; omega) _)
  have hk0 : Blk W3 w.heap.size 26 #[.int .i64 t.ver, .int .i64 t.exp, .slice a.tA t.ts.length a.tc, .slice a.kA t.ks.length a.kc, .slice a.dA t.ds.length a.dc] := by rw [hW3]; exact ((Blk.new _ _ _).alloc _).alloc _
  have hk1 : Blk W3 (w.heap.size + 1) 9 #[.string path] := by
    rw [hW3]
    have h2 := (Blk.new (w.alloc (.cells #[.int .i64 t.ver, .int .i64 t.exp, .slice a.tA t.ts.length a.tc, .slice a.kA t.ks.length a.kc, .slice a.dA t.ds.length a.dc] 26)) 9 #[.string path]).alloc (.cells #[.string ⟨#[]⟩, .int .i64 0, .string ⟨#[]⟩] 31)
    simpa using h2
  have hk2 : Blk W3 (w.heap.size + 1 + 1) 31 #[.string ⟨#[]⟩, .int .i64 0, .string ⟨#[]⟩] := by
    rw [hW3]
    have h2 := Blk.new ((w.alloc (.cells #[.int .i64 t.ver, .int .i64 t.exp, .slice a.tA t.ts.length a.tc, .slice a.kA t.ks.length a.kc, .slice a.dA t.ds.length a.dc] 26)).alloc (.cells #[.string path] 9)) 31 #[.string ⟨#[]⟩, .int .i64 0, .string ⟨#[]⟩]
    simpa using h2
  have hok := h.bel hb3
  have hix := indexT_any X 36 #[.pointer (some ⟨w.heap.size + 1, 0, none⟩)] (fun _ _ => by kernel_rfl) a.tA t.ts.length a.tc t.ts W3 (fun x : PT => decide (x.p = path)) hok.rt rfl (by omega) (fun k hk V hV => tfind1_any t.ts[k] path (w.heap.size + 1) V ((hk1.below hV hk1.lt).cell 0) (Nat.lt_of_lt_of_le hk1.lt hV.size))
  have HIX := Lib.hid hix
  have HB3 := Lib.hid hb3
  have HW3 := Lib.hid hW3
  have HOK := Lib.hid hok
  have HK0 := Lib.hid hk0
  have HK2 := Lib.hid hk2
  have HSZ := Lib.hid hs
  unfold Sea.PM.val Sea.PM.cs
  clear h hb3 hk1 hk0 hk2 hok hix hW3 hs
  rcases idx_case path t.ts with ⟨h1, h2⟩ | ⟨k, hk, h1, h2⟩
  · rw [h1] at HIX
    rw [h2]
    clear h1 h2
    go_enter Tryz.func26, Tryz.ntmps26
    go_wp2_with fail
    rw [← HW3.out]
    refine HIX.out.mono ?_
    rintro e w4 ⟨rfl, hb4⟩
    have HB4 : Hid (Below w.heap.size w w4) := Lib.hid (HB3.out.trans (hb4.mono HB3.out.size))
    have d0 : w4.cell? ⟨w.heap.size + 1 + 1, 0, none⟩ = some (.string ⟨#[]⟩) := (HK2.out.below hb4 HK2.out.lt).cell 0
    have d1 : w4.cell? ⟨w.heap.size + 1 + 1, 1, none⟩ = some (.int .i64 0) := (HK2.out.below hb4 HK2.out.lt).cell 1
    have d2 : w4.cell? ⟨w.heap.size + 1 + 1, 2, none⟩ = some (.string ⟨#[]⟩) := (HK2.out.below hb4 HK2.out.lt).cell 2
    have f0 : w4.frozen? ⟨w.heap.size + 1 + 1, 0, none⟩ = false := (HK2.out.below hb4 HK2.out.lt).frozen 0
    have f1 : w4.frozen? ⟨w.heap.size + 1 + 1, 1, none⟩ = false := (HK2.out.below hb4 HK2.out.lt).frozen 1
    have f2 : w4.frozen? ⟨w.heap.size + 1 + 1, 2, none⟩ = false := (HK2.out.below hb4 HK2.out.lt).frozen 2
    have HF := Lib.hid ((((HK2.out.below hb4 HK2.out.lt).set_ 0 (.string ⟨#[]⟩)).set_ 1 (.int .i64 0)).set_ 2 (.string ⟨#[]⟩))
    clear hb4
    go_wp2
    have k0 := HF.out.cell 0
    have k1 := HF.out.cell 1
    have k2 := HF.out.cell 2
    simp at k0 k1 k2
    refine bodyPost_ret (v := .tuple #[ptV (none), .bool false]) (by simp [results, Tryz.results26, go_sem, k0, k1, k2, ptV]) rfl ?_
    exact ⟨rfl, ((HB4.out.setCell (by simp; omega) _).setCell (by simp; omega) _).setCell (by simp; omega) _⟩
  · rw [h1] at HIX
    rw [h2]
    clear h1 h2
    obtain ⟨b, o, hA, hbl, _, hc⟩ := HOK.out.rt (by omega)
    have hck := hc k hk
    obtain ⟨x, hx⟩ : ∃ x, x = t.ts[k] := ⟨_, rfl⟩
    rw [← hx] at hck ⊢
    obtain ⟨c0, c1, c2⟩ := hck
    have C0 := Lib.hid c0
    have C1 := Lib.hid c1
    have C2 := Lib.hid c2
    have HBL := Lib.hid hbl
    have HA := Lib.hid hA
    have hkn : (k : Int) < (t.ts.length : Int) := by omega
    have hk0 : (0 : Int) ≤ (k : Int) := by omega
    have q0 : decide ((k : Int) < 0) = false := by rw [decide_eq_false_iff_not]; omega
    clear hc hA hx c0 c1 c2 hbl
    go_enter Tryz.func26, Tryz.ntmps26
    go_wp2_with fail
    rw [← HW3.out]
    refine HIX.out.mono ?_
    rintro e w4 ⟨rfl, hb4⟩
    have HB4 : Hid (Below w.heap.size w w4) := Lib.hid (HB3.out.trans (hb4.mono HB3.out.size))
    have e2 : w4.cell? ⟨w.heap.size, 2, none⟩ = some (.slice (some ⟨b, o, none⟩) t.ts.length a.tc) := by rw [← HA.out]; exact (HK0.out.below hb4 HK0.out.lt).cell 2
    have d0 : w4.cell? ⟨b, o + k * 3, none⟩ = some (.string x.p) := (hb4.cell HBL.out).trans C0.out
    have d1 : w4.cell? ⟨b, o + k * 3 + 1, none⟩ = some (.int .i64 x.n) := (hb4.cell HBL.out).trans C1.out
    have d2 : w4.cell? ⟨b, o + k * 3 + 2, none⟩ = some (.string x.h) := (hb4.cell HBL.out).trans C2.out
    have f0 : w4.frozen? ⟨w.heap.size + 1 + 1, 0, none⟩ = false := (HK2.out.below hb4 HK2.out.lt).frozen 0
    have f1 : w4.frozen? ⟨w.heap.size + 1 + 1, 1, none⟩ = false := (HK2.out.below hb4 HK2.out.lt).frozen 1
    have f2 : w4.frozen? ⟨w.heap.size + 1 + 1, 2, none⟩ = false := (HK2.out.below hb4 HK2.out.lt).frozen 2
    have r0 : w4.cell? ⟨w.heap.size + 1 + 1, 0, none⟩ = some (.string ⟨#[]⟩) := (HK2.out.below hb4 HK2.out.lt).cell 0
    have r1 : w4.cell? ⟨w.heap.size + 1 + 1, 1, none⟩ = some (.int .i64 0) := (HK2.out.below hb4 HK2.out.lt).cell 1
    have r2 : w4.cell? ⟨w.heap.size + 1 + 1, 2, none⟩ = some (.string ⟨#[]⟩) := (HK2.out.below hb4 HK2.out.lt).cell 2
    have HF := Lib.hid ((((HK2.out.below hb4 HK2.out.lt).set_ 0 (.string x.p)).set_ 1 (.int .i64 x.n)).set_ 2 (.string x.h))
    clear hb4
    go_wp2
    have k0 := HF.out.cell 0
    have k1 := HF.out.cell 1
    have k2 := HF.out.cell 2
    simp at k0 k1 k2
    refine bodyPost_ret (v := .tuple #[ptV (some x), .bool true]) (by simp [results, Tryz.results26, go_sem, k0, k1, k2, ptV]) rfl ?_
    exact ⟨rfl, ((HB4.out.setCell (by simp; omega) _).setCell (by simp; omega) _).setCell (by simp; omega) _⟩
end Go.Proofs.YthidjdjcjjbpbaaGreatDoor
