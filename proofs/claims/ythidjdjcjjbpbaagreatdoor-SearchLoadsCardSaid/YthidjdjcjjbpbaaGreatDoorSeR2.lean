/-
  The document's Find of a path's target.
-/
import Derived.Test.YthidjdjcjjbpbaaGreatDoorSeL2
import Derived.Test.YthidjdjcjjbpbaaGreatDoorSeW1
namespace Go.Proofs.YthidjdjcjjbpbaaGreatDoor
open Go.RowKit Sea
set_option linter.unusedVariables false
set_option linter.unusedSimpArgs false

theorem findT_hit {path : ByteArray} {l : List PT} {k : Nat} (hk : k < l.length) (h : decide (l[k].p = path) = true) (hb : ∀ j (hj : j < l.length), j < k → decide (l[j].p = path) = false) : findT path l = some l[k] := by
  unfold findT
  rw [List.find?_eq_some_iff_getElem]
  exact ⟨h, k, hk, rfl, fun j hj => by rw [hb j (by omega) hj]; rfl⟩
theorem findT_miss {path : ByteArray} {l : List PT} (hb : ∀ j (hj : j < l.length), decide (l[j].p = path) = false) : findT path l = none := by
  unfold findT
  rw [List.find?_eq_none]
  intro x hx
  obtain ⟨j, hj, e⟩ := List.getElem_of_mem hx
  rw [← e, hb j hj]
  simp
set_option maxRecDepth 100000 in
set_option maxHeartbeats 4000000 in
theorem rfind_any (X : Nat → Prop) (t : PM) (a : MA) (path : ByteArray) (w : World) (h : MOk X w t a) (hs : t.ts.length ≤ 200) : Calls Tryz.prog 15 #[t.val a, .string path] w fun e w' => PF (TfP (findT path t.ts) w) e w' := by
  obtain ⟨W2, hW2⟩ : ∃ W2, W2 = ((w.alloc (.cells #[.int .i64 t.ver, .int .i64 t.exp, .slice a.tA t.ts.length a.tc, .slice a.kA t.ks.length a.kc, .slice a.dA t.ds.length a.dc] 26)).alloc (.cells #[.string ⟨#[]⟩, .int .i64 0, .string ⟨#[]⟩] 31)) := ⟨_, rfl⟩
  have hb2 : Below w.heap.size w W2 := by rw [hW2]; exact ((Below.refl _ _).alloc (Nat.le_refl _) _).alloc (by simp) _
  have hk1 : Blk W2 w.heap.size 26 #[.int .i64 t.ver, .int .i64 t.exp, .slice a.tA t.ts.length a.tc, .slice a.kA t.ks.length a.kc, .slice a.dA t.ds.length a.dc] := by rw [hW2]; exact (Blk.new _ _ _).alloc _
  have hk2 : Blk W2 (w.heap.size + 1) 31 #[.string ⟨#[]⟩, .int .i64 0, .string ⟨#[]⟩] := by
    rw [hW2]
    have h2 := Blk.new (w.alloc (.cells #[.int .i64 t.ver, .int .i64 t.exp, .slice a.tA t.ts.length a.tc, .slice a.kA t.ks.length a.kc, .slice a.dA t.ds.length a.dc] 26)) 31 #[.string ⟨#[]⟩, .int .i64 0, .string ⟨#[]⟩]
    simpa using h2
  obtain ⟨r, hr⟩ : ∃ r, r = findT path t.ts := ⟨_, rfl⟩
  rw [← hr]
  have HR := Lib.hid hr
  have HV := Lib.hid (h.bel hb2)
  have HB2 := Lib.hid hb2
  have HW2 := Lib.hid hW2
  have HK1 := Lib.hid hk1
  have HK2 := Lib.hid hk2
  unfold Sea.PM.val Sea.PM.cs
  clear h hb2 hk1 hk2 hW2 hr
  go_enter Tryz.func15, Tryz.ntmps15
  go_wp2
  rw [← HW2.out]
  go_loopw [6] (fun i wr => ∃ k : Nat, k ≤ t.ts.length ∧ i = .int .i64 k ∧ Hid (∀ j (hj : j < t.ts.length), j < k → decide (t.ts[j].p = path) = false) ∧ Hid (Below W2.heap.size W2 wr)) (fun i _ => t.ts.length - (intOf i).toNat)
  case atStart => exact ⟨0, Nat.zero_le _, rfl, Lib.hid (fun j hj h => by omega), Lib.hid (Below.refl _ _)⟩
  case round =>
    obtain ⟨k, hk, rfl, HB, HW⟩ := hrel
    have e2 : wr.cell? ⟨w.heap.size, 2, none⟩ = some (.slice a.tA t.ts.length a.tc) := (HK1.out.below HW.out HK1.out.lt).cell 2
    rcases (by omega : k < t.ts.length ∨ k = t.ts.length) with hlt | heq
    · have q5 : decide ((k : Int) < (t.ts.length : Int)) = true := by rw [decide_eq_true_iff]; omega
      have q5' : decide (k < t.ts.length) = true := by rw [decide_eq_true_iff]; omega
      obtain ⟨b, o, hA, hbl, _, hc⟩ := (HV.out.bel HW.out).rt (by omega)
      have HLT := Lib.hid hlt
      obtain ⟨x, hx, hck⟩ : ∃ x, x = t.ts[k] ∧ TB wr b (o + k * 3) x := ⟨_, rfl, hc k hlt⟩
      obtain ⟨d0, d1, d2⟩ := hck
      rw [hA] at e2
      have hki : (k : Int) < (t.ts.length : Int) := by omega
      have hk0 : (0 : Int) ≤ (k : Int) := by omega
      have hq := nm_beq x.p path
      have HX := Lib.hid hx
      clear hA hbl hc hx
      cases hd : decide (x.p = path) with
      | true =>
        rw [hd] at hq
        have HI : Hid (r = some x) := by show _ = _; rw [HR.out, HX.out]; exact findT_hit HLT.out (by have h0 := HX.out; subst h0; exact hd) HB.out
        clear hd
        have z0 : wr.cell? ⟨w.heap.size + 1, 0, none⟩ = some (.string ⟨#[]⟩) := (HK2.out.below HW.out HK2.out.lt).cell 0
        have f0 : wr.frozen? ⟨w.heap.size + 1, 0, none⟩ = false := (HK2.out.below HW.out HK2.out.lt).frozen 0
        have z1 : wr.cell? ⟨w.heap.size + 1, 1, none⟩ = some (.int .i64 0) := (HK2.out.below HW.out HK2.out.lt).cell 1
        have f1 : wr.frozen? ⟨w.heap.size + 1, 1, none⟩ = false := (HK2.out.below HW.out HK2.out.lt).frozen 1
        have z2 : wr.cell? ⟨w.heap.size + 1, 2, none⟩ = some (.string ⟨#[]⟩) := (HK2.out.below HW.out HK2.out.lt).cell 2
        have f2 : wr.frozen? ⟨w.heap.size + 1, 2, none⟩ = false := (HK2.out.below HW.out HK2.out.lt).frozen 2
        have HF := Lib.hid ((((HK2.out.below HW.out HK2.out.lt).set_ 0 (.string x.p)).set_ 1 (.int .i64 x.n)).set_ 2 (.string x.h))
        have HB4 := Lib.hid (HB2.out.trans (HW.out.mono HB2.out.size))
        go_wp2
        have k0 := HF.out.cell 0
        have k1 := HF.out.cell 1
        have k2 := HF.out.cell 2
        simp at k0 k1 k2
        refine bodyPost_ret (v := .tuple #[ptV (some x), .bool true]) (by simp [results, Tryz.results15, go_sem, k0, k1, k2, ptV]) rfl ?_
        exact ⟨by rw [HI.out]; rfl, ((HB4.out.setCell (by simp) _).setCell (by simp) _).setCell (by simp) _⟩
      | false =>
        rw [hd] at hq
        have HD := Lib.hid hd
        clear hd
        go_wp2
        go_roundw
        case rel => exact ⟨k + 1, by omega, by go_num, Lib.hid (fun j hj h => by
          rcases (by omega : j < k ∨ j = k) with h1 | h1
          · exact HB.out j hj h1
          · subst h1; have h0 := HX.out; have h9 := HD.out; subst h0; exact h9), HW⟩
        case measure => simp [intOf]; omega
    · have q5 : decide ((k : Int) < (t.ts.length : Int)) = false := by rw [decide_eq_false_iff_not]; omega
      have q5' : decide (k < t.ts.length) = false := by rw [decide_eq_false_iff_not]; omega
      have HI : Hid (r = none) := by show _ = _; rw [HR.out]; exact findT_miss (fun j hj => HB.out j hj (by omega))
      clear heq
      have z0 : wr.cell? ⟨w.heap.size + 1, 0, none⟩ = some (.string ⟨#[]⟩) := (HK2.out.below HW.out HK2.out.lt).cell 0
      have f0 : wr.frozen? ⟨w.heap.size + 1, 0, none⟩ = false := (HK2.out.below HW.out HK2.out.lt).frozen 0
      have z1 : wr.cell? ⟨w.heap.size + 1, 1, none⟩ = some (.int .i64 0) := (HK2.out.below HW.out HK2.out.lt).cell 1
      have f1 : wr.frozen? ⟨w.heap.size + 1, 1, none⟩ = false := (HK2.out.below HW.out HK2.out.lt).frozen 1
      have z2 : wr.cell? ⟨w.heap.size + 1, 2, none⟩ = some (.string ⟨#[]⟩) := (HK2.out.below HW.out HK2.out.lt).cell 2
      have f2 : wr.frozen? ⟨w.heap.size + 1, 2, none⟩ = false := (HK2.out.below HW.out HK2.out.lt).frozen 2
      have HF := Lib.hid ((((HK2.out.below HW.out HK2.out.lt).set_ 0 (.string ⟨#[]⟩)).set_ 1 (.int .i64 0)).set_ 2 (.string ⟨#[]⟩))
      have HB4 := Lib.hid (HB2.out.trans (HW.out.mono HB2.out.size))
      go_wp2
      have k0 := HF.out.cell 0
      have k1 := HF.out.cell 1
      have k2 := HF.out.cell 2
      simp at k0 k1 k2
      refine bodyPost_ret (v := .tuple #[ptV (none), .bool false]) (by simp [results, Tryz.results15, go_sem, k0, k1, k2, ptV]) rfl ?_
      exact ⟨by rw [HI.out]; rfl, ((HB4.out.setCell (by simp) _).setCell (by simp) _).setCell (by simp) _⟩
end Go.Proofs.YthidjdjcjjbpbaaGreatDoor
