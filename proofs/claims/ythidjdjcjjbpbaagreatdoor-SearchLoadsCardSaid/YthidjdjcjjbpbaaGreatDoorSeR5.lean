/-
  The document's load of a role's metadata; are two keys' rows the same?
-/
import Derived.Test.YthidjdjcjjbpbaaGreatDoorSeW5
import Derived.Test.YthidjdjcjjbpbaaGreatDoorSeR4
namespace Go.Proofs.YthidjdjcjjbpbaaGreatDoor
open Go.RowKit Sea
set_option linter.unusedVariables false
set_option linter.unusedSimpArgs false

theorem loadP_hit {name : ByteArray} {l : List PN} {k : Nat} (hk : k < l.length) (h : decide (l[k].name = name) = true) (hb : ∀ j (hj : j < l.length), j < k → decide (l[j].name = name) = false) : loadP l name = some l[k].t := by
  unfold loadP
  have : l.find? (fun x => decide (x.name = name)) = some l[k] := by
    rw [List.find?_eq_some_iff_getElem]
    exact ⟨h, k, hk, rfl, fun j hj => by rw [hb j (by omega) hj]; rfl⟩
  rw [this]; rfl
theorem loadP_miss {name : ByteArray} {l : List PN} (hb : ∀ j (hj : j < l.length), decide (l[j].name = name) = false) : loadP l name = none := by
  unfold loadP
  have : l.find? (fun x => decide (x.name = name)) = none := by
    rw [List.find?_eq_none]
    intro x hx
    obtain ⟨j, hj, e⟩ := List.getElem_of_mem hx
    rw [← e, hb j hj]
    simp
  rw [this]; rfl
set_option maxRecDepth 100000 in
set_option maxHeartbeats 4000000 in
theorem rload_any (X : Nat → Prop) (A : Option Addr) (n c : Nat) (l : List PN) (name : ByteArray) (w : World) (h : NsR X w A l) (hn : l.length = n) (hs : n ≤ 30) : Calls Tryz.prog 24 #[.slice A n c, .string name] w fun e w' => PF (NofP X l name w) e w' := by
  obtain ⟨W1, hW1⟩ : ∃ W1, W1 = w.alloc (.cells #[.int .i64 0, .int .i64 0, .slice none 0 0, .slice none 0 0, .slice none 0 0] 26) := ⟨_, rfl⟩
  have hb1 : Below w.heap.size w W1 := by rw [hW1]; exact (Below.refl _ _).alloc (Nat.le_refl _) _
  have hk1 : Blk W1 w.heap.size 26 #[.int .i64 0, .int .i64 0, .slice none 0 0, .slice none 0 0, .slice none 0 0] := by rw [hW1]; exact Blk.new _ _ _
  obtain ⟨r, hr⟩ : ∃ r, r = loadP l name := ⟨_, rfl⟩
  have HR := Lib.hid hr
  have HV := Lib.hid h
  have HB1 := Lib.hid hb1
  have HW1 := Lib.hid hW1
  have HK1 := Lib.hid hk1
  clear h hb1 hk1 hW1 hr
  subst hn
  go_enter Tryz.func24, Tryz.ntmps24
  go_wp2
  rw [← HW1.out]
  go_loopw [6] (fun i wr => ∃ k : Nat, k ≤ l.length ∧ i = .int .i64 k ∧ Hid (∀ j (hj : j < l.length), j < k → decide (l[j].name = name) = false) ∧ Hid (Below W1.heap.size W1 wr)) (fun i _ => l.length - (intOf i).toNat)
  case atStart => exact ⟨0, Nat.zero_le _, rfl, Lib.hid (fun j hj h => by omega), Lib.hid (Below.refl _ _)⟩
  case round =>
    obtain ⟨k, hk, rfl, HB, HW⟩ := hrel
    rcases (by omega : k < l.length ∨ k = l.length) with hlt | heq
    · have q5 : decide ((k : Int) < (l.length : Int)) = true := by rw [decide_eq_true_iff]; omega
      have q5' : decide (k < l.length) = true := by rw [decide_eq_true_iff]; omega
      obtain ⟨b, o, hA, hbl, hbx, hc⟩ := HV.out (by omega)
      have HLT := Lib.hid hlt
      obtain ⟨x, hx, hck⟩ : ∃ x, x = l[k] ∧ NB X w b (o + k * 6) x := ⟨_, rfl, hc k hlt⟩
      obtain ⟨a, hcs, hok⟩ := hck
      have HCS := Lib.hid hcs
      have HOK := Lib.hid hok
      have HBL := Lib.hid hbl
      have HBW : Hid (Below w.heap.size w wr) := Lib.hid (HB1.out.trans (HW.out.mono HB1.out.size))
      have d0 : wr.cell? ⟨b, o + k * 6, none⟩ = some (.string x.name) := (HBW.out.cell HBL.out).trans (HCS.out 0 (by omega))
      rw [hA]
      have hki : (k : Int) < (l.length : Int) := by omega
      have hk0 : (0 : Int) ≤ (k : Int) := by omega
      have hq := nm_beq x.name name
      have HX := Lib.hid hx
      clear hA hbl hbx hc hx hcs hok
      cases hd : decide (x.name = name) with
      | true =>
        rw [hd] at hq
        have HI : Hid (loadP l name = some x.t) := by show _ = _; rw [HX.out]; exact loadP_hit HLT.out (by have h0 := HX.out; subst h0; exact hd) HB.out
        clear hd
        have d1 : wr.cell? ⟨b, o + k * 6 + 1, none⟩ = some (.int .i64 x.t.ver) := (HBW.out.cell HBL.out).trans (HCS.out 1 (by omega))
        have d2 : wr.cell? ⟨b, o + k * 6 + 1 + 1, none⟩ = some (.int .i64 x.t.exp) := (HBW.out.cell HBL.out).trans (HCS.out 2 (by omega))
        have d3 : wr.cell? ⟨b, o + k * 6 + 1 + 2, none⟩ = some (.slice a.tA x.t.ts.length a.tc) := (HBW.out.cell HBL.out).trans (HCS.out 3 (by omega))
        have d4 : wr.cell? ⟨b, o + k * 6 + 1 + 3, none⟩ = some (.slice a.kA x.t.ks.length a.kc) := (HBW.out.cell HBL.out).trans (HCS.out 4 (by omega))
        have d5 : wr.cell? ⟨b, o + k * 6 + 1 + 4, none⟩ = some (.slice a.dA x.t.ds.length a.dc) := (HBW.out.cell HBL.out).trans (HCS.out 5 (by omega))
        have z0 : wr.cell? ⟨w.heap.size, 0, none⟩ = some (.int .i64 0) := (HK1.out.below HW.out HK1.out.lt).cell 0
        have f0 : wr.frozen? ⟨w.heap.size, 0, none⟩ = false := (HK1.out.below HW.out HK1.out.lt).frozen 0
        have z1 : wr.cell? ⟨w.heap.size, 1, none⟩ = some (.int .i64 0) := (HK1.out.below HW.out HK1.out.lt).cell 1
        have f1 : wr.frozen? ⟨w.heap.size, 1, none⟩ = false := (HK1.out.below HW.out HK1.out.lt).frozen 1
        have z2 : wr.cell? ⟨w.heap.size, 2, none⟩ = some (.slice none 0 0) := (HK1.out.below HW.out HK1.out.lt).cell 2
        have f2 : wr.frozen? ⟨w.heap.size, 2, none⟩ = false := (HK1.out.below HW.out HK1.out.lt).frozen 2
        have z3 : wr.cell? ⟨w.heap.size, 3, none⟩ = some (.slice none 0 0) := (HK1.out.below HW.out HK1.out.lt).cell 3
        have f3 : wr.frozen? ⟨w.heap.size, 3, none⟩ = false := (HK1.out.below HW.out HK1.out.lt).frozen 3
        have z4 : wr.cell? ⟨w.heap.size, 4, none⟩ = some (.slice none 0 0) := (HK1.out.below HW.out HK1.out.lt).cell 4
        have f4 : wr.frozen? ⟨w.heap.size, 4, none⟩ = false := (HK1.out.below HW.out HK1.out.lt).frozen 4
        have HF := Lib.hid ((((((HK1.out.below HW.out HK1.out.lt).set_ 0 (.int .i64 x.t.ver)).set_ 1 (.int .i64 x.t.exp)).set_ 2 (.slice a.tA x.t.ts.length a.tc)).set_ 3 (.slice a.kA x.t.ks.length a.kc)).set_ 4 (.slice a.dA x.t.ds.length a.dc))
        have HFR := Lib.hid ((((((Fr.refl (fun b => b = w.heap.size) wr).setCell (p := ⟨w.heap.size, 0, none⟩) (fun _ => rfl) (.int .i64 x.t.ver)).setCell (p := ⟨w.heap.size, 1, none⟩) (fun _ => rfl) (.int .i64 x.t.exp)).setCell (p := ⟨w.heap.size, 2, none⟩) (fun _ => rfl) (.slice a.tA x.t.ts.length a.tc)).setCell (p := ⟨w.heap.size, 3, none⟩) (fun _ => rfl) (.slice a.kA x.t.ks.length a.kc)).setCell (p := ⟨w.heap.size, 4, none⟩) (fun _ => rfl) (.slice a.dA x.t.ds.length a.dc))
        have HB4 : Hid (Below w.heap.size w wr) := Lib.hid (HB1.out.trans (HW.out.mono HB1.out.size))
        have HB9 := Lib.hid ((((((HB4.out).setCell (p := ⟨w.heap.size, 0, none⟩) (Nat.le_refl _) (.int .i64 x.t.ver)).setCell (p := ⟨w.heap.size, 1, none⟩) (Nat.le_refl _) (.int .i64 x.t.exp)).setCell (p := ⟨w.heap.size, 2, none⟩) (Nat.le_refl _) (.slice a.tA x.t.ts.length a.tc)).setCell (p := ⟨w.heap.size, 3, none⟩) (Nat.le_refl _) (.slice a.kA x.t.ks.length a.kc)).setCell (p := ⟨w.heap.size, 4, none⟩) (Nat.le_refl _) (.slice a.dA x.t.ds.length a.dc))
        go_wp2
        have k0 := HF.out.cell 0
        have k1 := HF.out.cell 1
        have k2 := HF.out.cell 2
        have k3 := HF.out.cell 3
        have k4 := HF.out.cell 4
        simp at k0 k1 k2 k3 k4
        refine bodyPost_ret (v := .tuple #[x.t.val a, .bool true]) (by simp [results, Tryz.results24, go_sem, k0, k1, k2, k3, k4, Sea.PM.val, Sea.PM.cs, noM]) rfl ?_
        exact ⟨x.t, a, by rw [HI.out]; rfl, by rw [HI.out]; rfl, HOK.out.old HB4.out HFR.out (Nat.le_refl _), HB9.out⟩
      | false =>
        rw [hd] at hq
        have HD := Lib.hid hd
        clear hd
        go_wp2
        go_roundw
        case rel => exact ⟨k + 1, by omega, by go_num, Lib.hid (fun j hj h => by
          rcases (by omega : j < k ∨ j = k) with h1 | h1
          · exact HB.out j hj h1
          · subst h1; have h0 := HX.out; have h9 := HD.out; subst h0; exact h9), HW⟩
        case measure => simp [intOf]; omega
    · have q5 : decide ((k : Int) < (l.length : Int)) = false := by rw [decide_eq_false_iff_not]; omega
      have q5' : decide (k < l.length) = false := by rw [decide_eq_false_iff_not]; omega
      have HI : Hid (loadP l name = none) := by show _ = _; exact loadP_miss (fun j hj => HB.out j hj (by omega))
      clear heq
      have z0 : wr.cell? ⟨w.heap.size, 0, none⟩ = some (.int .i64 0) := (HK1.out.below HW.out HK1.out.lt).cell 0
      have f0 : wr.frozen? ⟨w.heap.size, 0, none⟩ = false := (HK1.out.below HW.out HK1.out.lt).frozen 0
      have z1 : wr.cell? ⟨w.heap.size, 1, none⟩ = some (.int .i64 0) := (HK1.out.below HW.out HK1.out.lt).cell 1
      have f1 : wr.frozen? ⟨w.heap.size, 1, none⟩ = false := (HK1.out.below HW.out HK1.out.lt).frozen 1
      have z2 : wr.cell? ⟨w.heap.size, 2, none⟩ = some (.slice none 0 0) := (HK1.out.below HW.out HK1.out.lt).cell 2
      have f2 : wr.frozen? ⟨w.heap.size, 2, none⟩ = false := (HK1.out.below HW.out HK1.out.lt).frozen 2
      have z3 : wr.cell? ⟨w.heap.size, 3, none⟩ = some (.slice none 0 0) := (HK1.out.below HW.out HK1.out.lt).cell 3
      have f3 : wr.frozen? ⟨w.heap.size, 3, none⟩ = false := (HK1.out.below HW.out HK1.out.lt).frozen 3
      have z4 : wr.cell? ⟨w.heap.size, 4, none⟩ = some (.slice none 0 0) := (HK1.out.below HW.out HK1.out.lt).cell 4
      have f4 : wr.frozen? ⟨w.heap.size, 4, none⟩ = false := (HK1.out.below HW.out HK1.out.lt).frozen 4
      have HF := Lib.hid ((((((HK1.out.below HW.out HK1.out.lt).set_ 0 (.int .i64 0)).set_ 1 (.int .i64 0)).set_ 2 (.slice none 0 0)).set_ 3 (.slice none 0 0)).set_ 4 (.slice none 0 0))
      have HFR := Lib.hid ((((((Fr.refl (fun b => b = w.heap.size) wr).setCell (p := ⟨w.heap.size, 0, none⟩) (fun _ => rfl) (.int .i64 0)).setCell (p := ⟨w.heap.size, 1, none⟩) (fun _ => rfl) (.int .i64 0)).setCell (p := ⟨w.heap.size, 2, none⟩) (fun _ => rfl) (.slice none 0 0)).setCell (p := ⟨w.heap.size, 3, none⟩) (fun _ => rfl) (.slice none 0 0)).setCell (p := ⟨w.heap.size, 4, none⟩) (fun _ => rfl) (.slice none 0 0))
      have HB4 : Hid (Below w.heap.size w wr) := Lib.hid (HB1.out.trans (HW.out.mono HB1.out.size))
      have HB9 := Lib.hid ((((((HB4.out).setCell (p := ⟨w.heap.size, 0, none⟩) (Nat.le_refl _) (.int .i64 0)).setCell (p := ⟨w.heap.size, 1, none⟩) (Nat.le_refl _) (.int .i64 0)).setCell (p := ⟨w.heap.size, 2, none⟩) (Nat.le_refl _) (.slice none 0 0)).setCell (p := ⟨w.heap.size, 3, none⟩) (Nat.le_refl _) (.slice none 0 0)).setCell (p := ⟨w.heap.size, 4, none⟩) (Nat.le_refl _) (.slice none 0 0))
      go_wp2
      have k0 := HF.out.cell 0
      have k1 := HF.out.cell 1
      have k2 := HF.out.cell 2
      have k3 := HF.out.cell 3
      have k4 := HF.out.cell 4
      simp at k0 k1 k2 k3 k4
      refine bodyPost_ret (v := .tuple #[noM.val ⟨none, 0, none, 0, none, 0⟩, .bool false]) (by simp [results, Tryz.results24, go_sem, k0, k1, k2, k3, k4, Sea.PM.val, Sea.PM.cs, noM]) rfl ?_
      exact ⟨noM, ⟨none, 0, none, 0, none, 0⟩, by rw [HI.out]; rfl, by rw [HI.out]; rfl, noM_ok _ _, HB9.out⟩
end Go.Proofs.YthidjdjcjjbpbaaGreatDoor
