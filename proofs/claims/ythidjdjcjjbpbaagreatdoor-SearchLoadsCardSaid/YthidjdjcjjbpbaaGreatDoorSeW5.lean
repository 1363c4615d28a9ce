/-
  search's named.of and named.load.
-/
import Derived.Test.YthidjdjcjjbpbaaGreatDoorSeW4
namespace Go.Proofs.YthidjdjcjjbpbaaGreatDoor
open Go.RowKit Sea
set_option linter.unusedVariables false
set_option linter.unusedSimpArgs false

/-- what named.of answers -/
def NofP (X : Nat → Prop) (l : List PN) (name : ByteArray) (w : World) (e : Ending) (w' : World) : Prop :=
  ∃ (t : PM) (a : MA), e = .returned (.tuple #[t.val a, .bool (loadP l name).isSome]) ∧ t = (loadP l name).getD noM ∧ MOk X w' t a ∧ Below w.heap.size w w'
theorem noM_ok (X : Nat → Prop) (w : World) : MOk X w noM ⟨none, 0, none, 0, none, 0⟩ :=
  ⟨fun h => absurd h (by simp [noM]), fun h => absurd h (by simp [noM]), fun h => absurd h (by simp [noM]), by simp [noM, maxLen], by simp [noM, maxLen], by simp [noM, maxLen]⟩
theorem load_case (l : List PN) (name : ByteArray) : (idxG (fun x : PN => decide (x.name = name)) l = -1 ∧ loadP l name = none) ∨ ∃ k, ∃ hk : k < l.length, idxG (fun x : PN => decide (x.name = name)) l = k ∧ loadP l name = some l[k].t := by
  rcases idxG_find (fun x : PN => decide (x.name = name)) l with ⟨h1, h2⟩ | ⟨k, hk, h1, h2⟩
  · exact .inl ⟨h1, by unfold loadP; rw [h2]; rfl⟩
  · exact .inr ⟨k, hk, h1, by unfold loadP; rw [h2]; rfl⟩
/-- what is older than a call's own blocks is outside of them -/
theorem MOk.old {X : Nat → Prop} {w w4 w' : World} {t : PM} {a : MA} {B : Nat} (h : MOk X w t a) (hb : Below w.heap.size w w4) (hf : Fr (· = B) w4 w') (hB : w.heap.size ≤ B) : MOk X w' t a :=
  h.bel ⟨hf.os.trans hb.os, hf.tape.trans hb.tape, hf.output.trans hb.output, Nat.le_trans hb.size hf.size, fun k hk => (hf.block k (Nat.lt_of_lt_of_le hk hb.size) (by omega)).trans (hb.block k hk)⟩
set_option maxRecDepth 100000 in
set_option maxHeartbeats 4000000 in
theorem nof_any (X : Nat → Prop) (A : Option Addr) (n c : Nat) (l : List PN) (name : ByteArray) (w : World) (h : NsR X w A l) (hn : l.length = n) (hs : n ≤ 30) : Calls Tryz.prog 30 #[.slice A n c, .string name] w fun e w' => PF (NofP X l name w) e w' := by
  obtain ⟨W2, hW2⟩ : ∃ W2, W2 = ((w.alloc (.cells #[.string name] 9)).alloc (.cells #[.int .i64 0, .int .i64 0, .slice none 0 0, .slice none 0 0, .slice none 0 0] 26)) := ⟨_, rfl⟩
  have hb2 : Below w.heap.size w W2 := by rw [hW2]; exact ((Below.refl _ _).alloc (Nat.le_refl _) _).alloc (by simp) _
  have hk1 : Blk W2 w.heap.size 9 #[.string name] := by rw [hW2]; exact (Blk.new _ _ _).alloc _
  have hk2 : Blk W2 (w.heap.size + 1) 26 #[.int .i64 0, .int .i64 0, .slice none 0 0, .slice none 0 0, .slice none 0 0] := by
    rw [hW2]
    have h2 := Blk.new (w.alloc (.cells #[.string name] 9)) 26 #[.int .i64 0, .int .i64 0, .slice none 0 0, .slice none 0 0, .slice none 0 0]
    simpa using h2
  have hix := indexN_any X 41 #[.pointer (some ⟨w.heap.size, 0, none⟩)] (fun _ _ => by kernel_rfl) A n c l W2 (fun x : PN => decide (x.name = name)) (h.bel hb2) hn (by omega) (fun k hk a V hV => nof1_any l[k] a name w.heap.size V ((hk1.below hV hk1.lt).cell 0) (Nat.lt_of_lt_of_le hk1.lt hV.size))
  have HIX := Lib.hid hix
  have HB2 := Lib.hid hb2
  have HW2 := Lib.hid hW2
  have HK2 := Lib.hid hk2
  have HN := Lib.hid hn
  have HS := Lib.hid h
  clear hb2 hk1 hk2 hix hW2 h hs hn
  rcases load_case l name with ⟨h1, h2⟩ | ⟨k, hk, h1, h2⟩
  · rw [h1] at HIX
    have HL := Lib.hid h2
    clear h1 h2
    go_enter Tryz.func30, Tryz.ntmps30
    go_wp2_with fail
    rw [← HW2.out]
    refine HIX.out.mono ?_
    rintro e w4 ⟨rfl, hb4⟩
    have HB4 : Hid (Below w.heap.size w w4) := Lib.hid (HB2.out.trans (hb4.mono HB2.out.size))
    have z0 : w4.cell? ⟨w.heap.size + 1, 0, none⟩ = some (.int .i64 0) := (HK2.out.below hb4 HK2.out.lt).cell 0
    have f0 : w4.frozen? ⟨w.heap.size + 1, 0, none⟩ = false := (HK2.out.below hb4 HK2.out.lt).frozen 0
    have z1 : w4.cell? ⟨w.heap.size + 1, 1, none⟩ = some (.int .i64 0) := (HK2.out.below hb4 HK2.out.lt).cell 1
    have f1 : w4.frozen? ⟨w.heap.size + 1, 1, none⟩ = false := (HK2.out.below hb4 HK2.out.lt).frozen 1
    have z2 : w4.cell? ⟨w.heap.size + 1, 2, none⟩ = some (.slice none 0 0) := (HK2.out.below hb4 HK2.out.lt).cell 2
    have f2 : w4.frozen? ⟨w.heap.size + 1, 2, none⟩ = false := (HK2.out.below hb4 HK2.out.lt).frozen 2
    have z3 : w4.cell? ⟨w.heap.size + 1, 3, none⟩ = some (.slice none 0 0) := (HK2.out.below hb4 HK2.out.lt).cell 3
    have f3 : w4.frozen? ⟨w.heap.size + 1, 3, none⟩ = false := (HK2.out.below hb4 HK2.out.lt).frozen 3
    have z4 : w4.cell? ⟨w.heap.size + 1, 4, none⟩ = some (.slice none 0 0) := (HK2.out.below hb4 HK2.out.lt).cell 4
    have f4 : w4.frozen? ⟨w.heap.size + 1, 4, none⟩ = false := (HK2.out.below hb4 HK2.out.lt).frozen 4
    have HF := Lib.hid ((((((HK2.out.below hb4 HK2.out.lt).set_ 0 (.int .i64 0)).set_ 1 (.int .i64 0)).set_ 2 (.slice none 0 0)).set_ 3 (.slice none 0 0)).set_ 4 (.slice none 0 0))
    have HFR := Lib.hid ((((((Fr.refl (fun b => b = w.heap.size + 1) w4).setCell (p := ⟨w.heap.size + 1, 0, none⟩) (fun _ => rfl) (.int .i64 0)).setCell (p := ⟨w.heap.size + 1, 1, none⟩) (fun _ => rfl) (.int .i64 0)).setCell (p := ⟨w.heap.size + 1, 2, none⟩) (fun _ => rfl) (.slice none 0 0)).setCell (p := ⟨w.heap.size + 1, 3, none⟩) (fun _ => rfl) (.slice none 0 0)).setCell (p := ⟨w.heap.size + 1, 4, none⟩) (fun _ => rfl) (.slice none 0 0))
    have HB9 := Lib.hid (((((HB4.out.setCell (p := ⟨w.heap.size + 1, 0, none⟩) (Nat.le_succ _) (.int .i64 0)).setCell (p := ⟨w.heap.size + 1, 1, none⟩) (Nat.le_succ _) (.int .i64 0)).setCell (p := ⟨w.heap.size + 1, 2, none⟩) (Nat.le_succ _) (.slice none 0 0)).setCell (p := ⟨w.heap.size + 1, 3, none⟩) (Nat.le_succ _) (.slice none 0 0)).setCell (p := ⟨w.heap.size + 1, 4, none⟩) (Nat.le_succ _) (.slice none 0 0))
    clear hb4
    go_wp2
    have k0 := HF.out.cell 0
    have k1 := HF.out.cell 1
    have k2 := HF.out.cell 2
    have k3 := HF.out.cell 3
    have k4 := HF.out.cell 4
    simp at k0 k1 k2 k3 k4
    refine bodyPost_ret (v := .tuple #[noM.val ⟨none, 0, none, 0, none, 0⟩, .bool false]) (by simp [results, Tryz.results30, go_sem, k0, k1, k2, k3, k4, Sea.PM.val, Sea.PM.cs, noM]) rfl ?_
    exact ⟨noM, ⟨none, 0, none, 0, none, 0⟩, by rw [HL.out]; rfl, by rw [HL.out]; rfl, noM_ok _ _, HB9.out⟩
  · rw [h1] at HIX
    have HL := Lib.hid h2
    clear h1 h2
    obtain ⟨b, o, hA, hbl, hbx, hc⟩ := HS.out (by omega)
    have hck := hc k hk
    obtain ⟨x, hx⟩ : ∃ x, x = l[k] := ⟨_, rfl⟩
    rw [← hx] at hck HL
    obtain ⟨a, hcs, hok⟩ := hck
    have HCS := Lib.hid hcs
    have HOK := Lib.hid hok
    have HBL := Lib.hid hbl
    subst hA
    have hkn : (k : Int) < (n : Int) := by have := HN.out; omega
    have hk0 : (0 : Int) ≤ (k : Int) := by omega
    have q0 : decide ((k : Int) < 0) = false := by rw [decide_eq_false_iff_not]; omega
    clear hc hx hcs hok hbl hbx
    go_enter Tryz.func30, Tryz.ntmps30
    go_wp2_with fail
    rw [← HW2.out]
    refine HIX.out.mono ?_
    rintro e w4 ⟨rfl, hb4⟩
    have HB4 : Hid (Below w.heap.size w w4) := Lib.hid (HB2.out.trans (hb4.mono HB2.out.size))
    have d0 : w4.cell? ⟨b, o + k * 6 + 1, none⟩ = some (.int .i64 x.t.ver) := (HB4.out.cell HBL.out).trans (HCS.out 1 (by omega))
    have d1 : w4.cell? ⟨b, o + k * 6 + 1 + 1, none⟩ = some (.int .i64 x.t.exp) := (HB4.out.cell HBL.out).trans (HCS.out 2 (by omega))
    have d2 : w4.cell? ⟨b, o + k * 6 + 1 + 2, none⟩ = some (.slice a.tA x.t.ts.length a.tc) := (HB4.out.cell HBL.out).trans (HCS.out 3 (by omega))
    have d3 : w4.cell? ⟨b, o + k * 6 + 1 + 3, none⟩ = some (.slice a.kA x.t.ks.length a.kc) := (HB4.out.cell HBL.out).trans (HCS.out 4 (by omega))
    have d4 : w4.cell? ⟨b, o + k * 6 + 1 + 4, none⟩ = some (.slice a.dA x.t.ds.length a.dc) := (HB4.out.cell HBL.out).trans (HCS.out 5 (by omega))
    have z0 : w4.cell? ⟨w.heap.size + 1, 0, none⟩ = some (.int .i64 0) := (HK2.out.below hb4 HK2.out.lt).cell 0
    have f0 : w4.frozen? ⟨w.heap.size + 1, 0, none⟩ = false := (HK2.out.below hb4 HK2.out.lt).frozen 0
    have z1 : w4.cell? ⟨w.heap.size + 1, 1, none⟩ = some (.int .i64 0) := (HK2.out.below hb4 HK2.out.lt).cell 1
    have f1 : w4.frozen? ⟨w.heap.size + 1, 1, none⟩ = false := (HK2.out.below hb4 HK2.out.lt).frozen 1
    have z2 : w4.cell? ⟨w.heap.size + 1, 2, none⟩ = some (.slice none 0 0) := (HK2.out.below hb4 HK2.out.lt).cell 2
    have f2 : w4.frozen? ⟨w.heap.size + 1, 2, none⟩ = false := (HK2.out.below hb4 HK2.out.lt).frozen 2
    have z3 : w4.cell? ⟨w.heap.size + 1, 3, none⟩ = some (.slice none 0 0) := (HK2.out.below hb4 HK2.out.lt).cell 3
    have f3 : w4.frozen? ⟨w.heap.size + 1, 3, none⟩ = false := (HK2.out.below hb4 HK2.out.lt).frozen 3
    have z4 : w4.cell? ⟨w.heap.size + 1, 4, none⟩ = some (.slice none 0 0) := (HK2.out.below hb4 HK2.out.lt).cell 4
    have f4 : w4.frozen? ⟨w.heap.size + 1, 4, none⟩ = false := (HK2.out.below hb4 HK2.out.lt).frozen 4
    have HF := Lib.hid ((((((HK2.out.below hb4 HK2.out.lt).set_ 0 (.int .i64 x.t.ver)).set_ 1 (.int .i64 x.t.exp)).set_ 2 (.slice a.tA x.t.ts.length a.tc)).set_ 3 (.slice a.kA x.t.ks.length a.kc)).set_ 4 (.slice a.dA x.t.ds.length a.dc))
    have HFR := Lib.hid ((((((Fr.refl (fun b => b = w.heap.size + 1) w4).setCell (p := ⟨w.heap.size + 1, 0, none⟩) (fun _ => rfl) (.int .i64 x.t.ver)).setCell (p := ⟨w.heap.size + 1, 1, none⟩) (fun _ => rfl) (.int .i64 x.t.exp)).setCell (p := ⟨w.heap.size + 1, 2, none⟩) (fun _ => rfl) (.slice a.tA x.t.ts.length a.tc)).setCell (p := ⟨w.heap.size + 1, 3, none⟩) (fun _ => rfl) (.slice a.kA x.t.ks.length a.kc)).setCell (p := ⟨w.heap.size + 1, 4, none⟩) (fun _ => rfl) (.slice a.dA x.t.ds.length a.dc))
    have HB9 := Lib.hid (((((HB4.out.setCell (p := ⟨w.heap.size + 1, 0, none⟩) (Nat.le_succ _) (.int .i64 x.t.ver)).setCell (p := ⟨w.heap.size + 1, 1, none⟩) (Nat.le_succ _) (.int .i64 x.t.exp)).setCell (p := ⟨w.heap.size + 1, 2, none⟩) (Nat.le_succ _) (.slice a.tA x.t.ts.length a.tc)).setCell (p := ⟨w.heap.size + 1, 3, none⟩) (Nat.le_succ _) (.slice a.kA x.t.ks.length a.kc)).setCell (p := ⟨w.heap.size + 1, 4, none⟩) (Nat.le_succ _) (.slice a.dA x.t.ds.length a.dc))
    clear hb4
    go_wp2
    have k0 := HF.out.cell 0
    have k1 := HF.out.cell 1
    have k2 := HF.out.cell 2
    have k3 := HF.out.cell 3
    have k4 := HF.out.cell 4
    simp at k0 k1 k2 k3 k4
    refine bodyPost_ret (v := .tuple #[x.t.val a, .bool true]) (by simp [results, Tryz.results30, go_sem, k0, k1, k2, k3, k4, Sea.PM.val, Sea.PM.cs, noM]) rfl ?_
    exact ⟨x.t, a, by rw [HL.out]; rfl, by rw [HL.out]; rfl, HOK.out.old HB4.out HFR.out (Nat.le_succ _), HB9.out⟩
end Go.Proofs.YthidjdjcjjbpbaaGreatDoor
