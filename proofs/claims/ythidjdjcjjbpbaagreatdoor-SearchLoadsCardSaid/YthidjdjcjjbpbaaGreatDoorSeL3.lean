/-
  The document's Large of a search.
-/
import Derived.Test.YthidjdjcjjbpbaaGreatDoorSeL2
import Derived.Test.YthidjdjcjjbpbaaGreatDoorSeW5
namespace Go.Proofs.YthidjdjcjjbpbaaGreatDoor
open Go.RowKit Sea
set_option linter.unusedVariables false
set_option linter.unusedSimpArgs false

/-- what is known where a search is not large -/
structure SzS (top : PM) (l : List PN) : Prop where
  top : PMs top
  few : l.length ≤ 30
  all : ∀ n ∈ l, PMs n.t
theorem lr_true {p : Prop} {w : World} {b : Bool} {e : Ending} {w' : World} (h : LrP p w e w') : ∃ b, e = .returned (.bool b) ∧ (b = false → p) ∧ Below w.heap.size w w' := h
set_option maxRecDepth 100000 in
set_option maxHeartbeats 4000000 in
theorem large20_any (X : Nat → Prop) (t : PM) (a : MA) (A : Option Addr) (n c : Nat) (l : List PN) (w : World) (h : MOk X w t a) (hl : NsR X w A l) (hn : l.length = n) : Calls Tryz.prog 7 #[t.val a, .slice A n c] w fun e w' => PF (LrP (SzS t l) w) e w' := by
  subst hn
  obtain ⟨W1, hW1⟩ : ∃ W1, W1 = (w.alloc (.cells #[.int .i64 t.ver, .int .i64 t.exp, .slice a.tA t.ts.length a.tc, .slice a.kA t.ks.length a.kc, .slice a.dA t.ds.length a.dc] 26)) := ⟨_, rfl⟩
  have hb1 : Below w.heap.size w W1 := by rw [hW1]; exact (Below.refl _ _).alloc (Nat.le_refl _) _
  have hk1 : Blk W1 w.heap.size 26 #[.int .i64 t.ver, .int .i64 t.exp, .slice a.tA t.ts.length a.tc, .slice a.kA t.ks.length a.kc, .slice a.dA t.ds.length a.dc] := by rw [hW1]; exact Blk.new _ _ _
  have HM := Lib.hid h
  have HV := Lib.hid hl
  have HB1 := Lib.hid hb1
  have HW1 := Lib.hid hW1
  have HK1 := Lib.hid hk1
  unfold Sea.PM.val Sea.PM.cs
  clear h hl hb1 hk1 hW1
  go_enter Tryz.func7, Tryz.ntmps7
  go_wp2
  rw [← HW1.out]
  go_loopw [5] (fun i wr => ∃ k : Nat, k ≤ l.length ∧ k ≤ 40 ∧ i = .int .i64 k ∧ Hid (∀ j (hj : j < l.length), j < k → PMs l[j].t) ∧ Hid (Below W1.heap.size W1 wr)) (fun i _ => l.length - (intOf i).toNat)
  case atStart => exact ⟨0, Nat.zero_le _, by omega, rfl, Lib.hid (fun j hj h => by omega), Lib.hid (Below.refl _ _)⟩
  case round =>
    obtain ⟨k, hk, hk40, rfl, HB, HW⟩ := hrel
    have HBW : Hid (Below w.heap.size w wr) := Lib.hid (HB1.out.trans (HW.out.mono HB1.out.size))
    rcases (by omega : (k < l.length ∧ k < 40) ∨ k = l.length ∨ (k < l.length ∧ k = 40)) with ⟨hlt, h40⟩ | hend
    · have q5 : decide ((k : Int) < (l.length : Int)) = true := by rw [decide_eq_true_iff]; omega
      have q5' : decide (k < l.length) = true := by rw [decide_eq_true_iff]; omega
      have q6 : decide ((k : Int) < 40) = true := by rw [decide_eq_true_iff]; omega
      obtain ⟨b, o, hA, hbl, hbx, hc⟩ := HV.out (by omega)
      have HLT := Lib.hid hlt
      obtain ⟨x, hx, hck⟩ : ∃ x, x = l[k] ∧ NB X w b (o + k * 6) x := ⟨_, rfl, hc k hlt⟩
      obtain ⟨xa, hcs, hok⟩ := hck
      have HCS := Lib.hid hcs
      have HBL := Lib.hid hbl
      have hcc := large16_any X x.t xa wr (hok.bel HBW.out)
      unfold Sea.PM.val Sea.PM.cs at hcc
      have HCC := Lib.hid hcc
      have d1 : wr.cell? ⟨b, o + k * 6 + 1, none⟩ = some (.int .i64 x.t.ver) := (HBW.out.cell HBL.out).trans (HCS.out 1 (by omega))
      have d2 : wr.cell? ⟨b, o + k * 6 + 1 + 1, none⟩ = some (.int .i64 x.t.exp) := (HBW.out.cell HBL.out).trans (HCS.out 2 (by omega))
      have d3 : wr.cell? ⟨b, o + k * 6 + 1 + 2, none⟩ = some (.slice xa.tA x.t.ts.length xa.tc) := (HBW.out.cell HBL.out).trans (HCS.out 3 (by omega))
      have d4 : wr.cell? ⟨b, o + k * 6 + 1 + 3, none⟩ = some (.slice xa.kA x.t.ks.length xa.kc) := (HBW.out.cell HBL.out).trans (HCS.out 4 (by omega))
      have d5 : wr.cell? ⟨b, o + k * 6 + 1 + 4, none⟩ = some (.slice xa.dA x.t.ds.length xa.dc) := (HBW.out.cell HBL.out).trans (HCS.out 5 (by omega))
      rw [hA]
      have hki : (k : Int) < (l.length : Int) := by omega
      have hk0 : (0 : Int) ≤ (k : Int) := by omega
      have HX := Lib.hid hx
      clear hA hbl hbx hc hx hcs hok hcc
      go_wp2_with fail
      refine HCC.out.mono ?_
      rintro e w3 ⟨bb, rfl, hbb, hb3⟩
      have HW3 := Lib.hid (HW.out.trans (hb3.mono HW.out.size))
      have HBB := Lib.hid hbb
      clear hb3 hbb d1 d2 d3 d4 d5
      cases bb with
      | true =>
        go_wp2
        go_ret
        exact ⟨true, rfl, (fun h => by cases h), HB1.out.trans (HW3.out.mono HB1.out.size)⟩
      | false =>
        have HP0 := HBB.out rfl
        have HP0 := Lib.hid HP0
        clear HBB
        go_wp2
        go_roundw
        case rel => exact ⟨k + 1, by omega, by omega, by go_num, Lib.hid (fun j hj h => by
          rcases (by omega : j < k ∨ j = k) with h1 | h1
          · exact HB.out j hj h1
          · subst h1; have h0 := HX.out; have h9 := HP0.out; subst h0; exact h9), HW3⟩
        case measure => simp [intOf]; omega
    · have hcc := large16_any X t a wr (HM.out.bel HBW.out)
      unfold Sea.PM.val Sea.PM.cs at hcc
      have HCC := Lib.hid hcc
      have e0 : wr.cell? ⟨w.heap.size, 0, none⟩ = some (.int .i64 t.ver) := (HK1.out.below HW.out HK1.out.lt).cell 0
      have e1 : wr.cell? ⟨w.heap.size, 1, none⟩ = some (.int .i64 t.exp) := (HK1.out.below HW.out HK1.out.lt).cell 1
      have e2 : wr.cell? ⟨w.heap.size, 2, none⟩ = some (.slice a.tA t.ts.length a.tc) := (HK1.out.below HW.out HK1.out.lt).cell 2
      have e3 : wr.cell? ⟨w.heap.size, 3, none⟩ = some (.slice a.kA t.ks.length a.kc) := (HK1.out.below HW.out HK1.out.lt).cell 3
      have e4 : wr.cell? ⟨w.heap.size, 4, none⟩ = some (.slice a.dA t.ds.length a.dc) := (HK1.out.below HW.out HK1.out.lt).cell 4
      clear hcc
      rcases (by omega : k = l.length ∨ (k < l.length ∧ k = 40)) with heq | ⟨hlt, heq⟩
      · have q5 : decide ((k : Int) < (l.length : Int)) = false := by rw [decide_eq_false_iff_not]; omega
        have q5' : decide (k < l.length) = false := by rw [decide_eq_false_iff_not]; omega
        have HQ : Hid (PMs t → l.length ≤ 30 → SzS t l) := Lib.hid (fun h1 h2 => ⟨h1, h2, fun x hx => by
          obtain ⟨j, hj, e⟩ := List.getElem_of_mem hx
          rw [← e]; exact HB.out j hj (by omega)⟩)
        clear heq hend
        go_wp2_with fail
        refine HCC.out.mono ?_
        rintro e w3 ⟨bb, rfl, hbb, hb3⟩
        have HW3 := Lib.hid (HW.out.trans (hb3.mono HW.out.size))
        have HBB := Lib.hid hbb
        clear hb3 hbb e0 e1 e2 e3 e4
        cases bb with
        | true =>
          go_wp2
          go_ret
          exact ⟨true, rfl, (fun h => by cases h), HB1.out.trans (HW3.out.mono HB1.out.size)⟩
        | false =>
          have HP0 := Lib.hid (HBB.out rfl)
          clear HBB
          go_wp2
          go_ret
          exact ⟨_, rfl, fun h => HQ.out HP0.out (by simp at h; omega), HB1.out.trans (HW3.out.mono HB1.out.size)⟩
      · have q5 : decide ((k : Int) < (l.length : Int)) = true := by rw [decide_eq_true_iff]; omega
        have q5' : decide (k < l.length) = true := by rw [decide_eq_true_iff]; omega
        have q6 : decide ((k : Int) < 40) = false := by rw [decide_eq_false_iff_not]; omega
        have q6' : decide (k < 40) = false := by rw [decide_eq_false_iff_not]; omega
        have q7 : decide ((l.length : Int) > 30) = true := by rw [decide_eq_true_iff]; omega
        have q7' : decide ((30 : Int) < (l.length : Int)) = true := by rw [decide_eq_true_iff]; omega
        have HLT : Hid (30 < l.length) := Lib.hid (by omega)
        clear hlt hend heq hk40
        go_wp2_with fail
        refine HCC.out.mono ?_
        rintro e w3 ⟨bb, rfl, hbb, hb3⟩
        have HW3 := Lib.hid (HW.out.trans (hb3.mono HW.out.size))
        clear hb3 hbb e0 e1 e2 e3 e4
        cases bb
        · go_wp2
          go_ret
          exact ⟨true, rfl, (fun h => by cases h), HB1.out.trans (HW3.out.mono HB1.out.size)⟩
        · go_wp2
          go_ret
          exact ⟨true, rfl, (fun h => by cases h), HB1.out.trans (HW3.out.mono HB1.out.size)⟩
end Go.Proofs.YthidjdjcjjbpbaaGreatDoor
