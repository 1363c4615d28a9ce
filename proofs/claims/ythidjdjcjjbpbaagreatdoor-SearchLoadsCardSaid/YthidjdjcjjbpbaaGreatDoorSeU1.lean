/-
  target.Covering: what its closure hands to a loop's body.
-/
import Derived.RangeFuncNested
import Derived.RangeFuncBound
import Derived.RangeFuncCalls
import Derived.RangeFuncLeaves
import Derived.Shelf.Abstract
import Derived.Shelf.RegionOpen
import Derived.WalkKit
import Derived.OwnWalkIn
import Derived.TacticsInMore
import Derived.LoopNIn
import Derived.LoopIn
import Derived.Test.YthidjdjcjjbpbaaGreatDoorSeW5
import Derived.Test.YthidjdjcjjbpbaaGreatDoorSeA
namespace Go.Proofs.YthidjdjcjjbpbaaGreatDoor
open Go.RowKit Go.Shelf Sea
attribute [local go_sem] Oper.semAt_some
set_option linter.unusedVariables false
set_option linter.unusedSimpArgs false

/-- blocks that a body may turn: two boxes, rows of todos, what is no cells -/
def Sof (B0 m1 m2 : Nat) (A : World) (b : Nat) : Prop := b = m1 ∨ b = m2 ∨ (B0 ≤ b ∧ ∃ o, A.heap[b]? = some o ∧ (o.isCells = false ∨ ∃ cs, o = .cells cs 70))
def KpC (B0 m1 m2 : Nat) (A B : World) : Prop := Fr (Sof B0 m1 m2 A) A B
theorem KpC.trans {B0 m1 m2 : Nat} {A B C : World} (h : KpC B0 m1 m2 A B) (k : KpC B0 m1 m2 B C) : KpC B0 m1 m2 A C :=
  Fr.trans_new h k (fun j hj e => by
    rcases e with e | e | ⟨e, o, ho, hc⟩
    · exact .inl e
    · exact .inr (.inl e)
    · by_cases hs : Sof B0 m1 m2 A j
      · exact hs
      · rw [h.block j hj hs] at ho
        exact .inr (.inr ⟨e, o, ho, hc⟩))
theorem KpC.below {B0 m1 m2 : Nat} {A B : World} (h : KpC B0 m1 m2 A B) (hA : B0 ≤ A.heap.size) (h1 : B0 ≤ m1) (h2 : B0 ≤ m2) : Below B0 A B := ⟨h.os, h.tape, h.output, h.size, fun i hi => h.block i (by omega) (fun e => by
  rcases e with e | e | ⟨e, _⟩ <;> omega)⟩
theorem KpC.of_below {B0 m1 m2 : Nat} {A B : World} (h : Below A.heap.size A B) : KpC B0 m1 m2 A B := Fr.of_below h
theorem KpC.put (B0 m1 m2 : Nat) {N : Nat} (hN : B0 ≤ N) (W : World) (l : Nat) (o o' : Obj) (hl : N ≤ l) (ho : W.heap[l]? = some o) (hc : o.isCells = false) (hw : o.isWalk = false) : KpC B0 m1 m2 W (W.putObj l o') :=
  Fr.of_grown (grownBy_putObj' W l o') (fun k e => by cases e; exact .inr (.inr ⟨by omega, o, ho, .inl hc⟩))
theorem KpC.blk {B0 m1 m2 g : Nat} {A B : World} {t : TypeId} {cs : Array Value} (h : KpC B0 m1 m2 A B) (hb : Blk A g t cs) (h1 : g ≠ m1) (h2 : g ≠ m2) (ht : t ≠ 70) : Blk B g t cs :=
  (h.block g hb.lt (fun e => by
    rcases e with e | e | ⟨_, o, ho, hc⟩
    · exact h1 e
    · exact h2 e
    · have hb' : A.heap[g]? = some (.cells cs t) := hb
      rw [hb'] at ho
      cases ho
      rcases hc with hc | ⟨c', hc⟩
      · cases hc
      · cases hc; exact ht rfl)).trans hb
theorem grown_of_below {A B : World} (h : Below A.heap.size A B) : A.grownBy B none := ⟨h.os, h.tape, h.output, h.size, fun i hi _ => h.block i hi⟩
/-- a delegation's value as it is handed on -/
def encD (x : PD × DA) : Array Value := #[.agg #[.string x.1.name, .slice x.2.kA x.1.rk.length x.2.kc, .int .i64 x.1.thr, .bool x.1.term, .slice x.2.pA x.1.paths.length x.2.pc, .slice x.2.xA x.1.prefs.length x.2.xc]]
set_option maxRecDepth 100000 in
set_option maxHeartbeats 4000000 in
theorem cov1_in (X : Nat → Prop) (l g1 g2 m1 m2 : Nat) (t : PM) (a : MA) (path : ByteArray) (J Jx : List (PD × DA) → World → Prop) (w W : World) (h : MOk X w t a) (hs : PMs t) (hz : PMz t) (hp : path.size ≤ 1000) (hT : Tbs w)
    (hB : Below w.heap.size w W) (hJ : AbidesFrom W.heap.size J) (hg1 : g1 ≠ m1 ∧ g1 ≠ m2) (hg2 : g2 ≠ m1 ∧ g2 ≠ m2) (hm1 : w.heap.size ≤ m1 ∧ m1 < W.heap.size) (hm2 : w.heap.size ≤ m2 ∧ m2 < W.heap.size)
    (hY : ∀ pre x W1, J pre W1 → pre.length < t.ds.length → YieldAt Fence.wide 2 Tryz.prog l (encD x) W1 fun e W' =>
      (e = .returned (.bool true) ∧ J (pre ++ [x]) W' ∧ KpC w.heap.size m1 m2 W1 W') ∨ (e = .returned (.bool false) ∧ Jx (pre ++ [x]) W'))
    (h1 : Blk W g1 26 #[.int .i64 t.ver, .int .i64 t.exp, .slice a.tA t.ts.length a.tc, .slice a.kA t.ks.length a.kc, .slice a.dA t.ds.length a.dc]) (h2 : Blk W g2 9 #[.string path]) (h0 : J [] W) :
    CallsIn Fence.wide 3 Tryz.prog 47 #[.func (.yield l) #[] #[], .pointer (some ⟨g1, 0, none⟩), .pointer (some ⟨g2, 0, none⟩)] W fun e W' => (∃ v, e = .returned v) ∧
      ((∃ ys, ys.map (·.1) = covering (covP path) t.ds ∧ J ys W') ∨ (∃ pre, True ∧ Jx pre W')) := by
  obtain ⟨r, hr⟩ : ∃ r, r = covering (covP path) t.ds := ⟨_, rfl⟩
  rw [← hr]
  have HR := Lib.hid hr
  have HV := Lib.hid h
  have HS := Lib.hid hs
  have HZ := Lib.hid hz
  have HP := Lib.hid hp
  have HT := Lib.hid hT
  have HB0 := Lib.hid hB
  have HJ := Lib.hid hJ
  have HG1 := Lib.hid hg1
  have HG2 := Lib.hid hg2
  have HM1 := Lib.hid hm1
  have HM2 := Lib.hid hm2
  have HY := Lib.hid hY
  have H1 := Lib.hid h1
  have H2 := Lib.hid h2
  have H0 := Lib.hid h0
  have c4 : W.cell? ⟨g1, 4, none⟩ = some (.slice a.dA t.ds.length a.dc) := h1.cell 4
  clear hr h hs hz hp hT hB hJ hg1 hg2 hm1 hm2 hY h1 h2 h0
  refine callsIn_of_wp Tryz.func47 rfl trivial ?_ rfl
  simp only [Tryz.ntmps47, List.size_toArray, List.length_cons, List.length_nil, Nat.reduceAdd, Nat.reduceSub, Array.replicate_succ, Array.replicate_zero, List.push_toArray, List.append_toArray, List.nil_append, List.cons_append]
  gi_wp2
  clear c4
  gi_loopw [5, 9] (fun _ i wr => ∃ k : Nat, ∃ pre, k ≤ t.ds.length ∧ i = .int .i64 (k : Int) ∧ Hid (pre.length ≤ k) ∧ Hid (r = pre.map (·.1) ++ covering (covP path) (t.ds.drop k)) ∧ Hid (J pre wr) ∧ Hid (KpC w.heap.size m1 m2 W wr)) (fun _ i _ => t.ds.length - (intOf i).toNat)
  case atStart => exact ⟨0, [], Nat.zero_le _, rfl, Lib.hid (Nat.zero_le _), Lib.hid (by rw [HR.out]; rfl), H0, Lib.hid (Fr.refl _ _)⟩
  case round =>
    obtain ⟨k, pre, hk, rfl, HPL, HB, HJS, HK⟩ := hrel
    have HBW : Hid (Below w.heap.size w wr) := Lib.hid (HB0.out.trans (HK.out.below (by have := HM1.out; omega) HM1.out.1 HM2.out.1))
    rcases (by omega : k < t.ds.length ∨ k = t.ds.length) with hlt | heq
    · have q5 : decide ((k : Int) < (t.ds.length : Int)) = true := by rw [decide_eq_true_iff]; omega
      have q5' : decide (k < t.ds.length) = true := by rw [decide_eq_true_iff]; omega
      obtain ⟨b, o, hA, hbl, hbx, hc⟩ := (HV.out).rd (by omega)
      have HLT := Lib.hid hlt
      obtain ⟨x, hx, hck⟩ : ∃ x, x = t.ds[k] ∧ DelB X w b (o + k * 6) x := ⟨_, rfl, hc k hlt⟩
      have HXM : Hid (x ∈ t.ds) := Lib.hid (hx ▸ List.getElem_mem hlt)
      obtain ⟨da, hcs, hok⟩ := hck
      have HCS := Lib.hid hcs
      have HOK := Lib.hid hok
      have HBL := Lib.hid hbl
      have d0 : wr.cell? ⟨b, o + k * 6, none⟩ = some (.string x.name) := (HBW.out.cell HBL.out).trans (HCS.out 0 (by omega))
      have d1 : wr.cell? ⟨b, o + k * 6 + 1, none⟩ = some (.slice da.kA x.rk.length da.kc) := (HBW.out.cell HBL.out).trans (HCS.out 1 (by omega))
      have d2 : wr.cell? ⟨b, o + k * 6 + 2, none⟩ = some (.int .i64 x.thr) := (HBW.out.cell HBL.out).trans (HCS.out 2 (by omega))
      have d3 : wr.cell? ⟨b, o + k * 6 + 3, none⟩ = some (.bool x.term) := (HBW.out.cell HBL.out).trans (HCS.out 3 (by omega))
      have d4 : wr.cell? ⟨b, o + k * 6 + 4, none⟩ = some (.slice da.pA x.paths.length da.pc) := (HBW.out.cell HBL.out).trans (HCS.out 4 (by omega))
      have d5 : wr.cell? ⟨b, o + k * 6 + 5, none⟩ = some (.slice da.xA x.prefs.length da.xc) := (HBW.out.cell HBL.out).trans (HCS.out 5 (by omega))
      rw [hA]
      have hki : (k : Int) < (t.ds.length : Int) := by omega
      have hk9 : (k : Int) + 1 ≤ 100 := by have := HS.out.ds; omega
      have hk0 : (0 : Int) ≤ (k : Int) := by omega
      obtain ⟨W1, hW1⟩ : ∃ W1, W1 = wr.alloc (.cells #[.string x.name, .slice da.kA x.rk.length da.kc, .int .i64 x.thr, .bool x.term, .slice da.pA x.paths.length da.pc, .slice da.xA x.prefs.length da.xc] 59) := ⟨_, rfl⟩
      have hb1 : Below wr.heap.size wr W1 := by rw [hW1]; exact (Below.refl _ _).alloc (Nat.le_refl _) _
      have hq1 : Blk W1 wr.heap.size 59 #[.string x.name, .slice da.kA x.rk.length da.kc, .int .i64 x.thr, .bool x.term, .slice da.pA x.paths.length da.pc, .slice da.xA x.prefs.length da.xc] := by rw [hW1]; exact Blk.new _ _ _
      have HW1 := Lib.hid hW1
      have HQ1 := Lib.hid hq1
      have HB1 : Hid (Below w.heap.size w W1) := Lib.hid (HBW.out.trans (hb1.mono HBW.out.size))
      have HK1 : Hid (KpC w.heap.size m1 m2 W W1) := Lib.hid (HK.out.trans (KpC.of_below hb1))
      have HJ1 : Hid (J pre W1) := Lib.hid (HJ.out _ _ _ none HJS.out (grown_of_below hb1) (fun r e => by cases e))
      have hcc := covers_any X x da path W1 (HOK.out.bel HB1.out) (HZ.out x HXM.out) HP.out (HT.out.bel HB1.out)
      unfold Sea.PD.val Sea.PD.cs at hcc
      have e4 : (wr.alloc (.cells #[.string x.name, .slice da.kA x.rk.length da.kc, .int .i64 x.thr, .bool x.term, .slice da.pA x.paths.length da.pc, .slice da.xA x.prefs.length da.xc] 59)).cell? ⟨g2, 0, none⟩ = some (.string path) := by rw [← HW1.out]; exact (HK1.out.blk H2.out HG2.out.1 HG2.out.2 (by decide)).cell 0
      have HX := Lib.hid hx
      obtain ⟨c, hd⟩ : ∃ c, c = covP path x := ⟨_, rfl⟩
      have HD := Lib.hid hd
      rw [← hd] at hcc
      have HCC := Lib.hid hcc
      clear hA hbl hbx hc hx hcs hok hW1 hb1 hq1 hcc hd
      gi_wp2
      refine ⟨trivial, ?_⟩
      rw [← HW1.out]
      refine (callsIn_wide.2 HCC.out).mono ?_
      rintro e w3 ⟨rfl, hb3⟩
      have HK3 : Hid (KpC w.heap.size m1 m2 W w3) := Lib.hid (HK1.out.trans (KpC.of_below hb3))
      have HB3 : Hid (Below w.heap.size w w3) := Lib.hid (HB1.out.trans (hb3.mono HB1.out.size))
      have HJ3 : Hid (J pre w3) := Lib.hid (HJ.out _ _ _ none HJ1.out (grown_of_below hb3) (fun r e => by cases e))
      have HQ3 := Lib.hid (HQ1.out.below hb3 HQ1.out.lt)
      clear e4 hb3
      cases c with
      | false =>
        gi_wp2
        go_roundw
        case rel => exact ⟨k + 1, pre, by omega, by go_num, Lib.hid (by have := HPL.out; omega), Lib.hid (by rw [HB.out, cov_drop_no HLT.out HX.out HD.out.symm]), HJ3, HK3⟩
        case measure => simp [intOf]; omega
      | true =>
        have y0 : w3.cell? ⟨wr.heap.size, 0, none⟩ = some (.string x.name) := HQ3.out.cell 0
        have y1 : w3.cell? ⟨wr.heap.size, 1, none⟩ = some (.slice da.kA x.rk.length da.kc) := HQ3.out.cell 1
        have y2 : w3.cell? ⟨wr.heap.size, 2, none⟩ = some (.int .i64 x.thr) := HQ3.out.cell 2
        have y3 : w3.cell? ⟨wr.heap.size, 3, none⟩ = some (.bool x.term) := HQ3.out.cell 3
        have y4 : w3.cell? ⟨wr.heap.size, 4, none⟩ = some (.slice da.pA x.paths.length da.pc) := HQ3.out.cell 4
        have y5 : w3.cell? ⟨wr.heap.size, 5, none⟩ = some (.slice da.xA x.prefs.length da.xc) := HQ3.out.cell 5
        have hcp := copyOf_any X x da w3 (HOK.out.bel HB3.out) (HS.out.d x HXM.out)
        unfold Sea.PD.val Sea.PD.cs at hcp
        have HCP := Lib.hid hcp
        clear hcp
        gi_wp2
        refine ⟨trivial, ?_⟩
        refine (callsIn_wide.2 HCP.out).mono ?_
        rintro e w4 ⟨xa, rfl, _, hb4⟩
        have HK4 : Hid (KpC w.heap.size m1 m2 W w4) := Lib.hid (HK3.out.trans (KpC.of_below hb4))
        have HJ4 : Hid (J pre w4) := Lib.hid (HJ.out _ _ _ none HJ3.out (grown_of_below hb4) (fun r e => by cases e))
        have HQ4 := Lib.hid (HQ3.out.below hb4 HQ3.out.lt)
        have HQM : Hid (wr.heap.size ≠ m1 ∧ wr.heap.size ≠ m2) := Lib.hid (by have := HM1.out; have := HM2.out; have := HK.out.size; omega)
        obtain ⟨fn, tmps, assign, body, hy, hR⟩ := HY.out pre (x, xa) w4 HJ4.out (by have := HPL.out; omega)
        have HR4 := Lib.hid hR
        unfold encD at hy
        clear hR hb4 y0 y1 y2 y3 y4 y5
        unfold Sea.PD.val Sea.PD.cs
        gi_wp2
        refine HR4.out.mono ?_
        rintro e W5 (⟨rfl, hJ5, hk5⟩ | ⟨rfl, hJx5⟩)
        · have HQ5 := Lib.hid (hk5.blk HQ4.out HQM.out.1 HQM.out.2 (by decide))
          have HJ5 := Lib.hid hJ5
          have HK5 : Hid (KpC w.heap.size m1 m2 W W5) := Lib.hid (HK4.out.trans hk5)
          have y3 : W5.cell? ⟨wr.heap.size, 3, none⟩ = some (.bool x.term) := HQ5.out.cell 3
          clear hJ5 hk5 hy
          obtain ⟨tm, htm⟩ : ∃ tm, tm = x.term := ⟨_, rfl⟩
          rw [← htm] at y3
          cases tm with
          | false =>
            have HTM := Lib.hid htm.symm
            clear htm
            gi_wp2
            go_roundw
            case rel => exact ⟨k + 1, pre ++ [(x, xa)], by omega, by go_num, Lib.hid (by have := HPL.out; rw [List.length_append]; simp; omega), Lib.hid (by rw [HB.out, cov_drop_yes HLT.out HX.out HD.out.symm HTM.out, List.map_append, List.append_assoc]; rfl), HJ5, HK5⟩
            case measure => simp [intOf]; omega
          | true =>
            have HTM := Lib.hid htm.symm
            clear htm
            gi_wp2
            refine bodyPost_ret (results_none rfl _ _ _) rfl ?_
            exact ⟨⟨_, rfl⟩, .inl ⟨pre ++ [(x, xa)], by rw [HB.out, cov_drop_term HLT.out HX.out HD.out.symm HTM.out, List.map_append]; rfl, HJ5.out⟩⟩
        · have HJX := Lib.hid hJx5
          clear hJx5 hy
          gi_wp2
          refine bodyPost_ret (results_none rfl _ _ _) rfl ?_
          exact ⟨⟨_, rfl⟩, .inr ⟨_, trivial, HJX.out⟩⟩
    · have q5 : decide ((k : Int) < (t.ds.length : Int)) = false := by rw [decide_eq_false_iff_not]; omega
      have q5' : decide (k < t.ds.length) = false := by rw [decide_eq_false_iff_not]; omega
      have HI : Hid (pre.map (·.1) = r) := Lib.hid (by rw [HB.out, heq, List.drop_length]; simp [covering])
      clear heq
      gi_wp2
      go_end0
      exact ⟨⟨_, rfl⟩, .inl ⟨pre, HI.out, HJS.out⟩⟩
/-- target.Covering hands on what covers, in order -/
theorem cov_stops (X : Nat → Prop) (g1 g2 m1 m2 : Nat) (t : PM) (a : MA) (path : ByteArray) (w W0 : World) (h : MOk X w t a) (hs : PMs t) (hz : PMz t) (hp : path.size ≤ 1000) (hT : Tbs w)
    (hB : Below w.heap.size w W0) (hg1 : g1 ≠ m1 ∧ g1 ≠ m2) (hg2 : g2 ≠ m1 ∧ g2 ≠ m2) (hm1 : w.heap.size ≤ m1 ∧ m1 < W0.heap.size) (hm2 : w.heap.size ≤ m2 ∧ m2 < W0.heap.size)
    (h1 : Blk W0 g1 26 #[.int .i64 t.ver, .int .i64 t.exp, .slice a.tA t.ts.length a.tc, .slice a.kA t.ks.length a.kc, .slice a.dA t.ds.length a.dc]) (h2 : Blk W0 g2 9 #[.string path]) :
    SeqStopsK Fence.wide 3 Tryz.prog 47 #[.pointer (some ⟨g1, 0, none⟩), .pointer (some ⟨g2, 0, none⟩)] encD (KpC w.heap.size m1 m2)
      (fun ys => ys.map (·.1) = covering (covP path) t.ds) (fun _ => True) t.ds.length W0 := fun l J Jx W hW hJ _ hY h0 =>
  cov1_in X l g1 g2 m1 m2 t a path J Jx w W h hs hz hp hT (hB.trans (hW.mono hB.size)) hJ hg1 hg2 ⟨hm1.1, Nat.lt_of_lt_of_le hm1.2 hW.size⟩ ⟨hm2.1, Nat.lt_of_lt_of_le hm2.2 hW.size⟩ hY (h1.below hW h1.lt) (h2.below hW h2.lt) h0
end Go.Proofs.YthidjdjcjjbpbaaGreatDoor
