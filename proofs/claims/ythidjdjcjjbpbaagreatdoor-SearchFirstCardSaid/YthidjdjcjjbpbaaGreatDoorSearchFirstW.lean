/-
  The law SearchFirst: its walk.
-/
import Derived.BigQuiet
import Derived.Test.YthidjdjcjjbpbaaGreatDoorSearchFindsW
namespace Go.Proofs.YthidjdjcjjbpbaaGreatDoor
open Go.RowKit Sea Glob
set_option linter.unusedVariables false
set_option linter.unusedSimpArgs false

/-- what is found is a target of the last role visited -/
theorem searchP_first (l : List PN) (path : ByteArray) (most : Int) (t : PM) (h1 : 1 ≤ most) (h2 : most ≤ 32) (R : Res) (hR : R = searchP (ldOf l 4) path most t) :
    R.vis.Nodup ∧ (R.vis.length : Int) ≤ most ∧ (R.e = 0 → 0 < R.vis.length ∧ R.x.isSome = true) ∧ ∀ i (hi : i < R.vis.length), findT path (if i = 0 then t else (loadP l R.vis[i]).getD noM).ts = if R.e = 0 ∧ i + 1 = R.vis.length then R.x else none := by
  unfold searchP at hR
  split at hR
  · obtain ⟨Q, hQ, q1, q2, q3, q4, m1, t1, q5, q6, q7⟩ := walkP_first (cov := covP path) (path := path) (most := most) (top := t) (l := l) (eNone := 4) (eMany := 200) (by decide) (by decide) 33 t [] [targetsB] [] [] (by simp) (by simp) (by simpa using h1) (by simp; omega) rfl (fun m hm => by cases hm)
    rw [← hQ] at hR
    subst hR
    refine ⟨q1, q2, fun h => ⟨List.length_pos_iff.2 q3, q4.2 h⟩, fun i hi => ?_⟩
    have hlen : R.vis.length = m1.length + 1 := by
      have := congrArg List.length q5
      simp [metas] at this
      have := List.length_pos_iff.2 q3
      omega
    have hmi : (metas t l R.vis)[i]? = some (if i = 0 then t else (loadP l R.vis[i]).getD noM) := by
      unfold metas
      cases i with
      | zero => rfl
      | succ i =>
        rw [List.getElem?_cons_succ, List.getElem?_map, List.getElem?_tail, List.getElem?_eq_getElem hi]
        rfl
    rw [q5] at hmi
    rcases (by omega : i < m1.length ∨ i = m1.length) with hlt | heq
    · rw [List.getElem?_append_left hlt, List.getElem?_eq_getElem hlt] at hmi
      injection hmi with hmi
      rw [← hmi, if_neg (fun h => by omega)]
      exact q6 _ (List.getElem_mem _)
    · have hs : i - m1.length = 0 := by omega
      rw [List.getElem?_append_right (by omega), hs] at hmi
      simp only [List.getElem?_cons_zero, Option.some.injEq] at hmi
      rw [← hmi, q7]
      split
      · rfl
      · rename_i h
        have : R.x.isSome = false := by
          cases hx : R.x.isSome with
          | false => rfl
          | true => exact absurd ⟨q4.1 hx, by omega⟩ h
        cases hx : R.x with
        | none => rfl
        | some p => rw [hx] at this; cases this
  · rename_i h
    subst hR
    exact ⟨by simp, by simp; omega, fun h' => absurd h' h, fun i hi => by simp at hi⟩
theorem frF {w : World} {g : Nat} {a b c d e : Value} : Fr (· = g) w (((((w.setCell ⟨g, 0, none⟩ a).setCell ⟨g, 1, none⟩ b).setCell ⟨g, 2, none⟩ c).setCell ⟨g, 3, none⟩ d).setCell ⟨g, 4, none⟩ e) :=
  (((((Fr.refl (· = g) w).setCell (p := ⟨g, 0, none⟩) (fun _ => rfl) _).setCell (p := ⟨g, 1, none⟩) (fun _ => rfl) _).setCell (p := ⟨g, 2, none⟩) (fun _ => rfl) _).setCell (p := ⟨g, 3, none⟩) (fun _ => rfl) _).setCell (p := ⟨g, 4, none⟩) (fun _ => rfl) _
theorem blkF {w : World} {g : Nat} {t : TypeId} {a b c d e v0 v1 v2 v3 v4 : Value} (h : Blk w g t #[v0, v1, v2, v3, v4]) : Blk (((((w.setCell ⟨g, 0, none⟩ a).setCell ⟨g, 1, none⟩ b).setCell ⟨g, 2, none⟩ c).setCell ⟨g, 3, none⟩ d).setCell ⟨g, 4, none⟩ e) g t #[a, b, c, d, e] :=
  ((((h.set_ 0 _).set_ 1 _).set_ 2 _).set_ 3 _).set_ 4 _
theorem loadP_drop {l : List PN} {k : Nat} (hk : k < l.length) (nm : ByteArray) : loadP (l.drop k) nm = if decide (l[k].name = nm) = true then some l[k].t else loadP (l.drop (k + 1)) nm := by
  unfold loadP
  rw [List.drop_eq_getElem_cons hk, List.find?_cons]
  cases h : decide (l[k].name = nm) <;> rfl
set_option maxRecDepth 100000 in
set_option maxHeartbeats 8000000 in
theorem searchFirst_walk (t : PM) (a : MA) (A : Option Addr) (n c : Nat) (l : List PN) (path : ByteArray) (most : Int) (W : World) (hK : TabK W) (hTab : Tab W) (sa : MOk (Beh W) W t a) (sb : PMz t) (sc : PKf t) (hl : NsR (Beh W) W A l) (hn : l.length = n) (hz : ∀ x ∈ l, PMz x.t ∧ PKf x.t) (zp : path.size ≤ 140737488351232) (wi : (Lit.int .i64 most).wf = true) :
    Calls Tryz.prog 5 #[t.val a, .slice A n c, .string path, .int .i64 most] W fun e w' => e = .returned (.bool true) ∧ Below W.heap.size W w' := by
  have hin : InS W t a A n l := ⟨sa, hl, hn, ⟨sb, sc⟩, hz⟩
  have hT : Tbs W := ⟨hTab, hK⟩
  have h63 : -9223372036854775808 ≤ most ∧ most ≤ 9223372036854775807 := by obtain ⟨h0, h1⟩ := Go.bounds_i64 wi; omega
  obtain ⟨W1, hW1⟩ : ∃ W1, W1 = W.alloc (.cells #[.int .i64 t.ver, .int .i64 t.exp, .slice a.tA t.ts.length a.tc, .slice a.kA t.ks.length a.kc, .slice a.dA t.ds.length a.dc] 26) := ⟨_, rfl⟩
  have hb1 : Below W.heap.size W W1 := by rw [hW1]; exact (Below.refl _ _).alloc (Nat.le_refl _) _
  have hk1 : Blk W1 W.heap.size 26 #[.int .i64 t.ver, .int .i64 t.exp, .slice a.tA t.ts.length a.tc, .slice a.kA t.ks.length a.kc, .slice a.dA t.ds.length a.dc] := by rw [hW1]; exact Blk.new _ _ _
  have hlar := large20_any (Beh W) t a A n c l W1 (sa.bel hb1) (hl.bel hb1) hn
  have HIN := Lib.hid hin
  have HT := Lib.hid hT
  have H63 := Lib.hid h63
  have HB1 := Lib.hid hb1
  have HK1 := Lib.hid hk1
  have HW1 := Lib.hid hW1
  have HLIV : Hid (∀ w, Below W.heap.size W w → Calls Tryz.prog 8 #[] w fun e w' => PF (fun e w' => e = .returned (.bool true) ∧ Below w.heap.size w w') e w') := Lib.hid (fun w hb => slives_any w (hT.bel hb))
  unfold Sea.PM.val Sea.PM.cs at hlar ⊢
  have HLAR := Lib.hid hlar
  clear hin hT h63 hb1 hk1 hW1 hlar hK hTab sa sb sc hl hn hz zp wi
  go_enter Tryz.func5, Tryz.ntmps5
  go_wp2_with fail
  rw [← HW1.out]
  refine HLAR.out.mono ?_
  rintro e w2 ⟨lb, rfl, hlb, hb2⟩
  have HSZ := Lib.hid hlb
  have HBW : Hid (Below W.heap.size W w2) := Lib.hid (HB1.out.trans (hb2.mono HB1.out.size))
  have HK2 := Lib.hid (HK1.out.below hb2 HK1.out.lt)
  clear hlb hb2
  cases lb with
  | true =>
    go_wp2_with fail
    refine (HLIV.out _ HBW.out).mono ?_
    rintro e w9 ⟨rfl, hb9⟩
    have HB9 := Lib.hid (HBW.out.trans (hb9.mono HBW.out.size))
    clear hb9
    go_wp2
    go_ret
    exact ⟨rfl, HB9.out⟩
  | false =>
    rcases (by omega : 1000 < path.size ∨ path.size ≤ 1000) with hbig | hsm
    · have q1 : decide ((path.size : Int) > 1000) = true := by rw [decide_eq_true_iff]; omega
      have q1' : decide ((1000 : Int) < (path.size : Int)) = true := by rw [decide_eq_true_iff]; omega
      clear hbig
      go_wp2_with fail
      refine (HLIV.out _ HBW.out).mono ?_
      rintro e w9 ⟨rfl, hb9⟩
      have HB9 := Lib.hid (HBW.out.trans (hb9.mono HBW.out.size))
      clear hb9
      go_wp2
      go_ret
      exact ⟨rfl, HB9.out⟩
    have q1 : decide ((path.size : Int) > 1000) = false := by rw [decide_eq_false_iff_not]; omega
    have q1' : decide ((1000 : Int) < (path.size : Int)) = false := by rw [decide_eq_false_iff_not]; omega
    rcases (by omega : most < 1 ∨ 1 ≤ most) with hlo | hlo
    · have q2 : decide (most < 1) = true := by rw [decide_eq_true_iff]; omega
      clear hlo
      go_wp2_with fail
      refine (HLIV.out _ HBW.out).mono ?_
      rintro e w9 ⟨rfl, hb9⟩
      have HB9 := Lib.hid (HBW.out.trans (hb9.mono HBW.out.size))
      clear hb9
      go_wp2
      go_ret
      exact ⟨rfl, HB9.out⟩
    have q2 : decide (most < 1) = false := by rw [decide_eq_false_iff_not]; omega
    rcases (by omega : 32 < most ∨ most ≤ 32) with hhi | hhi
    · have q3 : decide (most > 32) = true := by rw [decide_eq_true_iff]; omega
      have q3' : decide (32 < most) = true := by rw [decide_eq_true_iff]; omega
      clear hhi
      go_wp2_with fail
      refine (HLIV.out _ HBW.out).mono ?_
      rintro e w9 ⟨rfl, hb9⟩
      have HB9 := Lib.hid (HBW.out.trans (hb9.mono HBW.out.size))
      clear hb9
      go_wp2
      go_ret
      exact ⟨rfl, HB9.out⟩
    · have q3 : decide (most > 32) = false := by rw [decide_eq_false_iff_not]; omega
      have q3' : decide (32 < most) = false := by rw [decide_eq_false_iff_not]; omega
      have hg := HIN.out.g (HSZ.out rfl)
      have HG := Lib.hid hg
      have HPS := Lib.hid hsm
      obtain ⟨R, hR⟩ : ∃ R, R = searchP (ldOf l 4) path most t := ⟨_, rfl⟩
      obtain ⟨s1, s2, s3, s4⟩ := searchP_first l path most t hlo hhi R hR
      have HRL : Hid (R.vis.length ≤ 32) := Lib.hid (by omega)
      have q4 : decide ((R.vis.length : Int) > most) = false := by rw [decide_eq_false_iff_not]; omega
      have q4' : decide (most < (R.vis.length : Int)) = false := by rw [decide_eq_false_iff_not]; omega
      have HND := Lib.hid s1
      have HNE := Lib.hid s3
      have HFD := Lib.hid s4
      have hfn := find_any A n c l t a path most w2 (HIN.out.at_ HBW.out).1 (HIN.out.at_ HBW.out).2 hg.1 HIN.out.hn hg.2.1 hg.2.2 hsm (HT.out.bel HBW.out) H63.out
      rw [← hR] at hfn
      unfold Sea.PM.val Sea.PM.cs at hfn
      have HFN := Lib.hid hfn
      have HRR := Lib.hid hR
      have e0 : w2.cell? ⟨W.heap.size, 0, none⟩ = some (.int .i64 t.ver) := HK2.out.cell 0
      have e1 : w2.cell? ⟨W.heap.size, 1, none⟩ = some (.int .i64 t.exp) := HK2.out.cell 1
      have e2 : w2.cell? ⟨W.heap.size, 2, none⟩ = some (.slice a.tA t.ts.length a.tc) := HK2.out.cell 2
      have e3 : w2.cell? ⟨W.heap.size, 3, none⟩ = some (.slice a.kA t.ks.length a.kc) := HK2.out.cell 3
      have e4 : w2.cell? ⟨W.heap.size, 4, none⟩ = some (.slice a.dA t.ds.length a.dc) := HK2.out.cell 4
      clear hfn hR hg hsm s1 s2 s3 s4 hlo hhi
      go_wp2_with fail
      refine HFN.out.mono ?_
      rintro e w4 ⟨vA, vc, rfl, hog4, hb4⟩
      obtain ⟨cx, hcx⟩ : ∃ cx : PT, ptV R.x = .agg #[.string cx.p, .int .i64 cx.n, .string cx.h] := by
        cases hx : R.x with
        | none => exact ⟨⟨⟨#[]⟩, 0, ⟨#[]⟩⟩, rfl⟩
        | some p => exact ⟨p, rfl⟩
      have HCX := Lib.hid hcx
      rw [hcx]
      obtain ⟨W5, hW5⟩ : ∃ W5, W5 = w4.alloc (.cells #[.string cx.p, .int .i64 cx.n, .string cx.h] 31) := ⟨_, rfl⟩
      have hb5 : Below w4.heap.size w4 W5 := by rw [hW5]; exact (Below.refl _ _).alloc (Nat.le_refl _) _
      have HB25 : Hid (Below w2.heap.size w2 W5) := Lib.hid (hb4.trans (hb5.mono hb4.size))
      have HB5 : Hid (Below W.heap.size W W5) := Lib.hid (HBW.out.trans (HB25.out.mono HBW.out.size))
      have HK5 := Lib.hid (HK2.out.below HB25.out HK2.out.lt)
      have HX5 : Hid (Blk W5 w4.heap.size 31 #[.string cx.p, .int .i64 cx.n, .string cx.h]) := Lib.hid (by rw [hW5]; exact Blk.new _ _ _)
      have HOG5 := Lib.hid (OG.below hog4 hb5)
      have HW5 := Lib.hid hW5
      clear hog4 hb4 hb5 hcx hW5 e0 e1 e2 e3 e4 q1 q1' q2 q3 q3'
      go_wp2_with fail
      rw [← HW5.out]
      refine (HLIV.out _ HB5.out).mono ?_
      rintro e w6 ⟨rfl, hb6⟩
      have HB6 : Hid (Below W.heap.size W w6) := Lib.hid (HB5.out.trans (hb6.mono HB5.out.size))
      have HK6 := Lib.hid (HK5.out.below hb6 HK5.out.lt)
      have HX6 := Lib.hid (HX5.out.below hb6 HX5.out.lt)
      have HOG6 := Lib.hid (OG.below HOG5.out hb6)
      have HCV : Hid (∀ wr, Below w6.heap.size w6 wr → ∀ i (hi : i < R.vis.length), ∃ b o, vA = some ⟨b, o, none⟩ ∧ wr.cell? ⟨b, o + i, none⟩ = some (.string R.vis[i])) := Lib.hid (fun wr hb i hi => by
        obtain ⟨b, o, h1, h2, h3⟩ := fnd_at HOG6.out hi
        exact ⟨b, o, h1, (hb.cell h2).trans h3⟩)
      clear hb6
      go_wp2
      go_loopw [12] (fun iv wr => ∃ i : Nat, i ≤ R.vis.length ∧ iv = .int .i64 (i : Int) ∧ Hid (Below w6.heap.size w6 wr)) (fun iv _ => R.vis.length - (intOf iv).toNat)
      case atStart => exact ⟨0, Nat.zero_le _, rfl, Lib.hid (Below.refl _ _)⟩
      case round =>
        obtain ⟨i, hi, rfl, HW⟩ := hrel
        rcases (by omega : i = R.vis.length ∨ i < R.vis.length) with hge | hlt
        · have q5 : decide ((i : Int) < (R.vis.length : Int)) = false := by rw [decide_eq_false_iff_not]; omega
          have q5' : decide (i < R.vis.length) = false := by rw [decide_eq_false_iff_not]; omega
          have HE : Hid (Below W.heap.size W wr) := Lib.hid (HB6.out.trans (HW.out.mono HB6.out.size))
          clear hge
          rcases (by omega : R.e = 0 ∨ R.e ≠ 0) with he | he
          · rw [he]
            have r2 : decide ((R.vis.length : Int) > 0) = true := by rw [decide_eq_true_iff]; have := (HNE.out he).1; omega
            have r2' : decide ((0 : Int) < (R.vis.length : Int)) = true := by rw [decide_eq_true_iff]; have := (HNE.out he).1; omega
            have r2'' : decide (0 < R.vis.length) = true := by rw [decide_eq_true_iff]; have := (HNE.out he).1; omega
            clear he
            go_wp2
            go_ret
            exact ⟨rfl, HE.out⟩
          · have r1 : (R.e != 0) = true := by rw [bne_iff_ne]; exact he
            clear he
            go_wp2
            go_ret
            exact ⟨rfl, HE.out⟩
        · have q5 : decide ((i : Int) < (R.vis.length : Int)) = true := by rw [decide_eq_true_iff]; omega
          have q5' : decide (i < R.vis.length) = true := by rw [decide_eq_true_iff]; omega
          have HILT := Lib.hid hlt
          have hii : (i : Int) < (R.vis.length : Int) := by omega
          have hi0 : (0 : Int) ≤ (i : Int) := by omega
          have hv9 : (R.vis.length : Int) ≤ 32 := by have := HRL.out; omega
          have hv0 : (0 : Int) ≤ (R.vis.length : Int) := by omega
          have hi9 : (i : Int) + 1 ≤ 100 := by have := HRL.out; omega
          clear hlt
          go_wp2
          go_loopw [13] (fun kv wq => ∃ k : Nat, k ≤ i ∧ kv = .int .i64 (k : Int) ∧ Hid (Below w6.heap.size w6 wq)) (fun kv _ => i - (intOf kv).toNat)
          case atStart => exact ⟨0, Nat.zero_le _, rfl, HW⟩
          case round =>
            obtain ⟨k, hk, rfl, HWQ⟩ := hrel
            rcases (by omega : k < i ∨ k = i) with hkl | heq
            · have p5 : decide ((k : Int) < (i : Int)) = true := by rw [decide_eq_true_iff]; omega
              have p5' : decide (k < i) = true := by rw [decide_eq_true_iff]; omega
              obtain ⟨b1, o1, hA1, hd1⟩ := HCV.out wr HWQ.out i HILT.out
              obtain ⟨b2, o2, hA2, hd2⟩ := HCV.out wr HWQ.out k (by omega)
              rw [hA1] at hA2
              cases hA2
              obtain ⟨x, hx⟩ : ∃ x, x = R.vis[i] := ⟨_, rfl⟩
              obtain ⟨y, hy⟩ : ∃ y, y = R.vis[k]'(by omega) := ⟨_, rfl⟩
              have hc1 : wr.cell? ⟨b1, o1 + i, none⟩ = some (.string x) := by rw [hx]; exact hd1
              have hc2 : wr.cell? ⟨b1, o1 + k, none⟩ = some (.string y) := by rw [hy]; exact hd2
              have hxy : y ≠ x := fun h => by
                rw [hx, hy] at h
                have := (List.getElem_inj HND.out).1 h
                omega
              have hq := nm_beq y x
              rw [decide_eq_false hxy] at hq
              have hkk : (k : Int) < (R.vis.length : Int) := by omega
              have hk0 : (0 : Int) ≤ (k : Int) := by omega
              have hk9 : (k : Int) + 1 ≤ 100 := by omega
              have HKL := Lib.hid hkl
              rw [hA1]
              clear hd1 hd2 hx hy hxy hA1 hkl
              go_wp2_with (go_quiet (fail))
              go_roundw
              case rel => exact ⟨k + 1, by have := HKL.out; omega, by go_num, Lib.hid (below_drwN HWQ.out _)⟩
              case measure => have := HKL.out; simp [intOf]; omega
            · have p5 : decide ((k : Int) < (i : Int)) = false := by rw [decide_eq_false_iff_not]; omega
              have p5' : decide (k < i) = false := by rw [decide_eq_false_iff_not]; omega
              have HKB : Hid (Blk wr W.heap.size 26 #[.int .i64 t.ver, .int .i64 t.exp, .slice a.tA t.ts.length a.tc, .slice a.kA t.ks.length a.kc, .slice a.dA t.ds.length a.dc]) := Lib.hid (HK6.out.below HWQ.out HK6.out.lt)
              have g0 : wr.cell? ⟨W.heap.size, 0, none⟩ = some (.int .i64 t.ver) := HKB.out.cell 0
              have g1 : wr.cell? ⟨W.heap.size, 1, none⟩ = some (.int .i64 t.exp) := HKB.out.cell 1
              have g2 : wr.cell? ⟨W.heap.size, 2, none⟩ = some (.slice a.tA t.ts.length a.tc) := HKB.out.cell 2
              have g3 : wr.cell? ⟨W.heap.size, 3, none⟩ = some (.slice a.kA t.ks.length a.kc) := HKB.out.cell 3
              have g4 : wr.cell? ⟨W.heap.size, 4, none⟩ = some (.slice a.dA t.ds.length a.dc) := HKB.out.cell 4
              clear heq
              rcases (by omega : i = 0 ∨ 0 < i) with hi00 | hipos
              · have r0 : decide ((i : Int) > 0) = false := by rw [decide_eq_false_iff_not]; omega
                have r0' : decide ((0 : Int) < (i : Int)) = false := by rw [decide_eq_false_iff_not]; omega
                have r0'' : decide (0 < i) = false := by rw [decide_eq_false_iff_not]; omega
                obtain ⟨WT0, hWT0⟩ : ∃ WT0, WT0 = wr.alloc (.cells #[.int .i64 t.ver, .int .i64 t.exp, .slice a.tA t.ts.length a.tc, .slice a.kA t.ks.length a.kc, .slice a.dA t.ds.length a.dc] 26) := ⟨_, rfl⟩
                have hb0 : Below wr.heap.size wr WT0 := by rw [hWT0]; exact (Below.refl _ _).alloc (Nat.le_refl _) _
                have HBT : Hid (Below w6.heap.size w6 WT0) := Lib.hid (HWQ.out.trans (hb0.mono HWQ.out.size))
                have HBB : Hid (Below W.heap.size W WT0) := Lib.hid (HB6.out.trans (HBT.out.mono HB6.out.size))
                have HUK : Hid (Blk WT0 wr.heap.size 26 #[.int .i64 t.ver, .int .i64 t.exp, .slice a.tA t.ts.length a.tc, .slice a.kA t.ks.length a.kc, .slice a.dA t.ds.length a.dc]) := Lib.hid (by rw [hWT0]; exact Blk.new _ _ _)
                have HMU : Hid (MOk (fun b => W.heap.size ≤ b) WT0 t a) := Lib.hid (by exact (HIN.out.mo.bel HBB.out).mono (fun b hx => hx))
                have HU : Hid (t = if i = 0 then t else (loadP l R.vis[i]).getD noM) := Lib.hid (by rw [if_pos hi00])
                have HTS : Hid (t.ts.length ≤ 200) := Lib.hid (by exact HG.out.1.1.ts)
                have HWT0 := Lib.hid hWT0
                clear hb0 hWT0 hi00
                have HFU : Hid (findT path t.ts = if R.e = 0 ∧ i + 1 = R.vis.length then R.x else none) := Lib.hid ((congrArg (fun z => findT path z.ts) HU.out).trans (HFD.out i HILT.out))
                have hrf := rfind_any _ t a path WT0 HMU.out HTS.out
                unfold Sea.PM.val Sea.PM.cs at hrf
                rw [HFU.out] at hrf
                have e0 : WT0.cell? ⟨wr.heap.size, 0, none⟩ = some (.int .i64 t.ver) := HUK.out.cell 0
                have e1 : WT0.cell? ⟨wr.heap.size, 1, none⟩ = some (.int .i64 t.exp) := HUK.out.cell 1
                have e2 : WT0.cell? ⟨wr.heap.size, 2, none⟩ = some (.slice a.tA t.ts.length a.tc) := HUK.out.cell 2
                have e3 : WT0.cell? ⟨wr.heap.size, 3, none⟩ = some (.slice a.kA t.ks.length a.kc) := HUK.out.cell 3
                have e4 : WT0.cell? ⟨wr.heap.size, 4, none⟩ = some (.slice a.dA t.ds.length a.dc) := HUK.out.cell 4
                rcases (by omega : (R.e = 0 ∧ i + 1 = R.vis.length) ∨ (R.e = 0 ∧ i + 1 ≠ R.vis.length) ∨ R.e ≠ 0) with h | h | h
                · have hx : R.x = some cx := by
                    cases hx : R.x with
                    | none => have := (HNE.out h.1).2; rw [hx] at this; cases this
                    | some p =>
                      have h9 := HCX.out
                      rw [hx] at h9
                      unfold ptV at h9
                      injection h9 with h9
                      have h9 : [Value.string p.p, .int .i64 p.n, .string p.h] = [.string cx.p, .int .i64 cx.n, .string cx.h] := congrArg Array.toList h9
                      simp only [List.cons.injEq, Value.string.injEq, Value.int.injEq, and_true, true_and] at h9
                      obtain ⟨h1, h2, h3⟩ := h9
                      cases p; cases cx
                      simp only at h1 h2 h3
                      subst h1 h2 h3
                      rfl
                  rw [if_pos h, hx] at hrf
                  unfold TfP ptV at hrf
                  have HRF := Lib.hid hrf
                  have r1 : (R.e == 0) = true := by rw [beq_iff_eq]; exact h.1
                  have r1' : decide (R.e = 0) = true := decide_eq_true h.1
                  have r2 : ((i : Int) == (R.vis.length : Int) - 1) = true := by rw [beq_iff_eq]; omega
                  have r2' : decide ((i : Int) = (R.vis.length : Int) - 1) = true := by rw [decide_eq_true_iff]; omega
                  clear hrf h hx
                  go_wp2_with fail
                  rw [← HWT0.out]
                  refine HRF.out.mono ?_
                  rintro e wf ⟨rfl, hbf⟩
                  have HBF : Hid (Below w6.heap.size w6 wf) := Lib.hid (HBT.out.trans (hbf.mono HBT.out.size))
                  have HXF := Lib.hid (HX6.out.below HBF.out HX6.out.lt)
                  have x0 : wf.cell? ⟨w4.heap.size, 0, none⟩ = some (.string cx.p) := HXF.out.cell 0
                  have x1 : wf.cell? ⟨w4.heap.size, 1, none⟩ = some (.int .i64 cx.n) := HXF.out.cell 1
                  have x2 : wf.cell? ⟨w4.heap.size, 2, none⟩ = some (.string cx.h) := HXF.out.cell 2
                  obtain ⟨WX, hWX⟩ : ∃ WX, WX = wf.alloc (.cells #[.string cx.p, .int .i64 cx.n, .string cx.h] 31) := ⟨_, rfl⟩
                  have hbx : Below wf.heap.size wf WX := by rw [hWX]; exact (Below.refl _ _).alloc (Nat.le_refl _) _
                  have HBX : Hid (Below w6.heap.size w6 WX) := Lib.hid (HBF.out.trans (hbx.mono HBF.out.size))
                  have HXX := Lib.hid (HXF.out.below hbx HXF.out.lt)
                  have HYX : Hid (Blk WX wf.heap.size 31 #[.string cx.p, .int .i64 cx.n, .string cx.h]) := Lib.hid (by rw [hWX]; exact Blk.new _ _ _)
                  clear x0 x1 x2
                  have x0 : (wf.alloc (.cells #[.string cx.p, .int .i64 cx.n, .string cx.h] 31)).cell? ⟨w4.heap.size, 0, none⟩ = some (.string cx.p) := by rw [← hWX]; exact HXX.out.cell 0
                  have x1 : (wf.alloc (.cells #[.string cx.p, .int .i64 cx.n, .string cx.h] 31)).cell? ⟨w4.heap.size, 1, none⟩ = some (.int .i64 cx.n) := by rw [← hWX]; exact HXX.out.cell 1
                  have x2 : (wf.alloc (.cells #[.string cx.p, .int .i64 cx.n, .string cx.h] 31)).cell? ⟨w4.heap.size, 2, none⟩ = some (.string cx.h) := by rw [← hWX]; exact HXX.out.cell 2
                  have HWX := Lib.hid hWX
                  clear hbf hbx hWX e0 e1 e2 e3 e4 g0 g1 g2 g3 g4
                  go_wp2
                  rw [← HWX.out]
                  go_roundw
                  case rel => exact ⟨i + 1, by omega, by go_num, HBX⟩
                  case measure => have := HILT.out; simp [intOf]; omega
                · rw [if_neg (fun q => h.2 q.2)] at hrf
                  unfold TfP ptV at hrf
                  have HRF := Lib.hid hrf
                  have r1 : (R.e == 0) = true := by rw [beq_iff_eq]; exact h.1
                  have r1' : decide (R.e = 0) = true := decide_eq_true h.1
                  have r2 : ((i : Int) == (R.vis.length : Int) - 1) = false := by rw [beq_eq_false_iff_ne]; have := HILT.out; omega
                  have r2' : decide ((i : Int) = (R.vis.length : Int) - 1) = false := by rw [decide_eq_false_iff_not]; have := HILT.out; omega
                  clear hrf h
                  go_wp2_with fail
                  rw [← HWT0.out]
                  refine HRF.out.mono ?_
                  rintro e wf ⟨rfl, hbf⟩
                  obtain ⟨WX, hWX⟩ : ∃ WX, WX = wf.alloc (.cells #[.string ⟨#[]⟩, .int .i64 0, .string ⟨#[]⟩] 31) := ⟨_, rfl⟩
                  have hbx : Below wf.heap.size wf WX := by rw [hWX]; exact (Below.refl _ _).alloc (Nat.le_refl _) _
                  have HBX : Hid (Below w6.heap.size w6 WX) := Lib.hid ((HBT.out.trans (hbf.mono HBT.out.size)).trans (hbx.mono (Nat.le_trans HBT.out.size hbf.size)))
                  have HWX := Lib.hid hWX
                  clear hbf hbx hWX e0 e1 e2 e3 e4 g0 g1 g2 g3 g4
                  go_wp2
                  rw [← HWX.out]
                  go_roundw
                  case rel => exact ⟨i + 1, by omega, by go_num, HBX⟩
                  case measure => have := HILT.out; simp [intOf]; omega
                · rw [if_neg (fun q => h q.1)] at hrf
                  unfold TfP ptV at hrf
                  have HRF := Lib.hid hrf
                  have r1 : (R.e == 0) = false := by rw [beq_eq_false_iff_ne]; exact h
                  have r1' : decide (R.e = 0) = false := decide_eq_false h
                  clear hrf h
                  go_wp2_with fail
                  rw [← HWT0.out]
                  refine HRF.out.mono ?_
                  rintro e wf ⟨rfl, hbf⟩
                  obtain ⟨WX, hWX⟩ : ∃ WX, WX = wf.alloc (.cells #[.string ⟨#[]⟩, .int .i64 0, .string ⟨#[]⟩] 31) := ⟨_, rfl⟩
                  have hbx : Below wf.heap.size wf WX := by rw [hWX]; exact (Below.refl _ _).alloc (Nat.le_refl _) _
                  have HBX : Hid (Below w6.heap.size w6 WX) := Lib.hid ((HBT.out.trans (hbf.mono HBT.out.size)).trans (hbx.mono (Nat.le_trans HBT.out.size hbf.size)))
                  have HWX := Lib.hid hWX
                  clear hbf hbx hWX e0 e1 e2 e3 e4 g0 g1 g2 g3 g4
                  go_wp2
                  rw [← HWX.out]
                  go_roundw
                  case rel => exact ⟨i + 1, by omega, by go_num, HBX⟩
                  case measure => have := HILT.out; simp [intOf]; omega
              · have r0 : decide ((i : Int) > 0) = true := by rw [decide_eq_true_iff]; omega
                have r0' : decide ((0 : Int) < (i : Int)) = true := by rw [decide_eq_true_iff]; omega
                have r0'' : decide (0 < i) = true := by rw [decide_eq_true_iff]; omega
                have HIP := Lib.hid hipos
                have hnn : (n : Int) ≤ 30 := by have := HG.out.2.1; omega
                have hn0 : (0 : Int) ≤ (n : Int) := by omega
                obtain ⟨B14, hB14⟩ : ∃ B14, B14 = wr.heap.size := ⟨_, rfl⟩
                have HB14 : Hid (w6.heap.size ≤ B14) := Lib.hid (by rw [hB14]; exact HWQ.out.size)
                obtain ⟨WT0, hWT0⟩ : ∃ WT0, WT0 = wr.alloc (.cells #[.int .i64 0, .int .i64 0, .slice none 0 0, .slice none 0 0, .slice none 0 0] 26) := ⟨_, rfl⟩
                have hb0 : Below wr.heap.size wr WT0 := by rw [hWT0]; exact (Below.refl _ _).alloc (Nat.le_refl _) _
                have HBT0 : Hid (Below w6.heap.size w6 WT0) := Lib.hid (HWQ.out.trans (hb0.mono HWQ.out.size))
                have HUK0 : Hid (Blk WT0 B14 26 #[.int .i64 0, .int .i64 0, .slice none 0 0, .slice none 0 0, .slice none 0 0]) := Lib.hid (by rw [hWT0, hB14]; exact Blk.new _ _ _)
                have HWT0 := Lib.hid hWT0
                have HBE := Lib.hid hB14
                clear hb0 hWT0 hipos hB14
                go_wp2
                rw [← HWT0.out, ← HBE.out]
                clear g0 g1 g2 g3 g4
                go_loopw [15] (fun kv wq => ∃ (k : Nat) (u : PM) (au : MA), k ≤ n ∧ kv = .int .i64 ((k : Int) - 1) ∧ Hid (u = (loadP (l.drop k) (R.vis[i]'HILT.out)).getD noM) ∧ Hid (Blk wq B14 26 #[.int .i64 u.ver, .int .i64 u.exp, .slice au.tA u.ts.length au.tc, .slice au.kA u.ks.length au.kc, .slice au.dA u.ds.length au.dc]) ∧ Hid (MOk (fun b => W.heap.size ≤ b) wq u au) ∧ Hid (Below w6.heap.size w6 wq)) (fun kv _ => (intOf kv + 1).toNat)
                case atStart => exact ⟨n, noM, ⟨none, 0, none, 0, none, 0⟩, Nat.le_refl _, by go_num, Lib.hid (by rw [← HIN.out.hn, List.drop_length]; rfl), HUK0, Lib.hid (noM_ok _ _), HBT0⟩
                case round =>
                  obtain ⟨j, u, au, hj, rfl, HU0, HUK, HMU, HBT⟩ := hrel
                  rcases (by omega : j = 0 ∨ 0 < j) with hj0 | hjp
                  · rw [show ((j : Int) - 1) = -1 from by omega]
                    have HU : Hid (u = if i = 0 then t else (loadP l (R.vis[i]'HILT.out)).getD noM) := Lib.hid (by
                      have := HU0.out
                      rw [hj0, List.drop_zero] at this
                      rw [if_neg (by have := HIP.out; omega)]
                      exact this)
                    have HTS : Hid (u.ts.length ≤ 200) := Lib.hid (by
                      rw [HU.out, if_neg (by have := HIP.out; omega)]
                      cases hlo : loadP l (R.vis[i]'HILT.out) with
                      | none => simp [noM]
                      | some v => exact (loadP_good (fun x hx => (HG.out.2.2 x hx).1) hlo).ts)
                    clear hj0
                    have HFU : Hid (findT path u.ts = if R.e = 0 ∧ i + 1 = R.vis.length then R.x else none) := Lib.hid ((congrArg (fun z => findT path z.ts) HU.out).trans (HFD.out i HILT.out))
                    have hrf := rfind_any _ u au path wr HMU.out HTS.out
                    unfold Sea.PM.val Sea.PM.cs at hrf
                    rw [HFU.out] at hrf
                    have e0 : wr.cell? ⟨B14, 0, none⟩ = some (.int .i64 u.ver) := HUK.out.cell 0
                    have e1 : wr.cell? ⟨B14, 1, none⟩ = some (.int .i64 u.exp) := HUK.out.cell 1
                    have e2 : wr.cell? ⟨B14, 2, none⟩ = some (.slice au.tA u.ts.length au.tc) := HUK.out.cell 2
                    have e3 : wr.cell? ⟨B14, 3, none⟩ = some (.slice au.kA u.ks.length au.kc) := HUK.out.cell 3
                    have e4 : wr.cell? ⟨B14, 4, none⟩ = some (.slice au.dA u.ds.length au.dc) := HUK.out.cell 4
                    rcases (by omega : (R.e = 0 ∧ i + 1 = R.vis.length) ∨ (R.e = 0 ∧ i + 1 ≠ R.vis.length) ∨ R.e ≠ 0) with h | h | h
                    · have hx : R.x = some cx := by
                        cases hx : R.x with
                        | none => have := (HNE.out h.1).2; rw [hx] at this; cases this
                        | some p =>
                          have h9 := HCX.out
                          rw [hx] at h9
                          unfold ptV at h9
                          injection h9 with h9
                          have h9 : [Value.string p.p, .int .i64 p.n, .string p.h] = [.string cx.p, .int .i64 cx.n, .string cx.h] := congrArg Array.toList h9
                          simp only [List.cons.injEq, Value.string.injEq, Value.int.injEq, and_true, true_and] at h9
                          obtain ⟨h1, h2, h3⟩ := h9
                          cases p; cases cx
                          simp only at h1 h2 h3
                          subst h1 h2 h3
                          rfl
                      rw [if_pos h, hx] at hrf
                      unfold TfP ptV at hrf
                      have HRF := Lib.hid hrf
                      have r1 : (R.e == 0) = true := by rw [beq_iff_eq]; exact h.1
                      have r1' : decide (R.e = 0) = true := decide_eq_true h.1
                      have r2 : ((i : Int) == (R.vis.length : Int) - 1) = true := by rw [beq_iff_eq]; omega
                      have r2' : decide ((i : Int) = (R.vis.length : Int) - 1) = true := by rw [decide_eq_true_iff]; omega
                      clear hrf h hx
                      go_wp2_with fail
                      refine HRF.out.mono ?_
                      rintro e wf ⟨rfl, hbf⟩
                      have HBF : Hid (Below w6.heap.size w6 wf) := Lib.hid (HBT.out.trans (hbf.mono HBT.out.size))
                      have HXF := Lib.hid (HX6.out.below HBF.out HX6.out.lt)
                      have x0 : wf.cell? ⟨w4.heap.size, 0, none⟩ = some (.string cx.p) := HXF.out.cell 0
                      have x1 : wf.cell? ⟨w4.heap.size, 1, none⟩ = some (.int .i64 cx.n) := HXF.out.cell 1
                      have x2 : wf.cell? ⟨w4.heap.size, 2, none⟩ = some (.string cx.h) := HXF.out.cell 2
                      obtain ⟨WX, hWX⟩ : ∃ WX, WX = wf.alloc (.cells #[.string cx.p, .int .i64 cx.n, .string cx.h] 31) := ⟨_, rfl⟩
                      have hbx : Below wf.heap.size wf WX := by rw [hWX]; exact (Below.refl _ _).alloc (Nat.le_refl _) _
                      have HBX : Hid (Below w6.heap.size w6 WX) := Lib.hid (HBF.out.trans (hbx.mono HBF.out.size))
                      have HXX := Lib.hid (HXF.out.below hbx HXF.out.lt)
                      have HYX : Hid (Blk WX wf.heap.size 31 #[.string cx.p, .int .i64 cx.n, .string cx.h]) := Lib.hid (by rw [hWX]; exact Blk.new _ _ _)
                      clear x0 x1 x2
                      have x0 : (wf.alloc (.cells #[.string cx.p, .int .i64 cx.n, .string cx.h] 31)).cell? ⟨w4.heap.size, 0, none⟩ = some (.string cx.p) := by rw [← hWX]; exact HXX.out.cell 0
                      have x1 : (wf.alloc (.cells #[.string cx.p, .int .i64 cx.n, .string cx.h] 31)).cell? ⟨w4.heap.size, 1, none⟩ = some (.int .i64 cx.n) := by rw [← hWX]; exact HXX.out.cell 1
                      have x2 : (wf.alloc (.cells #[.string cx.p, .int .i64 cx.n, .string cx.h] 31)).cell? ⟨w4.heap.size, 2, none⟩ = some (.string cx.h) := by rw [← hWX]; exact HXX.out.cell 2
                      have HWX := Lib.hid hWX
                      clear hbf hbx hWX e0 e1 e2 e3 e4
                      go_wp2
                      rw [← HWX.out]
                      go_roundw
                      case rel => exact ⟨i + 1, by omega, by go_num, HBX⟩
                      case measure => have := HILT.out; simp [intOf]; omega
                    · rw [if_neg (fun q => h.2 q.2)] at hrf
                      unfold TfP ptV at hrf
                      have HRF := Lib.hid hrf
                      have r1 : (R.e == 0) = true := by rw [beq_iff_eq]; exact h.1
                      have r1' : decide (R.e = 0) = true := decide_eq_true h.1
                      have r2 : ((i : Int) == (R.vis.length : Int) - 1) = false := by rw [beq_eq_false_iff_ne]; have := HILT.out; omega
                      have r2' : decide ((i : Int) = (R.vis.length : Int) - 1) = false := by rw [decide_eq_false_iff_not]; have := HILT.out; omega
                      clear hrf h
                      go_wp2_with fail
                      refine HRF.out.mono ?_
                      rintro e wf ⟨rfl, hbf⟩
                      obtain ⟨WX, hWX⟩ : ∃ WX, WX = wf.alloc (.cells #[.string ⟨#[]⟩, .int .i64 0, .string ⟨#[]⟩] 31) := ⟨_, rfl⟩
                      have hbx : Below wf.heap.size wf WX := by rw [hWX]; exact (Below.refl _ _).alloc (Nat.le_refl _) _
                      have HBX : Hid (Below w6.heap.size w6 WX) := Lib.hid ((HBT.out.trans (hbf.mono HBT.out.size)).trans (hbx.mono (Nat.le_trans HBT.out.size hbf.size)))
                      have HWX := Lib.hid hWX
                      clear hbf hbx hWX e0 e1 e2 e3 e4
                      go_wp2
                      rw [← HWX.out]
                      go_roundw
                      case rel => exact ⟨i + 1, by omega, by go_num, HBX⟩
                      case measure => have := HILT.out; simp [intOf]; omega
                    · rw [if_neg (fun q => h q.1)] at hrf
                      unfold TfP ptV at hrf
                      have HRF := Lib.hid hrf
                      have r1 : (R.e == 0) = false := by rw [beq_eq_false_iff_ne]; exact h
                      have r1' : decide (R.e = 0) = false := decide_eq_false h
                      clear hrf h
                      go_wp2_with fail
                      refine HRF.out.mono ?_
                      rintro e wf ⟨rfl, hbf⟩
                      obtain ⟨WX, hWX⟩ : ∃ WX, WX = wf.alloc (.cells #[.string ⟨#[]⟩, .int .i64 0, .string ⟨#[]⟩] 31) := ⟨_, rfl⟩
                      have hbx : Below wf.heap.size wf WX := by rw [hWX]; exact (Below.refl _ _).alloc (Nat.le_refl _) _
                      have HBX : Hid (Below w6.heap.size w6 WX) := Lib.hid ((HBT.out.trans (hbf.mono HBT.out.size)).trans (hbx.mono (Nat.le_trans HBT.out.size hbf.size)))
                      have HWX := Lib.hid hWX
                      clear hbf hbx hWX e0 e1 e2 e3 e4
                      go_wp2
                      rw [← HWX.out]
                      go_roundw
                      case rel => exact ⟨i + 1, by omega, by go_num, HBX⟩
                      case measure => have := HILT.out; simp [intOf]; omega
                  · obtain ⟨k, rfl⟩ : ∃ k, j = k + 1 := ⟨j - 1, by omega⟩
                    have p7 : (((k + 1 : Nat) : Int) - 1) = (k : Int) := by omega
                    rw [p7]
                    have p6 : decide ((k : Int) ≥ 0) = true := by rw [decide_eq_true_iff]; omega
                    have p6' : decide (0 ≤ (k : Int)) = true := by rw [decide_eq_true_iff]; omega
                    have HKN : Hid (k < n) := Lib.hid (by omega)
                    have HKL : Hid (k < l.length) := Lib.hid (by have := HIN.out.hn; omega)
                    have HBB : Hid (Below W.heap.size W wr) := Lib.hid (HB6.out.trans (HBT.out.mono HB6.out.size))
                    obtain ⟨b, o, hA, hbl, hbx, hc⟩ := (HIN.out.ns.bel HBB.out) (by have := HKL.out; omega)
                    obtain ⟨x, hx, hck⟩ : ∃ x, x = l[k]'HKL.out ∧ NB (Beh W) wr b (o + k * 6) x := ⟨_, rfl, hc k HKL.out⟩
                    obtain ⟨ax, hcs, hok⟩ := hck
                    have HCS := Lib.hid hcs
                    have HOK := Lib.hid hok
                    have d0 : wr.cell? ⟨b, o + k * 6, none⟩ = some (.string x.name) := HCS.out 0 (by omega)
                    obtain ⟨b1, o1, hA1, hd1⟩ := HCV.out wr HBT.out i HILT.out
                    obtain ⟨y, hy⟩ : ∃ y, y = R.vis[i]'HILT.out := ⟨_, rfl⟩
                    have hc1 : wr.cell? ⟨b1, o1 + i, none⟩ = some (.string y) := by rw [hy]; exact hd1
                    have hq := nm_beq x.name y
                    have HX := Lib.hid hx
                    have HY := Lib.hid hy
                    have hki : (k : Int) < (n : Int) := by omega
                    have hk0 : (0 : Int) ≤ (k : Int) := by omega
                    have HLD : Hid (loadP (l.drop k) y = if decide (x.name = y) = true then some x.t else loadP (l.drop (k + 1)) y) := Lib.hid (by rw [hx]; exact loadP_drop HKL.out y)
                    rw [hA, hA1]
                    clear p7 hjp hj hbl hbx hc hx hcs hok hd1 hy hA hA1
                    cases hd : decide (x.name = y) with
                    | true =>
                      rw [hd] at hq
                      have HU9 : Hid (x.t = (loadP (l.drop k) (R.vis[i]'HILT.out)).getD noM) := Lib.hid (by rw [← HY.out, HLD.out, if_pos hd]; rfl)
                      clear hd
                      have d1 : wr.cell? ⟨b, o + k * 6 + 1, none⟩ = some (.int .i64 x.t.ver) := HCS.out 1 (by omega)
                      have d2 : wr.cell? ⟨b, o + k * 6 + 1 + 1, none⟩ = some (.int .i64 x.t.exp) := HCS.out 2 (by omega)
                      have d3 : wr.cell? ⟨b, o + k * 6 + 1 + 2, none⟩ = some (.slice ax.tA x.t.ts.length ax.tc) := HCS.out 3 (by omega)
                      have d4 : wr.cell? ⟨b, o + k * 6 + 1 + 3, none⟩ = some (.slice ax.kA x.t.ks.length ax.kc) := HCS.out 4 (by omega)
                      have d5 : wr.cell? ⟨b, o + k * 6 + 1 + 4, none⟩ = some (.slice ax.dA x.t.ds.length ax.dc) := HCS.out 5 (by omega)
                      have z0 : wr.cell? ⟨B14, 0, none⟩ = some (.int .i64 u.ver) := HUK.out.cell 0
                      have f0 : wr.frozen? ⟨B14, 0, none⟩ = false := HUK.out.frozen 0
                      have z1 : wr.cell? ⟨B14, 1, none⟩ = some (.int .i64 u.exp) := HUK.out.cell 1
                      have f1 : wr.frozen? ⟨B14, 1, none⟩ = false := HUK.out.frozen 1
                      have z2 : wr.cell? ⟨B14, 2, none⟩ = some (.slice au.tA u.ts.length au.tc) := HUK.out.cell 2
                      have f2 : wr.frozen? ⟨B14, 2, none⟩ = false := HUK.out.frozen 2
                      have z3 : wr.cell? ⟨B14, 3, none⟩ = some (.slice au.kA u.ks.length au.kc) := HUK.out.cell 3
                      have f3 : wr.frozen? ⟨B14, 3, none⟩ = false := HUK.out.frozen 3
                      have z4 : wr.cell? ⟨B14, 4, none⟩ = some (.slice au.dA u.ds.length au.dc) := HUK.out.cell 4
                      have f4 : wr.frozen? ⟨B14, 4, none⟩ = false := HUK.out.frozen 4
                      go_wp2_with (go_quiet (fail))
                      go_roundw
                      case rel => exact ⟨k, x.t, ax, by have := HKN.out; omega, by go_num, HU9, Lib.hid (blkF (HUK.out.drewN _)), Lib.hid ((HOK.out.mono (fun b hb => hb)).fr ((Fr.drewN (Fr.refl _ _) _).trans (frF.mono (fun q _ e => by rw [e]; exact Nat.le_trans HB6.out.size HB14.out)))), Lib.hid (Fr.below_trans (below_drwN HBT.out _) frF (below_drwN HBT.out 0).size (fun q e => by rw [e]; exact HB14.out))⟩
                      case measure => simp [intOf]
                    | false =>
                      rw [hd] at hq
                      have HU9 : Hid (u = (loadP (l.drop k) (R.vis[i]'HILT.out)).getD noM) := Lib.hid (by rw [← HY.out, HLD.out, hd, HY.out]; exact HU0.out)
                      clear hd
                      go_wp2_with (go_quiet (fail))
                      go_roundw
                      case rel => exact ⟨k, u, au, by have := HKN.out; omega, by go_num, HU9, Lib.hid (HUK.out.drewN _), Lib.hid (HMU.out.bel (below_drwN (Below.refl _ _) _)), Lib.hid (below_drwN HBT.out _)⟩
                      case measure => simp [intOf]
end Go.Proofs.YthidjdjcjjbpbaaGreatDoor
