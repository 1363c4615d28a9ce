/-
  The law SearchRoles: its walk.
-/
import Derived.BigQuiet
import Derived.Test.YthidjdjcjjbpbaaGreatDoorSearchFindsW
import Derived.Test.YthidjdjcjjbpbaaGreatDoorSeR7
namespace Go.Proofs.YthidjdjcjjbpbaaGreatDoor
open Go.RowKit Sea Glob
set_option linter.unusedVariables false
set_option linter.unusedSimpArgs false

theorem addRoles_len {l : List PN} : ∀ (ds : List PD) (out : List ByteArray) (next : List PM), (addRoles l ds out next).1.length ≤ out.length + ds.length
  | [], out, next => Nat.le_refl _
  | d :: ds, out, next => by
    unfold addRoles
    split
    · have := addRoles_len (l := l) ds out next; simp; omega
    · have := addRoles_len (l := l) ds (out ++ [d.name]) (next ++ (loadP l d.name).toList); simp at this ⊢; omega
theorem addRoles_pms {l : List PN} (hg : ∀ x ∈ l, PMs x.t) : ∀ (ds : List PD) (out : List ByteArray) (next : List PM), (∀ t ∈ next, PMs t) → ∀ t ∈ (addRoles l ds out next).2, PMs t
  | [], out, next, h => h
  | d :: ds, out, next, h => by
    unfold addRoles
    split
    · exact addRoles_pms hg ds out next h
    · refine addRoles_pms hg ds _ _ fun t ht => ?_
      rcases List.mem_append.1 ht with ht | ht
      · exact h t ht
      · cases hl : loadP l d.name with
        | none => rw [hl] at ht; cases ht
        | some u =>
          rw [hl] at ht
          simp at ht
          subst ht
          exact loadP_good hg hl
theorem rolesP_len {l : List PN} (hg : ∀ x ∈ l, PMs x.t) : ∀ (f : Nat) (out : List ByteArray) (next : List PM), (∀ t ∈ next, PMs t) → (rolesP l f out next).length ≤ out.length + 30 * (next.length + left l out)
  | 0, out, next, h => by unfold rolesP; omega
  | f + 1, out, [], h => by unfold rolesP; omega
  | f + 1, out, t :: next, h => by
    unfold rolesP
    have h1 := rolesP_len hg f (addRoles l t.ds out next).1 (addRoles l t.ds out next).2 (addRoles_pms hg t.ds out next (fun u hu => h u (List.mem_cons_of_mem _ hu)))
    have h2 := addRoles_len (l := l) t.ds out next
    have h3 := addRoles_left (l := l) t.ds out next
    have h4 := (h t List.mem_cons_self).ds
    simp only [List.length_cons]
    omega
theorem hasB_take {r : List ByteArray} {k : Nat} (hk : k < r.length) (x : ByteArray) : hasB (r.take (k + 1)) x = (hasB (r.take k) x || decide (r[k] = x)) := by
  rw [List.take_add_one, List.getElem?_eq_getElem hk]
  exact hasB_snoc _ _ _
/-- who is visited is among all roles -/
theorem searchP_roles (l : List PN) (path : ByteArray) (most : Int) (t : PM) {i : Nat} (hi : i < (searchP (ldOf l 4) path most t).vis.length) (h1 : 1 ≤ i) : hasB (rolesAll l t) ((searchP (ldOf l 4) path most t).vis[i]) = true := by
  rw [hasB_mem]
  unfold searchP at hi ⊢
  split at hi
  · rename_i h
    simp only [h, if_true]
    refine rolesAll_walk (cov := covP path) (path := path) (most := most) (ld := ldOf l 4) (eNone := 4) (eMany := 200) (fun k n u hu => ?_) 33 t targetsB _ ?_
    · unfold ldOf at hu
      split at hu
      · rename_i q; injection hu with hu; rw [← hu]; exact q
      · cases hu
    · have hm : ∀ {L : List ByteArray} {j : Nat} (hj : j < L.length), 1 ≤ j → L[j] ∈ L.tail := fun {L j} hj h1 => by
        cases L with
        | nil => simp at hj
        | cons a L =>
          cases j with
          | zero => omega
          | succ j => simp only [List.getElem_cons_succ, List.tail_cons]; exact List.getElem_mem _
      exact hm _ h1
  · simp at hi
set_option maxRecDepth 100000 in
set_option maxHeartbeats 8000000 in
theorem searchRoles_walk (t : PM) (a : MA) (A : Option Addr) (n c : Nat) (l : List PN) (path : ByteArray) (W : World) (hK : TabK W) (hTab : Tab W) (sa : MOk (Beh W) W t a) (sb : PMz t) (sc : PKf t) (hl : NsR (Beh W) W A l) (hn : l.length = n) (hz : ∀ x ∈ l, PMz x.t ∧ PKf x.t) (zp : path.size ≤ 140737488351232) :
    Calls Tryz.prog 6 #[t.val a, .slice A n c, .string path] W fun e w' => e = .returned (.bool true) ∧ Below W.heap.size W w' := by
  have hin : InS W t a A n l := ⟨sa, hl, hn, ⟨sb, sc⟩, hz⟩
  have hT : Tbs W := ⟨hTab, hK⟩
  obtain ⟨W1, hW1⟩ : ∃ W1, W1 = W.alloc (.cells #[.int .i64 t.ver, .int .i64 t.exp, .slice a.tA t.ts.length a.tc, .slice a.kA t.ks.length a.kc, .slice a.dA t.ds.length a.dc] 26) := ⟨_, rfl⟩
  have hb1 : Below W.heap.size W W1 := by rw [hW1]; exact (Below.refl _ _).alloc (Nat.le_refl _) _
  have hk1 : Blk W1 W.heap.size 26 #[.int .i64 t.ver, .int .i64 t.exp, .slice a.tA t.ts.length a.tc, .slice a.kA t.ks.length a.kc, .slice a.dA t.ds.length a.dc] := by rw [hW1]; exact Blk.new _ _ _
  have hlar := large20_any (Beh W) t a A n c l W1 (sa.bel hb1) (hl.bel hb1) hn
  have HIN := Lib.hid hin
  have HT := Lib.hid hT
  have HB1 := Lib.hid hb1
  have HK1 := Lib.hid hk1
  have HW1 := Lib.hid hW1
  have HLIV : Hid (∀ w, Below W.heap.size W w → Calls Tryz.prog 8 #[] w fun e w' => PF (fun e w' => e = .returned (.bool true) ∧ Below w.heap.size w w') e w') := Lib.hid (fun w hb => slives_any w (hT.bel hb))
  unfold Sea.PM.val Sea.PM.cs at hlar ⊢
  have HLAR := Lib.hid hlar
  clear hin hT hb1 hk1 hW1 hlar hK hTab sa sb sc hl hn hz zp
  go_enter Tryz.func6, Tryz.ntmps6
  go_wp2_with fail
  rw [← HW1.out]
  refine HLAR.out.mono ?_
  rintro e w2 ⟨lb, rfl, hlb, hb2⟩
  have HSZ := Lib.hid hlb
  have HBW : Hid (Below W.heap.size W w2) := Lib.hid (HB1.out.trans (hb2.mono HB1.out.size))
  have HK2 := Lib.hid (HK1.out.below hb2 HK1.out.lt)
  clear hlb hb2
  cases lb with
  | true =>
    go_wp2_with fail
    refine (HLIV.out _ HBW.out).mono ?_
    rintro e w9 ⟨rfl, hb9⟩
    have HB9 := Lib.hid (HBW.out.trans (hb9.mono HBW.out.size))
    clear hb9
    go_wp2
    go_ret
    exact ⟨rfl, HB9.out⟩
  | false =>
    rcases (by omega : 1000 < path.size ∨ path.size ≤ 1000) with hbig | hsm
    · have q1 : decide ((path.size : Int) > 1000) = true := by rw [decide_eq_true_iff]; omega
      have q1' : decide ((1000 : Int) < (path.size : Int)) = true := by rw [decide_eq_true_iff]; omega
      clear hbig
      go_wp2_with fail
      refine (HLIV.out _ HBW.out).mono ?_
      rintro e w9 ⟨rfl, hb9⟩
      have HB9 := Lib.hid (HBW.out.trans (hb9.mono HBW.out.size))
      clear hb9
      go_wp2
      go_ret
      exact ⟨rfl, HB9.out⟩
    · have q1 : decide ((path.size : Int) > 1000) = false := by rw [decide_eq_false_iff_not]; omega
      have q1' : decide ((1000 : Int) < (path.size : Int)) = false := by rw [decide_eq_false_iff_not]; omega
      have hg := HIN.out.g (HSZ.out rfl)
      have HG := Lib.hid hg
      have HPS := Lib.hid hsm
      obtain ⟨R, hR⟩ : ∃ R, R = searchP (ldOf l 4) path 32 t := ⟨_, rfl⟩
      obtain ⟨RR, hRR⟩ : ∃ RR, RR = rolesAll l t := ⟨_, rfl⟩
      have HRL : Hid (R.vis.length ≤ 32) := Lib.hid (by rw [hR]; exact searchP_len _ _ _ _)
      have HRRL : Hid (RR.length ≤ 1000) := Lib.hid (by
        rw [hRR]
        have h1 := rolesP_len (l := l) (fun x hx => (hg.2.2 x hx).1) (l.length + 1) [] [t] (fun u hu => by rw [List.mem_singleton] at hu; rw [hu]; exact hg.1.1)
        have h2 := left_le (l := l) []
        have h3 := hg.2.1
        rw [← HIN.out.hn] at h3
        unfold rolesAll
        simp at h1
        omega)
      have HALL : Hid (∀ i (hi : i < R.vis.length), 1 ≤ i → hasB RR R.vis[i] = true) := Lib.hid (by
        subst hR hRR
        exact fun i hi h1 => searchP_roles l path 32 t hi h1)
      have hro := roles_any A n c l t a w2 (HIN.out.at_ HBW.out).1 (HIN.out.at_ HBW.out).2 hg.1.1 HIN.out.hn hg.2.1 (fun x hx => (hg.2.2 x hx).1)
      rw [← hRR] at hro
      unfold Sea.PM.val Sea.PM.cs at hro
      have HRO := Lib.hid hro
      have HR := Lib.hid hR
      have HRRE := Lib.hid hRR
      have e0 : w2.cell? ⟨W.heap.size, 0, none⟩ = some (.int .i64 t.ver) := HK2.out.cell 0
      have e1 : w2.cell? ⟨W.heap.size, 1, none⟩ = some (.int .i64 t.exp) := HK2.out.cell 1
      have e2 : w2.cell? ⟨W.heap.size, 2, none⟩ = some (.slice a.tA t.ts.length a.tc) := HK2.out.cell 2
      have e3 : w2.cell? ⟨W.heap.size, 3, none⟩ = some (.slice a.kA t.ks.length a.kc) := HK2.out.cell 3
      have e4 : w2.cell? ⟨W.heap.size, 4, none⟩ = some (.slice a.dA t.ds.length a.dc) := HK2.out.cell 4
      clear hro hR hRR hg hsm
      go_wp2_with fail
      refine HRO.out.mono ?_
      rintro e w3 ⟨rA, rc, rfl, hor3, hb3⟩
      have HB3 : Hid (Below W.heap.size W w3) := Lib.hid (HBW.out.trans (hb3.mono HBW.out.size))
      have HK3 := Lib.hid (HK2.out.below hb3 HK2.out.lt)
      have HOR3 := Lib.hid hor3
      have hfn := find_any A n c l t a path 32 w3 (HIN.out.at_ HB3.out).1 (HIN.out.at_ HB3.out).2 HG.out.1 HIN.out.hn HG.out.2.1 HG.out.2.2 HPS.out (HT.out.bel HB3.out) (by decide)
      rw [← HR.out] at hfn
      unfold Sea.PM.val Sea.PM.cs at hfn
      have HFN := Lib.hid hfn
      have g0 : w3.cell? ⟨W.heap.size, 0, none⟩ = some (.int .i64 t.ver) := HK3.out.cell 0
      have g1 : w3.cell? ⟨W.heap.size, 1, none⟩ = some (.int .i64 t.exp) := HK3.out.cell 1
      have g2 : w3.cell? ⟨W.heap.size, 2, none⟩ = some (.slice a.tA t.ts.length a.tc) := HK3.out.cell 2
      have g3 : w3.cell? ⟨W.heap.size, 3, none⟩ = some (.slice a.kA t.ks.length a.kc) := HK3.out.cell 3
      have g4 : w3.cell? ⟨W.heap.size, 4, none⟩ = some (.slice a.dA t.ds.length a.dc) := HK3.out.cell 4
      clear hor3 hb3 hfn e0 e1 e2 e3 e4 q1 q1'
      go_wp2_with fail
      refine HFN.out.mono ?_
      rintro e w4 ⟨vA, vc, rfl, hog4, hb4⟩
      obtain ⟨cx, hcx⟩ : ∃ cx : PT, ptV R.x = .agg #[.string cx.p, .int .i64 cx.n, .string cx.h] := by
        cases hx : R.x with
        | none => exact ⟨⟨⟨#[]⟩, 0, ⟨#[]⟩⟩, rfl⟩
        | some p => exact ⟨p, rfl⟩
      rw [hcx]
      obtain ⟨W5, hW5⟩ : ∃ W5, W5 = w4.alloc (.cells #[.string cx.p, .int .i64 cx.n, .string cx.h] 31) := ⟨_, rfl⟩
      have hb5 : Below w4.heap.size w4 W5 := by rw [hW5]; exact (Below.refl _ _).alloc (Nat.le_refl _) _
      have HB35 : Hid (Below w3.heap.size w3 W5) := Lib.hid (hb4.trans (hb5.mono hb4.size))
      have HB5 : Hid (Below W.heap.size W W5) := Lib.hid (HB3.out.trans (HB35.out.mono HB3.out.size))
      have HK5 := Lib.hid (HK3.out.below HB35.out HK3.out.lt)
      have HOG5 := Lib.hid (OG.below hog4 hb5)
      have HOR5 := Lib.hid (OG.below HOR3.out HB35.out)
      have HW5 := Lib.hid hW5
      clear hog4 hb4 hb5 hcx hW5 g0 g1 g2 g3 g4
      go_wp2_with fail
      rw [← HW5.out]
      refine (HLIV.out _ HB5.out).mono ?_
      rintro e w6 ⟨rfl, hb6⟩
      have HB6 : Hid (Below W.heap.size W w6) := Lib.hid (HB5.out.trans (hb6.mono HB5.out.size))
      have HK6 := Lib.hid (HK5.out.below hb6 HK5.out.lt)
      have HOG6 := Lib.hid (OG.below HOG5.out hb6)
      have HOR6 := Lib.hid (OG.below HOR5.out hb6)
      have hrr := rroles_any A n c l t a w6 (HIN.out.at_ HB6.out).1 (HIN.out.at_ HB6.out).2 HG.out.1.1 HIN.out.hn HG.out.2.1 (fun x hx => (HG.out.2.2 x hx).1)
      rw [← HRRE.out] at hrr
      unfold Sea.PM.val Sea.PM.cs at hrr
      have HRF := Lib.hid hrr
      have h0 : w6.cell? ⟨W.heap.size, 0, none⟩ = some (.int .i64 t.ver) := HK6.out.cell 0
      have h1 : w6.cell? ⟨W.heap.size, 1, none⟩ = some (.int .i64 t.exp) := HK6.out.cell 1
      have h2 : w6.cell? ⟨W.heap.size, 2, none⟩ = some (.slice a.tA t.ts.length a.tc) := HK6.out.cell 2
      have h3 : w6.cell? ⟨W.heap.size, 3, none⟩ = some (.slice a.kA t.ks.length a.kc) := HK6.out.cell 3
      have h4 : w6.cell? ⟨W.heap.size, 4, none⟩ = some (.slice a.dA t.ds.length a.dc) := HK6.out.cell 4
      clear hb6 hrr
      go_wp2_with fail
      refine HRF.out.mono ?_
      rintro e w7 ⟨sA, sc, rfl, hos7, hb7⟩
      have HB7 : Hid (Below W.heap.size W w7) := Lib.hid (HB6.out.trans (hb7.mono HB6.out.size))
      have HOG7 := Lib.hid (OG.below HOG6.out hb7)
      have HOR7 := Lib.hid (OG.below HOR6.out hb7)
      have hsame := rsameTexts_any rA sA RR.length rc RR.length sc RR RR w7 (og_ss HOR7.out) (og_ss hos7) rfl rfl (by have := HRRL.out; omega) (by have := HRRL.out; omega)
      rw [show decide (RR = RR) = true from decide_eq_true rfl] at hsame
      have HSM := Lib.hid hsame
      clear hos7 hb7 hsame h0 h1 h2 h3 h4
      go_wp2_with fail
      refine HSM.out.mono ?_
      rintro e w8 ⟨rfl, hb8⟩
      have HB8 : Hid (Below W.heap.size W w8) := Lib.hid (HB7.out.trans (hb8.mono HB7.out.size))
      have HOG8 := Lib.hid (OG.below HOG7.out hb8)
      have HOR8 := Lib.hid (OG.below HOR7.out hb8)
      have HCV : Hid (∀ wr, Below w8.heap.size w8 wr → ∀ i (hi : i < R.vis.length), ∃ b o, vA = some ⟨b, o, none⟩ ∧ wr.cell? ⟨b, o + i, none⟩ = some (.string R.vis[i])) := Lib.hid (fun wr hb i hi => by
        obtain ⟨b, o, h1, h2, h3⟩ := fnd_at HOG8.out hi
        exact ⟨b, o, h1, (hb.cell h2).trans h3⟩)
      have HCR : Hid (∀ wr, Below w8.heap.size w8 wr → ∀ i (hi : i < RR.length), ∃ b o, rA = some ⟨b, o, none⟩ ∧ wr.cell? ⟨b, o + i, none⟩ = some (.string RR[i])) := Lib.hid (fun wr hb i hi => by
        obtain ⟨b, o, h1, h2, h3⟩ := fnd_at (R := ⟨none, RR, 0, []⟩) HOR8.out hi
        exact ⟨b, o, h1, (hb.cell h2).trans h3⟩)
      clear hb8
      go_wp2
      go_loopw [11, 12, 13] (fun iv _ _ wr => ∃ i : Nat, 1 ≤ i ∧ i ≤ R.vis.length + 1 ∧ iv = .int .i64 (i : Int) ∧ Hid (Below w8.heap.size w8 wr)) (fun iv _ _ _ => R.vis.length + 1 - (intOf iv).toNat)
      case atStart => exact ⟨1, Nat.le_refl _, by omega, rfl, Lib.hid (Below.refl _ _)⟩
      case round =>
        obtain ⟨i, hi1, hi2, rfl, HW⟩ := hrel
        rcases (by omega : R.vis.length ≤ i ∨ i < R.vis.length) with hge | hlt
        · have q5 : decide ((i : Int) < (R.vis.length : Int)) = false := by rw [decide_eq_false_iff_not]; omega
          have q5' : decide (i < R.vis.length) = false := by rw [decide_eq_false_iff_not]; omega
          clear hge
          go_wp2
          go_ret
          exact ⟨rfl, HB8.out.trans (HW.out.mono HB8.out.size)⟩
        · have q5 : decide ((i : Int) < (R.vis.length : Int)) = true := by rw [decide_eq_true_iff]; omega
          have q5' : decide (i < R.vis.length) = true := by rw [decide_eq_true_iff]; omega
          have HILT := Lib.hid hlt
          have hii : (i : Int) < (R.vis.length : Int) := by omega
          have hi0 : (0 : Int) ≤ (i : Int) := by omega
          have hi9 : (i : Int) + 1 ≤ 100 := by have := HRL.out; omega
          obtain ⟨x, hx⟩ : ∃ x, x = R.vis[i] := ⟨_, rfl⟩
          have HX := Lib.hid hx
          have HAX : Hid (hasB RR x = true) := Lib.hid (by rw [hx]; exact HALL.out i hlt hi1)
          clear hx
          go_wp2
          go_loopw [12, 13] (fun bv kv wr' => ∃ k : Nat, k ≤ RR.length ∧ kv = .int .i64 (k : Int) ∧ bv = .bool (hasB (RR.take k) x) ∧ Hid (Below w8.heap.size w8 wr')) (fun _ kv _ => RR.length - (intOf kv).toNat)
          case atStart => exact ⟨0, Nat.zero_le _, rfl, rfl, HW⟩
          case round =>
            obtain ⟨k, hk, rfl, rfl, HW2⟩ := hrel
            rcases (by omega : k < RR.length ∨ k = RR.length) with hkl | heq
            · have p5 : decide ((k : Int) < (RR.length : Int)) = true := by rw [decide_eq_true_iff]; omega
              have p5' : decide (k < RR.length) = true := by rw [decide_eq_true_iff]; omega
              have HKL := Lib.hid hkl
              obtain ⟨b1, o1, hA1, hd1⟩ := HCV.out wr HW2.out i HILT.out
              obtain ⟨b2, o2, hA2, hd2⟩ := HCR.out wr HW2.out k hkl
              have hc1 : wr.cell? ⟨b1, o1 + i, none⟩ = some (.string x) := by rw [HX.out]; exact hd1
              obtain ⟨y, hy⟩ : ∃ y, y = RR[k] := ⟨_, rfl⟩
              have hc2 : wr.cell? ⟨b2, o2 + k, none⟩ = some (.string y) := by rw [hy]; exact hd2
              have hq := nm_beq y x
              have hkk : (k : Int) < (RR.length : Int) := by omega
              have hk0 : (0 : Int) ≤ (k : Int) := by omega
              have hk9 : (k : Int) + 1 ≤ 100000 := by have := HRRL.out; omega
              have HTK : Hid (hasB (RR.take (k + 1)) x = (hasB (RR.take k) x || decide (y = x))) := Lib.hid (by rw [hy]; exact hasB_take hkl x)
              clear hd1 hd2 hy hkl
              obtain ⟨ob, hob⟩ : ∃ ob, ob = hasB (RR.take k) x := ⟨_, rfl⟩
              have HOB := Lib.hid hob.symm
              rw [← hob]
              obtain ⟨eb, heb⟩ : ∃ eb, eb = decide (y = x) := ⟨_, rfl⟩
              rw [← heb] at hq
              have HEB := Lib.hid heb.symm
              clear hob heb
              cases ob with
              | true =>
                clear hq hc1 hc2 hkk hA1 hA2
                have hn1 : hasB (RR.take (k + 1)) x = true := by rw [HTK.out, HOB.out]; rfl
                have HN1 := Lib.hid hn1
                clear hn1
                go_wp2_with (go_quiet (fail))
                go_roundw
                case rel => exact ⟨k + 1, by have := HKL.out; omega, by go_num, by rw [HN1.out], Lib.hid (below_drwN HW2.out _)⟩
                case measure => have := HKL.out; simp [intOf]; omega
              | false =>
                rw [hA1, hA2]
                clear hA1 hA2
                cases eb with
                | true =>
                  have HN1 : Hid (hasB (RR.take (k + 1)) x = true) := Lib.hid (by rw [HTK.out, HOB.out, Bool.false_or]; exact HEB.out)
                  go_wp2_with (go_quiet (fail))
                  go_roundw
                  case rel => exact ⟨k + 1, by have := HKL.out; omega, by go_num, by rw [HN1.out], Lib.hid (below_drwN HW2.out _)⟩
                  case measure => have := HKL.out; simp [intOf]; omega
                | false =>
                  have HN1 : Hid (hasB (RR.take (k + 1)) x = false) := Lib.hid (by rw [HTK.out, HOB.out, Bool.false_or]; exact HEB.out)
                  go_wp2_with (go_quiet (fail))
                  go_roundw
                  case rel => exact ⟨k + 1, by have := HKL.out; omega, by go_num, by rw [HN1.out], Lib.hid (below_drwN HW2.out _)⟩
                  case measure => have := HKL.out; simp [intOf]; omega
            · have p5 : decide ((k : Int) < (RR.length : Int)) = false := by rw [decide_eq_false_iff_not]; omega
              have p5' : decide (k < RR.length) = false := by rw [decide_eq_false_iff_not]; omega
              have HOK : Hid (hasB (RR.take k) x = true) := Lib.hid (by rw [heq, List.take_length]; exact HAX.out)
              rw [HOK.out]
              clear heq
              go_wp2
              go_roundw
              case rel => exact ⟨i + 1, by omega, by have := HILT.out; omega, by go_num, HW2⟩
              case measure => have := HILT.out; simp [intOf]; omega
end Go.Proofs.YthidjdjcjjbpbaaGreatDoor
