/-
  The law SearchFinds: its walk.
-/
import Derived.Test.YthidjdjcjjbpbaaGreatDoorFrameSe
import Derived.Test.YthidjdjcjjbpbaaGreatDoorSeF3
import Derived.Test.YthidjdjcjjbpbaaGreatDoorSeR6
import Derived.Test.YthidjdjcjjbpbaaGreatDoorSeL3
import Derived.Test.YthidjdjcjjbpbaaGreatDoorSeR1
namespace Go.Proofs.YthidjdjcjjbpbaaGreatDoor
open Go.RowKit Sea Glob
set_option linter.unusedVariables false
set_option linter.unusedSimpArgs false

theorem walkP_len {cov : PD → Bool} {path : ByteArray} {most eN eM : Int} {ld : Nat → ByteArray → Except Int PM} : ∀ (f : Nat) (t : PM) (s : List Todo) (vis : List ByteArray) (ask : List (List PK)), (vis.length : Int) ≤ most → ((walkP cov path most ld eN eM f t s vis ask).vis.length : Int) ≤ most
  | 0, t, s, vis, ask, h => h
  | f + 1, t, s, vis, ask, h => by
    unfold walkP
    split
    · exact h
    split
    · exact h
    split
    · exact h
    rename_i hne
    have h2 : ((vis ++ [‹Todo›.1.name]).length : Int) ≤ most := by rw [List.length_append]; simp; omega
    split
    · exact h2
    · exact walkP_len f _ _ _ _ h2
theorem searchP_len (ld : Nat → ByteArray → Except Int PM) (path : ByteArray) (most : Int) (t : PM) : (searchP ld path most t).vis.length ≤ 32 := by
  unfold searchP
  split
  · rename_i h
    have hm : 1 ≤ most ∧ most ≤ 32 := by
      unfold mayS at h
      split at h
      · cases h
      · split at h
        · cases h
        · omega
    have := walkP_len (cov := covP path) (path := path) (eN := 4) (eM := 200) (ld := ld) 33 t [] [targetsB] [] (most := most) (by simp; omega)
    omega
  · simp
theorem og_ss {w : World} {base : Nat} {A : Option Addr} {c : Nat} {l : List ByteArray} (h : OG 9 1 w base (.slice A l.length c) l.length (l.map Value.string)) : SS w A l := (og_strv h).1
/-- what the laws of search know of what came in -/
structure InS (W : World) (t : PM) (a : MA) (A : Option Addr) (n : Nat) (l : List PN) : Prop where
  mo : MOk (Beh W) W t a
  ns : NsR (Beh W) W A l
  hn : l.length = n
  zt : PMz t ∧ PKf t
  zl : ∀ x ∈ l, PMz x.t ∧ PKf x.t
theorem InS.at_ {W w : World} {t : PM} {a : MA} {A : Option Addr} {n : Nat} {l : List PN} (h : InS W t a A n l) (hb : Below W.heap.size W w) : MOk (fun b => w.heap.size ≤ b) w t a ∧ NsR (fun b => w.heap.size ≤ b) w A l :=
  ⟨(h.mo.bel hb).mono (fun b hx => Nat.le_trans hb.size hx), (h.ns.bel hb).mono (fun b hx => Nat.le_trans hb.size hx)⟩
theorem InS.g {W : World} {t : PM} {a : MA} {A : Option Addr} {n : Nat} {l : List PN} (h : InS W t a A n l) (hs : SzS t l) : (PMs t ∧ PMz t ∧ PKo t) ∧ n ≤ 30 ∧ ∀ x ∈ l, PMs x.t ∧ PMz x.t ∧ PKo x.t :=
  ⟨⟨hs.top, h.zt.1, h.zt.2.o⟩, by rw [← h.hn]; exact hs.few, fun x hx => ⟨hs.all x hx, (h.zl x hx).1, (h.zl x hx).2.o⟩⟩
set_option maxRecDepth 100000 in
set_option maxHeartbeats 8000000 in
theorem searchFinds_walk (t : PM) (a : MA) (A : Option Addr) (n c : Nat) (l : List PN) (path : ByteArray) (most : Int) (W : World) (hK : TabK W) (hTab : Tab W) (sa : MOk (Beh W) W t a) (sb : PMz t) (sc : PKf t) (hl : NsR (Beh W) W A l) (hn : l.length = n) (hz : ∀ x ∈ l, PMz x.t ∧ PKf x.t) (zp : path.size ≤ 140737488351232) (wi : (Lit.int .i64 most).wf = true) :
    Calls Tryz.prog 3 #[t.val a, .slice A n c, .string path, .int .i64 most] W fun e w' => e = .returned (.bool true) ∧ Below W.heap.size W w' := by
  have hin : InS W t a A n l := ⟨sa, hl, hn, ⟨sb, sc⟩, hz⟩
  have hT : Tbs W := ⟨hTab, hK⟩
  have h63 : -9223372036854775808 ≤ most ∧ most ≤ 9223372036854775807 := by obtain ⟨h0, h1⟩ := Go.bounds_i64 wi; omega
  obtain ⟨W1, hW1⟩ : ∃ W1, W1 = W.alloc (.cells #[.int .i64 t.ver, .int .i64 t.exp, .slice a.tA t.ts.length a.tc, .slice a.kA t.ks.length a.kc, .slice a.dA t.ds.length a.dc] 26) := ⟨_, rfl⟩
  have hb1 : Below W.heap.size W W1 := by rw [hW1]; exact (Below.refl _ _).alloc (Nat.le_refl _) _
  have hk1 : Blk W1 W.heap.size 26 #[.int .i64 t.ver, .int .i64 t.exp, .slice a.tA t.ts.length a.tc, .slice a.kA t.ks.length a.kc, .slice a.dA t.ds.length a.dc] := by rw [hW1]; exact Blk.new _ _ _
  have hlar := large20_any (Beh W) t a A n c l W1 (sa.bel hb1) (hl.bel hb1) hn
  have HIN := Lib.hid hin
  have HT := Lib.hid hT
  have H63 := Lib.hid h63
  have HB1 := Lib.hid hb1
  have HK1 := Lib.hid hk1
  have HW1 := Lib.hid hW1
  have HLIV : Hid (∀ w, Below W.heap.size W w → Calls Tryz.prog 8 #[] w fun e w' => PF (fun e w' => e = .returned (.bool true) ∧ Below w.heap.size w w') e w') := Lib.hid (fun w hb => slives_any w (hT.bel hb))
  unfold Sea.PM.val Sea.PM.cs at hlar ⊢
  have HLAR := Lib.hid hlar
  clear hin hT h63 hb1 hk1 hW1 hlar hK hTab sa sb sc hl hn hz zp wi
  go_enter Tryz.func3, Tryz.ntmps3
  go_wp2_with fail
  rw [← HW1.out]
  refine HLAR.out.mono ?_
  rintro e w2 ⟨lb, rfl, hlb, hb2⟩
  have HSZ := Lib.hid hlb
  have HBW : Hid (Below W.heap.size W w2) := Lib.hid (HB1.out.trans (hb2.mono HB1.out.size))
  have HK2 := Lib.hid (HK1.out.below hb2 HK1.out.lt)
  clear hlb hb2
  cases lb with
  | true =>
    go_wp2_with fail
    refine (HLIV.out _ HBW.out).mono ?_
    rintro e w9 ⟨rfl, hb9⟩
    have HB9 := Lib.hid (HBW.out.trans (hb9.mono HBW.out.size))
    clear hb9
    go_wp2
    go_ret
    exact ⟨rfl, HB9.out⟩
  | false =>
    rcases (by omega : 1000 < path.size ∨ path.size ≤ 1000) with hbig | hsm
    · have q1 : decide ((path.size : Int) > 1000) = true := by rw [decide_eq_true_iff]; omega
      have q1' : decide ((1000 : Int) < (path.size : Int)) = true := by rw [decide_eq_true_iff]; omega
      clear hbig
      go_wp2_with fail
      refine (HLIV.out _ HBW.out).mono ?_
      rintro e w9 ⟨rfl, hb9⟩
      have HB9 := Lib.hid (HBW.out.trans (hb9.mono HBW.out.size))
      clear hb9
      go_wp2
      go_ret
      exact ⟨rfl, HB9.out⟩
    · have q1 : decide ((path.size : Int) > 1000) = false := by rw [decide_eq_false_iff_not]; omega
      have q1' : decide ((1000 : Int) < (path.size : Int)) = false := by rw [decide_eq_false_iff_not]; omega
      have hg := HIN.out.g (HSZ.out rfl)
      have HG := Lib.hid hg
      have HPS := Lib.hid hsm
      obtain ⟨R, hR⟩ : ∃ R, R = searchP (ldOf l 4) path most t := ⟨_, rfl⟩
      have HRL : Hid (R.vis.length ≤ 32) := Lib.hid (by rw [hR]; exact searchP_len _ _ _ _)
      have hfn := find_any A n c l t a path most w2 (HIN.out.at_ HBW.out).1 (HIN.out.at_ HBW.out).2 hg.1 HIN.out.hn hg.2.1 hg.2.2 hsm (HT.out.bel HBW.out) H63.out
      rw [← hR] at hfn
      unfold Sea.PM.val Sea.PM.cs at hfn
      have HFN := Lib.hid hfn
      have HRR := Lib.hid hR
      have e0 : w2.cell? ⟨W.heap.size, 0, none⟩ = some (.int .i64 t.ver) := HK2.out.cell 0
      have e1 : w2.cell? ⟨W.heap.size, 1, none⟩ = some (.int .i64 t.exp) := HK2.out.cell 1
      have e2 : w2.cell? ⟨W.heap.size, 2, none⟩ = some (.slice a.tA t.ts.length a.tc) := HK2.out.cell 2
      have e3 : w2.cell? ⟨W.heap.size, 3, none⟩ = some (.slice a.kA t.ks.length a.kc) := HK2.out.cell 3
      have e4 : w2.cell? ⟨W.heap.size, 4, none⟩ = some (.slice a.dA t.ds.length a.dc) := HK2.out.cell 4
      clear hfn hR hg hsm
      go_wp2_with fail
      refine HFN.out.mono ?_
      rintro e w3 ⟨vA, vc, rfl, hog3, hb3⟩
      have HOG3 := Lib.hid hog3
      have HB3 := Lib.hid hb3
      clear hog3 hb3 e0 e1 e2 e3 e4 q1 q1'
      obtain ⟨cx, hcx⟩ : ∃ cx : PT, ptV R.x = .agg #[.string cx.p, .int .i64 cx.n, .string cx.h] := by
        cases hx : R.x with
        | none => exact ⟨⟨⟨#[]⟩, 0, ⟨#[]⟩⟩, rfl⟩
        | some p => exact ⟨p, rfl⟩
      have HCX := Lib.hid hcx
      rw [hcx]
      obtain ⟨W4, hW4⟩ : ∃ W4, W4 = w3.alloc (.cells #[.string cx.p, .int .i64 cx.n, .string cx.h] 31) := ⟨_, rfl⟩
      have hb4 : Below w3.heap.size w3 W4 := by rw [hW4]; exact (Below.refl _ _).alloc (Nat.le_refl _) _
      have HB4 : Hid (Below W.heap.size W W4) := Lib.hid ((HBW.out.trans (HB3.out.mono HBW.out.size)).trans (hb4.mono (Nat.le_trans HBW.out.size HB3.out.size)))
      have HK4 := Lib.hid ((HK2.out.below HB3.out HK2.out.lt).below hb4 (Nat.lt_of_lt_of_le HK2.out.lt HB3.out.size))
      have HX4 : Hid (Blk W4 w3.heap.size 31 #[.string cx.p, .int .i64 cx.n, .string cx.h]) := Lib.hid (by rw [hW4]; exact Blk.new _ _ _)
      have HOG4 := Lib.hid (OG.below HOG3.out hb4)
      have hfr := rfind20_any A n c l t a path most W4 (HIN.out.at_ HB4.out).1 (HIN.out.at_ HB4.out).2 HG.out.1.1 HIN.out.hn HG.out.2.1 (fun x hx => (HG.out.2.2 x hx).1) HPS.out
      rw [← HRR.out] at hfr
      unfold Sea.PM.val Sea.PM.cs at hfr
      have HFR := Lib.hid hfr
      have g0 : (w3.alloc (.cells #[.string cx.p, .int .i64 cx.n, .string cx.h] 31)).cell? ⟨W.heap.size, 0, none⟩ = some (.int .i64 t.ver) := by rw [← hW4]; exact HK4.out.cell 0
      have g1 : (w3.alloc (.cells #[.string cx.p, .int .i64 cx.n, .string cx.h] 31)).cell? ⟨W.heap.size, 1, none⟩ = some (.int .i64 t.exp) := by rw [← hW4]; exact HK4.out.cell 1
      have g2 : (w3.alloc (.cells #[.string cx.p, .int .i64 cx.n, .string cx.h] 31)).cell? ⟨W.heap.size, 2, none⟩ = some (.slice a.tA t.ts.length a.tc) := by rw [← hW4]; exact HK4.out.cell 2
      have g3 : (w3.alloc (.cells #[.string cx.p, .int .i64 cx.n, .string cx.h] 31)).cell? ⟨W.heap.size, 3, none⟩ = some (.slice a.kA t.ks.length a.kc) := by rw [← hW4]; exact HK4.out.cell 3
      have g4 : (w3.alloc (.cells #[.string cx.p, .int .i64 cx.n, .string cx.h] 31)).cell? ⟨W.heap.size, 4, none⟩ = some (.slice a.dA t.ds.length a.dc) := by rw [← hW4]; exact HK4.out.cell 4
      have HW4 := Lib.hid hW4
      clear hb4 hfr hcx hW4
      go_wp2_with fail
      rw [← HW4.out]
      refine HFR.out.mono ?_
      rintro e w5 ⟨vB, vd, rfl, hog5, hb5⟩
      rw [HCX.out]
      obtain ⟨W6, hW6⟩ : ∃ W6, W6 = w5.alloc (.cells #[.string cx.p, .int .i64 cx.n, .string cx.h] 31) := ⟨_, rfl⟩
      have hb6 : Below w5.heap.size w5 W6 := by rw [hW6]; exact (Below.refl _ _).alloc (Nat.le_refl _) _
      have HB6 : Hid (Below W.heap.size W W6) := Lib.hid ((HB4.out.trans (hb5.mono HB4.out.size)).trans (hb6.mono (Nat.le_trans HB4.out.size hb5.size)))
      have HX6 := Lib.hid ((HX4.out.below hb5 HX4.out.lt).below hb6 (Nat.lt_of_lt_of_le HX4.out.lt hb5.size))
      have HY6 : Hid (Blk W6 w5.heap.size 31 #[.string cx.p, .int .i64 cx.n, .string cx.h]) := Lib.hid (by rw [hW6]; exact Blk.new _ _ _)
      have HOG6 := Lib.hid (OG.below (OG.below HOG4.out hb5) hb6)
      have HOH6 := Lib.hid (OG.below hog5 hb6)
      have HW6 := Lib.hid hW6
      clear hb5 hb6 hog5 hW6 g0 g1 g2 g3 g4
      go_wp2_with fail
      rw [← HW6.out]
      refine (HLIV.out _ HB6.out).mono ?_
      rintro e w7 ⟨rfl, hb7⟩
      have HB7 : Hid (Below W.heap.size W w7) := Lib.hid (HB6.out.trans (hb7.mono HB6.out.size))
      have HX7 := Lib.hid (HX6.out.below hb7 HX6.out.lt)
      have HY7 := Lib.hid (HY6.out.below hb7 HY6.out.lt)
      have hsame := rsameTexts_any vA vB R.vis.length vc R.vis.length vd R.vis R.vis w7 (og_ss (OG.below HOG6.out hb7)) (og_ss (OG.below HOH6.out hb7)) rfl rfl (by have := HRL.out; omega) (by have := HRL.out; omega)
      rw [show decide (R.vis = R.vis) = true from decide_eq_true rfl] at hsame
      have HSM := Lib.hid hsame
      have x0 : w7.cell? ⟨w3.heap.size, 0, none⟩ = some (.string cx.p) := HX7.out.cell 0
      have x1 : w7.cell? ⟨w3.heap.size, 1, none⟩ = some (.int .i64 cx.n) := HX7.out.cell 1
      have x2 : w7.cell? ⟨w3.heap.size, 2, none⟩ = some (.string cx.h) := HX7.out.cell 2
      have y0 : w7.cell? ⟨w5.heap.size, 0, none⟩ = some (.string cx.p) := HY7.out.cell 0
      have y1 : w7.cell? ⟨w5.heap.size, 1, none⟩ = some (.int .i64 cx.n) := HY7.out.cell 1
      have y2 : w7.cell? ⟨w5.heap.size, 2, none⟩ = some (.string cx.h) := HY7.out.cell 2
      clear hb7 hsame
      go_wp2_with fail
      refine HSM.out.mono ?_
      rintro e w8 ⟨rfl, hb8⟩
      have HB8 := Lib.hid (HB7.out.trans (hb8.mono HB7.out.size))
      clear hb8 x0 x1 x2 y0 y1 y2
      go_wp2
      go_ret
      exact ⟨rfl, HB8.out⟩
end Go.Proofs.YthidjdjcjjbpbaaGreatDoor
