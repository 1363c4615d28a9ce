/-
  The law SearchLoads: its walk.
-/
import Derived.BigQuiet
import Derived.Deep.DrawnRows
import Derived.Test.YthidjdjcjjbpbaaGreatDoorSearchLoadsT
namespace Go.Proofs.YthidjdjcjjbpbaaGreatDoor
open Go.RowKit Sea Glob
attribute [local go_sem ↓] Go.wp_at_zero Go.wp_at_succ
set_option linter.unusedVariables false
set_option linter.unusedSimpArgs false

set_option maxRecDepth 100000 in
set_option maxHeartbeats 16000000 in
theorem searchLoads_walk (t : PM) (a : MA) (A : Option Addr) (n c : Nat) (l : List PN) (path : ByteArray) (stop : Int) (W : World) (hK : TabK W) (hTab : Tab W) (sa : MOk (Beh W) W t a) (sb : PMz t) (sc : PKf t) (hl : NsR (Beh W) W A l) (hn : l.length = n) (hz : ∀ x ∈ l, PMz x.t ∧ PKf x.t) (zp : path.size ≤ 140737488351232) (wi : (Lit.int .i64 stop).wf = true) :
    Calls Tryz.prog 4 #[t.val a, .slice A n c, .string path, .int .i64 stop] W fun e w' => e = .returned (.bool true) ∧ Below W.heap.size W w' := by
  have hin : InS W t a A n l := ⟨sa, hl, hn, ⟨sb, sc⟩, hz⟩
  have hT : Tbs W := ⟨hTab, hK⟩
  have h63 : -9223372036854775808 ≤ stop ∧ stop ≤ 9223372036854775807 := by obtain ⟨h0, h1⟩ := Go.bounds_i64 wi; omega
  obtain ⟨W1, hW1⟩ : ∃ W1, W1 = W.alloc (.cells #[.int .i64 t.ver, .int .i64 t.exp, .slice a.tA t.ts.length a.tc, .slice a.kA t.ks.length a.kc, .slice a.dA t.ds.length a.dc] 26) := ⟨_, rfl⟩
  have hb1 : Below W.heap.size W W1 := by rw [hW1]; exact (Below.refl _ _).alloc (Nat.le_refl _) _
  have hk1 : Blk W1 W.heap.size 26 #[.int .i64 t.ver, .int .i64 t.exp, .slice a.tA t.ts.length a.tc, .slice a.kA t.ks.length a.kc, .slice a.dA t.ds.length a.dc] := by rw [hW1]; exact Blk.new _ _ _
  have hlar := large20_any (Beh W) t a A n c l W1 (sa.bel hb1) (hl.bel hb1) hn
  have HIN := Lib.hid hin
  have HT := Lib.hid hT
  have H63 := Lib.hid h63
  have HB1 := Lib.hid hb1
  have HK1 := Lib.hid hk1
  have HW1 := Lib.hid hW1
  have HLIV : Hid (∀ w, Below W.heap.size W w → Calls Tryz.prog 8 #[] w fun e w' => PF (fun e w' => e = .returned (.bool true) ∧ Below w.heap.size w w') e w') := Lib.hid (fun w hb => slives_any w (hT.bel hb))
  have HTL : Hid (∀ (b : Act) (w8 : World) (LB : Nat) (nA : Option Addr) (nc kb : Nat) (kA : Option Addr) (kc nn : Nat) (names : List ByteArray) (ask : List (List PK)), b.tmps.size = 171 → b.defers = [] → b.tmps.getD 1 undef = .slice A n c → b.tmps.getD 4 undef = .pointer (some ⟨W.heap.size, 0, none⟩) → b.tmps.getD 9 undef = .pointer (some ⟨LB, 0, none⟩) →
      ((PMs t ∧ PMz t ∧ PKo t) ∧ n ≤ 30 ∧ ∀ x ∈ l, PMs x.t ∧ PMz x.t ∧ PKo x.t) → LdE LB A n c l stop w8 nA nc kb kA kc nn names ask → nn ≤ 31 → Below W.heap.size W w8 → Blk w8 W.heap.size 26 #[.int .i64 t.ver, .int .i64 t.exp, .slice a.tA t.ts.length a.tc, .slice a.kA t.ks.length a.kc, .slice a.dA t.ds.length a.dc] → (∀ k ∈ ask, k = t.ks ∨ ∃ n ∈ l, k = n.t.ks) →
      Code.wp Tryz.prog (partL [1, 1, 1, 1, 1, 1, 1, 1] slC) (bodyPost Tryz.prog Tryz.f4 (PF (LQ W))) b w8) := Lib.hid (by
    intro b w8 LB nA nc kb kA kc nn names ask hs hd h1 h4 h9 h5 h6 h7 h8 h10 h11
    obtain ⟨v, hv', rfl⟩ := slact_lit b hs hd
    exact loads_tail t a A n c l stop W w8 v LB nA nc kb kA kc nn names ask ((hv' 1).symm.trans h1) ((hv' 4).symm.trans h4) ((hv' 9).symm.trans h9) hin h5 h6 h7 h8 h10 h11)
  show Calls Tryz.prog 4 #[t.val a, .slice A n c, .string path, .int .i64 stop] W fun e w' => PF (LQ W) e w'
  unfold Sea.PM.val Sea.PM.cs at hlar ⊢
  have HLAR := Lib.hid hlar
  clear hin hT h63 hb1 hk1 hW1 hlar hK hTab sa sb sc hl hn hz zp wi
  refine calls_of_wp Tryz.func4 (c := slC) rfl ?_
  simp only [Tryz.ntmps4, List.size_toArray, List.length_cons, List.length_nil, Nat.reduceAdd, Nat.reduceSub, Array.replicate_succ, Array.replicate_zero, List.push_toArray, List.append_toArray, List.nil_append, List.cons_append]
  rw [show slC = (partL [0] slC).seq ((partL [1, 0] slC).seq ((partL [1, 1, 0] slC).seq ((partL [1, 1, 1, 0] slC).seq ((partL [1, 1, 1, 1, 0] slC).seq ((partL [1, 1, 1, 1, 1, 0] slC).seq ((partL [1, 1, 1, 1, 1, 1, 0] slC).seq ((partL [1, 1, 1, 1, 1, 1, 1, 0] slC).seq (partL [1, 1, 1, 1, 1, 1, 1, 1] slC)))))))) from rfl]
  generalize partL [1, 1, 1, 1, 1, 1, 1, 1] slC = KT at HTL ⊢
  conv => arg 2; arg 1; whnf
  conv => arg 2; arg 2; arg 1; whnf
  conv => arg 2; arg 2; arg 2; arg 1; whnf
  conv => arg 2; arg 2; arg 2; arg 2; arg 1; whnf
  conv => arg 2; arg 2; arg 2; arg 2; arg 2; arg 1; whnf
  conv => arg 2; arg 2; arg 2; arg 2; arg 2; arg 2; arg 1; whnf
  conv => arg 2; arg 2; arg 2; arg 2; arg 2; arg 2; arg 2; arg 1; whnf
  conv => arg 2; arg 2; arg 2; arg 2; arg 2; arg 2; arg 2; arg 2; arg 1; whnf
  go_wp2_with fail
  rw [← HW1.out]
  refine HLAR.out.mono ?_
  rintro e w2 ⟨lb, rfl, hlb, hb2⟩
  have HSZ := Lib.hid hlb
  have HBW : Hid (Below W.heap.size W w2) := Lib.hid (HB1.out.trans (hb2.mono HB1.out.size))
  have HK2 := Lib.hid (HK1.out.below hb2 HK1.out.lt)
  clear hlb hb2
  cases lb with
  | true =>
    go_wp2_with fail
    refine (HLIV.out _ HBW.out).mono ?_
    rintro e w9 ⟨rfl, hb9⟩
    have HB9 := Lib.hid (HBW.out.trans (hb9.mono HBW.out.size))
    clear hb9
    go_wp2
    go_ret
    exact ⟨rfl, HB9.out⟩
  | false =>
    rcases (by omega : 1000 < path.size ∨ path.size ≤ 1000) with hbig | hsm
    · have q1 : decide ((path.size : Int) > 1000) = true := by rw [decide_eq_true_iff]; omega
      have q1' : decide ((1000 : Int) < (path.size : Int)) = true := by rw [decide_eq_true_iff]; omega
      clear hbig
      go_wp2_with fail
      refine (HLIV.out _ HBW.out).mono ?_
      rintro e w9 ⟨rfl, hb9⟩
      have HB9 := Lib.hid (HBW.out.trans (hb9.mono HBW.out.size))
      clear hb9
      go_wp2
      go_ret
      exact ⟨rfl, HB9.out⟩
    have q1 : decide ((path.size : Int) > 1000) = false := by rw [decide_eq_false_iff_not]; omega
    have q1' : decide ((1000 : Int) < (path.size : Int)) = false := by rw [decide_eq_false_iff_not]; omega
    have hg := HIN.out.g (HSZ.out rfl)
    have HG := Lib.hid hg
    have HPS := Lib.hid hsm
    obtain ⟨R, hR⟩ : ∃ R, R = searchP (ldOf l 4) path 32 t := ⟨_, rfl⟩
    obtain ⟨R', hR'⟩ : ∃ R', R' = searchP (ldStop l 4 180 stop) path 32 t := ⟨_, rfl⟩
    have HRL : Hid (R.vis.length ≤ 32) := Lib.hid (by rw [hR]; exact searchP_len _ _ _ _)
    have HRL' : Hid (R'.vis.length ≤ 32) := Lib.hid (by rw [hR']; exact searchP_len _ _ _ _)
    have HST := Lib.hid (searchP_stop hR hR')
    have HASK := Lib.hid (searchP_ask hR')
    obtain ⟨LB, hLB⟩ : ∃ LB, LB = w2.heap.size := ⟨_, rfl⟩
    obtain ⟨WL, hWL⟩ : ∃ WL, WL = w2.alloc (.cells #[.slice A n c, .slice none 0 0, .slice none 0 0, .int .i64 stop] 41) := ⟨_, rfl⟩
    have hbL : Below w2.heap.size w2 WL := by rw [hWL]; exact (Below.refl _ _).alloc (Nat.le_refl _) _
    have HBL : Hid (Below W.heap.size W WL) := Lib.hid (HBW.out.trans (hbL.mono HBW.out.size))
    have HKL := Lib.hid (HK2.out.below hbL HK2.out.lt)
    have hkk : Blk WL LB 41 #[.slice A n c, .slice none 0 0, .slice none 0 0, .int .i64 stop] := by rw [hWL, hLB]; exact Blk.new _ _ _
    have HLW : Hid (W.heap.size ≤ LB) := Lib.hid (by rw [hLB]; exact HBW.out.size)
    have hX : ∀ b, LB ≤ b → W.heap.size ≤ b := fun b hb => Nat.le_trans HLW.out hb
    have hnsL : NsR (fun b => LB ≤ b) WL A l := (HIN.out.ns.bel HBL.out).mono hX
    have hinv : LInv LB A n c l stop WL (SofL LB (.slice none 0 0) (.slice none 0 0)) [targetsB] [] :=
      ⟨.slice none 0 0, .slice none 0 0, [], ⟨hkk, OG.nil _ _ _ _, OG.nil _ _ _ _, rfl, fun i hi => absurd hi (by simp), hnsL⟩, fun b => Iff.rfl, by simp, rfl⟩
    have hFB : ∀ w', Fr (fun b => LB ≤ b) WL w' → Below W.heap.size W w' := fun w' hf => Fr.below_trans HBL.out hf HBL.out.size (fun k hk => hX k hk)
    have hwk := walk_any (fun b => LB ≤ b) 13 (.pointer (some ⟨LB, 0, none⟩)) (ldStop l 4 180 stop) _ (lload_ldr LB A n c l stop HIN.out.hn hg.2.1 H63.out hg.2.2) t a path 32 WL _ ((HIN.out.mo.bel HBL.out).mono hX) hg.1 hsm (HT.out.bel HBL.out) (fun b hb => Nat.le_trans (Nat.le_of_lt hkk.lt) hb) (fun w' hf => HT.out.bel (hFB w' hf)) hinv (by omega)
    rw [← hR'] at hwk
    unfold Sea.PM.val Sea.PM.cs at hwk
    have HWK := Lib.hid hwk
    have HFB := Lib.hid hFB
    have HWL := Lib.hid hWL
    have HRR := Lib.hid hR
    have HLB := Lib.hid hLB
    have e0 : (w2.alloc (.cells #[.slice A n c, .slice none 0 0, .slice none 0 0, .int .i64 stop] 41)).cell? ⟨W.heap.size, 0, none⟩ = some (.int .i64 t.ver) := by rw [← hWL]; exact HKL.out.cell 0
    have e1 : (w2.alloc (.cells #[.slice A n c, .slice none 0 0, .slice none 0 0, .int .i64 stop] 41)).cell? ⟨W.heap.size, 1, none⟩ = some (.int .i64 t.exp) := by rw [← hWL]; exact HKL.out.cell 1
    have e2 : (w2.alloc (.cells #[.slice A n c, .slice none 0 0, .slice none 0 0, .int .i64 stop] 41)).cell? ⟨W.heap.size, 2, none⟩ = some (.slice a.tA t.ts.length a.tc) := by rw [← hWL]; exact HKL.out.cell 2
    have e3 : (w2.alloc (.cells #[.slice A n c, .slice none 0 0, .slice none 0 0, .int .i64 stop] 41)).cell? ⟨W.heap.size, 3, none⟩ = some (.slice a.kA t.ks.length a.kc) := by rw [← hWL]; exact HKL.out.cell 3
    have e4 : (w2.alloc (.cells #[.slice A n c, .slice none 0 0, .slice none 0 0, .int .i64 stop] 41)).cell? ⟨W.heap.size, 4, none⟩ = some (.slice a.dA t.ds.length a.dc) := by rw [← hWL]; exact HKL.out.cell 4
    clear hwk hFB hWL hR hR' hLB hbL hkk hX hnsL hinv hg hsm
    go_wp2_with fail
    rw [← HWL.out, ← HLB.out]
    refine HWK.out.mono ?_
    rintro e w4 ⟨vA, vc, S', V, rfl, hog4, hinv4, hv1, hv2, hf4⟩
    obtain ⟨nA, nc, kb, kA, kc, hld⟩ := hinv4.out
    have HB4 : Hid (Below W.heap.size W w4) := Lib.hid (HFB.out w4 hf4)
    have HK4 := Lib.hid (HKL.out.fr hf4 (by have := HLW.out; have := HK2.out.lt; have := HLB.out; intro q; omega))
    have HLD4 := Lib.hid hld
    have HV1 := Lib.hid hv1
    have HV2 := Lib.hid hv2
    have HOG4 := Lib.hid hog4
    clear hog4 hinv4 hv1 hv2 hf4 hld e0 e1 e2 e3 e4 q1 q1'
    obtain ⟨dx, hdx⟩ : ∃ dx : PT, ptV R'.x = .agg #[.string dx.p, .int .i64 dx.n, .string dx.h] ∧ dx = R'.x.getD ⟨⟨#[]⟩, 0, ⟨#[]⟩⟩ := by
      cases hx : R'.x with
      | none => exact ⟨⟨⟨#[]⟩, 0, ⟨#[]⟩⟩, rfl, rfl⟩
      | some p => exact ⟨p, rfl, rfl⟩
    have HDX := Lib.hid hdx.2
    rw [hdx.1]
    obtain ⟨nn, hnn⟩ : ∃ nn, nn = R'.ask.length := ⟨_, rfl⟩
    rw [← hnn] at HLD4
    obtain ⟨W5, hW5⟩ : ∃ W5, W5 = w4.alloc (.cells #[.string dx.p, .int .i64 dx.n, .string dx.h] 31) := ⟨_, rfl⟩
    have hb5 : Below w4.heap.size w4 W5 := by rw [hW5]; exact (Below.refl _ _).alloc (Nat.le_refl _) _
    have HB5 : Hid (Below W.heap.size W W5) := Lib.hid (HB4.out.trans (hb5.mono HB4.out.size))
    have HKW5 := Lib.hid (HK4.out.below hb5 HK4.out.lt)
    have HX5 : Hid (Blk W5 w4.heap.size 31 #[.string dx.p, .int .i64 dx.n, .string dx.h]) := Lib.hid (by rw [hW5]; exact Blk.new _ _ _)
    have HLD5 := Lib.hid (HLD4.out.bel hb5)
    have HOG5 := Lib.hid (OG.below HOG4.out hb5)
    have hfr := rfind20_any A n c l t a path 32 W5 (HIN.out.at_ HB5.out).1 (HIN.out.at_ HB5.out).2 HG.out.1.1 HIN.out.hn HG.out.2.1 (fun x hx => (HG.out.2.2 x hx).1) HPS.out
    rw [← HRR.out] at hfr
    unfold Sea.PM.val Sea.PM.cs at hfr
    have HFR := Lib.hid hfr
    have g0 : (w4.alloc (.cells #[.string dx.p, .int .i64 dx.n, .string dx.h] 31)).cell? ⟨W.heap.size, 0, none⟩ = some (.int .i64 t.ver) := by rw [← hW5]; exact HKW5.out.cell 0
    have g1 : (w4.alloc (.cells #[.string dx.p, .int .i64 dx.n, .string dx.h] 31)).cell? ⟨W.heap.size, 1, none⟩ = some (.int .i64 t.exp) := by rw [← hW5]; exact HKW5.out.cell 1
    have g2 : (w4.alloc (.cells #[.string dx.p, .int .i64 dx.n, .string dx.h] 31)).cell? ⟨W.heap.size, 2, none⟩ = some (.slice a.tA t.ts.length a.tc) := by rw [← hW5]; exact HKW5.out.cell 2
    have g3 : (w4.alloc (.cells #[.string dx.p, .int .i64 dx.n, .string dx.h] 31)).cell? ⟨W.heap.size, 3, none⟩ = some (.slice a.kA t.ks.length a.kc) := by rw [← hW5]; exact HKW5.out.cell 3
    have g4 : (w4.alloc (.cells #[.string dx.p, .int .i64 dx.n, .string dx.h] 31)).cell? ⟨W.heap.size, 4, none⟩ = some (.slice a.dA t.ds.length a.dc) := by rw [← hW5]; exact HKW5.out.cell 4
    have HW5 := Lib.hid hW5
    clear hb5 hfr hdx hW5 HLD4 HK4
    have HNN := Lib.hid hnn
    clear hnn
    go_wp2_with fail
    rw [← HW5.out]
    refine HFR.out.mono ?_
    rintro e w6 ⟨vB, vd, rfl, hog6, hb6⟩
    obtain ⟨cx, hcx⟩ : ∃ cx : PT, ptV R.x = .agg #[.string cx.p, .int .i64 cx.n, .string cx.h] ∧ cx = R.x.getD ⟨⟨#[]⟩, 0, ⟨#[]⟩⟩ := by
      cases hx : R.x with
      | none => exact ⟨⟨⟨#[]⟩, 0, ⟨#[]⟩⟩, rfl, rfl⟩
      | some p => exact ⟨p, rfl, rfl⟩
    have HCX := Lib.hid hcx.2
    rw [hcx.1]
    obtain ⟨W7, hW7⟩ : ∃ W7, W7 = w6.alloc (.cells #[.string cx.p, .int .i64 cx.n, .string cx.h] 31) := ⟨_, rfl⟩
    have hb7 : Below w6.heap.size w6 W7 := by rw [hW7]; exact (Below.refl _ _).alloc (Nat.le_refl _) _
    have hb57 : Below W5.heap.size W5 W7 := hb6.trans (hb7.mono hb6.size)
    have HB7 : Hid (Below W.heap.size W W7) := Lib.hid (HB5.out.trans (hb57.mono HB5.out.size))
    have HX7 := Lib.hid (HX5.out.below hb57 HX5.out.lt)
    have HY7 : Hid (Blk W7 w6.heap.size 31 #[.string cx.p, .int .i64 cx.n, .string cx.h]) := Lib.hid (by rw [hW7]; exact Blk.new _ _ _)
    have HLD7 := Lib.hid (HLD5.out.bel hb57)
    have HKW7 := Lib.hid (HKW5.out.below hb57 HKW5.out.lt)
    have HOG7 := Lib.hid (OG.below HOG5.out hb57)
    have HOH7 := Lib.hid (OG.below hog6 hb7)
    obtain ⟨B10, hB10⟩ : ∃ B10, B10 = w4.heap.size := ⟨_, rfl⟩
    obtain ⟨B13, hB13⟩ : ∃ B13, B13 = w6.heap.size := ⟨_, rfl⟩
    rw [← hB10] at HX7
    rw [← hB13] at HY7
    have HW7 := Lib.hid hW7
    have HBA := Lib.hid hB10
    have HBB := Lib.hid hB13
    clear hb6 hb7 hb57 hog6 hcx hW7 hB10 hB13 g0 g1 g2 g3 g4 HX5 HLD5 HKW5 HOG5
    go_wp2_with fail
    rw [← HW7.out, ← HBA.out, ← HBB.out]
    refine (HLIV.out _ HB7.out).mono ?_
    rintro e w8 ⟨rfl, hb8⟩
    have HB8 : Hid (Below W.heap.size W w8) := Lib.hid (HB7.out.trans (hb8.mono HB7.out.size))
    have HX8 := Lib.hid (HX7.out.below hb8 HX7.out.lt)
    have HY8 := Lib.hid (HY7.out.below hb8 HY7.out.lt)
    have HLD8 := Lib.hid (HLD7.out.bel hb8)
    have HKW8 := Lib.hid (HKW7.out.below hb8 HKW7.out.lt)
    have HOG8 := Lib.hid (OG.below HOG7.out hb8)
    have HOH8 := Lib.hid (OG.below HOH7.out hb8)
    obtain ⟨vn, hvn⟩ : ∃ vn, vn = R'.vis.length := ⟨_, rfl⟩
    obtain ⟨rn, hrn⟩ : ∃ rn, rn = R.vis.length := ⟨_, rfl⟩
    rw [← hvn, ← hrn]
    have hcapB : rn ≤ vd ∧ vd ≤ maxLen := by
      obtain ⟨_, _, e, h1, h2, _⟩ := OG.form HOH8.out
      cases e
      rw [hrn]
      exact ⟨h1, h2⟩
    have hnn9 : nn ≤ 31 := by
      have h1 := HLD8.out.nl
      have h2 := HRL'.out
      rw [List.length_tail] at h1
      rcases Classical.em (R'.vis = []) with q | q
      · rw [HV2.out q] at h1; simp at h1; omega
      · rw [HV1.out q] at h1; omega
    have hrn9 : (rn : Int) ≤ 32 := by have := HRL.out; omega
    have hrn0 : (0 : Int) ≤ (rn : Int) := by omega
    have HVN := Lib.hid hvn
    have HRN := Lib.hid hrn
    clear hb8 HX7 HY7 HLD7 HKW7 HOG7 HOH7 hvn hrn
    by_cases hst : 1 ≤ stop ∧ stop < (rn : Int)
    · obtain ⟨s, rfl⟩ : ∃ s : Nat, stop = (s : Int) := ⟨stop.toNat, by omega⟩
      obtain ⟨s1, s2⟩ := hst
      obtain ⟨t1, t2, t3⟩ := HST.out.1 ⟨s1, by rw [← HRN.out]; exact s2⟩
      have hdx : dx = ⟨⟨#[]⟩, 0, ⟨#[]⟩⟩ := by rw [HDX.out, t1]; rfl
      rw [hdx] at HX8
      rw [show ((s : Int) + 1).toNat = s + 1 from by omega] at t3
      have hvne : R'.vis ≠ [] := fun q => by
        rw [t3] at q
        have := congrArg List.length q
        have h9 := HRN.out
        rw [List.length_take, List.length_nil] at this
        omega
      obtain ⟨bB, hbB⟩ : ∃ bB, vB = some ⟨bB, 0, none⟩ := by
        obtain ⟨_, _, e, _, _, hr, ha⟩ := OG.form HOH8.out
        cases e
        cases hvB : vB with
        | none =>
          obtain ⟨ad, e, _⟩ := hr.2 (by have := HRN.out; omega)
          rw [hvB] at e; cases e
        | some ad =>
          obtain ⟨_, _, g3, g4, _⟩ := ha ad hvB
          obtain ⟨b, o, sp⟩ := ad
          simp only at g3 g4
          subst g3; subst g4
          exact ⟨b, rfl⟩
      subst hbB
      have hsw : SS w8 (some ⟨bB, 0, none⟩) (R.vis.take (s + 1)) := SS.takeS (og_ss HOH8.out) (s + 1) (by have := HRN.out; omega)
      have hsw2 := hsw.tail1
      have HSW := Lib.hid hsw
      have HSW2 := Lib.hid hsw2
      have hln : (R.vis.take (s + 1)).length = s + 1 := by rw [List.length_take]; have := HRN.out; omega
      have HSM1 : Hid (∀ w, Below w8.heap.size w8 w → Calls Tryz.prog 11 #[.slice vA vn vc, .slice (some ⟨bB, 0, none⟩) (s + 1) vd] w fun e w' => PF (BoP true w) e w') := Lib.hid (fun w hb => by
        have h1 := og_ss (OG.below HOG8.out hb)
        have h2 := rsameTexts_any vA (some ⟨bB, 0, none⟩) vn vc (s + 1) vd R'.vis (R.vis.take (s + 1)) w h1 (HSW.out.below hb) HVN.out.symm hln (by have := HRL'.out; have := HVN.out; omega) (by omega)
        rw [show decide (R'.vis = R.vis.take (s + 1)) = true from decide_eq_true t3] at h2
        exact h2)
      have HSM2 : Hid (∀ w, Below w8.heap.size w8 w → Calls Tryz.prog 11 #[.slice nA nn nc, .slice (some ⟨bB, 1, none⟩) s (vd - 1)] w fun e w' => PF (BoP true w) e w') := Lib.hid (fun w hb => by
        have h1 := (HLD8.out.bel hb).ns
        have hV : V.tail = (R.vis.take (s + 1)).tail := by rw [HV1.out hvne, t3]
        have h2 := rsameTexts_any nA (some ⟨bB, 1, none⟩) nn nc s (vd - 1) V.tail (R.vis.take (s + 1)).tail w h1 (HSW2.out.below hb) (HLD8.out.nl) (by rw [List.length_tail, hln]; rfl) (by omega) (by omega)
        rw [show decide (V.tail = (R.vis.take (s + 1)).tail) = true from decide_eq_true hV] at h2
        exact h2)
      have hlb := HLD8.out.blk
      have HS0 : Hid ((fun V => Blk V B10 31 #[.string ⟨#[]⟩, .int .i64 0, .string ⟨#[]⟩] ∧ Blk V LB 41 #[.slice A n c, .slice nA nn nc, .slice kA nn kc, .int .i64 (s : Int)]) w8.drew) := Lib.hid ⟨HX8.out, hlb⟩
      rw [t2]
      have r1 : decide ((s : Int) ≥ 1) = true := by rw [decide_eq_true_iff]; omega
      have r1' : decide (1 ≤ (s : Int)) = true := by rw [decide_eq_true_iff]; omega
      have r1'' : decide (1 ≤ s) = true := by rw [decide_eq_true_iff]; omega
      have r2 : decide ((s : Int) < (rn : Int)) = true := by rw [decide_eq_true_iff]; omega
      have r2' : decide (s < rn) = true := by rw [decide_eq_true_iff]; omega
      clear hsw hsw2 hln hlb hdx t1 t2 t3 hvne
      go_wp2_with fail
      have k0 : s + 1 ≤ vd := by omega
      have k1 : ¬ vd = 1 := by omega
      have k2 : ((s : Int) + 1).toNat = s + 1 := by omega
      have k3 : (0 : Int) ≤ (s : Int) + 1 := by omega
      have k4 : (s : Int) + 1 ≤ (vd : Int) := by omega
      have k5 : (1 : Int) ≤ (s : Int) + 1 := by omega
      have k6 : IntKind.i64.wrap ((s : Int) + 1) = (s : Int) + 1 := IntWalk.i64_in _ (by omega)
      refine wp_region_held_drew (S := fun V => Blk V B10 31 #[.string ⟨#[]⟩, .int .i64 0, .string ⟨#[]⟩] ∧ Blk V LB 41 #[.slice A n c, .slice nA nn nc, .slice kA nn kc, .int .i64 (s : Int)]) (by kernel_rfl) (HS0.out) (fun hS1 => ?_)
      obtain ⟨WD, hWD⟩ : ∃ WD, WD = w8.drew := ⟨_, rfl⟩
      rw [← hWD] at hS1 ⊢
      have HBD : Hid (Below w8.heap.size w8 WD) := Lib.hid (by rw [hWD]; exact (Below.refl _ _).drew)
      clear hWD
      refine wpAnyH_take (i := 0) (oi := ⟨some 59, _, _, _, _, _⟩) (v := .int .i64 180) rfl (by kernel_rfl) (by kernel_rfl) (by kernel_rfl) (fun _ _ _ h => h) (.inl ⟨by kernel_rfl, fun V hS => by go_simp⟩) hS1 ?_
      simp only [Act.put, List.setIfInBounds_toArray, List.set_cons_zero, List.set_cons_succ]
      refine wpAnyH_take (i := 1) (oi := ⟨some 60, _, _, _, _, _⟩) (v := .bool true) rfl (by kernel_rfl) (by kernel_rfl) (by kernel_rfl) (fun _ _ _ h => h) (.inl ⟨by kernel_rfl, fun V hS => by go_simp⟩) hS1 ?_
      simp only [Act.put, List.setIfInBounds_toArray, List.set_cons_zero, List.set_cons_succ]
      refine wpAnyH_take (i := 2) (oi := ⟨some 61, _, _, _, _, _⟩) (v := .bool true) rfl (by kernel_rfl) (by kernel_rfl) (by kernel_rfl) (fun _ _ _ h => h) (.inl ⟨by kernel_rfl, fun V hS => by go_simp⟩) hS1 ?_
      simp only [Act.put, List.setIfInBounds_toArray, List.set_cons_zero, List.set_cons_succ]
      refine wpAnyH_take (i := 3) (oi := ⟨some 62, _, _, _, _, _⟩) (v := .agg #[.string ⟨#[]⟩, .int .i64 0, .string ⟨#[]⟩]) rfl (by kernel_rfl) (by kernel_rfl) (by kernel_rfl) (fun _ _ _ h => h) (.inl ⟨by kernel_rfl, fun V hS => by have h0 := hS.1.cell 0; have h1 := hS.1.cell 1; have h2 := hS.1.cell 2; simp at h0 h1 h2; go_simp⟩) hS1 ?_
      simp only [Act.put, List.setIfInBounds_toArray, List.set_cons_zero, List.set_cons_succ]
      refine wpAnyH_take (i := 4) (oi := ⟨some 63, _, _, _, _, _⟩) (v := .agg #[.string ⟨#[]⟩, .int .i64 0, .string ⟨#[]⟩]) rfl (by kernel_rfl) (by kernel_rfl) (by kernel_rfl) (fun _ _ _ h => h) (.inl ⟨by kernel_rfl, fun V hS => by go_simp⟩) hS1 ?_
      simp only [Act.put, List.setIfInBounds_toArray, List.set_cons_zero, List.set_cons_succ]
      refine wpAnyH_take (i := 5) (oi := ⟨some 64, _, _, _, _, _⟩) (v := .bool true) rfl (by kernel_rfl) (by kernel_rfl) (by kernel_rfl) (fun _ _ _ h => h) (.inl ⟨by kernel_rfl, fun V hS => by go_simp⟩) hS1 ?_
      simp only [Act.put, List.setIfInBounds_toArray, List.set_cons_zero, List.set_cons_succ]
      refine wpAnyH_take (i := 6) (oi := ⟨some 65, _, _, _, _, _⟩) (v := .bool true) rfl (by kernel_rfl) (by kernel_rfl) (by kernel_rfl) (fun _ _ _ h => h) (.inl ⟨by kernel_rfl, fun V hS => by go_simp⟩) hS1 ?_
      simp only [Act.put, List.setIfInBounds_toArray, List.set_cons_zero, List.set_cons_succ]
      refine wpAnyH_take (i := 7) (oi := ⟨some 66, _, _, _, _, _⟩) (v := .bool true) rfl (by kernel_rfl) (by kernel_rfl) (by kernel_rfl) (fun _ _ _ h => h) (.inl ⟨by kernel_rfl, fun V hS => by go_simp⟩) hS1 ?_
      simp only [Act.put, List.setIfInBounds_toArray, List.set_cons_zero, List.set_cons_succ]
      refine wpAnyH_take (i := 8) (oi := ⟨some 67, _, _, _, _, _⟩) (v := .slice vA vn vc) rfl (by kernel_rfl) (by kernel_rfl) (by kernel_rfl) (fun _ _ _ h => h) (.inl ⟨by kernel_rfl, fun V hS => by go_simp⟩) hS1 ?_
      simp only [Act.put, List.setIfInBounds_toArray, List.set_cons_zero, List.set_cons_succ]
      refine wpAnyH_take (i := 9) (oi := ⟨some 68, _, _, _, _, _⟩) (v := .slice (some ⟨bB, 0, none⟩) rn vd) rfl (by kernel_rfl) (by kernel_rfl) (by kernel_rfl) (fun _ _ _ h => h) (.inl ⟨by kernel_rfl, fun V hS => by go_simp⟩) hS1 ?_
      simp only [Act.put, List.setIfInBounds_toArray, List.set_cons_zero, List.set_cons_succ]
      refine wpAnyH_take (i := 10) (oi := ⟨some 69, _, _, _, _, _⟩) (v := .int .i64 (s : Int)) rfl (by kernel_rfl) (by kernel_rfl) (by kernel_rfl) (fun _ _ _ h => h) (.inl ⟨by kernel_rfl, fun V hS => by go_simp⟩) hS1 ?_
      simp only [Act.put, List.setIfInBounds_toArray, List.set_cons_zero, List.set_cons_succ]
      refine wpAnyH_take (i := 11) (oi := ⟨some 70, _, _, _, _, _⟩) (v := .int .i64 ((s : Int) + 1)) rfl (by kernel_rfl) (by kernel_rfl) (by kernel_rfl) (fun _ _ _ h => h) (.inl ⟨by kernel_rfl, fun V hS => by go_simp⟩) hS1 ?_
      simp only [Act.put, List.setIfInBounds_toArray, List.set_cons_zero, List.set_cons_succ]
      refine wpAnyH_take (i := 12) (oi := ⟨some 71, _, _, _, _, _⟩) (v := .slice (some ⟨bB, 0, none⟩) (s + 1) vd) rfl (by kernel_rfl) (by kernel_rfl) (by kernel_rfl) (fun _ _ _ h => h) (.inl ⟨by kernel_rfl, fun V hS => by go_simp⟩) hS1 ?_
      simp only [Act.put, List.setIfInBounds_toArray, List.set_cons_zero, List.set_cons_succ]
      refine wpAnyH_ready (rs := [13]) (by kernel_rfl) (by simp) ?_
      refine AllReadyH.cons rfl (fun K' hK => ?_) AllReadyH.nil
      go_simp
      refine (HSM1.out WD HBD.out).mono ?_
      rintro e wX ⟨rfl, hbX⟩
      have HBX := Lib.hid (HBD.out.trans (hbX.mono HBD.out.size))
      refine hK.out _ _ (⟨(hS1).1.below hbX (hS1).1.lt, (hS1).2.below hbX (hS1).2.lt⟩) (fun hS2 => ?_)
      clear hK K' hS1
      refine wpAnyH_take (i := 14) (oi := ⟨some 73, _, _, _, _, _⟩) (v := .bool true) rfl (by kernel_rfl) (by kernel_rfl) (by kernel_rfl) (fun _ _ _ h => h) (.inl ⟨by kernel_rfl, fun V hS => by go_simp⟩) hS2 ?_
      simp only [Act.put, List.setIfInBounds_toArray, List.set_cons_zero, List.set_cons_succ]
      refine wpAnyH_take (i := 15) (oi := ⟨some 74, _, _, _, _, _⟩) (v := .bool true) rfl (by kernel_rfl) (by kernel_rfl) (by kernel_rfl) (fun _ _ _ h => h) (.inl ⟨by kernel_rfl, fun V hS => by go_simp⟩) hS2 ?_
      simp only [Act.put, List.setIfInBounds_toArray, List.set_cons_zero, List.set_cons_succ]
      refine wpAnyH_take (i := 16) (oi := ⟨some 75, _, _, _, _, _⟩) (v := .pointer (some ⟨LB, 0, none⟩)) rfl (by kernel_rfl) (by kernel_rfl) (by kernel_rfl) (fun _ _ _ h => h) (.inl ⟨by kernel_rfl, fun V hS => by go_simp⟩) hS2 ?_
      simp only [Act.put, List.setIfInBounds_toArray, List.set_cons_zero, List.set_cons_succ]
      refine wpAnyH_take (i := 17) (oi := ⟨some 76, _, _, _, _, _⟩) (v := .pointer (some ⟨LB, 0, none⟩)) rfl (by kernel_rfl) (by kernel_rfl) (by kernel_rfl) (fun _ _ _ h => h) (.inl ⟨by kernel_rfl, fun V hS => by go_simp⟩) hS2 ?_
      simp only [Act.put, List.setIfInBounds_toArray, List.set_cons_zero, List.set_cons_succ]
      refine wpAnyH_take (i := 18) (oi := ⟨some 77, _, _, _, _, _⟩) (v := .pointer (some ⟨LB, 1, none⟩)) rfl (by kernel_rfl) (by kernel_rfl) (by kernel_rfl) (fun _ _ _ h => h) (.inl ⟨by kernel_rfl, fun V hS => by go_simp⟩) hS2 ?_
      simp only [Act.put, List.setIfInBounds_toArray, List.set_cons_zero, List.set_cons_succ]
      refine wpAnyH_take (i := 19) (oi := ⟨some 78, _, _, _, _, _⟩) (v := .slice nA nn nc) rfl (by kernel_rfl) (by kernel_rfl) (by kernel_rfl) (fun _ _ _ h => h) (.inl ⟨by kernel_rfl, fun V hS => by have sc := hS.2.cell 1; simp at sc; go_simp⟩) hS2 ?_
      simp only [Act.put, List.setIfInBounds_toArray, List.set_cons_zero, List.set_cons_succ]
      refine wpAnyH_take (i := 20) (oi := ⟨some 79, _, _, _, _, _⟩) (v := .slice (some ⟨bB, 0, none⟩) rn vd) rfl (by kernel_rfl) (by kernel_rfl) (by kernel_rfl) (fun _ _ _ h => h) (.inl ⟨by kernel_rfl, fun V hS => by go_simp⟩) hS2 ?_
      simp only [Act.put, List.setIfInBounds_toArray, List.set_cons_zero, List.set_cons_succ]
      refine wpAnyH_take (i := 21) (oi := ⟨some 80, _, _, _, _, _⟩) (v := .int .i64 (s : Int)) rfl (by kernel_rfl) (by kernel_rfl) (by kernel_rfl) (fun _ _ _ h => h) (.inl ⟨by kernel_rfl, fun V hS => by go_simp⟩) hS2 ?_
      simp only [Act.put, List.setIfInBounds_toArray, List.set_cons_zero, List.set_cons_succ]
      refine wpAnyH_take (i := 22) (oi := ⟨some 81, _, _, _, _, _⟩) (v := .int .i64 ((s : Int) + 1)) rfl (by kernel_rfl) (by kernel_rfl) (by kernel_rfl) (fun _ _ _ h => h) (.inl ⟨by kernel_rfl, fun V hS => by go_simp⟩) hS2 ?_
      simp only [Act.put, List.setIfInBounds_toArray, List.set_cons_zero, List.set_cons_succ]
      refine wpAnyH_take (i := 23) (oi := ⟨some 82, _, _, _, _, _⟩) (v := .slice (some ⟨bB, 1, none⟩) s (vd - 1)) rfl (by kernel_rfl) (by kernel_rfl) (by kernel_rfl) (fun _ _ _ h => h) (.inl ⟨by kernel_rfl, fun V hS => by go_simp⟩) hS2 ?_
      simp only [Act.put, List.setIfInBounds_toArray, List.set_cons_zero, List.set_cons_succ]
      refine wpAnyH_ready (rs := [24]) (by kernel_rfl) (by simp) ?_
      refine AllReadyH.cons rfl (fun K' hK => ?_) AllReadyH.nil
      go_simp
      refine (HSM2.out wX HBX.out).mono ?_
      rintro e wY ⟨rfl, hbY⟩
      have HBY := Lib.hid (HBX.out.trans (hbY.mono HBX.out.size))
      refine hK.out _ _ (⟨(hS2).1.below hbY (hS2).1.lt, (hS2).2.below hbY (hS2).2.lt⟩) (fun hS3 => ?_)
      clear hK K' hS2
      refine wpAnyH_take (i := 25) (oi := ⟨some 84, _, _, _, _, _⟩) (v := .bool true) rfl (by kernel_rfl) (by kernel_rfl) (by kernel_rfl) (fun _ _ _ h => h) (.inl ⟨by kernel_rfl, fun V hS => by go_simp⟩) hS3 ?_
      simp only [Act.put, List.setIfInBounds_toArray, List.set_cons_zero, List.set_cons_succ]
      refine wpAnyH_take (i := 26) (oi := ⟨some 8, _, _, _, _, _⟩) (v := .bool true) rfl (by kernel_rfl) (by kernel_rfl) (by kernel_rfl) (fun _ _ _ h => h) (.inl ⟨by kernel_rfl, fun V hS => by go_simp⟩) hS3 ?_
      simp only [Act.put, List.setIfInBounds_toArray, List.set_cons_zero, List.set_cons_succ]
      refine wpAnyH_done (by kernel_rfl) ?_ _
      clear k0 k1 k2 k3 k4 k5 k6 r1 r1' r1'' r2 r2'
      go_wp2
      go_ret
      exact ⟨rfl, HB8.out.trans (HBY.out.mono HB8.out.size)⟩
    · obtain ⟨t1, t2, t3⟩ := HST.out.2 (by rw [← HRN.out]; exact hst)
      have hdx : dx = cx := by rw [HDX.out, HCX.out, t1]
      rw [hdx] at HX8
      rw [t2]
      have hvnn : vn = rn := by rw [HVN.out, HRN.out, t3]
      rw [hvnn]
      have HSM1 : Hid (∀ w, Below w8.heap.size w8 w → Calls Tryz.prog 11 #[.slice vA rn vc, .slice vB rn vd] w fun e w' => PF (BoP true w) e w') := Lib.hid (fun w hb => by
        have h1 := og_ss (OG.below HOG8.out hb)
        have h1' := og_ss (OG.below HOH8.out hb)
        have h2 := rsameTexts_any vA vB rn vc rn vd R'.vis R.vis w h1 h1' (by rw [← HVN.out]; exact hvnn) HRN.out.symm (by omega) (by omega)
        rw [show decide (R'.vis = R.vis) = true from decide_eq_true t3] at h2
        exact h2)
      have HS0 : Hid ((fun V => Blk V B10 31 #[.string cx.p, .int .i64 cx.n, .string cx.h] ∧ Blk V B13 31 #[.string cx.p, .int .i64 cx.n, .string cx.h] ∧ Blk V LB 41 #[.slice A n c, .slice nA nn nc, .slice kA nn kc, .int .i64 stop]) w8.drew) := Lib.hid ⟨HX8.out, HY8.out, HLD8.out.blk⟩
      have HT3 := Lib.hid t3
      have HTAIL : Hid (rn ≠ 0 → V.tail = R.vis.tail) := Lib.hid (fun h0 => by rw [HV1.out (fun q => h0 (by rw [HRN.out, ← t3, q]; rfl)), t3])
      have HX9 := HX8
      clear hdx t1 t2 t3 hvnn HOG8 HLIV HWK HFR HLAR
      -- what is behind the first comparison
      have hgo : (decide (stop ≥ 1) && decide (stop < (rn : Int))) = false := by
        rw [Bool.and_eq_false_iff, decide_eq_false_iff_not, decide_eq_false_iff_not]
        omega
      rcases (by omega : stop < 1 ∨ (1 ≤ stop ∧ (rn : Int) ≤ stop)) with hs1 | ⟨hs1, hs2⟩
      · have r1 : decide (stop ≥ 1) = false := by rw [decide_eq_false_iff_not]; omega
        have r1' : decide (1 ≤ stop) = false := by rw [decide_eq_false_iff_not]; omega
        clear hs1 hst hgo
        rcases (by omega : rn = 0 ∨ 0 < rn) with h0 | h0
        · have p1 : decide ((rn : Int) > 0) = false := by rw [decide_eq_false_iff_not]; omega
          have p1' : decide ((0 : Int) < (rn : Int)) = false := by rw [decide_eq_false_iff_not]; omega
          have p1'' : decide (0 < rn) = false := by rw [decide_eq_false_iff_not]; omega
          clear h0
          go_wp2_with fail
          refine wp_region_held_drew (S := fun V => Blk V B10 31 #[.string cx.p, .int .i64 cx.n, .string cx.h] ∧ Blk V B13 31 #[.string cx.p, .int .i64 cx.n, .string cx.h] ∧ Blk V LB 41 #[.slice A n c, .slice nA nn nc, .slice kA nn kc, .int .i64 stop]) (by kernel_rfl) (HS0.out) (fun hS1 => ?_)
          obtain ⟨WD, hWD⟩ : ∃ WD, WD = w8.drew := ⟨_, rfl⟩
          rw [← hWD] at hS1 ⊢
          have HBD : Hid (Below w8.heap.size w8 WD) := Lib.hid (by rw [hWD]; exact (Below.refl _ _).drew)
          clear hWD
          refine wpAnyH_take (i := 0) (oi := ⟨some 85, _, _, _, _, _⟩) (v := .agg #[.string cx.p, .int .i64 cx.n, .string cx.h]) rfl (by kernel_rfl) (by kernel_rfl) (by kernel_rfl) (fun _ _ _ h => h) (.inl ⟨by kernel_rfl, fun V hS => by have h0 := hS.1.cell 0; have h1 := hS.1.cell 1; have h2 := hS.1.cell 2; simp at h0 h1 h2; go_simp⟩) hS1 ?_
          simp only [Act.put, List.setIfInBounds_toArray, List.set_cons_zero, List.set_cons_succ]
          refine wpAnyH_take (i := 1) (oi := ⟨some 86, _, _, _, _, _⟩) (v := .agg #[.string cx.p, .int .i64 cx.n, .string cx.h]) rfl (by kernel_rfl) (by kernel_rfl) (by kernel_rfl) (fun _ _ _ h => h) (.inl ⟨by kernel_rfl, fun V hS => by have h0 := hS.2.1.cell 0; have h1 := hS.2.1.cell 1; have h2 := hS.2.1.cell 2; simp at h0 h1 h2; go_simp⟩) hS1 ?_
          simp only [Act.put, List.setIfInBounds_toArray, List.set_cons_zero, List.set_cons_succ]
          refine wpAnyH_take (i := 2) (oi := ⟨some 87, _, _, _, _, _⟩) (v := .bool false) rfl (by kernel_rfl) (by kernel_rfl) (by kernel_rfl) (fun _ _ _ h => h) (.inl ⟨by kernel_rfl, fun V hS => by go_simp⟩) hS1 ?_
          simp only [Act.put, List.setIfInBounds_toArray, List.set_cons_zero, List.set_cons_succ]
          refine wpAnyH_take (i := 3) (oi := ⟨some 88, _, _, _, _, _⟩) (v := .bool false) rfl (by kernel_rfl) (by kernel_rfl) (by kernel_rfl) (fun _ _ _ h => h) (.inl ⟨by kernel_rfl, fun V hS => by go_simp⟩) hS1 ?_
          simp only [Act.put, List.setIfInBounds_toArray, List.set_cons_zero, List.set_cons_succ]
          refine wpAnyH_take (i := 4) (oi := ⟨some 89, _, _, _, _, _⟩) (v := .slice vA rn vc) rfl (by kernel_rfl) (by kernel_rfl) (by kernel_rfl) (fun _ _ _ h => h) (.inl ⟨by kernel_rfl, fun V hS => by go_simp⟩) hS1 ?_
          simp only [Act.put, List.setIfInBounds_toArray, List.set_cons_zero, List.set_cons_succ]
          refine wpAnyH_take (i := 5) (oi := ⟨some 90, _, _, _, _, _⟩) (v := .slice vB rn vd) rfl (by kernel_rfl) (by kernel_rfl) (by kernel_rfl) (fun _ _ _ h => h) (.inl ⟨by kernel_rfl, fun V hS => by go_simp⟩) hS1 ?_
          simp only [Act.put, List.setIfInBounds_toArray, List.set_cons_zero, List.set_cons_succ]
          refine wpAnyH_ready (rs := [6]) (by kernel_rfl) (by simp) ?_
          refine AllReadyH.cons rfl (fun K' hK => ?_) AllReadyH.nil
          go_simp
          refine (HSM1.out WD HBD.out).mono ?_
          rintro e wX ⟨rfl, hbX⟩
          have HBX := Lib.hid (HBD.out.trans (hbX.mono HBD.out.size))
          refine hK.out _ _ (⟨(hS1).1.below hbX (hS1).1.lt, (hS1).2.1.below hbX (hS1).2.1.lt, (hS1).2.2.below hbX (hS1).2.2.lt⟩) (fun hS2 => ?_)
          clear hK K' hS1
          refine wpAnyH_take (i := 7) (oi := ⟨some 92, _, _, _, _, _⟩) (v := .bool false) rfl (by kernel_rfl) (by kernel_rfl) (by kernel_rfl) (fun _ _ _ h => h) (.inl ⟨by kernel_rfl, fun V hS => by go_simp⟩) hS2 ?_
          simp only [Act.put, List.setIfInBounds_toArray, List.set_cons_zero, List.set_cons_succ]
          refine wpAnyH_take (i := 8) (oi := ⟨some 93, _, _, _, _, _⟩) (v := .bool false) rfl (by kernel_rfl) (by kernel_rfl) (by kernel_rfl) (fun _ _ _ h => h) (.inl ⟨by kernel_rfl, fun V hS => by go_simp⟩) hS2 ?_
          simp only [Act.put, List.setIfInBounds_toArray, List.set_cons_zero, List.set_cons_succ]
          refine wpAnyH_take (i := 9) (oi := ⟨some 94, _, _, _, _, _⟩) (v := .bool false) rfl (by kernel_rfl) (by kernel_rfl) (by kernel_rfl) (fun _ _ _ h => h) (.inl ⟨by kernel_rfl, fun V hS => by go_simp⟩) hS2 ?_
          simp only [Act.put, List.setIfInBounds_toArray, List.set_cons_zero, List.set_cons_succ]
          refine wpAnyH_take (i := 10) (oi := ⟨some 95, _, _, _, _, _⟩) (v := .int .i64 R.e) rfl (by kernel_rfl) (by kernel_rfl) (by kernel_rfl) (fun _ _ _ h => h) (.inl ⟨by kernel_rfl, fun V hS => by go_simp⟩) hS2 ?_
          simp only [Act.put, List.setIfInBounds_toArray, List.set_cons_zero, List.set_cons_succ]
          refine wpAnyH_take (i := 11) (oi := ⟨some 96, _, _, _, _, _⟩) (v := .int .i64 R.e) rfl (by kernel_rfl) (by kernel_rfl) (by kernel_rfl) (fun _ _ _ h => h) (.inl ⟨by kernel_rfl, fun V hS => by go_simp⟩) hS2 ?_
          simp only [Act.put, List.setIfInBounds_toArray, List.set_cons_zero, List.set_cons_succ]
          refine wpAnyH_take (i := 12) (oi := ⟨some 97, _, _, _, _, _⟩) (v := .bool false) rfl (by kernel_rfl) (by kernel_rfl) (by kernel_rfl) (fun _ _ _ h => h) (.inl ⟨by kernel_rfl, fun V hS => by go_simp⟩) hS2 ?_
          simp only [Act.put, List.setIfInBounds_toArray, List.set_cons_zero, List.set_cons_succ]
          refine wpAnyH_take (i := 13) (oi := ⟨some 98, _, _, _, _, _⟩) (v := .bool false) rfl (by kernel_rfl) (by kernel_rfl) (by kernel_rfl) (fun _ _ _ h => h) (.inl ⟨by kernel_rfl, fun V hS => by go_simp⟩) hS2 ?_
          simp only [Act.put, List.setIfInBounds_toArray, List.set_cons_zero, List.set_cons_succ]
          refine wpAnyH_take (i := 14) (oi := ⟨some 99, _, _, _, _, _⟩) (v := .bool false) rfl (by kernel_rfl) (by kernel_rfl) (by kernel_rfl) (fun _ _ _ h => h) (.inl ⟨by kernel_rfl, fun V hS => by go_simp⟩) hS2 ?_
          simp only [Act.put, List.setIfInBounds_toArray, List.set_cons_zero, List.set_cons_succ]
          refine wpAnyH_take (i := 15) (oi := ⟨some 100, _, _, _, _, _⟩) (v := .slice vA rn vc) rfl (by kernel_rfl) (by kernel_rfl) (by kernel_rfl) (fun _ _ _ h => h) (.inl ⟨by kernel_rfl, fun V hS => by go_simp⟩) hS2 ?_
          simp only [Act.put, List.setIfInBounds_toArray, List.set_cons_zero, List.set_cons_succ]
          refine wpAnyH_take (i := 16) (oi := ⟨some 101, _, _, _, _, _⟩) (v := .int .i64 (rn : Int)) rfl (by kernel_rfl) (by kernel_rfl) (by kernel_rfl) (fun _ _ _ h => h) (.inl ⟨by kernel_rfl, fun V hS => by go_simp⟩) hS2 ?_
          simp only [Act.put, List.setIfInBounds_toArray, List.set_cons_zero, List.set_cons_succ]
          refine wpAnyH_take (i := 17) (oi := ⟨some 102, _, _, _, _, _⟩) (v := .bool false) rfl (by kernel_rfl) (by kernel_rfl) (by kernel_rfl) (fun _ _ _ h => h) (.inl ⟨by kernel_rfl, fun V hS => by go_simp⟩) hS2 ?_
          simp only [Act.put, List.setIfInBounds_toArray, List.set_cons_zero, List.set_cons_succ]
          refine wpAnyH_take (i := 18) (oi := ⟨some 103, _, _, _, _, _⟩) (v := .bool false) rfl (by kernel_rfl) (by kernel_rfl) (by kernel_rfl) (fun _ _ _ h => h) (.inl ⟨by kernel_rfl, fun V hS => by go_simp⟩) hS2 ?_
          simp only [Act.put, List.setIfInBounds_toArray, List.set_cons_zero, List.set_cons_succ]
          refine wpAnyH_take (i := 19) (oi := ⟨some 104, _, _, _, _, _⟩) (v := undef) rfl (by kernel_rfl) (by kernel_rfl) (by kernel_rfl) (fun _ _ _ h => h) (.inr ⟨by kernel_rfl, rfl⟩) hS2 ?_
          simp only [Act.put, List.setIfInBounds_toArray, List.set_cons_zero, List.set_cons_succ]
          refine wpAnyH_take (i := 20) (oi := ⟨some 105, _, _, _, _, _⟩) (v := undef) rfl (by kernel_rfl) (by kernel_rfl) (by kernel_rfl) (fun _ _ _ h => h) (.inr ⟨by kernel_rfl, rfl⟩) hS2 ?_
          simp only [Act.put, List.setIfInBounds_toArray, List.set_cons_zero, List.set_cons_succ]
          refine wpAnyH_take (i := 21) (oi := ⟨some 106, _, _, _, _, _⟩) (v := undef) rfl (by kernel_rfl) (by kernel_rfl) (by kernel_rfl) (fun _ _ _ h => h) (.inr ⟨by kernel_rfl, rfl⟩) hS2 ?_
          simp only [Act.put, List.setIfInBounds_toArray, List.set_cons_zero, List.set_cons_succ]
          refine wpAnyH_take (i := 22) (oi := ⟨some 107, _, _, _, _, _⟩) (v := undef) rfl (by kernel_rfl) (by kernel_rfl) (by kernel_rfl) (fun _ _ _ h => h) (.inr ⟨by kernel_rfl, rfl⟩) hS2 ?_
          simp only [Act.put, List.setIfInBounds_toArray, List.set_cons_zero, List.set_cons_succ]
          refine wpAnyH_take (i := 23) (oi := ⟨some 108, _, _, _, _, _⟩) (v := undef) rfl (by kernel_rfl) (by kernel_rfl) (by kernel_rfl) (fun _ _ _ h => h) (.inr ⟨by kernel_rfl, rfl⟩) hS2 ?_
          simp only [Act.put, List.setIfInBounds_toArray, List.set_cons_zero, List.set_cons_succ]
          refine wpAnyH_take (i := 24) (oi := ⟨some 109, _, _, _, _, _⟩) (v := undef) rfl (by kernel_rfl) (by kernel_rfl) (by kernel_rfl) (fun _ _ _ h => h) (.inr ⟨by kernel_rfl, rfl⟩) hS2 ?_
          simp only [Act.put, List.setIfInBounds_toArray, List.set_cons_zero, List.set_cons_succ]
          refine wpAnyH_take (i := 25) (oi := ⟨some 110, _, _, _, _, _⟩) (v := undef) rfl (by kernel_rfl) (by kernel_rfl) (by kernel_rfl) (fun _ _ _ h => h) (.inr ⟨by kernel_rfl, rfl⟩) hS2 ?_
          simp only [Act.put, List.setIfInBounds_toArray, List.set_cons_zero, List.set_cons_succ]
          refine wpAnyH_take (i := 26) (oi := ⟨some 111, _, _, _, _, _⟩) (v := undef) rfl (by kernel_rfl) (by kernel_rfl) (by kernel_rfl) (fun _ _ _ h => h) (.inr ⟨by kernel_rfl, rfl⟩) hS2 ?_
          simp only [Act.put, List.setIfInBounds_toArray, List.set_cons_zero, List.set_cons_succ]
          refine wpAnyH_take (i := 27) (oi := ⟨some 112, _, _, _, _, _⟩) (v := .bool false) rfl (by kernel_rfl) (by kernel_rfl) (by kernel_rfl) (fun _ _ _ h => h) (.inl ⟨by kernel_rfl, fun V hS => by go_simp⟩) hS2 ?_
          simp only [Act.put, List.setIfInBounds_toArray, List.set_cons_zero, List.set_cons_succ]
          refine wpAnyH_take (i := 28) (oi := ⟨some 113, _, _, _, _, _⟩) (v := .bool false) rfl (by kernel_rfl) (by kernel_rfl) (by kernel_rfl) (fun _ _ _ h => h) (.inl ⟨by kernel_rfl, fun V hS => by go_simp⟩) hS2 ?_
          simp only [Act.put, List.setIfInBounds_toArray, List.set_cons_zero, List.set_cons_succ]
          refine wpAnyH_take (i := 29) (oi := ⟨some 114, _, _, _, _, _⟩) (v := .bool false) rfl (by kernel_rfl) (by kernel_rfl) (by kernel_rfl) (fun _ _ _ h => h) (.inl ⟨by kernel_rfl, fun V hS => by go_simp⟩) hS2 ?_
          simp only [Act.put, List.setIfInBounds_toArray, List.set_cons_zero, List.set_cons_succ]
          refine wpAnyH_take (i := 30) (oi := ⟨some 115, _, _, _, _, _⟩) (v := .pointer (some ⟨LB, 0, none⟩)) rfl (by kernel_rfl) (by kernel_rfl) (by kernel_rfl) (fun _ _ _ h => h) (.inl ⟨by kernel_rfl, fun V hS => by go_simp⟩) hS2 ?_
          simp only [Act.put, List.setIfInBounds_toArray, List.set_cons_zero, List.set_cons_succ]
          refine wpAnyH_take (i := 31) (oi := ⟨some 116, _, _, _, _, _⟩) (v := .pointer (some ⟨LB, 0, none⟩)) rfl (by kernel_rfl) (by kernel_rfl) (by kernel_rfl) (fun _ _ _ h => h) (.inl ⟨by kernel_rfl, fun V hS => by go_simp⟩) hS2 ?_
          simp only [Act.put, List.setIfInBounds_toArray, List.set_cons_zero, List.set_cons_succ]
          refine wpAnyH_take (i := 32) (oi := ⟨some 117, _, _, _, _, _⟩) (v := .pointer (some ⟨LB, 2, none⟩)) rfl (by kernel_rfl) (by kernel_rfl) (by kernel_rfl) (fun _ _ _ h => h) (.inl ⟨by kernel_rfl, fun V hS => by go_simp⟩) hS2 ?_
          simp only [Act.put, List.setIfInBounds_toArray, List.set_cons_zero, List.set_cons_succ]
          refine wpAnyH_take (i := 33) (oi := ⟨some 118, _, _, _, _, _⟩) (v := .slice kA nn kc) rfl (by kernel_rfl) (by kernel_rfl) (by kernel_rfl) (fun _ _ _ h => h) (.inl ⟨by kernel_rfl, fun V hS => by have sc := hS.2.2.cell 2; simp at sc; go_simp⟩) hS2 ?_
          simp only [Act.put, List.setIfInBounds_toArray, List.set_cons_zero, List.set_cons_succ]
          refine wpAnyH_take (i := 34) (oi := ⟨some 119, _, _, _, _, _⟩) (v := .int .i64 (nn : Int)) rfl (by kernel_rfl) (by kernel_rfl) (by kernel_rfl) (fun _ _ _ h => h) (.inl ⟨by kernel_rfl, fun V hS => by go_simp⟩) hS2 ?_
          simp only [Act.put, List.setIfInBounds_toArray, List.set_cons_zero, List.set_cons_succ]
          refine wpAnyH_take (i := 35) (oi := ⟨some 120, _, _, _, _, _⟩) (v := .pointer (some ⟨LB, 0, none⟩)) rfl (by kernel_rfl) (by kernel_rfl) (by kernel_rfl) (fun _ _ _ h => h) (.inl ⟨by kernel_rfl, fun V hS => by go_simp⟩) hS2 ?_
          simp only [Act.put, List.setIfInBounds_toArray, List.set_cons_zero, List.set_cons_succ]
          refine wpAnyH_take (i := 36) (oi := ⟨some 121, _, _, _, _, _⟩) (v := .pointer (some ⟨LB, 0, none⟩)) rfl (by kernel_rfl) (by kernel_rfl) (by kernel_rfl) (fun _ _ _ h => h) (.inl ⟨by kernel_rfl, fun V hS => by go_simp⟩) hS2 ?_
          simp only [Act.put, List.setIfInBounds_toArray, List.set_cons_zero, List.set_cons_succ]
          refine wpAnyH_take (i := 37) (oi := ⟨some 122, _, _, _, _, _⟩) (v := .pointer (some ⟨LB, 1, none⟩)) rfl (by kernel_rfl) (by kernel_rfl) (by kernel_rfl) (fun _ _ _ h => h) (.inl ⟨by kernel_rfl, fun V hS => by go_simp⟩) hS2 ?_
          simp only [Act.put, List.setIfInBounds_toArray, List.set_cons_zero, List.set_cons_succ]
          refine wpAnyH_take (i := 38) (oi := ⟨some 123, _, _, _, _, _⟩) (v := .slice nA nn nc) rfl (by kernel_rfl) (by kernel_rfl) (by kernel_rfl) (fun _ _ _ h => h) (.inl ⟨by kernel_rfl, fun V hS => by have sc := hS.2.2.cell 1; simp at sc; go_simp⟩) hS2 ?_
          simp only [Act.put, List.setIfInBounds_toArray, List.set_cons_zero, List.set_cons_succ]
          refine wpAnyH_take (i := 39) (oi := ⟨some 124, _, _, _, _, _⟩) (v := .int .i64 (nn : Int)) rfl (by kernel_rfl) (by kernel_rfl) (by kernel_rfl) (fun _ _ _ h => h) (.inl ⟨by kernel_rfl, fun V hS => by go_simp⟩) hS2 ?_
          simp only [Act.put, List.setIfInBounds_toArray, List.set_cons_zero, List.set_cons_succ]
          refine wpAnyH_take (i := 40) (oi := ⟨some 125, _, _, _, _, _⟩) (v := .bool false) rfl (by kernel_rfl) (by kernel_rfl) (by kernel_rfl) (fun _ _ _ h => h) (.inl ⟨by kernel_rfl, fun V hS => by go_simp⟩) hS2 ?_
          simp only [Act.put, List.setIfInBounds_toArray, List.set_cons_zero, List.set_cons_succ]
          refine wpAnyH_take (i := 41) (oi := ⟨some 126, _, _, _, _, _⟩) (v := .bool false) rfl (by kernel_rfl) (by kernel_rfl) (by kernel_rfl) (fun _ _ _ h => h) (.inl ⟨by kernel_rfl, fun V hS => by go_simp⟩) hS2 ?_
          simp only [Act.put, List.setIfInBounds_toArray, List.set_cons_zero, List.set_cons_succ]
          refine wpAnyH_done (by kernel_rfl) ?_ _
          clear p1 p1' p1'' HS0
          go_wp2
          exact HTL.out _ _ LB nA nc kb kA kc nn V.tail R'.ask rfl rfl rfl rfl rfl HG.out (HLD8.out.bel HBX.out) hnn9 (HB8.out.trans (HBX.out.mono HB8.out.size)) (HKW8.out.below HBX.out HKW8.out.lt) HASK.out
        · obtain ⟨bB, hbB⟩ : ∃ bB, vB = some ⟨bB, 0, none⟩ := by
            obtain ⟨_, _, e, _, _, hr, ha⟩ := OG.form HOH8.out
            cases e
            cases hvB : vB with
            | none =>
              obtain ⟨ad, e, _⟩ := hr.2 (by have := HRN.out; omega)
              rw [hvB] at e; cases e
            | some ad =>
              obtain ⟨_, _, g3, g4, _⟩ := ha ad hvB
              obtain ⟨b, o, sp⟩ := ad
              simp only at g3 g4
              subst g3; subst g4
              exact ⟨b, rfl⟩
          subst hbB
          have HSW2 := Lib.hid (SS.tail1 (og_ss HOH8.out))
          obtain ⟨oT, hoT, hoT1, hoT2⟩ : ∃ oT, SS w8 (some ⟨bB, oT, none⟩) R.vis.tail ∧ (vd = 1 → oT = 0) ∧ (vd ≠ 1 → oT = 1) := by
            by_cases h1 : vd = 1
            · refine ⟨0, ?_, fun _ => rfl, fun h => absurd h1 h⟩
              have h2 : R.vis.tail = [] := List.eq_nil_of_length_eq_zero (by rw [List.length_tail]; have := HRN.out; omega)
              rw [h2]
              exact Reads.none_
            · exact ⟨1, HSW2.out, fun h => absurd h h1, fun _ => rfl⟩
          have HST1 := Lib.hid hoT
          have HSM2 : Hid (∀ w, Below w8.heap.size w8 w → Calls Tryz.prog 11 #[.slice nA nn nc, .slice (some ⟨bB, oT, none⟩) (rn - 1) (vd - 1)] w fun e w' => PF (BoP true w) e w') := Lib.hid (fun w hb => by
            have h1 := (HLD8.out.bel hb).ns
            have hV := HTAIL.out (by omega)
            have h2 := rsameTexts_any nA (some ⟨bB, oT, none⟩) nn nc (rn - 1) (vd - 1) V.tail R.vis.tail w h1 (HST1.out.below hb) (HLD8.out.nl) (by rw [List.length_tail, ← HRN.out]) (by omega) (by omega)
            rw [show decide (V.tail = R.vis.tail) = true from decide_eq_true hV] at h2
            exact h2)
          have p1 : decide ((rn : Int) > 0) = true := by rw [decide_eq_true_iff]; omega
          have p1' : decide ((0 : Int) < (rn : Int)) = true := by rw [decide_eq_true_iff]; omega
          have p1'' : decide (0 < rn) = true := by rw [decide_eq_true_iff]; omega
          have k0 : (1 : Int) ≤ (rn : Int) := by omega
          have k1 : 1 ≤ rn := by omega
          have k2 : rn ≤ vd := hcapB.1
          have k3 : 1 ≤ vd := by omega
          clear h0 hoT
          go_wp2_with fail
          by_cases hv1 : vd = 1
          · have e1 := hoT1 hv1
            have hr1 : rn = 1 := by omega
            subst e1
            subst hr1
            subst hv1
            clear hoT1 hoT2
            refine wp_region_held_drew (S := fun V => Blk V B10 31 #[.string cx.p, .int .i64 cx.n, .string cx.h] ∧ Blk V B13 31 #[.string cx.p, .int .i64 cx.n, .string cx.h] ∧ Blk V LB 41 #[.slice A n c, .slice nA nn nc, .slice kA nn kc, .int .i64 stop]) (by kernel_rfl) (HS0.out) (fun hS1 => ?_)
            obtain ⟨WD, hWD⟩ : ∃ WD, WD = w8.drew := ⟨_, rfl⟩
            rw [← hWD] at hS1 ⊢
            have HBD : Hid (Below w8.heap.size w8 WD) := Lib.hid (by rw [hWD]; exact (Below.refl _ _).drew)
            clear hWD
            refine wpAnyH_take (i := 0) (oi := ⟨some 85, _, _, _, _, _⟩) (v := .agg #[.string cx.p, .int .i64 cx.n, .string cx.h]) rfl (by kernel_rfl) (by kernel_rfl) (by kernel_rfl) (fun _ _ _ h => h) (.inl ⟨by kernel_rfl, fun V hS => by have h0 := hS.1.cell 0; have h1 := hS.1.cell 1; have h2 := hS.1.cell 2; simp at h0 h1 h2; go_simp⟩) hS1 ?_
            simp only [Act.put, List.setIfInBounds_toArray, List.set_cons_zero, List.set_cons_succ]
            refine wpAnyH_take (i := 1) (oi := ⟨some 86, _, _, _, _, _⟩) (v := .agg #[.string cx.p, .int .i64 cx.n, .string cx.h]) rfl (by kernel_rfl) (by kernel_rfl) (by kernel_rfl) (fun _ _ _ h => h) (.inl ⟨by kernel_rfl, fun V hS => by have h0 := hS.2.1.cell 0; have h1 := hS.2.1.cell 1; have h2 := hS.2.1.cell 2; simp at h0 h1 h2; go_simp⟩) hS1 ?_
            simp only [Act.put, List.setIfInBounds_toArray, List.set_cons_zero, List.set_cons_succ]
            refine wpAnyH_take (i := 2) (oi := ⟨some 87, _, _, _, _, _⟩) (v := .bool false) rfl (by kernel_rfl) (by kernel_rfl) (by kernel_rfl) (fun _ _ _ h => h) (.inl ⟨by kernel_rfl, fun V hS => by go_simp⟩) hS1 ?_
            simp only [Act.put, List.setIfInBounds_toArray, List.set_cons_zero, List.set_cons_succ]
            refine wpAnyH_take (i := 3) (oi := ⟨some 88, _, _, _, _, _⟩) (v := .bool false) rfl (by kernel_rfl) (by kernel_rfl) (by kernel_rfl) (fun _ _ _ h => h) (.inl ⟨by kernel_rfl, fun V hS => by go_simp⟩) hS1 ?_
            simp only [Act.put, List.setIfInBounds_toArray, List.set_cons_zero, List.set_cons_succ]
            refine wpAnyH_take (i := 4) (oi := ⟨some 89, _, _, _, _, _⟩) (v := .slice vA 1 vc) rfl (by kernel_rfl) (by kernel_rfl) (by kernel_rfl) (fun _ _ _ h => h) (.inl ⟨by kernel_rfl, fun V hS => by go_simp⟩) hS1 ?_
            simp only [Act.put, List.setIfInBounds_toArray, List.set_cons_zero, List.set_cons_succ]
            refine wpAnyH_take (i := 5) (oi := ⟨some 90, _, _, _, _, _⟩) (v := .slice (some ⟨bB, 0, none⟩) 1 1) rfl (by kernel_rfl) (by kernel_rfl) (by kernel_rfl) (fun _ _ _ h => h) (.inl ⟨by kernel_rfl, fun V hS => by go_simp⟩) hS1 ?_
            simp only [Act.put, List.setIfInBounds_toArray, List.set_cons_zero, List.set_cons_succ]
            refine wpAnyH_ready (rs := [6]) (by kernel_rfl) (by simp) ?_
            refine AllReadyH.cons rfl (fun K' hK => ?_) AllReadyH.nil
            go_simp
            refine (HSM1.out WD HBD.out).mono ?_
            rintro e wX ⟨rfl, hbX⟩
            have HBX := Lib.hid (HBD.out.trans (hbX.mono HBD.out.size))
            refine hK.out _ _ (⟨(hS1).1.below hbX (hS1).1.lt, (hS1).2.1.below hbX (hS1).2.1.lt, (hS1).2.2.below hbX (hS1).2.2.lt⟩) (fun hS2 => ?_)
            clear hK K' hS1
            refine wpAnyH_take (i := 7) (oi := ⟨some 92, _, _, _, _, _⟩) (v := .bool false) rfl (by kernel_rfl) (by kernel_rfl) (by kernel_rfl) (fun _ _ _ h => h) (.inl ⟨by kernel_rfl, fun V hS => by go_simp⟩) hS2 ?_
            simp only [Act.put, List.setIfInBounds_toArray, List.set_cons_zero, List.set_cons_succ]
            refine wpAnyH_take (i := 8) (oi := ⟨some 93, _, _, _, _, _⟩) (v := .bool false) rfl (by kernel_rfl) (by kernel_rfl) (by kernel_rfl) (fun _ _ _ h => h) (.inl ⟨by kernel_rfl, fun V hS => by go_simp⟩) hS2 ?_
            simp only [Act.put, List.setIfInBounds_toArray, List.set_cons_zero, List.set_cons_succ]
            refine wpAnyH_take (i := 9) (oi := ⟨some 94, _, _, _, _, _⟩) (v := .bool false) rfl (by kernel_rfl) (by kernel_rfl) (by kernel_rfl) (fun _ _ _ h => h) (.inl ⟨by kernel_rfl, fun V hS => by go_simp⟩) hS2 ?_
            simp only [Act.put, List.setIfInBounds_toArray, List.set_cons_zero, List.set_cons_succ]
            refine wpAnyH_take (i := 10) (oi := ⟨some 95, _, _, _, _, _⟩) (v := .int .i64 R.e) rfl (by kernel_rfl) (by kernel_rfl) (by kernel_rfl) (fun _ _ _ h => h) (.inl ⟨by kernel_rfl, fun V hS => by go_simp⟩) hS2 ?_
            simp only [Act.put, List.setIfInBounds_toArray, List.set_cons_zero, List.set_cons_succ]
            refine wpAnyH_take (i := 11) (oi := ⟨some 96, _, _, _, _, _⟩) (v := .int .i64 R.e) rfl (by kernel_rfl) (by kernel_rfl) (by kernel_rfl) (fun _ _ _ h => h) (.inl ⟨by kernel_rfl, fun V hS => by go_simp⟩) hS2 ?_
            simp only [Act.put, List.setIfInBounds_toArray, List.set_cons_zero, List.set_cons_succ]
            refine wpAnyH_take (i := 12) (oi := ⟨some 97, _, _, _, _, _⟩) (v := .bool false) rfl (by kernel_rfl) (by kernel_rfl) (by kernel_rfl) (fun _ _ _ h => h) (.inl ⟨by kernel_rfl, fun V hS => by go_simp⟩) hS2 ?_
            simp only [Act.put, List.setIfInBounds_toArray, List.set_cons_zero, List.set_cons_succ]
            refine wpAnyH_take (i := 13) (oi := ⟨some 98, _, _, _, _, _⟩) (v := .bool false) rfl (by kernel_rfl) (by kernel_rfl) (by kernel_rfl) (fun _ _ _ h => h) (.inl ⟨by kernel_rfl, fun V hS => by go_simp⟩) hS2 ?_
            simp only [Act.put, List.setIfInBounds_toArray, List.set_cons_zero, List.set_cons_succ]
            refine wpAnyH_take (i := 14) (oi := ⟨some 99, _, _, _, _, _⟩) (v := .bool false) rfl (by kernel_rfl) (by kernel_rfl) (by kernel_rfl) (fun _ _ _ h => h) (.inl ⟨by kernel_rfl, fun V hS => by go_simp⟩) hS2 ?_
            simp only [Act.put, List.setIfInBounds_toArray, List.set_cons_zero, List.set_cons_succ]
            refine wpAnyH_take (i := 15) (oi := ⟨some 100, _, _, _, _, _⟩) (v := .slice vA 1 vc) rfl (by kernel_rfl) (by kernel_rfl) (by kernel_rfl) (fun _ _ _ h => h) (.inl ⟨by kernel_rfl, fun V hS => by go_simp⟩) hS2 ?_
            simp only [Act.put, List.setIfInBounds_toArray, List.set_cons_zero, List.set_cons_succ]
            refine wpAnyH_take (i := 16) (oi := ⟨some 101, _, _, _, _, _⟩) (v := .int .i64 1) rfl (by kernel_rfl) (by kernel_rfl) (by kernel_rfl) (fun _ _ _ h => h) (.inl ⟨by kernel_rfl, fun V hS => by go_simp⟩) hS2 ?_
            simp only [Act.put, List.setIfInBounds_toArray, List.set_cons_zero, List.set_cons_succ]
            refine wpAnyH_take (i := 17) (oi := ⟨some 102, _, _, _, _, _⟩) (v := .bool true) rfl (by kernel_rfl) (by kernel_rfl) (by kernel_rfl) (fun _ _ _ h => h) (.inl ⟨by kernel_rfl, fun V hS => by go_simp⟩) hS2 ?_
            simp only [Act.put, List.setIfInBounds_toArray, List.set_cons_zero, List.set_cons_succ]
            refine wpAnyH_take (i := 18) (oi := ⟨some 103, _, _, _, _, _⟩) (v := .bool true) rfl (by kernel_rfl) (by kernel_rfl) (by kernel_rfl) (fun _ _ _ h => h) (.inl ⟨by kernel_rfl, fun V hS => by go_simp⟩) hS2 ?_
            simp only [Act.put, List.setIfInBounds_toArray, List.set_cons_zero, List.set_cons_succ]
            refine wpAnyH_take (i := 19) (oi := ⟨some 104, _, _, _, _, _⟩) (v := .pointer (some ⟨LB, 0, none⟩)) rfl (by kernel_rfl) (by kernel_rfl) (by kernel_rfl) (fun _ _ _ h => h) (.inl ⟨by kernel_rfl, fun V hS => by go_simp⟩) hS2 ?_
            simp only [Act.put, List.setIfInBounds_toArray, List.set_cons_zero, List.set_cons_succ]
            refine wpAnyH_take (i := 20) (oi := ⟨some 105, _, _, _, _, _⟩) (v := .pointer (some ⟨LB, 0, none⟩)) rfl (by kernel_rfl) (by kernel_rfl) (by kernel_rfl) (fun _ _ _ h => h) (.inl ⟨by kernel_rfl, fun V hS => by go_simp⟩) hS2 ?_
            simp only [Act.put, List.setIfInBounds_toArray, List.set_cons_zero, List.set_cons_succ]
            refine wpAnyH_take (i := 21) (oi := ⟨some 106, _, _, _, _, _⟩) (v := .pointer (some ⟨LB, 1, none⟩)) rfl (by kernel_rfl) (by kernel_rfl) (by kernel_rfl) (fun _ _ _ h => h) (.inl ⟨by kernel_rfl, fun V hS => by go_simp⟩) hS2 ?_
            simp only [Act.put, List.setIfInBounds_toArray, List.set_cons_zero, List.set_cons_succ]
            refine wpAnyH_take (i := 22) (oi := ⟨some 107, _, _, _, _, _⟩) (v := .slice nA nn nc) rfl (by kernel_rfl) (by kernel_rfl) (by kernel_rfl) (fun _ _ _ h => h) (.inl ⟨by kernel_rfl, fun V hS => by have sc := hS.2.2.cell 1; simp at sc; go_simp⟩) hS2 ?_
            simp only [Act.put, List.setIfInBounds_toArray, List.set_cons_zero, List.set_cons_succ]
            refine wpAnyH_take (i := 23) (oi := ⟨some 108, _, _, _, _, _⟩) (v := .slice (some ⟨bB, 0, none⟩) 1 1) rfl (by kernel_rfl) (by kernel_rfl) (by kernel_rfl) (fun _ _ _ h => h) (.inl ⟨by kernel_rfl, fun V hS => by go_simp⟩) hS2 ?_
            simp only [Act.put, List.setIfInBounds_toArray, List.set_cons_zero, List.set_cons_succ]
            refine wpAnyH_take (i := 24) (oi := ⟨some 109, _, _, _, _, _⟩) (v := .slice (some ⟨bB, 0, none⟩) 0 0) rfl (by kernel_rfl) (by kernel_rfl) (by kernel_rfl) (fun _ _ _ h => h) (.inl ⟨by kernel_rfl, fun V hS => by go_simp⟩) hS2 ?_
            simp only [Act.put, List.setIfInBounds_toArray, List.set_cons_zero, List.set_cons_succ]
            refine wpAnyH_ready (rs := [25]) (by kernel_rfl) (by simp) ?_
            refine AllReadyH.cons rfl (fun K' hK => ?_) AllReadyH.nil
            go_simp
            refine (HSM2.out wX HBX.out).mono ?_
            rintro e wY ⟨rfl, hbY⟩
            have HBY := Lib.hid (HBX.out.trans (hbY.mono HBX.out.size))
            refine hK.out _ _ (⟨(hS2).1.below hbY (hS2).1.lt, (hS2).2.1.below hbY (hS2).2.1.lt, (hS2).2.2.below hbY (hS2).2.2.lt⟩) (fun hS3 => ?_)
            clear hK K' hS2
            refine wpAnyH_take (i := 26) (oi := ⟨some 111, _, _, _, _, _⟩) (v := .bool false) rfl (by kernel_rfl) (by kernel_rfl) (by kernel_rfl) (fun _ _ _ h => h) (.inl ⟨by kernel_rfl, fun V hS => by go_simp⟩) hS3 ?_
            simp only [Act.put, List.setIfInBounds_toArray, List.set_cons_zero, List.set_cons_succ]
            refine wpAnyH_take (i := 27) (oi := ⟨some 112, _, _, _, _, _⟩) (v := .bool false) rfl (by kernel_rfl) (by kernel_rfl) (by kernel_rfl) (fun _ _ _ h => h) (.inl ⟨by kernel_rfl, fun V hS => by go_simp⟩) hS3 ?_
            simp only [Act.put, List.setIfInBounds_toArray, List.set_cons_zero, List.set_cons_succ]
            refine wpAnyH_take (i := 28) (oi := ⟨some 113, _, _, _, _, _⟩) (v := .bool false) rfl (by kernel_rfl) (by kernel_rfl) (by kernel_rfl) (fun _ _ _ h => h) (.inl ⟨by kernel_rfl, fun V hS => by go_simp⟩) hS3 ?_
            simp only [Act.put, List.setIfInBounds_toArray, List.set_cons_zero, List.set_cons_succ]
            refine wpAnyH_take (i := 29) (oi := ⟨some 114, _, _, _, _, _⟩) (v := .bool false) rfl (by kernel_rfl) (by kernel_rfl) (by kernel_rfl) (fun _ _ _ h => h) (.inl ⟨by kernel_rfl, fun V hS => by go_simp⟩) hS3 ?_
            simp only [Act.put, List.setIfInBounds_toArray, List.set_cons_zero, List.set_cons_succ]
            refine wpAnyH_take (i := 30) (oi := ⟨some 115, _, _, _, _, _⟩) (v := .pointer (some ⟨LB, 0, none⟩)) rfl (by kernel_rfl) (by kernel_rfl) (by kernel_rfl) (fun _ _ _ h => h) (.inl ⟨by kernel_rfl, fun V hS => by go_simp⟩) hS3 ?_
            simp only [Act.put, List.setIfInBounds_toArray, List.set_cons_zero, List.set_cons_succ]
            refine wpAnyH_take (i := 31) (oi := ⟨some 116, _, _, _, _, _⟩) (v := .pointer (some ⟨LB, 0, none⟩)) rfl (by kernel_rfl) (by kernel_rfl) (by kernel_rfl) (fun _ _ _ h => h) (.inl ⟨by kernel_rfl, fun V hS => by go_simp⟩) hS3 ?_
            simp only [Act.put, List.setIfInBounds_toArray, List.set_cons_zero, List.set_cons_succ]
            refine wpAnyH_take (i := 32) (oi := ⟨some 117, _, _, _, _, _⟩) (v := .pointer (some ⟨LB, 2, none⟩)) rfl (by kernel_rfl) (by kernel_rfl) (by kernel_rfl) (fun _ _ _ h => h) (.inl ⟨by kernel_rfl, fun V hS => by go_simp⟩) hS3 ?_
            simp only [Act.put, List.setIfInBounds_toArray, List.set_cons_zero, List.set_cons_succ]
            refine wpAnyH_take (i := 33) (oi := ⟨some 118, _, _, _, _, _⟩) (v := .slice kA nn kc) rfl (by kernel_rfl) (by kernel_rfl) (by kernel_rfl) (fun _ _ _ h => h) (.inl ⟨by kernel_rfl, fun V hS => by have sc := hS.2.2.cell 2; simp at sc; go_simp⟩) hS3 ?_
            simp only [Act.put, List.setIfInBounds_toArray, List.set_cons_zero, List.set_cons_succ]
            refine wpAnyH_take (i := 34) (oi := ⟨some 119, _, _, _, _, _⟩) (v := .int .i64 (nn : Int)) rfl (by kernel_rfl) (by kernel_rfl) (by kernel_rfl) (fun _ _ _ h => h) (.inl ⟨by kernel_rfl, fun V hS => by go_simp⟩) hS3 ?_
            simp only [Act.put, List.setIfInBounds_toArray, List.set_cons_zero, List.set_cons_succ]
            refine wpAnyH_take (i := 35) (oi := ⟨some 120, _, _, _, _, _⟩) (v := .pointer (some ⟨LB, 0, none⟩)) rfl (by kernel_rfl) (by kernel_rfl) (by kernel_rfl) (fun _ _ _ h => h) (.inl ⟨by kernel_rfl, fun V hS => by go_simp⟩) hS3 ?_
            simp only [Act.put, List.setIfInBounds_toArray, List.set_cons_zero, List.set_cons_succ]
            refine wpAnyH_take (i := 36) (oi := ⟨some 121, _, _, _, _, _⟩) (v := .pointer (some ⟨LB, 0, none⟩)) rfl (by kernel_rfl) (by kernel_rfl) (by kernel_rfl) (fun _ _ _ h => h) (.inl ⟨by kernel_rfl, fun V hS => by go_simp⟩) hS3 ?_
            simp only [Act.put, List.setIfInBounds_toArray, List.set_cons_zero, List.set_cons_succ]
            refine wpAnyH_take (i := 37) (oi := ⟨some 122, _, _, _, _, _⟩) (v := .pointer (some ⟨LB, 1, none⟩)) rfl (by kernel_rfl) (by kernel_rfl) (by kernel_rfl) (fun _ _ _ h => h) (.inl ⟨by kernel_rfl, fun V hS => by go_simp⟩) hS3 ?_
            simp only [Act.put, List.setIfInBounds_toArray, List.set_cons_zero, List.set_cons_succ]
            refine wpAnyH_take (i := 38) (oi := ⟨some 123, _, _, _, _, _⟩) (v := .slice nA nn nc) rfl (by kernel_rfl) (by kernel_rfl) (by kernel_rfl) (fun _ _ _ h => h) (.inl ⟨by kernel_rfl, fun V hS => by have sc := hS.2.2.cell 1; simp at sc; go_simp⟩) hS3 ?_
            simp only [Act.put, List.setIfInBounds_toArray, List.set_cons_zero, List.set_cons_succ]
            refine wpAnyH_take (i := 39) (oi := ⟨some 124, _, _, _, _, _⟩) (v := .int .i64 (nn : Int)) rfl (by kernel_rfl) (by kernel_rfl) (by kernel_rfl) (fun _ _ _ h => h) (.inl ⟨by kernel_rfl, fun V hS => by go_simp⟩) hS3 ?_
            simp only [Act.put, List.setIfInBounds_toArray, List.set_cons_zero, List.set_cons_succ]
            refine wpAnyH_take (i := 40) (oi := ⟨some 125, _, _, _, _, _⟩) (v := .bool false) rfl (by kernel_rfl) (by kernel_rfl) (by kernel_rfl) (fun _ _ _ h => h) (.inl ⟨by kernel_rfl, fun V hS => by go_simp⟩) hS3 ?_
            simp only [Act.put, List.setIfInBounds_toArray, List.set_cons_zero, List.set_cons_succ]
            refine wpAnyH_take (i := 41) (oi := ⟨some 126, _, _, _, _, _⟩) (v := .bool false) rfl (by kernel_rfl) (by kernel_rfl) (by kernel_rfl) (fun _ _ _ h => h) (.inl ⟨by kernel_rfl, fun V hS => by go_simp⟩) hS3 ?_
            simp only [Act.put, List.setIfInBounds_toArray, List.set_cons_zero, List.set_cons_succ]
            refine wpAnyH_done (by kernel_rfl) ?_ _
            clear p1 p1' p1'' k0 k1 k2 k3  HS0
            go_wp2
            exact HTL.out _ _ LB nA nc kb kA kc nn V.tail R'.ask rfl rfl rfl rfl rfl HG.out (HLD8.out.bel HBY.out) hnn9 (HB8.out.trans (HBY.out.mono HB8.out.size)) (HKW8.out.below HBY.out HKW8.out.lt) HASK.out
          · have e1 := hoT2 hv1
            subst e1
            refine wp_region_held_drew (S := fun V => Blk V B10 31 #[.string cx.p, .int .i64 cx.n, .string cx.h] ∧ Blk V B13 31 #[.string cx.p, .int .i64 cx.n, .string cx.h] ∧ Blk V LB 41 #[.slice A n c, .slice nA nn nc, .slice kA nn kc, .int .i64 stop]) (by kernel_rfl) (HS0.out) (fun hS1 => ?_)
            obtain ⟨WD, hWD⟩ : ∃ WD, WD = w8.drew := ⟨_, rfl⟩
            rw [← hWD] at hS1 ⊢
            have HBD : Hid (Below w8.heap.size w8 WD) := Lib.hid (by rw [hWD]; exact (Below.refl _ _).drew)
            clear hWD
            refine wpAnyH_take (i := 0) (oi := ⟨some 85, _, _, _, _, _⟩) (v := .agg #[.string cx.p, .int .i64 cx.n, .string cx.h]) rfl (by kernel_rfl) (by kernel_rfl) (by kernel_rfl) (fun _ _ _ h => h) (.inl ⟨by kernel_rfl, fun V hS => by have h0 := hS.1.cell 0; have h1 := hS.1.cell 1; have h2 := hS.1.cell 2; simp at h0 h1 h2; go_simp⟩) hS1 ?_
            simp only [Act.put, List.setIfInBounds_toArray, List.set_cons_zero, List.set_cons_succ]
            refine wpAnyH_take (i := 1) (oi := ⟨some 86, _, _, _, _, _⟩) (v := .agg #[.string cx.p, .int .i64 cx.n, .string cx.h]) rfl (by kernel_rfl) (by kernel_rfl) (by kernel_rfl) (fun _ _ _ h => h) (.inl ⟨by kernel_rfl, fun V hS => by have h0 := hS.2.1.cell 0; have h1 := hS.2.1.cell 1; have h2 := hS.2.1.cell 2; simp at h0 h1 h2; go_simp⟩) hS1 ?_
            simp only [Act.put, List.setIfInBounds_toArray, List.set_cons_zero, List.set_cons_succ]
            refine wpAnyH_take (i := 2) (oi := ⟨some 87, _, _, _, _, _⟩) (v := .bool false) rfl (by kernel_rfl) (by kernel_rfl) (by kernel_rfl) (fun _ _ _ h => h) (.inl ⟨by kernel_rfl, fun V hS => by go_simp⟩) hS1 ?_
            simp only [Act.put, List.setIfInBounds_toArray, List.set_cons_zero, List.set_cons_succ]
            refine wpAnyH_take (i := 3) (oi := ⟨some 88, _, _, _, _, _⟩) (v := .bool false) rfl (by kernel_rfl) (by kernel_rfl) (by kernel_rfl) (fun _ _ _ h => h) (.inl ⟨by kernel_rfl, fun V hS => by go_simp⟩) hS1 ?_
            simp only [Act.put, List.setIfInBounds_toArray, List.set_cons_zero, List.set_cons_succ]
            refine wpAnyH_take (i := 4) (oi := ⟨some 89, _, _, _, _, _⟩) (v := .slice vA rn vc) rfl (by kernel_rfl) (by kernel_rfl) (by kernel_rfl) (fun _ _ _ h => h) (.inl ⟨by kernel_rfl, fun V hS => by go_simp⟩) hS1 ?_
            simp only [Act.put, List.setIfInBounds_toArray, List.set_cons_zero, List.set_cons_succ]
            refine wpAnyH_take (i := 5) (oi := ⟨some 90, _, _, _, _, _⟩) (v := .slice (some ⟨bB, 0, none⟩) rn vd) rfl (by kernel_rfl) (by kernel_rfl) (by kernel_rfl) (fun _ _ _ h => h) (.inl ⟨by kernel_rfl, fun V hS => by go_simp⟩) hS1 ?_
            simp only [Act.put, List.setIfInBounds_toArray, List.set_cons_zero, List.set_cons_succ]
            refine wpAnyH_ready (rs := [6]) (by kernel_rfl) (by simp) ?_
            refine AllReadyH.cons rfl (fun K' hK => ?_) AllReadyH.nil
            go_simp
            refine (HSM1.out WD HBD.out).mono ?_
            rintro e wX ⟨rfl, hbX⟩
            have HBX := Lib.hid (HBD.out.trans (hbX.mono HBD.out.size))
            refine hK.out _ _ (⟨(hS1).1.below hbX (hS1).1.lt, (hS1).2.1.below hbX (hS1).2.1.lt, (hS1).2.2.below hbX (hS1).2.2.lt⟩) (fun hS2 => ?_)
            clear hK K' hS1
            refine wpAnyH_take (i := 7) (oi := ⟨some 92, _, _, _, _, _⟩) (v := .bool false) rfl (by kernel_rfl) (by kernel_rfl) (by kernel_rfl) (fun _ _ _ h => h) (.inl ⟨by kernel_rfl, fun V hS => by go_simp⟩) hS2 ?_
            simp only [Act.put, List.setIfInBounds_toArray, List.set_cons_zero, List.set_cons_succ]
            refine wpAnyH_take (i := 8) (oi := ⟨some 93, _, _, _, _, _⟩) (v := .bool false) rfl (by kernel_rfl) (by kernel_rfl) (by kernel_rfl) (fun _ _ _ h => h) (.inl ⟨by kernel_rfl, fun V hS => by go_simp⟩) hS2 ?_
            simp only [Act.put, List.setIfInBounds_toArray, List.set_cons_zero, List.set_cons_succ]
            refine wpAnyH_take (i := 9) (oi := ⟨some 94, _, _, _, _, _⟩) (v := .bool false) rfl (by kernel_rfl) (by kernel_rfl) (by kernel_rfl) (fun _ _ _ h => h) (.inl ⟨by kernel_rfl, fun V hS => by go_simp⟩) hS2 ?_
            simp only [Act.put, List.setIfInBounds_toArray, List.set_cons_zero, List.set_cons_succ]
            refine wpAnyH_take (i := 10) (oi := ⟨some 95, _, _, _, _, _⟩) (v := .int .i64 R.e) rfl (by kernel_rfl) (by kernel_rfl) (by kernel_rfl) (fun _ _ _ h => h) (.inl ⟨by kernel_rfl, fun V hS => by go_simp⟩) hS2 ?_
            simp only [Act.put, List.setIfInBounds_toArray, List.set_cons_zero, List.set_cons_succ]
            refine wpAnyH_take (i := 11) (oi := ⟨some 96, _, _, _, _, _⟩) (v := .int .i64 R.e) rfl (by kernel_rfl) (by kernel_rfl) (by kernel_rfl) (fun _ _ _ h => h) (.inl ⟨by kernel_rfl, fun V hS => by go_simp⟩) hS2 ?_
            simp only [Act.put, List.setIfInBounds_toArray, List.set_cons_zero, List.set_cons_succ]
            refine wpAnyH_take (i := 12) (oi := ⟨some 97, _, _, _, _, _⟩) (v := .bool false) rfl (by kernel_rfl) (by kernel_rfl) (by kernel_rfl) (fun _ _ _ h => h) (.inl ⟨by kernel_rfl, fun V hS => by go_simp⟩) hS2 ?_
            simp only [Act.put, List.setIfInBounds_toArray, List.set_cons_zero, List.set_cons_succ]
            refine wpAnyH_take (i := 13) (oi := ⟨some 98, _, _, _, _, _⟩) (v := .bool false) rfl (by kernel_rfl) (by kernel_rfl) (by kernel_rfl) (fun _ _ _ h => h) (.inl ⟨by kernel_rfl, fun V hS => by go_simp⟩) hS2 ?_
            simp only [Act.put, List.setIfInBounds_toArray, List.set_cons_zero, List.set_cons_succ]
            refine wpAnyH_take (i := 14) (oi := ⟨some 99, _, _, _, _, _⟩) (v := .bool false) rfl (by kernel_rfl) (by kernel_rfl) (by kernel_rfl) (fun _ _ _ h => h) (.inl ⟨by kernel_rfl, fun V hS => by go_simp⟩) hS2 ?_
            simp only [Act.put, List.setIfInBounds_toArray, List.set_cons_zero, List.set_cons_succ]
            refine wpAnyH_take (i := 15) (oi := ⟨some 100, _, _, _, _, _⟩) (v := .slice vA rn vc) rfl (by kernel_rfl) (by kernel_rfl) (by kernel_rfl) (fun _ _ _ h => h) (.inl ⟨by kernel_rfl, fun V hS => by go_simp⟩) hS2 ?_
            simp only [Act.put, List.setIfInBounds_toArray, List.set_cons_zero, List.set_cons_succ]
            refine wpAnyH_take (i := 16) (oi := ⟨some 101, _, _, _, _, _⟩) (v := .int .i64 (rn : Int)) rfl (by kernel_rfl) (by kernel_rfl) (by kernel_rfl) (fun _ _ _ h => h) (.inl ⟨by kernel_rfl, fun V hS => by go_simp⟩) hS2 ?_
            simp only [Act.put, List.setIfInBounds_toArray, List.set_cons_zero, List.set_cons_succ]
            refine wpAnyH_take (i := 17) (oi := ⟨some 102, _, _, _, _, _⟩) (v := .bool true) rfl (by kernel_rfl) (by kernel_rfl) (by kernel_rfl) (fun _ _ _ h => h) (.inl ⟨by kernel_rfl, fun V hS => by go_simp⟩) hS2 ?_
            simp only [Act.put, List.setIfInBounds_toArray, List.set_cons_zero, List.set_cons_succ]
            refine wpAnyH_take (i := 18) (oi := ⟨some 103, _, _, _, _, _⟩) (v := .bool true) rfl (by kernel_rfl) (by kernel_rfl) (by kernel_rfl) (fun _ _ _ h => h) (.inl ⟨by kernel_rfl, fun V hS => by go_simp⟩) hS2 ?_
            simp only [Act.put, List.setIfInBounds_toArray, List.set_cons_zero, List.set_cons_succ]
            refine wpAnyH_take (i := 19) (oi := ⟨some 104, _, _, _, _, _⟩) (v := .pointer (some ⟨LB, 0, none⟩)) rfl (by kernel_rfl) (by kernel_rfl) (by kernel_rfl) (fun _ _ _ h => h) (.inl ⟨by kernel_rfl, fun V hS => by go_simp⟩) hS2 ?_
            simp only [Act.put, List.setIfInBounds_toArray, List.set_cons_zero, List.set_cons_succ]
            refine wpAnyH_take (i := 20) (oi := ⟨some 105, _, _, _, _, _⟩) (v := .pointer (some ⟨LB, 0, none⟩)) rfl (by kernel_rfl) (by kernel_rfl) (by kernel_rfl) (fun _ _ _ h => h) (.inl ⟨by kernel_rfl, fun V hS => by go_simp⟩) hS2 ?_
            simp only [Act.put, List.setIfInBounds_toArray, List.set_cons_zero, List.set_cons_succ]
            refine wpAnyH_take (i := 21) (oi := ⟨some 106, _, _, _, _, _⟩) (v := .pointer (some ⟨LB, 1, none⟩)) rfl (by kernel_rfl) (by kernel_rfl) (by kernel_rfl) (fun _ _ _ h => h) (.inl ⟨by kernel_rfl, fun V hS => by go_simp⟩) hS2 ?_
            simp only [Act.put, List.setIfInBounds_toArray, List.set_cons_zero, List.set_cons_succ]
            refine wpAnyH_take (i := 22) (oi := ⟨some 107, _, _, _, _, _⟩) (v := .slice nA nn nc) rfl (by kernel_rfl) (by kernel_rfl) (by kernel_rfl) (fun _ _ _ h => h) (.inl ⟨by kernel_rfl, fun V hS => by have sc := hS.2.2.cell 1; simp at sc; go_simp⟩) hS2 ?_
            simp only [Act.put, List.setIfInBounds_toArray, List.set_cons_zero, List.set_cons_succ]
            refine wpAnyH_take (i := 23) (oi := ⟨some 108, _, _, _, _, _⟩) (v := .slice (some ⟨bB, 0, none⟩) rn vd) rfl (by kernel_rfl) (by kernel_rfl) (by kernel_rfl) (fun _ _ _ h => h) (.inl ⟨by kernel_rfl, fun V hS => by go_simp⟩) hS2 ?_
            simp only [Act.put, List.setIfInBounds_toArray, List.set_cons_zero, List.set_cons_succ]
            refine wpAnyH_take (i := 24) (oi := ⟨some 109, _, _, _, _, _⟩) (v := .slice (some ⟨bB, 1, none⟩) (rn - 1) (vd - 1)) rfl (by kernel_rfl) (by kernel_rfl) (by kernel_rfl) (fun _ _ _ h => h) (.inl ⟨by kernel_rfl, fun V hS => by go_simp⟩) hS2 ?_
            simp only [Act.put, List.setIfInBounds_toArray, List.set_cons_zero, List.set_cons_succ]
            refine wpAnyH_ready (rs := [25]) (by kernel_rfl) (by simp) ?_
            refine AllReadyH.cons rfl (fun K' hK => ?_) AllReadyH.nil
            go_simp
            refine (HSM2.out wX HBX.out).mono ?_
            rintro e wY ⟨rfl, hbY⟩
            have HBY := Lib.hid (HBX.out.trans (hbY.mono HBX.out.size))
            refine hK.out _ _ (⟨(hS2).1.below hbY (hS2).1.lt, (hS2).2.1.below hbY (hS2).2.1.lt, (hS2).2.2.below hbY (hS2).2.2.lt⟩) (fun hS3 => ?_)
            clear hK K' hS2
            refine wpAnyH_take (i := 26) (oi := ⟨some 111, _, _, _, _, _⟩) (v := .bool false) rfl (by kernel_rfl) (by kernel_rfl) (by kernel_rfl) (fun _ _ _ h => h) (.inl ⟨by kernel_rfl, fun V hS => by go_simp⟩) hS3 ?_
            simp only [Act.put, List.setIfInBounds_toArray, List.set_cons_zero, List.set_cons_succ]
            refine wpAnyH_take (i := 27) (oi := ⟨some 112, _, _, _, _, _⟩) (v := .bool false) rfl (by kernel_rfl) (by kernel_rfl) (by kernel_rfl) (fun _ _ _ h => h) (.inl ⟨by kernel_rfl, fun V hS => by go_simp⟩) hS3 ?_
            simp only [Act.put, List.setIfInBounds_toArray, List.set_cons_zero, List.set_cons_succ]
            refine wpAnyH_take (i := 28) (oi := ⟨some 113, _, _, _, _, _⟩) (v := .bool false) rfl (by kernel_rfl) (by kernel_rfl) (by kernel_rfl) (fun _ _ _ h => h) (.inl ⟨by kernel_rfl, fun V hS => by go_simp⟩) hS3 ?_
            simp only [Act.put, List.setIfInBounds_toArray, List.set_cons_zero, List.set_cons_succ]
            refine wpAnyH_take (i := 29) (oi := ⟨some 114, _, _, _, _, _⟩) (v := .bool false) rfl (by kernel_rfl) (by kernel_rfl) (by kernel_rfl) (fun _ _ _ h => h) (.inl ⟨by kernel_rfl, fun V hS => by go_simp⟩) hS3 ?_
            simp only [Act.put, List.setIfInBounds_toArray, List.set_cons_zero, List.set_cons_succ]
            refine wpAnyH_take (i := 30) (oi := ⟨some 115, _, _, _, _, _⟩) (v := .pointer (some ⟨LB, 0, none⟩)) rfl (by kernel_rfl) (by kernel_rfl) (by kernel_rfl) (fun _ _ _ h => h) (.inl ⟨by kernel_rfl, fun V hS => by go_simp⟩) hS3 ?_
            simp only [Act.put, List.setIfInBounds_toArray, List.set_cons_zero, List.set_cons_succ]
            refine wpAnyH_take (i := 31) (oi := ⟨some 116, _, _, _, _, _⟩) (v := .pointer (some ⟨LB, 0, none⟩)) rfl (by kernel_rfl) (by kernel_rfl) (by kernel_rfl) (fun _ _ _ h => h) (.inl ⟨by kernel_rfl, fun V hS => by go_simp⟩) hS3 ?_
            simp only [Act.put, List.setIfInBounds_toArray, List.set_cons_zero, List.set_cons_succ]
            refine wpAnyH_take (i := 32) (oi := ⟨some 117, _, _, _, _, _⟩) (v := .pointer (some ⟨LB, 2, none⟩)) rfl (by kernel_rfl) (by kernel_rfl) (by kernel_rfl) (fun _ _ _ h => h) (.inl ⟨by kernel_rfl, fun V hS => by go_simp⟩) hS3 ?_
            simp only [Act.put, List.setIfInBounds_toArray, List.set_cons_zero, List.set_cons_succ]
            refine wpAnyH_take (i := 33) (oi := ⟨some 118, _, _, _, _, _⟩) (v := .slice kA nn kc) rfl (by kernel_rfl) (by kernel_rfl) (by kernel_rfl) (fun _ _ _ h => h) (.inl ⟨by kernel_rfl, fun V hS => by have sc := hS.2.2.cell 2; simp at sc; go_simp⟩) hS3 ?_
            simp only [Act.put, List.setIfInBounds_toArray, List.set_cons_zero, List.set_cons_succ]
            refine wpAnyH_take (i := 34) (oi := ⟨some 119, _, _, _, _, _⟩) (v := .int .i64 (nn : Int)) rfl (by kernel_rfl) (by kernel_rfl) (by kernel_rfl) (fun _ _ _ h => h) (.inl ⟨by kernel_rfl, fun V hS => by go_simp⟩) hS3 ?_
            simp only [Act.put, List.setIfInBounds_toArray, List.set_cons_zero, List.set_cons_succ]
            refine wpAnyH_take (i := 35) (oi := ⟨some 120, _, _, _, _, _⟩) (v := .pointer (some ⟨LB, 0, none⟩)) rfl (by kernel_rfl) (by kernel_rfl) (by kernel_rfl) (fun _ _ _ h => h) (.inl ⟨by kernel_rfl, fun V hS => by go_simp⟩) hS3 ?_
            simp only [Act.put, List.setIfInBounds_toArray, List.set_cons_zero, List.set_cons_succ]
            refine wpAnyH_take (i := 36) (oi := ⟨some 121, _, _, _, _, _⟩) (v := .pointer (some ⟨LB, 0, none⟩)) rfl (by kernel_rfl) (by kernel_rfl) (by kernel_rfl) (fun _ _ _ h => h) (.inl ⟨by kernel_rfl, fun V hS => by go_simp⟩) hS3 ?_
            simp only [Act.put, List.setIfInBounds_toArray, List.set_cons_zero, List.set_cons_succ]
            refine wpAnyH_take (i := 37) (oi := ⟨some 122, _, _, _, _, _⟩) (v := .pointer (some ⟨LB, 1, none⟩)) rfl (by kernel_rfl) (by kernel_rfl) (by kernel_rfl) (fun _ _ _ h => h) (.inl ⟨by kernel_rfl, fun V hS => by go_simp⟩) hS3 ?_
            simp only [Act.put, List.setIfInBounds_toArray, List.set_cons_zero, List.set_cons_succ]
            refine wpAnyH_take (i := 38) (oi := ⟨some 123, _, _, _, _, _⟩) (v := .slice nA nn nc) rfl (by kernel_rfl) (by kernel_rfl) (by kernel_rfl) (fun _ _ _ h => h) (.inl ⟨by kernel_rfl, fun V hS => by have sc := hS.2.2.cell 1; simp at sc; go_simp⟩) hS3 ?_
            simp only [Act.put, List.setIfInBounds_toArray, List.set_cons_zero, List.set_cons_succ]
            refine wpAnyH_take (i := 39) (oi := ⟨some 124, _, _, _, _, _⟩) (v := .int .i64 (nn : Int)) rfl (by kernel_rfl) (by kernel_rfl) (by kernel_rfl) (fun _ _ _ h => h) (.inl ⟨by kernel_rfl, fun V hS => by go_simp⟩) hS3 ?_
            simp only [Act.put, List.setIfInBounds_toArray, List.set_cons_zero, List.set_cons_succ]
            refine wpAnyH_take (i := 40) (oi := ⟨some 125, _, _, _, _, _⟩) (v := .bool false) rfl (by kernel_rfl) (by kernel_rfl) (by kernel_rfl) (fun _ _ _ h => h) (.inl ⟨by kernel_rfl, fun V hS => by go_simp⟩) hS3 ?_
            simp only [Act.put, List.setIfInBounds_toArray, List.set_cons_zero, List.set_cons_succ]
            refine wpAnyH_take (i := 41) (oi := ⟨some 126, _, _, _, _, _⟩) (v := .bool false) rfl (by kernel_rfl) (by kernel_rfl) (by kernel_rfl) (fun _ _ _ h => h) (.inl ⟨by kernel_rfl, fun V hS => by go_simp⟩) hS3 ?_
            simp only [Act.put, List.setIfInBounds_toArray, List.set_cons_zero, List.set_cons_succ]
            refine wpAnyH_done (by kernel_rfl) ?_ _
            clear p1 p1' p1'' k0 k1 k2 k3 hv1 hoT1 hoT2 HS0
            go_wp2
            exact HTL.out _ _ LB nA nc kb kA kc nn V.tail R'.ask rfl rfl rfl rfl rfl HG.out (HLD8.out.bel HBY.out) hnn9 (HB8.out.trans (HBY.out.mono HB8.out.size)) (HKW8.out.below HBY.out HKW8.out.lt) HASK.out
      · have r1 : decide (stop ≥ 1) = true := by rw [decide_eq_true_iff]; omega
        have r1' : decide (1 ≤ stop) = true := by rw [decide_eq_true_iff]; omega
        have r2 : decide (stop < (rn : Int)) = false := by rw [decide_eq_false_iff_not]; omega
        clear hs1 hs2 hst hgo
        rcases (by omega : rn = 0 ∨ 0 < rn) with h0 | h0
        · have p1 : decide ((rn : Int) > 0) = false := by rw [decide_eq_false_iff_not]; omega
          have p1' : decide ((0 : Int) < (rn : Int)) = false := by rw [decide_eq_false_iff_not]; omega
          have p1'' : decide (0 < rn) = false := by rw [decide_eq_false_iff_not]; omega
          clear h0
          go_wp2_with fail
          refine wp_region_held_drew (S := fun V => Blk V B10 31 #[.string cx.p, .int .i64 cx.n, .string cx.h] ∧ Blk V B13 31 #[.string cx.p, .int .i64 cx.n, .string cx.h] ∧ Blk V LB 41 #[.slice A n c, .slice nA nn nc, .slice kA nn kc, .int .i64 stop]) (by kernel_rfl) (HS0.out) (fun hS1 => ?_)
          obtain ⟨WD, hWD⟩ : ∃ WD, WD = w8.drew := ⟨_, rfl⟩
          rw [← hWD] at hS1 ⊢
          have HBD : Hid (Below w8.heap.size w8 WD) := Lib.hid (by rw [hWD]; exact (Below.refl _ _).drew)
          clear hWD
          refine wpAnyH_take (i := 0) (oi := ⟨some 85, _, _, _, _, _⟩) (v := .agg #[.string cx.p, .int .i64 cx.n, .string cx.h]) rfl (by kernel_rfl) (by kernel_rfl) (by kernel_rfl) (fun _ _ _ h => h) (.inl ⟨by kernel_rfl, fun V hS => by have h0 := hS.1.cell 0; have h1 := hS.1.cell 1; have h2 := hS.1.cell 2; simp at h0 h1 h2; go_simp⟩) hS1 ?_
          simp only [Act.put, List.setIfInBounds_toArray, List.set_cons_zero, List.set_cons_succ]
          refine wpAnyH_take (i := 1) (oi := ⟨some 86, _, _, _, _, _⟩) (v := .agg #[.string cx.p, .int .i64 cx.n, .string cx.h]) rfl (by kernel_rfl) (by kernel_rfl) (by kernel_rfl) (fun _ _ _ h => h) (.inl ⟨by kernel_rfl, fun V hS => by have h0 := hS.2.1.cell 0; have h1 := hS.2.1.cell 1; have h2 := hS.2.1.cell 2; simp at h0 h1 h2; go_simp⟩) hS1 ?_
          simp only [Act.put, List.setIfInBounds_toArray, List.set_cons_zero, List.set_cons_succ]
          refine wpAnyH_take (i := 2) (oi := ⟨some 87, _, _, _, _, _⟩) (v := .bool false) rfl (by kernel_rfl) (by kernel_rfl) (by kernel_rfl) (fun _ _ _ h => h) (.inl ⟨by kernel_rfl, fun V hS => by go_simp⟩) hS1 ?_
          simp only [Act.put, List.setIfInBounds_toArray, List.set_cons_zero, List.set_cons_succ]
          refine wpAnyH_take (i := 3) (oi := ⟨some 88, _, _, _, _, _⟩) (v := .bool false) rfl (by kernel_rfl) (by kernel_rfl) (by kernel_rfl) (fun _ _ _ h => h) (.inl ⟨by kernel_rfl, fun V hS => by go_simp⟩) hS1 ?_
          simp only [Act.put, List.setIfInBounds_toArray, List.set_cons_zero, List.set_cons_succ]
          refine wpAnyH_take (i := 4) (oi := ⟨some 89, _, _, _, _, _⟩) (v := .slice vA rn vc) rfl (by kernel_rfl) (by kernel_rfl) (by kernel_rfl) (fun _ _ _ h => h) (.inl ⟨by kernel_rfl, fun V hS => by go_simp⟩) hS1 ?_
          simp only [Act.put, List.setIfInBounds_toArray, List.set_cons_zero, List.set_cons_succ]
          refine wpAnyH_take (i := 5) (oi := ⟨some 90, _, _, _, _, _⟩) (v := .slice vB rn vd) rfl (by kernel_rfl) (by kernel_rfl) (by kernel_rfl) (fun _ _ _ h => h) (.inl ⟨by kernel_rfl, fun V hS => by go_simp⟩) hS1 ?_
          simp only [Act.put, List.setIfInBounds_toArray, List.set_cons_zero, List.set_cons_succ]
          refine wpAnyH_ready (rs := [6]) (by kernel_rfl) (by simp) ?_
          refine AllReadyH.cons rfl (fun K' hK => ?_) AllReadyH.nil
          go_simp
          refine (HSM1.out WD HBD.out).mono ?_
          rintro e wX ⟨rfl, hbX⟩
          have HBX := Lib.hid (HBD.out.trans (hbX.mono HBD.out.size))
          refine hK.out _ _ (⟨(hS1).1.below hbX (hS1).1.lt, (hS1).2.1.below hbX (hS1).2.1.lt, (hS1).2.2.below hbX (hS1).2.2.lt⟩) (fun hS2 => ?_)
          clear hK K' hS1
          refine wpAnyH_take (i := 7) (oi := ⟨some 92, _, _, _, _, _⟩) (v := .bool false) rfl (by kernel_rfl) (by kernel_rfl) (by kernel_rfl) (fun _ _ _ h => h) (.inl ⟨by kernel_rfl, fun V hS => by go_simp⟩) hS2 ?_
          simp only [Act.put, List.setIfInBounds_toArray, List.set_cons_zero, List.set_cons_succ]
          refine wpAnyH_take (i := 8) (oi := ⟨some 93, _, _, _, _, _⟩) (v := .bool false) rfl (by kernel_rfl) (by kernel_rfl) (by kernel_rfl) (fun _ _ _ h => h) (.inl ⟨by kernel_rfl, fun V hS => by go_simp⟩) hS2 ?_
          simp only [Act.put, List.setIfInBounds_toArray, List.set_cons_zero, List.set_cons_succ]
          refine wpAnyH_take (i := 9) (oi := ⟨some 94, _, _, _, _, _⟩) (v := .bool false) rfl (by kernel_rfl) (by kernel_rfl) (by kernel_rfl) (fun _ _ _ h => h) (.inl ⟨by kernel_rfl, fun V hS => by go_simp⟩) hS2 ?_
          simp only [Act.put, List.setIfInBounds_toArray, List.set_cons_zero, List.set_cons_succ]
          refine wpAnyH_take (i := 10) (oi := ⟨some 95, _, _, _, _, _⟩) (v := .int .i64 R.e) rfl (by kernel_rfl) (by kernel_rfl) (by kernel_rfl) (fun _ _ _ h => h) (.inl ⟨by kernel_rfl, fun V hS => by go_simp⟩) hS2 ?_
          simp only [Act.put, List.setIfInBounds_toArray, List.set_cons_zero, List.set_cons_succ]
          refine wpAnyH_take (i := 11) (oi := ⟨some 96, _, _, _, _, _⟩) (v := .int .i64 R.e) rfl (by kernel_rfl) (by kernel_rfl) (by kernel_rfl) (fun _ _ _ h => h) (.inl ⟨by kernel_rfl, fun V hS => by go_simp⟩) hS2 ?_
          simp only [Act.put, List.setIfInBounds_toArray, List.set_cons_zero, List.set_cons_succ]
          refine wpAnyH_take (i := 12) (oi := ⟨some 97, _, _, _, _, _⟩) (v := .bool false) rfl (by kernel_rfl) (by kernel_rfl) (by kernel_rfl) (fun _ _ _ h => h) (.inl ⟨by kernel_rfl, fun V hS => by go_simp⟩) hS2 ?_
          simp only [Act.put, List.setIfInBounds_toArray, List.set_cons_zero, List.set_cons_succ]
          refine wpAnyH_take (i := 13) (oi := ⟨some 98, _, _, _, _, _⟩) (v := .bool false) rfl (by kernel_rfl) (by kernel_rfl) (by kernel_rfl) (fun _ _ _ h => h) (.inl ⟨by kernel_rfl, fun V hS => by go_simp⟩) hS2 ?_
          simp only [Act.put, List.setIfInBounds_toArray, List.set_cons_zero, List.set_cons_succ]
          refine wpAnyH_take (i := 14) (oi := ⟨some 99, _, _, _, _, _⟩) (v := .bool false) rfl (by kernel_rfl) (by kernel_rfl) (by kernel_rfl) (fun _ _ _ h => h) (.inl ⟨by kernel_rfl, fun V hS => by go_simp⟩) hS2 ?_
          simp only [Act.put, List.setIfInBounds_toArray, List.set_cons_zero, List.set_cons_succ]
          refine wpAnyH_take (i := 15) (oi := ⟨some 100, _, _, _, _, _⟩) (v := .slice vA rn vc) rfl (by kernel_rfl) (by kernel_rfl) (by kernel_rfl) (fun _ _ _ h => h) (.inl ⟨by kernel_rfl, fun V hS => by go_simp⟩) hS2 ?_
          simp only [Act.put, List.setIfInBounds_toArray, List.set_cons_zero, List.set_cons_succ]
          refine wpAnyH_take (i := 16) (oi := ⟨some 101, _, _, _, _, _⟩) (v := .int .i64 (rn : Int)) rfl (by kernel_rfl) (by kernel_rfl) (by kernel_rfl) (fun _ _ _ h => h) (.inl ⟨by kernel_rfl, fun V hS => by go_simp⟩) hS2 ?_
          simp only [Act.put, List.setIfInBounds_toArray, List.set_cons_zero, List.set_cons_succ]
          refine wpAnyH_take (i := 17) (oi := ⟨some 102, _, _, _, _, _⟩) (v := .bool false) rfl (by kernel_rfl) (by kernel_rfl) (by kernel_rfl) (fun _ _ _ h => h) (.inl ⟨by kernel_rfl, fun V hS => by go_simp⟩) hS2 ?_
          simp only [Act.put, List.setIfInBounds_toArray, List.set_cons_zero, List.set_cons_succ]
          refine wpAnyH_take (i := 18) (oi := ⟨some 103, _, _, _, _, _⟩) (v := .bool false) rfl (by kernel_rfl) (by kernel_rfl) (by kernel_rfl) (fun _ _ _ h => h) (.inl ⟨by kernel_rfl, fun V hS => by go_simp⟩) hS2 ?_
          simp only [Act.put, List.setIfInBounds_toArray, List.set_cons_zero, List.set_cons_succ]
          refine wpAnyH_take (i := 19) (oi := ⟨some 104, _, _, _, _, _⟩) (v := undef) rfl (by kernel_rfl) (by kernel_rfl) (by kernel_rfl) (fun _ _ _ h => h) (.inr ⟨by kernel_rfl, rfl⟩) hS2 ?_
          simp only [Act.put, List.setIfInBounds_toArray, List.set_cons_zero, List.set_cons_succ]
          refine wpAnyH_take (i := 20) (oi := ⟨some 105, _, _, _, _, _⟩) (v := undef) rfl (by kernel_rfl) (by kernel_rfl) (by kernel_rfl) (fun _ _ _ h => h) (.inr ⟨by kernel_rfl, rfl⟩) hS2 ?_
          simp only [Act.put, List.setIfInBounds_toArray, List.set_cons_zero, List.set_cons_succ]
          refine wpAnyH_take (i := 21) (oi := ⟨some 106, _, _, _, _, _⟩) (v := undef) rfl (by kernel_rfl) (by kernel_rfl) (by kernel_rfl) (fun _ _ _ h => h) (.inr ⟨by kernel_rfl, rfl⟩) hS2 ?_
          simp only [Act.put, List.setIfInBounds_toArray, List.set_cons_zero, List.set_cons_succ]
          refine wpAnyH_take (i := 22) (oi := ⟨some 107, _, _, _, _, _⟩) (v := undef) rfl (by kernel_rfl) (by kernel_rfl) (by kernel_rfl) (fun _ _ _ h => h) (.inr ⟨by kernel_rfl, rfl⟩) hS2 ?_
          simp only [Act.put, List.setIfInBounds_toArray, List.set_cons_zero, List.set_cons_succ]
          refine wpAnyH_take (i := 23) (oi := ⟨some 108, _, _, _, _, _⟩) (v := undef) rfl (by kernel_rfl) (by kernel_rfl) (by kernel_rfl) (fun _ _ _ h => h) (.inr ⟨by kernel_rfl, rfl⟩) hS2 ?_
          simp only [Act.put, List.setIfInBounds_toArray, List.set_cons_zero, List.set_cons_succ]
          refine wpAnyH_take (i := 24) (oi := ⟨some 109, _, _, _, _, _⟩) (v := undef) rfl (by kernel_rfl) (by kernel_rfl) (by kernel_rfl) (fun _ _ _ h => h) (.inr ⟨by kernel_rfl, rfl⟩) hS2 ?_
          simp only [Act.put, List.setIfInBounds_toArray, List.set_cons_zero, List.set_cons_succ]
          refine wpAnyH_take (i := 25) (oi := ⟨some 110, _, _, _, _, _⟩) (v := undef) rfl (by kernel_rfl) (by kernel_rfl) (by kernel_rfl) (fun _ _ _ h => h) (.inr ⟨by kernel_rfl, rfl⟩) hS2 ?_
          simp only [Act.put, List.setIfInBounds_toArray, List.set_cons_zero, List.set_cons_succ]
          refine wpAnyH_take (i := 26) (oi := ⟨some 111, _, _, _, _, _⟩) (v := undef) rfl (by kernel_rfl) (by kernel_rfl) (by kernel_rfl) (fun _ _ _ h => h) (.inr ⟨by kernel_rfl, rfl⟩) hS2 ?_
          simp only [Act.put, List.setIfInBounds_toArray, List.set_cons_zero, List.set_cons_succ]
          refine wpAnyH_take (i := 27) (oi := ⟨some 112, _, _, _, _, _⟩) (v := .bool false) rfl (by kernel_rfl) (by kernel_rfl) (by kernel_rfl) (fun _ _ _ h => h) (.inl ⟨by kernel_rfl, fun V hS => by go_simp⟩) hS2 ?_
          simp only [Act.put, List.setIfInBounds_toArray, List.set_cons_zero, List.set_cons_succ]
          refine wpAnyH_take (i := 28) (oi := ⟨some 113, _, _, _, _, _⟩) (v := .bool false) rfl (by kernel_rfl) (by kernel_rfl) (by kernel_rfl) (fun _ _ _ h => h) (.inl ⟨by kernel_rfl, fun V hS => by go_simp⟩) hS2 ?_
          simp only [Act.put, List.setIfInBounds_toArray, List.set_cons_zero, List.set_cons_succ]
          refine wpAnyH_take (i := 29) (oi := ⟨some 114, _, _, _, _, _⟩) (v := .bool false) rfl (by kernel_rfl) (by kernel_rfl) (by kernel_rfl) (fun _ _ _ h => h) (.inl ⟨by kernel_rfl, fun V hS => by go_simp⟩) hS2 ?_
          simp only [Act.put, List.setIfInBounds_toArray, List.set_cons_zero, List.set_cons_succ]
          refine wpAnyH_take (i := 30) (oi := ⟨some 115, _, _, _, _, _⟩) (v := .pointer (some ⟨LB, 0, none⟩)) rfl (by kernel_rfl) (by kernel_rfl) (by kernel_rfl) (fun _ _ _ h => h) (.inl ⟨by kernel_rfl, fun V hS => by go_simp⟩) hS2 ?_
          simp only [Act.put, List.setIfInBounds_toArray, List.set_cons_zero, List.set_cons_succ]
          refine wpAnyH_take (i := 31) (oi := ⟨some 116, _, _, _, _, _⟩) (v := .pointer (some ⟨LB, 0, none⟩)) rfl (by kernel_rfl) (by kernel_rfl) (by kernel_rfl) (fun _ _ _ h => h) (.inl ⟨by kernel_rfl, fun V hS => by go_simp⟩) hS2 ?_
          simp only [Act.put, List.setIfInBounds_toArray, List.set_cons_zero, List.set_cons_succ]
          refine wpAnyH_take (i := 32) (oi := ⟨some 117, _, _, _, _, _⟩) (v := .pointer (some ⟨LB, 2, none⟩)) rfl (by kernel_rfl) (by kernel_rfl) (by kernel_rfl) (fun _ _ _ h => h) (.inl ⟨by kernel_rfl, fun V hS => by go_simp⟩) hS2 ?_
          simp only [Act.put, List.setIfInBounds_toArray, List.set_cons_zero, List.set_cons_succ]
          refine wpAnyH_take (i := 33) (oi := ⟨some 118, _, _, _, _, _⟩) (v := .slice kA nn kc) rfl (by kernel_rfl) (by kernel_rfl) (by kernel_rfl) (fun _ _ _ h => h) (.inl ⟨by kernel_rfl, fun V hS => by have sc := hS.2.2.cell 2; simp at sc; go_simp⟩) hS2 ?_
          simp only [Act.put, List.setIfInBounds_toArray, List.set_cons_zero, List.set_cons_succ]
          refine wpAnyH_take (i := 34) (oi := ⟨some 119, _, _, _, _, _⟩) (v := .int .i64 (nn : Int)) rfl (by kernel_rfl) (by kernel_rfl) (by kernel_rfl) (fun _ _ _ h => h) (.inl ⟨by kernel_rfl, fun V hS => by go_simp⟩) hS2 ?_
          simp only [Act.put, List.setIfInBounds_toArray, List.set_cons_zero, List.set_cons_succ]
          refine wpAnyH_take (i := 35) (oi := ⟨some 120, _, _, _, _, _⟩) (v := .pointer (some ⟨LB, 0, none⟩)) rfl (by kernel_rfl) (by kernel_rfl) (by kernel_rfl) (fun _ _ _ h => h) (.inl ⟨by kernel_rfl, fun V hS => by go_simp⟩) hS2 ?_
          simp only [Act.put, List.setIfInBounds_toArray, List.set_cons_zero, List.set_cons_succ]
          refine wpAnyH_take (i := 36) (oi := ⟨some 121, _, _, _, _, _⟩) (v := .pointer (some ⟨LB, 0, none⟩)) rfl (by kernel_rfl) (by kernel_rfl) (by kernel_rfl) (fun _ _ _ h => h) (.inl ⟨by kernel_rfl, fun V hS => by go_simp⟩) hS2 ?_
          simp only [Act.put, List.setIfInBounds_toArray, List.set_cons_zero, List.set_cons_succ]
          refine wpAnyH_take (i := 37) (oi := ⟨some 122, _, _, _, _, _⟩) (v := .pointer (some ⟨LB, 1, none⟩)) rfl (by kernel_rfl) (by kernel_rfl) (by kernel_rfl) (fun _ _ _ h => h) (.inl ⟨by kernel_rfl, fun V hS => by go_simp⟩) hS2 ?_
          simp only [Act.put, List.setIfInBounds_toArray, List.set_cons_zero, List.set_cons_succ]
          refine wpAnyH_take (i := 38) (oi := ⟨some 123, _, _, _, _, _⟩) (v := .slice nA nn nc) rfl (by kernel_rfl) (by kernel_rfl) (by kernel_rfl) (fun _ _ _ h => h) (.inl ⟨by kernel_rfl, fun V hS => by have sc := hS.2.2.cell 1; simp at sc; go_simp⟩) hS2 ?_
          simp only [Act.put, List.setIfInBounds_toArray, List.set_cons_zero, List.set_cons_succ]
          refine wpAnyH_take (i := 39) (oi := ⟨some 124, _, _, _, _, _⟩) (v := .int .i64 (nn : Int)) rfl (by kernel_rfl) (by kernel_rfl) (by kernel_rfl) (fun _ _ _ h => h) (.inl ⟨by kernel_rfl, fun V hS => by go_simp⟩) hS2 ?_
          simp only [Act.put, List.setIfInBounds_toArray, List.set_cons_zero, List.set_cons_succ]
          refine wpAnyH_take (i := 40) (oi := ⟨some 125, _, _, _, _, _⟩) (v := .bool false) rfl (by kernel_rfl) (by kernel_rfl) (by kernel_rfl) (fun _ _ _ h => h) (.inl ⟨by kernel_rfl, fun V hS => by go_simp⟩) hS2 ?_
          simp only [Act.put, List.setIfInBounds_toArray, List.set_cons_zero, List.set_cons_succ]
          refine wpAnyH_take (i := 41) (oi := ⟨some 126, _, _, _, _, _⟩) (v := .bool false) rfl (by kernel_rfl) (by kernel_rfl) (by kernel_rfl) (fun _ _ _ h => h) (.inl ⟨by kernel_rfl, fun V hS => by go_simp⟩) hS2 ?_
          simp only [Act.put, List.setIfInBounds_toArray, List.set_cons_zero, List.set_cons_succ]
          refine wpAnyH_done (by kernel_rfl) ?_ _
          clear p1 p1' p1'' HS0
          go_wp2
          exact HTL.out _ _ LB nA nc kb kA kc nn V.tail R'.ask rfl rfl rfl rfl rfl HG.out (HLD8.out.bel HBX.out) hnn9 (HB8.out.trans (HBX.out.mono HB8.out.size)) (HKW8.out.below HBX.out HKW8.out.lt) HASK.out
        · obtain ⟨bB, hbB⟩ : ∃ bB, vB = some ⟨bB, 0, none⟩ := by
            obtain ⟨_, _, e, _, _, hr, ha⟩ := OG.form HOH8.out
            cases e
            cases hvB : vB with
            | none =>
              obtain ⟨ad, e, _⟩ := hr.2 (by have := HRN.out; omega)
              rw [hvB] at e; cases e
            | some ad =>
              obtain ⟨_, _, g3, g4, _⟩ := ha ad hvB
              obtain ⟨b, o, sp⟩ := ad
              simp only at g3 g4
              subst g3; subst g4
              exact ⟨b, rfl⟩
          subst hbB
          have HSW2 := Lib.hid (SS.tail1 (og_ss HOH8.out))
          obtain ⟨oT, hoT, hoT1, hoT2⟩ : ∃ oT, SS w8 (some ⟨bB, oT, none⟩) R.vis.tail ∧ (vd = 1 → oT = 0) ∧ (vd ≠ 1 → oT = 1) := by
            by_cases h1 : vd = 1
            · refine ⟨0, ?_, fun _ => rfl, fun h => absurd h1 h⟩
              have h2 : R.vis.tail = [] := List.eq_nil_of_length_eq_zero (by rw [List.length_tail]; have := HRN.out; omega)
              rw [h2]
              exact Reads.none_
            · exact ⟨1, HSW2.out, fun h => absurd h h1, fun _ => rfl⟩
          have HST1 := Lib.hid hoT
          have HSM2 : Hid (∀ w, Below w8.heap.size w8 w → Calls Tryz.prog 11 #[.slice nA nn nc, .slice (some ⟨bB, oT, none⟩) (rn - 1) (vd - 1)] w fun e w' => PF (BoP true w) e w') := Lib.hid (fun w hb => by
            have h1 := (HLD8.out.bel hb).ns
            have hV := HTAIL.out (by omega)
            have h2 := rsameTexts_any nA (some ⟨bB, oT, none⟩) nn nc (rn - 1) (vd - 1) V.tail R.vis.tail w h1 (HST1.out.below hb) (HLD8.out.nl) (by rw [List.length_tail, ← HRN.out]) (by omega) (by omega)
            rw [show decide (V.tail = R.vis.tail) = true from decide_eq_true hV] at h2
            exact h2)
          have p1 : decide ((rn : Int) > 0) = true := by rw [decide_eq_true_iff]; omega
          have p1' : decide ((0 : Int) < (rn : Int)) = true := by rw [decide_eq_true_iff]; omega
          have p1'' : decide (0 < rn) = true := by rw [decide_eq_true_iff]; omega
          have k0 : (1 : Int) ≤ (rn : Int) := by omega
          have k1 : 1 ≤ rn := by omega
          have k2 : rn ≤ vd := hcapB.1
          have k3 : 1 ≤ vd := by omega
          clear h0 hoT
          go_wp2_with fail
          by_cases hv1 : vd = 1
          · have e1 := hoT1 hv1
            have hr1 : rn = 1 := by omega
            subst e1
            subst hr1
            subst hv1
            clear hoT1 hoT2
            refine wp_region_held_drew (S := fun V => Blk V B10 31 #[.string cx.p, .int .i64 cx.n, .string cx.h] ∧ Blk V B13 31 #[.string cx.p, .int .i64 cx.n, .string cx.h] ∧ Blk V LB 41 #[.slice A n c, .slice nA nn nc, .slice kA nn kc, .int .i64 stop]) (by kernel_rfl) (HS0.out) (fun hS1 => ?_)
            obtain ⟨WD, hWD⟩ : ∃ WD, WD = w8.drew := ⟨_, rfl⟩
            rw [← hWD] at hS1 ⊢
            have HBD : Hid (Below w8.heap.size w8 WD) := Lib.hid (by rw [hWD]; exact (Below.refl _ _).drew)
            clear hWD
            refine wpAnyH_take (i := 0) (oi := ⟨some 85, _, _, _, _, _⟩) (v := .agg #[.string cx.p, .int .i64 cx.n, .string cx.h]) rfl (by kernel_rfl) (by kernel_rfl) (by kernel_rfl) (fun _ _ _ h => h) (.inl ⟨by kernel_rfl, fun V hS => by have h0 := hS.1.cell 0; have h1 := hS.1.cell 1; have h2 := hS.1.cell 2; simp at h0 h1 h2; go_simp⟩) hS1 ?_
            simp only [Act.put, List.setIfInBounds_toArray, List.set_cons_zero, List.set_cons_succ]
            refine wpAnyH_take (i := 1) (oi := ⟨some 86, _, _, _, _, _⟩) (v := .agg #[.string cx.p, .int .i64 cx.n, .string cx.h]) rfl (by kernel_rfl) (by kernel_rfl) (by kernel_rfl) (fun _ _ _ h => h) (.inl ⟨by kernel_rfl, fun V hS => by have h0 := hS.2.1.cell 0; have h1 := hS.2.1.cell 1; have h2 := hS.2.1.cell 2; simp at h0 h1 h2; go_simp⟩) hS1 ?_
            simp only [Act.put, List.setIfInBounds_toArray, List.set_cons_zero, List.set_cons_succ]
            refine wpAnyH_take (i := 2) (oi := ⟨some 87, _, _, _, _, _⟩) (v := .bool false) rfl (by kernel_rfl) (by kernel_rfl) (by kernel_rfl) (fun _ _ _ h => h) (.inl ⟨by kernel_rfl, fun V hS => by go_simp⟩) hS1 ?_
            simp only [Act.put, List.setIfInBounds_toArray, List.set_cons_zero, List.set_cons_succ]
            refine wpAnyH_take (i := 3) (oi := ⟨some 88, _, _, _, _, _⟩) (v := .bool false) rfl (by kernel_rfl) (by kernel_rfl) (by kernel_rfl) (fun _ _ _ h => h) (.inl ⟨by kernel_rfl, fun V hS => by go_simp⟩) hS1 ?_
            simp only [Act.put, List.setIfInBounds_toArray, List.set_cons_zero, List.set_cons_succ]
            refine wpAnyH_take (i := 4) (oi := ⟨some 89, _, _, _, _, _⟩) (v := .slice vA 1 vc) rfl (by kernel_rfl) (by kernel_rfl) (by kernel_rfl) (fun _ _ _ h => h) (.inl ⟨by kernel_rfl, fun V hS => by go_simp⟩) hS1 ?_
            simp only [Act.put, List.setIfInBounds_toArray, List.set_cons_zero, List.set_cons_succ]
            refine wpAnyH_take (i := 5) (oi := ⟨some 90, _, _, _, _, _⟩) (v := .slice (some ⟨bB, 0, none⟩) 1 1) rfl (by kernel_rfl) (by kernel_rfl) (by kernel_rfl) (fun _ _ _ h => h) (.inl ⟨by kernel_rfl, fun V hS => by go_simp⟩) hS1 ?_
            simp only [Act.put, List.setIfInBounds_toArray, List.set_cons_zero, List.set_cons_succ]
            refine wpAnyH_ready (rs := [6]) (by kernel_rfl) (by simp) ?_
            refine AllReadyH.cons rfl (fun K' hK => ?_) AllReadyH.nil
            go_simp
            refine (HSM1.out WD HBD.out).mono ?_
            rintro e wX ⟨rfl, hbX⟩
            have HBX := Lib.hid (HBD.out.trans (hbX.mono HBD.out.size))
            refine hK.out _ _ (⟨(hS1).1.below hbX (hS1).1.lt, (hS1).2.1.below hbX (hS1).2.1.lt, (hS1).2.2.below hbX (hS1).2.2.lt⟩) (fun hS2 => ?_)
            clear hK K' hS1
            refine wpAnyH_take (i := 7) (oi := ⟨some 92, _, _, _, _, _⟩) (v := .bool false) rfl (by kernel_rfl) (by kernel_rfl) (by kernel_rfl) (fun _ _ _ h => h) (.inl ⟨by kernel_rfl, fun V hS => by go_simp⟩) hS2 ?_
            simp only [Act.put, List.setIfInBounds_toArray, List.set_cons_zero, List.set_cons_succ]
            refine wpAnyH_take (i := 8) (oi := ⟨some 93, _, _, _, _, _⟩) (v := .bool false) rfl (by kernel_rfl) (by kernel_rfl) (by kernel_rfl) (fun _ _ _ h => h) (.inl ⟨by kernel_rfl, fun V hS => by go_simp⟩) hS2 ?_
            simp only [Act.put, List.setIfInBounds_toArray, List.set_cons_zero, List.set_cons_succ]
            refine wpAnyH_take (i := 9) (oi := ⟨some 94, _, _, _, _, _⟩) (v := .bool false) rfl (by kernel_rfl) (by kernel_rfl) (by kernel_rfl) (fun _ _ _ h => h) (.inl ⟨by kernel_rfl, fun V hS => by go_simp⟩) hS2 ?_
            simp only [Act.put, List.setIfInBounds_toArray, List.set_cons_zero, List.set_cons_succ]
            refine wpAnyH_take (i := 10) (oi := ⟨some 95, _, _, _, _, _⟩) (v := .int .i64 R.e) rfl (by kernel_rfl) (by kernel_rfl) (by kernel_rfl) (fun _ _ _ h => h) (.inl ⟨by kernel_rfl, fun V hS => by go_simp⟩) hS2 ?_
            simp only [Act.put, List.setIfInBounds_toArray, List.set_cons_zero, List.set_cons_succ]
            refine wpAnyH_take (i := 11) (oi := ⟨some 96, _, _, _, _, _⟩) (v := .int .i64 R.e) rfl (by kernel_rfl) (by kernel_rfl) (by kernel_rfl) (fun _ _ _ h => h) (.inl ⟨by kernel_rfl, fun V hS => by go_simp⟩) hS2 ?_
            simp only [Act.put, List.setIfInBounds_toArray, List.set_cons_zero, List.set_cons_succ]
            refine wpAnyH_take (i := 12) (oi := ⟨some 97, _, _, _, _, _⟩) (v := .bool false) rfl (by kernel_rfl) (by kernel_rfl) (by kernel_rfl) (fun _ _ _ h => h) (.inl ⟨by kernel_rfl, fun V hS => by go_simp⟩) hS2 ?_
            simp only [Act.put, List.setIfInBounds_toArray, List.set_cons_zero, List.set_cons_succ]
            refine wpAnyH_take (i := 13) (oi := ⟨some 98, _, _, _, _, _⟩) (v := .bool false) rfl (by kernel_rfl) (by kernel_rfl) (by kernel_rfl) (fun _ _ _ h => h) (.inl ⟨by kernel_rfl, fun V hS => by go_simp⟩) hS2 ?_
            simp only [Act.put, List.setIfInBounds_toArray, List.set_cons_zero, List.set_cons_succ]
            refine wpAnyH_take (i := 14) (oi := ⟨some 99, _, _, _, _, _⟩) (v := .bool false) rfl (by kernel_rfl) (by kernel_rfl) (by kernel_rfl) (fun _ _ _ h => h) (.inl ⟨by kernel_rfl, fun V hS => by go_simp⟩) hS2 ?_
            simp only [Act.put, List.setIfInBounds_toArray, List.set_cons_zero, List.set_cons_succ]
            refine wpAnyH_take (i := 15) (oi := ⟨some 100, _, _, _, _, _⟩) (v := .slice vA 1 vc) rfl (by kernel_rfl) (by kernel_rfl) (by kernel_rfl) (fun _ _ _ h => h) (.inl ⟨by kernel_rfl, fun V hS => by go_simp⟩) hS2 ?_
            simp only [Act.put, List.setIfInBounds_toArray, List.set_cons_zero, List.set_cons_succ]
            refine wpAnyH_take (i := 16) (oi := ⟨some 101, _, _, _, _, _⟩) (v := .int .i64 1) rfl (by kernel_rfl) (by kernel_rfl) (by kernel_rfl) (fun _ _ _ h => h) (.inl ⟨by kernel_rfl, fun V hS => by go_simp⟩) hS2 ?_
            simp only [Act.put, List.setIfInBounds_toArray, List.set_cons_zero, List.set_cons_succ]
            refine wpAnyH_take (i := 17) (oi := ⟨some 102, _, _, _, _, _⟩) (v := .bool true) rfl (by kernel_rfl) (by kernel_rfl) (by kernel_rfl) (fun _ _ _ h => h) (.inl ⟨by kernel_rfl, fun V hS => by go_simp⟩) hS2 ?_
            simp only [Act.put, List.setIfInBounds_toArray, List.set_cons_zero, List.set_cons_succ]
            refine wpAnyH_take (i := 18) (oi := ⟨some 103, _, _, _, _, _⟩) (v := .bool true) rfl (by kernel_rfl) (by kernel_rfl) (by kernel_rfl) (fun _ _ _ h => h) (.inl ⟨by kernel_rfl, fun V hS => by go_simp⟩) hS2 ?_
            simp only [Act.put, List.setIfInBounds_toArray, List.set_cons_zero, List.set_cons_succ]
            refine wpAnyH_take (i := 19) (oi := ⟨some 104, _, _, _, _, _⟩) (v := .pointer (some ⟨LB, 0, none⟩)) rfl (by kernel_rfl) (by kernel_rfl) (by kernel_rfl) (fun _ _ _ h => h) (.inl ⟨by kernel_rfl, fun V hS => by go_simp⟩) hS2 ?_
            simp only [Act.put, List.setIfInBounds_toArray, List.set_cons_zero, List.set_cons_succ]
            refine wpAnyH_take (i := 20) (oi := ⟨some 105, _, _, _, _, _⟩) (v := .pointer (some ⟨LB, 0, none⟩)) rfl (by kernel_rfl) (by kernel_rfl) (by kernel_rfl) (fun _ _ _ h => h) (.inl ⟨by kernel_rfl, fun V hS => by go_simp⟩) hS2 ?_
            simp only [Act.put, List.setIfInBounds_toArray, List.set_cons_zero, List.set_cons_succ]
            refine wpAnyH_take (i := 21) (oi := ⟨some 106, _, _, _, _, _⟩) (v := .pointer (some ⟨LB, 1, none⟩)) rfl (by kernel_rfl) (by kernel_rfl) (by kernel_rfl) (fun _ _ _ h => h) (.inl ⟨by kernel_rfl, fun V hS => by go_simp⟩) hS2 ?_
            simp only [Act.put, List.setIfInBounds_toArray, List.set_cons_zero, List.set_cons_succ]
            refine wpAnyH_take (i := 22) (oi := ⟨some 107, _, _, _, _, _⟩) (v := .slice nA nn nc) rfl (by kernel_rfl) (by kernel_rfl) (by kernel_rfl) (fun _ _ _ h => h) (.inl ⟨by kernel_rfl, fun V hS => by have sc := hS.2.2.cell 1; simp at sc; go_simp⟩) hS2 ?_
            simp only [Act.put, List.setIfInBounds_toArray, List.set_cons_zero, List.set_cons_succ]
            refine wpAnyH_take (i := 23) (oi := ⟨some 108, _, _, _, _, _⟩) (v := .slice (some ⟨bB, 0, none⟩) 1 1) rfl (by kernel_rfl) (by kernel_rfl) (by kernel_rfl) (fun _ _ _ h => h) (.inl ⟨by kernel_rfl, fun V hS => by go_simp⟩) hS2 ?_
            simp only [Act.put, List.setIfInBounds_toArray, List.set_cons_zero, List.set_cons_succ]
            refine wpAnyH_take (i := 24) (oi := ⟨some 109, _, _, _, _, _⟩) (v := .slice (some ⟨bB, 0, none⟩) 0 0) rfl (by kernel_rfl) (by kernel_rfl) (by kernel_rfl) (fun _ _ _ h => h) (.inl ⟨by kernel_rfl, fun V hS => by go_simp⟩) hS2 ?_
            simp only [Act.put, List.setIfInBounds_toArray, List.set_cons_zero, List.set_cons_succ]
            refine wpAnyH_ready (rs := [25]) (by kernel_rfl) (by simp) ?_
            refine AllReadyH.cons rfl (fun K' hK => ?_) AllReadyH.nil
            go_simp
            refine (HSM2.out wX HBX.out).mono ?_
            rintro e wY ⟨rfl, hbY⟩
            have HBY := Lib.hid (HBX.out.trans (hbY.mono HBX.out.size))
            refine hK.out _ _ (⟨(hS2).1.below hbY (hS2).1.lt, (hS2).2.1.below hbY (hS2).2.1.lt, (hS2).2.2.below hbY (hS2).2.2.lt⟩) (fun hS3 => ?_)
            clear hK K' hS2
            refine wpAnyH_take (i := 26) (oi := ⟨some 111, _, _, _, _, _⟩) (v := .bool false) rfl (by kernel_rfl) (by kernel_rfl) (by kernel_rfl) (fun _ _ _ h => h) (.inl ⟨by kernel_rfl, fun V hS => by go_simp⟩) hS3 ?_
            simp only [Act.put, List.setIfInBounds_toArray, List.set_cons_zero, List.set_cons_succ]
            refine wpAnyH_take (i := 27) (oi := ⟨some 112, _, _, _, _, _⟩) (v := .bool false) rfl (by kernel_rfl) (by kernel_rfl) (by kernel_rfl) (fun _ _ _ h => h) (.inl ⟨by kernel_rfl, fun V hS => by go_simp⟩) hS3 ?_
            simp only [Act.put, List.setIfInBounds_toArray, List.set_cons_zero, List.set_cons_succ]
            refine wpAnyH_take (i := 28) (oi := ⟨some 113, _, _, _, _, _⟩) (v := .bool false) rfl (by kernel_rfl) (by kernel_rfl) (by kernel_rfl) (fun _ _ _ h => h) (.inl ⟨by kernel_rfl, fun V hS => by go_simp⟩) hS3 ?_
            simp only [Act.put, List.setIfInBounds_toArray, List.set_cons_zero, List.set_cons_succ]
            refine wpAnyH_take (i := 29) (oi := ⟨some 114, _, _, _, _, _⟩) (v := .bool false) rfl (by kernel_rfl) (by kernel_rfl) (by kernel_rfl) (fun _ _ _ h => h) (.inl ⟨by kernel_rfl, fun V hS => by go_simp⟩) hS3 ?_
            simp only [Act.put, List.setIfInBounds_toArray, List.set_cons_zero, List.set_cons_succ]
            refine wpAnyH_take (i := 30) (oi := ⟨some 115, _, _, _, _, _⟩) (v := .pointer (some ⟨LB, 0, none⟩)) rfl (by kernel_rfl) (by kernel_rfl) (by kernel_rfl) (fun _ _ _ h => h) (.inl ⟨by kernel_rfl, fun V hS => by go_simp⟩) hS3 ?_
            simp only [Act.put, List.setIfInBounds_toArray, List.set_cons_zero, List.set_cons_succ]
            refine wpAnyH_take (i := 31) (oi := ⟨some 116, _, _, _, _, _⟩) (v := .pointer (some ⟨LB, 0, none⟩)) rfl (by kernel_rfl) (by kernel_rfl) (by kernel_rfl) (fun _ _ _ h => h) (.inl ⟨by kernel_rfl, fun V hS => by go_simp⟩) hS3 ?_
            simp only [Act.put, List.setIfInBounds_toArray, List.set_cons_zero, List.set_cons_succ]
            refine wpAnyH_take (i := 32) (oi := ⟨some 117, _, _, _, _, _⟩) (v := .pointer (some ⟨LB, 2, none⟩)) rfl (by kernel_rfl) (by kernel_rfl) (by kernel_rfl) (fun _ _ _ h => h) (.inl ⟨by kernel_rfl, fun V hS => by go_simp⟩) hS3 ?_
            simp only [Act.put, List.setIfInBounds_toArray, List.set_cons_zero, List.set_cons_succ]
            refine wpAnyH_take (i := 33) (oi := ⟨some 118, _, _, _, _, _⟩) (v := .slice kA nn kc) rfl (by kernel_rfl) (by kernel_rfl) (by kernel_rfl) (fun _ _ _ h => h) (.inl ⟨by kernel_rfl, fun V hS => by have sc := hS.2.2.cell 2; simp at sc; go_simp⟩) hS3 ?_
            simp only [Act.put, List.setIfInBounds_toArray, List.set_cons_zero, List.set_cons_succ]
            refine wpAnyH_take (i := 34) (oi := ⟨some 119, _, _, _, _, _⟩) (v := .int .i64 (nn : Int)) rfl (by kernel_rfl) (by kernel_rfl) (by kernel_rfl) (fun _ _ _ h => h) (.inl ⟨by kernel_rfl, fun V hS => by go_simp⟩) hS3 ?_
            simp only [Act.put, List.setIfInBounds_toArray, List.set_cons_zero, List.set_cons_succ]
            refine wpAnyH_take (i := 35) (oi := ⟨some 120, _, _, _, _, _⟩) (v := .pointer (some ⟨LB, 0, none⟩)) rfl (by kernel_rfl) (by kernel_rfl) (by kernel_rfl) (fun _ _ _ h => h) (.inl ⟨by kernel_rfl, fun V hS => by go_simp⟩) hS3 ?_
            simp only [Act.put, List.setIfInBounds_toArray, List.set_cons_zero, List.set_cons_succ]
            refine wpAnyH_take (i := 36) (oi := ⟨some 121, _, _, _, _, _⟩) (v := .pointer (some ⟨LB, 0, none⟩)) rfl (by kernel_rfl) (by kernel_rfl) (by kernel_rfl) (fun _ _ _ h => h) (.inl ⟨by kernel_rfl, fun V hS => by go_simp⟩) hS3 ?_
            simp only [Act.put, List.setIfInBounds_toArray, List.set_cons_zero, List.set_cons_succ]
            refine wpAnyH_take (i := 37) (oi := ⟨some 122, _, _, _, _, _⟩) (v := .pointer (some ⟨LB, 1, none⟩)) rfl (by kernel_rfl) (by kernel_rfl) (by kernel_rfl) (fun _ _ _ h => h) (.inl ⟨by kernel_rfl, fun V hS => by go_simp⟩) hS3 ?_
            simp only [Act.put, List.setIfInBounds_toArray, List.set_cons_zero, List.set_cons_succ]
            refine wpAnyH_take (i := 38) (oi := ⟨some 123, _, _, _, _, _⟩) (v := .slice nA nn nc) rfl (by kernel_rfl) (by kernel_rfl) (by kernel_rfl) (fun _ _ _ h => h) (.inl ⟨by kernel_rfl, fun V hS => by have sc := hS.2.2.cell 1; simp at sc; go_simp⟩) hS3 ?_
            simp only [Act.put, List.setIfInBounds_toArray, List.set_cons_zero, List.set_cons_succ]
            refine wpAnyH_take (i := 39) (oi := ⟨some 124, _, _, _, _, _⟩) (v := .int .i64 (nn : Int)) rfl (by kernel_rfl) (by kernel_rfl) (by kernel_rfl) (fun _ _ _ h => h) (.inl ⟨by kernel_rfl, fun V hS => by go_simp⟩) hS3 ?_
            simp only [Act.put, List.setIfInBounds_toArray, List.set_cons_zero, List.set_cons_succ]
            refine wpAnyH_take (i := 40) (oi := ⟨some 125, _, _, _, _, _⟩) (v := .bool false) rfl (by kernel_rfl) (by kernel_rfl) (by kernel_rfl) (fun _ _ _ h => h) (.inl ⟨by kernel_rfl, fun V hS => by go_simp⟩) hS3 ?_
            simp only [Act.put, List.setIfInBounds_toArray, List.set_cons_zero, List.set_cons_succ]
            refine wpAnyH_take (i := 41) (oi := ⟨some 126, _, _, _, _, _⟩) (v := .bool false) rfl (by kernel_rfl) (by kernel_rfl) (by kernel_rfl) (fun _ _ _ h => h) (.inl ⟨by kernel_rfl, fun V hS => by go_simp⟩) hS3 ?_
            simp only [Act.put, List.setIfInBounds_toArray, List.set_cons_zero, List.set_cons_succ]
            refine wpAnyH_done (by kernel_rfl) ?_ _
            clear p1 p1' p1'' k0 k1 k2 k3  HS0
            go_wp2
            exact HTL.out _ _ LB nA nc kb kA kc nn V.tail R'.ask rfl rfl rfl rfl rfl HG.out (HLD8.out.bel HBY.out) hnn9 (HB8.out.trans (HBY.out.mono HB8.out.size)) (HKW8.out.below HBY.out HKW8.out.lt) HASK.out
          · have e1 := hoT2 hv1
            subst e1
            refine wp_region_held_drew (S := fun V => Blk V B10 31 #[.string cx.p, .int .i64 cx.n, .string cx.h] ∧ Blk V B13 31 #[.string cx.p, .int .i64 cx.n, .string cx.h] ∧ Blk V LB 41 #[.slice A n c, .slice nA nn nc, .slice kA nn kc, .int .i64 stop]) (by kernel_rfl) (HS0.out) (fun hS1 => ?_)
            obtain ⟨WD, hWD⟩ : ∃ WD, WD = w8.drew := ⟨_, rfl⟩
            rw [← hWD] at hS1 ⊢
            have HBD : Hid (Below w8.heap.size w8 WD) := Lib.hid (by rw [hWD]; exact (Below.refl _ _).drew)
            clear hWD
            refine wpAnyH_take (i := 0) (oi := ⟨some 85, _, _, _, _, _⟩) (v := .agg #[.string cx.p, .int .i64 cx.n, .string cx.h]) rfl (by kernel_rfl) (by kernel_rfl) (by kernel_rfl) (fun _ _ _ h => h) (.inl ⟨by kernel_rfl, fun V hS => by have h0 := hS.1.cell 0; have h1 := hS.1.cell 1; have h2 := hS.1.cell 2; simp at h0 h1 h2; go_simp⟩) hS1 ?_
            simp only [Act.put, List.setIfInBounds_toArray, List.set_cons_zero, List.set_cons_succ]
            refine wpAnyH_take (i := 1) (oi := ⟨some 86, _, _, _, _, _⟩) (v := .agg #[.string cx.p, .int .i64 cx.n, .string cx.h]) rfl (by kernel_rfl) (by kernel_rfl) (by kernel_rfl) (fun _ _ _ h => h) (.inl ⟨by kernel_rfl, fun V hS => by have h0 := hS.2.1.cell 0; have h1 := hS.2.1.cell 1; have h2 := hS.2.1.cell 2; simp at h0 h1 h2; go_simp⟩) hS1 ?_
            simp only [Act.put, List.setIfInBounds_toArray, List.set_cons_zero, List.set_cons_succ]
            refine wpAnyH_take (i := 2) (oi := ⟨some 87, _, _, _, _, _⟩) (v := .bool false) rfl (by kernel_rfl) (by kernel_rfl) (by kernel_rfl) (fun _ _ _ h => h) (.inl ⟨by kernel_rfl, fun V hS => by go_simp⟩) hS1 ?_
            simp only [Act.put, List.setIfInBounds_toArray, List.set_cons_zero, List.set_cons_succ]
            refine wpAnyH_take (i := 3) (oi := ⟨some 88, _, _, _, _, _⟩) (v := .bool false) rfl (by kernel_rfl) (by kernel_rfl) (by kernel_rfl) (fun _ _ _ h => h) (.inl ⟨by kernel_rfl, fun V hS => by go_simp⟩) hS1 ?_
            simp only [Act.put, List.setIfInBounds_toArray, List.set_cons_zero, List.set_cons_succ]
            refine wpAnyH_take (i := 4) (oi := ⟨some 89, _, _, _, _, _⟩) (v := .slice vA rn vc) rfl (by kernel_rfl) (by kernel_rfl) (by kernel_rfl) (fun _ _ _ h => h) (.inl ⟨by kernel_rfl, fun V hS => by go_simp⟩) hS1 ?_
            simp only [Act.put, List.setIfInBounds_toArray, List.set_cons_zero, List.set_cons_succ]
            refine wpAnyH_take (i := 5) (oi := ⟨some 90, _, _, _, _, _⟩) (v := .slice (some ⟨bB, 0, none⟩) rn vd) rfl (by kernel_rfl) (by kernel_rfl) (by kernel_rfl) (fun _ _ _ h => h) (.inl ⟨by kernel_rfl, fun V hS => by go_simp⟩) hS1 ?_
            simp only [Act.put, List.setIfInBounds_toArray, List.set_cons_zero, List.set_cons_succ]
            refine wpAnyH_ready (rs := [6]) (by kernel_rfl) (by simp) ?_
            refine AllReadyH.cons rfl (fun K' hK => ?_) AllReadyH.nil
            go_simp
            refine (HSM1.out WD HBD.out).mono ?_
            rintro e wX ⟨rfl, hbX⟩
            have HBX := Lib.hid (HBD.out.trans (hbX.mono HBD.out.size))
            refine hK.out _ _ (⟨(hS1).1.below hbX (hS1).1.lt, (hS1).2.1.below hbX (hS1).2.1.lt, (hS1).2.2.below hbX (hS1).2.2.lt⟩) (fun hS2 => ?_)
            clear hK K' hS1
            refine wpAnyH_take (i := 7) (oi := ⟨some 92, _, _, _, _, _⟩) (v := .bool false) rfl (by kernel_rfl) (by kernel_rfl) (by kernel_rfl) (fun _ _ _ h => h) (.inl ⟨by kernel_rfl, fun V hS => by go_simp⟩) hS2 ?_
            simp only [Act.put, List.setIfInBounds_toArray, List.set_cons_zero, List.set_cons_succ]
            refine wpAnyH_take (i := 8) (oi := ⟨some 93, _, _, _, _, _⟩) (v := .bool false) rfl (by kernel_rfl) (by kernel_rfl) (by kernel_rfl) (fun _ _ _ h => h) (.inl ⟨by kernel_rfl, fun V hS => by go_simp⟩) hS2 ?_
            simp only [Act.put, List.setIfInBounds_toArray, List.set_cons_zero, List.set_cons_succ]
            refine wpAnyH_take (i := 9) (oi := ⟨some 94, _, _, _, _, _⟩) (v := .bool false) rfl (by kernel_rfl) (by kernel_rfl) (by kernel_rfl) (fun _ _ _ h => h) (.inl ⟨by kernel_rfl, fun V hS => by go_simp⟩) hS2 ?_
            simp only [Act.put, List.setIfInBounds_toArray, List.set_cons_zero, List.set_cons_succ]
            refine wpAnyH_take (i := 10) (oi := ⟨some 95, _, _, _, _, _⟩) (v := .int .i64 R.e) rfl (by kernel_rfl) (by kernel_rfl) (by kernel_rfl) (fun _ _ _ h => h) (.inl ⟨by kernel_rfl, fun V hS => by go_simp⟩) hS2 ?_
            simp only [Act.put, List.setIfInBounds_toArray, List.set_cons_zero, List.set_cons_succ]
            refine wpAnyH_take (i := 11) (oi := ⟨some 96, _, _, _, _, _⟩) (v := .int .i64 R.e) rfl (by kernel_rfl) (by kernel_rfl) (by kernel_rfl) (fun _ _ _ h => h) (.inl ⟨by kernel_rfl, fun V hS => by go_simp⟩) hS2 ?_
            simp only [Act.put, List.setIfInBounds_toArray, List.set_cons_zero, List.set_cons_succ]
            refine wpAnyH_take (i := 12) (oi := ⟨some 97, _, _, _, _, _⟩) (v := .bool false) rfl (by kernel_rfl) (by kernel_rfl) (by kernel_rfl) (fun _ _ _ h => h) (.inl ⟨by kernel_rfl, fun V hS => by go_simp⟩) hS2 ?_
            simp only [Act.put, List.setIfInBounds_toArray, List.set_cons_zero, List.set_cons_succ]
            refine wpAnyH_take (i := 13) (oi := ⟨some 98, _, _, _, _, _⟩) (v := .bool false) rfl (by kernel_rfl) (by kernel_rfl) (by kernel_rfl) (fun _ _ _ h => h) (.inl ⟨by kernel_rfl, fun V hS => by go_simp⟩) hS2 ?_
            simp only [Act.put, List.setIfInBounds_toArray, List.set_cons_zero, List.set_cons_succ]
            refine wpAnyH_take (i := 14) (oi := ⟨some 99, _, _, _, _, _⟩) (v := .bool false) rfl (by kernel_rfl) (by kernel_rfl) (by kernel_rfl) (fun _ _ _ h => h) (.inl ⟨by kernel_rfl, fun V hS => by go_simp⟩) hS2 ?_
            simp only [Act.put, List.setIfInBounds_toArray, List.set_cons_zero, List.set_cons_succ]
            refine wpAnyH_take (i := 15) (oi := ⟨some 100, _, _, _, _, _⟩) (v := .slice vA rn vc) rfl (by kernel_rfl) (by kernel_rfl) (by kernel_rfl) (fun _ _ _ h => h) (.inl ⟨by kernel_rfl, fun V hS => by go_simp⟩) hS2 ?_
            simp only [Act.put, List.setIfInBounds_toArray, List.set_cons_zero, List.set_cons_succ]
            refine wpAnyH_take (i := 16) (oi := ⟨some 101, _, _, _, _, _⟩) (v := .int .i64 (rn : Int)) rfl (by kernel_rfl) (by kernel_rfl) (by kernel_rfl) (fun _ _ _ h => h) (.inl ⟨by kernel_rfl, fun V hS => by go_simp⟩) hS2 ?_
            simp only [Act.put, List.setIfInBounds_toArray, List.set_cons_zero, List.set_cons_succ]
            refine wpAnyH_take (i := 17) (oi := ⟨some 102, _, _, _, _, _⟩) (v := .bool true) rfl (by kernel_rfl) (by kernel_rfl) (by kernel_rfl) (fun _ _ _ h => h) (.inl ⟨by kernel_rfl, fun V hS => by go_simp⟩) hS2 ?_
            simp only [Act.put, List.setIfInBounds_toArray, List.set_cons_zero, List.set_cons_succ]
            refine wpAnyH_take (i := 18) (oi := ⟨some 103, _, _, _, _, _⟩) (v := .bool true) rfl (by kernel_rfl) (by kernel_rfl) (by kernel_rfl) (fun _ _ _ h => h) (.inl ⟨by kernel_rfl, fun V hS => by go_simp⟩) hS2 ?_
            simp only [Act.put, List.setIfInBounds_toArray, List.set_cons_zero, List.set_cons_succ]
            refine wpAnyH_take (i := 19) (oi := ⟨some 104, _, _, _, _, _⟩) (v := .pointer (some ⟨LB, 0, none⟩)) rfl (by kernel_rfl) (by kernel_rfl) (by kernel_rfl) (fun _ _ _ h => h) (.inl ⟨by kernel_rfl, fun V hS => by go_simp⟩) hS2 ?_
            simp only [Act.put, List.setIfInBounds_toArray, List.set_cons_zero, List.set_cons_succ]
            refine wpAnyH_take (i := 20) (oi := ⟨some 105, _, _, _, _, _⟩) (v := .pointer (some ⟨LB, 0, none⟩)) rfl (by kernel_rfl) (by kernel_rfl) (by kernel_rfl) (fun _ _ _ h => h) (.inl ⟨by kernel_rfl, fun V hS => by go_simp⟩) hS2 ?_
            simp only [Act.put, List.setIfInBounds_toArray, List.set_cons_zero, List.set_cons_succ]
            refine wpAnyH_take (i := 21) (oi := ⟨some 106, _, _, _, _, _⟩) (v := .pointer (some ⟨LB, 1, none⟩)) rfl (by kernel_rfl) (by kernel_rfl) (by kernel_rfl) (fun _ _ _ h => h) (.inl ⟨by kernel_rfl, fun V hS => by go_simp⟩) hS2 ?_
            simp only [Act.put, List.setIfInBounds_toArray, List.set_cons_zero, List.set_cons_succ]
            refine wpAnyH_take (i := 22) (oi := ⟨some 107, _, _, _, _, _⟩) (v := .slice nA nn nc) rfl (by kernel_rfl) (by kernel_rfl) (by kernel_rfl) (fun _ _ _ h => h) (.inl ⟨by kernel_rfl, fun V hS => by have sc := hS.2.2.cell 1; simp at sc; go_simp⟩) hS2 ?_
            simp only [Act.put, List.setIfInBounds_toArray, List.set_cons_zero, List.set_cons_succ]
            refine wpAnyH_take (i := 23) (oi := ⟨some 108, _, _, _, _, _⟩) (v := .slice (some ⟨bB, 0, none⟩) rn vd) rfl (by kernel_rfl) (by kernel_rfl) (by kernel_rfl) (fun _ _ _ h => h) (.inl ⟨by kernel_rfl, fun V hS => by go_simp⟩) hS2 ?_
            simp only [Act.put, List.setIfInBounds_toArray, List.set_cons_zero, List.set_cons_succ]
            refine wpAnyH_take (i := 24) (oi := ⟨some 109, _, _, _, _, _⟩) (v := .slice (some ⟨bB, 1, none⟩) (rn - 1) (vd - 1)) rfl (by kernel_rfl) (by kernel_rfl) (by kernel_rfl) (fun _ _ _ h => h) (.inl ⟨by kernel_rfl, fun V hS => by go_simp⟩) hS2 ?_
            simp only [Act.put, List.setIfInBounds_toArray, List.set_cons_zero, List.set_cons_succ]
            refine wpAnyH_ready (rs := [25]) (by kernel_rfl) (by simp) ?_
            refine AllReadyH.cons rfl (fun K' hK => ?_) AllReadyH.nil
            go_simp
            refine (HSM2.out wX HBX.out).mono ?_
            rintro e wY ⟨rfl, hbY⟩
            have HBY := Lib.hid (HBX.out.trans (hbY.mono HBX.out.size))
            refine hK.out _ _ (⟨(hS2).1.below hbY (hS2).1.lt, (hS2).2.1.below hbY (hS2).2.1.lt, (hS2).2.2.below hbY (hS2).2.2.lt⟩) (fun hS3 => ?_)
            clear hK K' hS2
            refine wpAnyH_take (i := 26) (oi := ⟨some 111, _, _, _, _, _⟩) (v := .bool false) rfl (by kernel_rfl) (by kernel_rfl) (by kernel_rfl) (fun _ _ _ h => h) (.inl ⟨by kernel_rfl, fun V hS => by go_simp⟩) hS3 ?_
            simp only [Act.put, List.setIfInBounds_toArray, List.set_cons_zero, List.set_cons_succ]
            refine wpAnyH_take (i := 27) (oi := ⟨some 112, _, _, _, _, _⟩) (v := .bool false) rfl (by kernel_rfl) (by kernel_rfl) (by kernel_rfl) (fun _ _ _ h => h) (.inl ⟨by kernel_rfl, fun V hS => by go_simp⟩) hS3 ?_
            simp only [Act.put, List.setIfInBounds_toArray, List.set_cons_zero, List.set_cons_succ]
            refine wpAnyH_take (i := 28) (oi := ⟨some 113, _, _, _, _, _⟩) (v := .bool false) rfl (by kernel_rfl) (by kernel_rfl) (by kernel_rfl) (fun _ _ _ h => h) (.inl ⟨by kernel_rfl, fun V hS => by go_simp⟩) hS3 ?_
            simp only [Act.put, List.setIfInBounds_toArray, List.set_cons_zero, List.set_cons_succ]
            refine wpAnyH_take (i := 29) (oi := ⟨some 114, _, _, _, _, _⟩) (v := .bool false) rfl (by kernel_rfl) (by kernel_rfl) (by kernel_rfl) (fun _ _ _ h => h) (.inl ⟨by kernel_rfl, fun V hS => by go_simp⟩) hS3 ?_
            simp only [Act.put, List.setIfInBounds_toArray, List.set_cons_zero, List.set_cons_succ]
            refine wpAnyH_take (i := 30) (oi := ⟨some 115, _, _, _, _, _⟩) (v := .pointer (some ⟨LB, 0, none⟩)) rfl (by kernel_rfl) (by kernel_rfl) (by kernel_rfl) (fun _ _ _ h => h) (.inl ⟨by kernel_rfl, fun V hS => by go_simp⟩) hS3 ?_
            simp only [Act.put, List.setIfInBounds_toArray, List.set_cons_zero, List.set_cons_succ]
            refine wpAnyH_take (i := 31) (oi := ⟨some 116, _, _, _, _, _⟩) (v := .pointer (some ⟨LB, 0, none⟩)) rfl (by kernel_rfl) (by kernel_rfl) (by kernel_rfl) (fun _ _ _ h => h) (.inl ⟨by kernel_rfl, fun V hS => by go_simp⟩) hS3 ?_
            simp only [Act.put, List.setIfInBounds_toArray, List.set_cons_zero, List.set_cons_succ]
            refine wpAnyH_take (i := 32) (oi := ⟨some 117, _, _, _, _, _⟩) (v := .pointer (some ⟨LB, 2, none⟩)) rfl (by kernel_rfl) (by kernel_rfl) (by kernel_rfl) (fun _ _ _ h => h) (.inl ⟨by kernel_rfl, fun V hS => by go_simp⟩) hS3 ?_
            simp only [Act.put, List.setIfInBounds_toArray, List.set_cons_zero, List.set_cons_succ]
            refine wpAnyH_take (i := 33) (oi := ⟨some 118, _, _, _, _, _⟩) (v := .slice kA nn kc) rfl (by kernel_rfl) (by kernel_rfl) (by kernel_rfl) (fun _ _ _ h => h) (.inl ⟨by kernel_rfl, fun V hS => by have sc := hS.2.2.cell 2; simp at sc; go_simp⟩) hS3 ?_
            simp only [Act.put, List.setIfInBounds_toArray, List.set_cons_zero, List.set_cons_succ]
            refine wpAnyH_take (i := 34) (oi := ⟨some 119, _, _, _, _, _⟩) (v := .int .i64 (nn : Int)) rfl (by kernel_rfl) (by kernel_rfl) (by kernel_rfl) (fun _ _ _ h => h) (.inl ⟨by kernel_rfl, fun V hS => by go_simp⟩) hS3 ?_
            simp only [Act.put, List.setIfInBounds_toArray, List.set_cons_zero, List.set_cons_succ]
            refine wpAnyH_take (i := 35) (oi := ⟨some 120, _, _, _, _, _⟩) (v := .pointer (some ⟨LB, 0, none⟩)) rfl (by kernel_rfl) (by kernel_rfl) (by kernel_rfl) (fun _ _ _ h => h) (.inl ⟨by kernel_rfl, fun V hS => by go_simp⟩) hS3 ?_
            simp only [Act.put, List.setIfInBounds_toArray, List.set_cons_zero, List.set_cons_succ]
            refine wpAnyH_take (i := 36) (oi := ⟨some 121, _, _, _, _, _⟩) (v := .pointer (some ⟨LB, 0, none⟩)) rfl (by kernel_rfl) (by kernel_rfl) (by kernel_rfl) (fun _ _ _ h => h) (.inl ⟨by kernel_rfl, fun V hS => by go_simp⟩) hS3 ?_
            simp only [Act.put, List.setIfInBounds_toArray, List.set_cons_zero, List.set_cons_succ]
            refine wpAnyH_take (i := 37) (oi := ⟨some 122, _, _, _, _, _⟩) (v := .pointer (some ⟨LB, 1, none⟩)) rfl (by kernel_rfl) (by kernel_rfl) (by kernel_rfl) (fun _ _ _ h => h) (.inl ⟨by kernel_rfl, fun V hS => by go_simp⟩) hS3 ?_
            simp only [Act.put, List.setIfInBounds_toArray, List.set_cons_zero, List.set_cons_succ]
            refine wpAnyH_take (i := 38) (oi := ⟨some 123, _, _, _, _, _⟩) (v := .slice nA nn nc) rfl (by kernel_rfl) (by kernel_rfl) (by kernel_rfl) (fun _ _ _ h => h) (.inl ⟨by kernel_rfl, fun V hS => by have sc := hS.2.2.cell 1; simp at sc; go_simp⟩) hS3 ?_
            simp only [Act.put, List.setIfInBounds_toArray, List.set_cons_zero, List.set_cons_succ]
            refine wpAnyH_take (i := 39) (oi := ⟨some 124, _, _, _, _, _⟩) (v := .int .i64 (nn : Int)) rfl (by kernel_rfl) (by kernel_rfl) (by kernel_rfl) (fun _ _ _ h => h) (.inl ⟨by kernel_rfl, fun V hS => by go_simp⟩) hS3 ?_
            simp only [Act.put, List.setIfInBounds_toArray, List.set_cons_zero, List.set_cons_succ]
            refine wpAnyH_take (i := 40) (oi := ⟨some 125, _, _, _, _, _⟩) (v := .bool false) rfl (by kernel_rfl) (by kernel_rfl) (by kernel_rfl) (fun _ _ _ h => h) (.inl ⟨by kernel_rfl, fun V hS => by go_simp⟩) hS3 ?_
            simp only [Act.put, List.setIfInBounds_toArray, List.set_cons_zero, List.set_cons_succ]
            refine wpAnyH_take (i := 41) (oi := ⟨some 126, _, _, _, _, _⟩) (v := .bool false) rfl (by kernel_rfl) (by kernel_rfl) (by kernel_rfl) (fun _ _ _ h => h) (.inl ⟨by kernel_rfl, fun V hS => by go_simp⟩) hS3 ?_
            simp only [Act.put, List.setIfInBounds_toArray, List.set_cons_zero, List.set_cons_succ]
            refine wpAnyH_done (by kernel_rfl) ?_ _
            clear p1 p1' p1'' k0 k1 k2 k3 hv1 hoT1 hoT2 HS0
            go_wp2
            exact HTL.out _ _ LB nA nc kb kA kc nn V.tail R'.ask rfl rfl rfl rfl rfl HG.out (HLD8.out.bel HBY.out) hnn9 (HB8.out.trans (HBY.out.mono HB8.out.size)) (HKW8.out.below HBY.out HKW8.out.lt) HASK.out
end Go.Proofs.YthidjdjcjjbpbaaGreatDoor
