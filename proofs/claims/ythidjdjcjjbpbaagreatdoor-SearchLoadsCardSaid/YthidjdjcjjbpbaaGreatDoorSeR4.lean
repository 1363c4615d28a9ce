/-
  The document's Covering.
-/
import Derived.Test.YthidjdjcjjbpbaaGreatDoorSeA
import Derived.Test.YthidjdjcjjbpbaaGreatDoorSeR3
namespace Go.Proofs.YthidjdjcjjbpbaaGreatDoor
open Go.RowKit Sea Glob
set_option linter.unusedVariables false
set_option linter.unusedSimpArgs false

/-- a list of delegations that the call owns; their rows lie in the world w0 -/
structure DL (X : Nat → Prop) (w0 w : World) (base : Nat) (v : Value) (l : List PD) (L : List (PD × DA)) : Prop where
  own : OG 59 6 w base v L.length (L.flatMap dcs)
  l : L.map (·.1) = l
  ok : ∀ x ∈ L, DOk X w0 x.1 x.2
theorem DL.snoc {X : Nat → Prop} {w0 w w' : World} {base : Nat} {v v' : Value} {l : List PD} {L : List (PD × DA)} (h : DL X w0 w base v l L) (d : PD) (a : DA) (hd : DOk X w0 d a) (ho : OG 59 6 w' base v' (L.length + 1) (L.flatMap dcs ++ d.cs a)) : DL X w0 w' base v' (l ++ [d]) (L ++ [(d, a)]) := by
  refine ⟨?_, by rw [List.map_append, h.l]; rfl, fun x hx => ?_⟩
  · rw [List.length_append, List.flatMap_append]
    exact ho
  · rcases List.mem_append.1 hx with hx | hx
    · exact h.ok x hx
    · rw [List.mem_singleton] at hx; rw [hx]; exact hd
def CvP (X : Nat → Prop) (l : List PD) (w : World) (e : Ending) (w' : World) : Prop := ∃ v L, e = .returned v ∧ DL X w w' w.heap.size v l L ∧ Below w.heap.size w w'
set_option maxRecDepth 100000 in
set_option maxHeartbeats 4000000 in
theorem rcovering_any (X : Nat → Prop) (t : PM) (a : MA) (path : ByteArray) (w : World) (h : MOk X w t a) (hs : t.ds.length ≤ 30) (hp : path.size ≤ 1000) : Calls Tryz.prog 22 #[t.val a, .string path] w fun e w' => PF (CvP X (covering (covP path) t.ds) w) e w' := by
  obtain ⟨W1, hW1⟩ : ∃ W1, W1 = (w.alloc (.cells #[.int .i64 t.ver, .int .i64 t.exp, .slice a.tA t.ts.length a.tc, .slice a.kA t.ks.length a.kc, .slice a.dA t.ds.length a.dc] 26)) := ⟨_, rfl⟩
  have hb1 : Below w.heap.size w W1 := by rw [hW1]; exact (Below.refl _ _).alloc (Nat.le_refl _) _
  have hk1 : Blk W1 w.heap.size 26 #[.int .i64 t.ver, .int .i64 t.exp, .slice a.tA t.ts.length a.tc, .slice a.kA t.ks.length a.kc, .slice a.dA t.ds.length a.dc] := by rw [hW1]; exact Blk.new _ _ _
  obtain ⟨r, hr⟩ : ∃ r, r = covering (covP path) t.ds := ⟨_, rfl⟩
  rw [← hr]
  have HR := Lib.hid hr
  have HV := Lib.hid h
  have HS := Lib.hid hs
  have HB1 := Lib.hid hb1
  have HW1 := Lib.hid hW1
  have HK1 := Lib.hid hk1
  have HP := Lib.hid hp
  unfold Sea.PM.val Sea.PM.cs
  clear h hb1 hk1 hW1 hr hp hs
  go_enter Tryz.func22, Tryz.ntmps22
  go_wp2
  rw [← HW1.out]
  go_loopw [5, 6] (fun v i wr => ∃ k : Nat, ∃ l L, k ≤ t.ds.length ∧ i = .int .i64 k ∧ Hid (r = l ++ covering (covP path) (t.ds.drop k)) ∧ Hid (DL X w wr w.heap.size v l L) ∧ Hid (L.length ≤ k) ∧ Hid (Below w.heap.size w wr) ∧ Hid (Blk wr w.heap.size 26 #[.int .i64 t.ver, .int .i64 t.exp, .slice a.tA t.ts.length a.tc, .slice a.kA t.ks.length a.kc, .slice a.dA t.ds.length a.dc])) (fun _ i _ => t.ds.length - (intOf i).toNat)
  case atStart => exact ⟨0, [], [], Nat.zero_le _, rfl, Lib.hid (by rw [HR.out]; rfl), Lib.hid ⟨OG.nil _ _ _ _, rfl, fun _ h => by cases h⟩, Lib.hid (Nat.zero_le _), HB1, HK1⟩
  case round =>
    obtain ⟨k, l, L, hk, rfl, HB, HL, HLL, HW, HK⟩ := hrel
    have e2 : wr.cell? ⟨w.heap.size, 4, none⟩ = some (.slice a.dA t.ds.length a.dc) := HK.out.cell 4
    rcases (by omega : k < t.ds.length ∨ k = t.ds.length) with hlt | heq
    · have q5 : decide ((k : Int) < (t.ds.length : Int)) = true := by rw [decide_eq_true_iff]; omega
      have q5' : decide (k < t.ds.length) = true := by rw [decide_eq_true_iff]; omega
      obtain ⟨b, o, hA, hbl, hbx, hc⟩ := (HV.out).rd (by omega)
      have HLT := Lib.hid hlt
      obtain ⟨x, hx, hck⟩ : ∃ x, x = t.ds[k] ∧ DelB X w b (o + k * 6) x := ⟨_, rfl, hc k hlt⟩
      obtain ⟨da, hcs, hok⟩ := hck
      have HCS := Lib.hid hcs
      have HOK := Lib.hid hok
      have HBL := Lib.hid hbl
      have d0 : wr.cell? ⟨b, o + k * 6, none⟩ = some (.string x.name) := (HW.out.cell HBL.out).trans (HCS.out 0 (by omega))
      have d1 : wr.cell? ⟨b, o + k * 6 + 1, none⟩ = some (.slice da.kA x.rk.length da.kc) := (HW.out.cell HBL.out).trans (HCS.out 1 (by omega))
      have d2 : wr.cell? ⟨b, o + k * 6 + 2, none⟩ = some (.int .i64 x.thr) := (HW.out.cell HBL.out).trans (HCS.out 2 (by omega))
      have d3 : wr.cell? ⟨b, o + k * 6 + 3, none⟩ = some (.bool x.term) := (HW.out.cell HBL.out).trans (HCS.out 3 (by omega))
      have d4 : wr.cell? ⟨b, o + k * 6 + 4, none⟩ = some (.slice da.pA x.paths.length da.pc) := (HW.out.cell HBL.out).trans (HCS.out 4 (by omega))
      have d5 : wr.cell? ⟨b, o + k * 6 + 5, none⟩ = some (.slice da.xA x.prefs.length da.xc) := (HW.out.cell HBL.out).trans (HCS.out 5 (by omega))
      rw [hA] at e2
      have hki : (k : Int) < (t.ds.length : Int) := by omega
      have hk0 : (0 : Int) ≤ (k : Int) := by omega
      have HX := Lib.hid hx
      have hcc := rcovers_any X x da path wr (HOK.out.bel HW.out) HP.out
      unfold Sea.PD.val Sea.PD.cs at hcc
      have HA := Lib.hid hA
      clear hA hbl hbx hc hx hcs hok
      obtain ⟨c, hd⟩ : ∃ c, c = covP path x := ⟨_, rfl⟩
      have HD := Lib.hid hd.symm
      rw [← hd] at hcc
      have HCC := Lib.hid hcc
      have hk9 : (k : Int) + 1 ≤ 100 := by have := HS.out; omega
      clear hcc hd
      go_wp2_with fail
      refine HCC.out.mono ?_
      rintro e w3 ⟨rfl, hb3⟩
      have HW3 := Lib.hid (HW.out.trans (hb3.mono HW.out.size))
      have HL3 := Lib.hid (show DL X w w3 w.heap.size u5 l L from ⟨HL.out.own.below hb3, HL.out.l, HL.out.ok⟩)
      have HK3 := Lib.hid (HK.out.below hb3 HK.out.lt)
      clear hb3 d0 d1 d2 d3 d4 d5 e2 HW HL HK
      cases c with
      | false =>
        go_wp2
        go_roundw
        case rel => exact ⟨k + 1, l, L, by omega, by go_num, Lib.hid (by rw [HB.out, cov_drop_no HLT.out HX.out HD.out]), HL3, Lib.hid (by have := HLL.out; omega), HW3, HK3⟩
        case measure => simp [intOf]; omega
      | true =>
        have e2 : w3.cell? ⟨w.heap.size, 4, none⟩ = some (.slice (some ⟨b, o, none⟩) t.ds.length a.dc) := (show w3.cell? ⟨w.heap.size, 4, none⟩ = some (.slice a.dA t.ds.length a.dc) from HK3.out.cell 4).trans (by rw [HA.out])
        have d0 : w3.cell? ⟨b, o + k * 6, none⟩ = some (.string x.name) := (HW3.out.cell HBL.out).trans (HCS.out 0 (by omega))
        have d1 : w3.cell? ⟨b, o + k * 6 + 1, none⟩ = some (.slice da.kA x.rk.length da.kc) := (HW3.out.cell HBL.out).trans (HCS.out 1 (by omega))
        have d2 : w3.cell? ⟨b, o + k * 6 + 2, none⟩ = some (.int .i64 x.thr) := (HW3.out.cell HBL.out).trans (HCS.out 2 (by omega))
        have d3 : w3.cell? ⟨b, o + k * 6 + 3, none⟩ = some (.bool x.term) := (HW3.out.cell HBL.out).trans (HCS.out 3 (by omega))
        have d4 : w3.cell? ⟨b, o + k * 6 + 4, none⟩ = some (.slice da.pA x.paths.length da.pc) := (HW3.out.cell HBL.out).trans (HCS.out 4 (by omega))
        have d5 : w3.cell? ⟨b, o + k * 6 + 5, none⟩ = some (.slice da.xA x.prefs.length da.xc) := (HW3.out.cell HBL.out).trans (HCS.out 5 (by omega))
        have HN := Lib.hid (reads_new w3 59 (x.cs da).toArray)
        have HOA := Lib.hid (HL3.out.own.alloc (.cells (x.cs da).toArray 59))
        have hszA : w.heap.size ≤ (w3.alloc (.cells (x.cs da).toArray 59)).heap.size := by have := HW3.out.size; simp; omega
        have hln : L.length + 1 ≤ 1000000000 := by have := HLL.out; have := HS.out; omega
        obtain ⟨tm, htm⟩ : ∃ tm, tm = x.term := ⟨_, rfl⟩
        have HTM := Lib.hid htm.symm
        have HPOST : Hid (∀ v1 w4, OG 59 6 w4 w.heap.size v1 (L.length + 1) (L.flatMap dcs ++ x.cs da) → (w3.alloc (.cells (x.cs da).toArray 59)).grownBy w4 u5.ownBlock →
            Hid (Below w.heap.size w w4) ∧ Hid (Blk w4 w.heap.size 26 #[.int .i64 t.ver, .int .i64 t.exp, .slice a.tA t.ts.length a.tc, .slice a.kA t.ks.length a.kc, .slice a.dA t.ds.length a.dc]) ∧ Hid (DL X w w4 w.heap.size v1 (l ++ [x]) (L ++ [(x, da)])) ∧ w4.cell? ⟨w.heap.size, 4, none⟩ = some (.slice (some ⟨b, o, none⟩) t.ds.length a.dc) ∧ w4.cell? ⟨b, o + k * 6 + 2, none⟩ = some (.int .i64 x.thr) ∧ w4.cell? ⟨b, o + k * 6 + 3, none⟩ = some (.bool tm)) := by
          refine Lib.hid fun v1 w4 hown hg => ?_
          have HB4 : Below w.heap.size w w4 := ((HW3.out.alloc HW3.out.size _)).grown hg (by simp; have := HW3.out.size; omega) (OG.ge HL3.out.own)
          have hf4 : Fr (fun g => u5.ownBlock = some g) (w3.alloc (.cells (x.cs da).toArray 59)) w4 := Fr.of_grown hg (fun k e => e)
          have hka := HK3.out.alloc (.cells (x.cs da).toArray 59)
          have hoa := OG.alloc HL3.out.own (.cells (x.cs da).toArray 59)
          have HK4 : Blk w4 w.heap.size 26 #[.int .i64 t.ver, .int .i64 t.exp, .slice a.tA t.ts.length a.tc, .slice a.kA t.ks.length a.kc, .slice a.dA t.ds.length a.dc] := hka.fr hf4 (OG.far hoa hka (by decide))
          refine ⟨Lib.hid HB4, Lib.hid HK4, Lib.hid (HL3.out.snoc x da HOK.out hown), ?_, (HB4.cell HBL.out).trans (HCS.out 2 (by omega)), ?_⟩
          · exact (show w4.cell? ⟨w.heap.size, 4, none⟩ = some (.slice a.dA t.ds.length a.dc) from HK4.cell 4).trans (by rw [HA.out])
          · rw [htm]; exact (HB4.cell HBL.out).trans (HCS.out 3 (by omega))
        clear htm
        go_wp2_with (at_builtin; refine app_raw _ infoDel Tryz.underlying24 (by omega) (by omega) rfl _ _ rfl w.heap.size _ _ _ rfl HOA.out _ 1 1 _ rfl HN.out (dcs_one (x, da)) hln hszA ?_; clear HN HOA hln; intro v1 w4 hown hg hat; obtain ⟨HB4, HK4, HL4, e3, g2, g3⟩ := HPOST.out v1 w4 hown hg; clear hown hg hat hszA HPOST e2 d0 d1 d2 d3 d4 d5; cases tm)
        · go_wp2
          go_roundw
          case rel => exact ⟨k + 1, l ++ [x], L ++ [(x, da)], by omega, by go_num, Lib.hid (by rw [HB.out, cov_drop_yes HLT.out HX.out HD.out HTM.out, List.append_assoc]; rfl), HL4, Lib.hid (by have := HLL.out; rw [List.length_append]; simp; omega), HB4, HK4⟩
          case measure => simp [intOf]; omega
        · go_wp2
          go_ret
          exact ⟨v1, _, rfl, by rw [HB.out, cov_drop_term HLT.out HX.out HD.out HTM.out]; exact HL4.out, HB4.out⟩
    · have q5 : decide ((k : Int) < (t.ds.length : Int)) = false := by rw [decide_eq_false_iff_not]; omega
      have q5' : decide (k < t.ds.length) = false := by rw [decide_eq_false_iff_not]; omega
      have HI : Hid (l = r) := Lib.hid (by rw [HB.out, heq, List.drop_length]; simp [covering])
      clear heq
      go_wp2
      go_ret
      exact ⟨u5, L, rfl, by rw [← HI.out]; exact HL.out, HW.out⟩
end Go.Proofs.YthidjdjcjjbpbaaGreatDoor
