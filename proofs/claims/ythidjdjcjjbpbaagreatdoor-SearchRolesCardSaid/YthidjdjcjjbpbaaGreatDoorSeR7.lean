/-
  The document's Roles.
-/
import Derived.Test.YthidjdjcjjbpbaaGreatDoorSeF2
import Derived.Test.YthidjdjcjjbpbaaGreatDoorSeR5
namespace Go.Proofs.YthidjdjcjjbpbaaGreatDoor
open Go.RowKit Sea
set_option linter.unusedVariables false
set_option linter.unusedSimpArgs false

theorem LG.at_ {w : World} {base : Nat} {A : Option Addr} {c : Nat} {N : List (PM × MA)} (h : LG 26 5 w base (.slice A N.length c) N.length (N.flatMap mcs)) {i : Nat} (hi : i < N.length) : ∃ g off, A = some ⟨g, off, none⟩ ∧ ∀ j, j < 5 → w.cell? ⟨g, off + i * 5 + j, none⟩ = (mcs N[i])[j]? := by
  obtain ⟨A', c', e, _, _, hc⟩ := h.form
  cases e
  obtain ⟨g, off, hA, _, hc⟩ := hc (by omega)
  refine ⟨g, off, hA, fun j hj => ?_⟩
  have hx : j < (mcs N[i]).length := hj
  rw [List.getElem?_eq_getElem hx]
  have := hc (i * 5 + j) (mcs N[i])[j] (by rw [flat_at mcs_len hi hj, List.getElem?_eq_getElem hx])
  rw [← Nat.add_assoc] at this
  exact this
set_option maxRecDepth 100000 in
set_option maxHeartbeats 8000000 in
theorem rroles_any (A : Option Addr) (n c : Nat) (l : List PN) (t : PM) (a : MA) (w : World) (h : MOk (fun b => w.heap.size ≤ b) w t a) (hl : NsR (fun b => w.heap.size ≤ b) w A l) (hg0 : PMs t) (hn : l.length = n) (hs : n ≤ 30) (hg : ∀ x ∈ l, PMs x.t) :
    Calls Tryz.prog 17 #[t.val a, .slice A n c] w fun e w' => PF (RolP (rolesAll l t) w) e w' := by
  obtain ⟨X, hX⟩ : ∃ X : Nat → Prop, X = fun b => w.heap.size ≤ b := ⟨_, rfl⟩
  rw [← hX] at h hl
  have hXX : ∀ b, w.heap.size ≤ b → X b := fun b hb => by rw [hX]; exact hb
  clear hX
  obtain ⟨W1, hW1⟩ : ∃ W1, W1 = w.alloc (.cells #[.int .i64 t.ver, .int .i64 t.exp, .slice a.tA t.ts.length a.tc, .slice a.kA t.ks.length a.kc, .slice a.dA t.ds.length a.dc] 26) := ⟨_, rfl⟩
  obtain ⟨W2, hW2⟩ : ∃ W2, W2 = W1.alloc (.cells #[.int .i64 t.ver, .int .i64 t.exp, .slice a.tA t.ts.length a.tc, .slice a.kA t.ks.length a.kc, .slice a.dA t.ds.length a.dc] 26) := ⟨_, rfl⟩
  have hb1 : Below w.heap.size w W1 := by rw [hW1]; exact (Below.refl _ _).alloc (Nat.le_refl _) _
  have hb2 : Below w.heap.size w W2 := by rw [hW2]; exact hb1.alloc hb1.size _
  have hk1 : Blk W1 w.heap.size 26 #[.int .i64 t.ver, .int .i64 t.exp, .slice a.tA t.ts.length a.tc, .slice a.kA t.ks.length a.kc, .slice a.dA t.ds.length a.dc] := by rw [hW1]; exact Blk.new _ _ _
  have hk2 : Blk W2 (w.heap.size + 1) 26 #[.int .i64 t.ver, .int .i64 t.exp, .slice a.tA t.ts.length a.tc, .slice a.kA t.ks.length a.kc, .slice a.dA t.ds.length a.dc] := by
    have q := Blk.new W1 26 #[.int .i64 t.ver, .int .i64 t.exp, .slice a.tA t.ts.length a.tc, .slice a.kA t.ks.length a.kc, .slice a.dA t.ds.length a.dc]
    rw [hW2]
    have e : W1.heap.size = w.heap.size + 1 := by rw [hW1]; simp
    rw [e] at q
    exact q
  obtain ⟨R, hR⟩ : ∃ R, R = rolesAll l t := ⟨_, rfl⟩
  rw [← hR]
  have HR0 : Hid (R = rolesP l (l.length + 1) [] [t]) := Lib.hid (by rw [hR]; rfl)
  have HI2 : Hid (RoI X w W2 (.slice none 0 0) (.slice (some ⟨w.heap.size + 1, 0, none⟩) 1 1) [] [(t, a)]) := Lib.hid ⟨OG.nil _ _ _ _, LG.of ⟨rfl, .inr ⟨w.heap.size + 1, 1, _, rfl, by omega, hk2, Nat.le_refl _, by simp [maxLen], rfl, rfl⟩⟩, fun x hx => by rw [List.mem_singleton] at hx; rw [hx]; exact ⟨h.bel hb2, hg0⟩, hb2⟩
  have HX := Lib.hid hXX
  have HV := Lib.hid hl
  have HN := Lib.hid hn
  have HS := Lib.hid hs
  have HGD := Lib.hid hg
  have HW1 := Lib.hid hW1
  have HW2 := Lib.hid hW2
  have HK1 := Lib.hid hk1
  have e0 : (w.alloc (.cells #[.int .i64 t.ver, .int .i64 t.exp, .slice a.tA t.ts.length a.tc, .slice a.kA t.ks.length a.kc, .slice a.dA t.ds.length a.dc] 26)).cell? ⟨w.heap.size, 0, none⟩ = some (.int .i64 t.ver) := by rw [← hW1]; exact hk1.cell 0
  have e1 : (w.alloc (.cells #[.int .i64 t.ver, .int .i64 t.exp, .slice a.tA t.ts.length a.tc, .slice a.kA t.ks.length a.kc, .slice a.dA t.ds.length a.dc] 26)).cell? ⟨w.heap.size, 1, none⟩ = some (.int .i64 t.exp) := by rw [← hW1]; exact hk1.cell 1
  have e2 : (w.alloc (.cells #[.int .i64 t.ver, .int .i64 t.exp, .slice a.tA t.ts.length a.tc, .slice a.kA t.ks.length a.kc, .slice a.dA t.ds.length a.dc] 26)).cell? ⟨w.heap.size, 2, none⟩ = some (.slice a.tA t.ts.length a.tc) := by rw [← hW1]; exact hk1.cell 2
  have e3 : (w.alloc (.cells #[.int .i64 t.ver, .int .i64 t.exp, .slice a.tA t.ts.length a.tc, .slice a.kA t.ks.length a.kc, .slice a.dA t.ds.length a.dc] 26)).cell? ⟨w.heap.size, 3, none⟩ = some (.slice a.kA t.ks.length a.kc) := by rw [← hW1]; exact hk1.cell 3
  have e4 : (w.alloc (.cells #[.int .i64 t.ver, .int .i64 t.exp, .slice a.tA t.ts.length a.tc, .slice a.kA t.ks.length a.kc, .slice a.dA t.ds.length a.dc] 26)).cell? ⟨w.heap.size, 4, none⟩ = some (.slice a.dA t.ds.length a.dc) := by rw [← hW1]; exact hk1.cell 4
  unfold Sea.PM.val Sea.PM.cs
  clear h hl hg0 hn hs hg hXX hW1 hW2 hb1 hb2 hk1 hk2 hR
  go_enter Tryz.func17, Tryz.ntmps17
  go_wp2
  rw [← HW1.out, ← HW2.out]
  clear e0 e1 e2 e3 e4
  go_loopw [5, 6, 7, 8, 9, 10, 11] (fun ov nx iv _ _ _ _ wr => ∃ (out : List ByteArray) (N : List (PM × MA)) (f i : Nat), i ≤ N.length ∧ iv = .int .i64 (i : Int) ∧ Hid (RoI X w wr ov nx out N) ∧ Hid (R = rolesP l f out ((N.drop i).map (·.1))) ∧ Hid (N.length - i + left l out ≤ f) ∧ Hid (out.length + 30 * (N.length - i + left l out) ≤ 930) ∧ Hid (N.length + left l out ≤ 31)) (fun ov nx iv _ _ _ _ wr => (lenV nx - (intOf iv).toNat) + left l (strsAt wr ov))
  case atStart => exact ⟨[], [(t, a)], l.length + 1, 0, by simp, rfl, HI2, HR0, Lib.hid (by have := left_le (l := l) []; simp; omega), Lib.hid (by have := left_le (l := l) []; have := HN.out; have := HS.out; simp; omega), Lib.hid (by have := left_le (l := l) []; have := HN.out; have := HS.out; simp; omega)⟩
  case round =>
    obtain ⟨out, N, f, i, hi, rfl, HI, HR, HF, HC, HNN⟩ := hrel
    obtain ⟨nA, nc, hnx, hn1, hn2, hn3⟩ := HI.out.n.form
    have HNX := Lib.hid hnx
    rcases (by omega : i = N.length ∨ i < N.length) with heq | hlt
    · have HRR : Hid (R = out) := Lib.hid (by rw [HR.out, heq, List.drop_length]; cases f <;> rfl)
      obtain ⟨vA, vc, hov, _⟩ := OG.form HI.out.o
      have HOV := Lib.hid hov
      have q0 : decide ((i : Int) < (N.length : Int)) = false := by rw [decide_eq_false_iff_not]; omega
      have q0' : decide (i < N.length) = false := by rw [decide_eq_false_iff_not]; omega
      rw [hnx]
      clear hnx hn1 hn2 hn3 hov heq
      go_wp2
      go_ret
      exact ⟨vA, vc, by rw [HRR.out, ← HOV.out]; rfl, by rw [HRR.out, ← HOV.out]; exact HI.out.o, HI.out.b⟩
    · have HILT := Lib.hid hlt
      obtain ⟨x1, hx1⟩ : ∃ x1, x1 = N[i] := ⟨_, rfl⟩
      obtain ⟨t1, a1⟩ := x1
      obtain ⟨ds, hds⟩ : ∃ ds, ds = t1.ds := ⟨_, rfl⟩
      have HM1 := Lib.hid (HI.out.m (t1, a1) (by rw [hx1]; exact List.getElem_mem hlt))
      have HDS : Hid (ds.length ≤ 30) := Lib.hid (by rw [hds]; exact HM1.out.2.ds)
      have HD0 := Lib.hid hds
      have HX1 := Lib.hid hx1
      have q0 : decide ((i : Int) < (N.length : Int)) = true := by rw [decide_eq_true_iff]; omega
      have q0' : decide (i < N.length) = true := by rw [decide_eq_true_iff]; omega
      have HSTR : Hid (strsAt wr u5 = out) := Lib.hid (strsAt_og HI.out.o)
      rw [hnx]
      clear hn1 hn2 hn3 hds hx1
      go_wp2
      rw [← hnx]
      clear q0 q0' hnx
      go_loopw [5, 6, 8, 9, 10, 11] (fun ov nx kv _ _ _ wr => ∃ (k : Nat) (out' : List ByteArray) (M : List (PM × MA)), k ≤ ds.length ∧ kv = .int .i64 (k : Int) ∧ Hid (RoI X w wr ov nx out' (N ++ M)) ∧ Hid (addRoles l (ds.drop k) out' ((N.drop (i + 1) ++ M).map (·.1)) = addRoles l ds out ((N.drop (i + 1)).map (·.1))) ∧ Hid (out'.length ≤ out.length + k) ∧ Hid (M.length + left l out' ≤ left l out)) (fun _ _ kv _ _ _ _ => ds.length - (intOf kv).toNat)
      case atStart => exact ⟨0, out, [], Nat.zero_le _, rfl, by rw [List.append_nil]; exact HI, by rw [List.append_nil]; exact Lib.hid rfl, Lib.hid (Nat.le_refl _), Lib.hid (by simp)⟩
      case round =>
        obtain ⟨k, out', M, hk, rfl, HI', HAR, HOL, HML⟩ := hrel
        obtain ⟨vA, vc, hov, _⟩ := OG.form HI'.out.o
        obtain ⟨nA', nc', hnx', hnn1, hnn2, hnn3⟩ := HI'.out.n.form
        have HOV := Lib.hid hov
        have HNX' := Lib.hid hnx'
        have hlg := HI'.out.n
        rw [hnx'] at hlg
        have hiM : i < (N ++ M).length := by rw [List.length_append]; omega
        obtain ⟨g, off, hA', hcx⟩ := LG.at_ hlg hiM
        have hgm : (N ++ M)[i] = (t1, a1) := by rw [List.getElem_append_left hlt]; exact HX1.out.symm
        have c4 : wr.cell? ⟨g, off + i * 5 + 4, none⟩ = some (.slice a1.dA ds.length a1.dc) := by
          have q := hcx 4 (by omega)
          rw [hgm] at q
          have e : (mcs (t1, a1))[4]? = some (.slice a1.dA t1.ds.length a1.dc) := rfl
          rw [e, ← HD0.out] at q
          exact q
        obtain ⟨nl, hnl⟩ : ∃ nl, nl = (N ++ M).length := ⟨_, rfl⟩
        have HNL := Lib.hid hnl
        rw [← hnl] at hnx' hiM
        have hii : (i : Int) < (nl : Int) := by omega
        have hi0 : (0 : Int) ≤ (i : Int) := by omega
        rcases (by omega : k < ds.length ∨ k = ds.length) with hlt2 | heq
        · have q5 : decide ((k : Int) < (ds.length : Int)) = true := by rw [decide_eq_true_iff]; omega
          have q5' : decide (k < ds.length) = true := by rw [decide_eq_true_iff]; omega
          have hrd := (HI'.out.m (t1, a1) (by rw [← hgm]; exact List.getElem_mem _)).1.rd
          simp only at hrd
          rw [← HD0.out] at hrd
          obtain ⟨b, o, hA, hbl, hbx, hc⟩ := hrd (by omega)
          have HLT := Lib.hid hlt2
          obtain ⟨d, hd, hck⟩ : ∃ d, d = ds[k] ∧ DelB X wr b (o + k * 6) d := ⟨_, rfl, hc k hlt2⟩
          obtain ⟨da, hcs, hok⟩ := hck
          have d0 : wr.cell? ⟨b, o + k * 6, none⟩ = some (.string d.name) := hcs 0 (by omega)
          have hki : (k : Int) < (ds.length : Int) := by omega
          have hk0 : (0 : Int) ≤ (k : Int) := by omega
          have hk9 : (k : Int) + 1 ≤ 100 := by have := HDS.out; omega
          have HDX := Lib.hid hd
          obtain ⟨cv, hcv⟩ : ∃ cv, cv = hasB out' d.name := ⟨_, rfl⟩
          have HOL9 : Hid (out'.length ≤ 1000) := Lib.hid (by have := HOL.out; have := HC.out; have := HDS.out; omega)
          have hcc := rhas_any vA out'.length vc out' d.name wr (og_strv (by rw [← HOV.out]; exact HI'.out.o)).1 rfl (by have := HOL9.out; omega)
          rw [← hcv] at hcc
          have HCC := Lib.hid hcc
          have HCV := Lib.hid hcv.symm
          have HNXC : Hid (u6 = .slice (some ⟨g, off, none⟩) nl nc') := Lib.hid (by rw [hnx', hA'])
          rw [hov, hnx', hA']
          rw [hA] at c4
          clear hA hbl hbx hc hd hcs hok hcc hcv hov hnx' hnn1 hnn2 hnn3 hrd hA' hcx hgm hlg hnl
          go_wp2_with fail
          refine HCC.out.mono ?_
          rintro e w3 ⟨rfl, hb3⟩
          have HIB := Lib.hid (HI'.out.bel hb3)
          clear hb3 d0 c4
          cases cv with
          | true =>
            go_wp2
            go_roundw
            case rel => exact ⟨k + 1, out', M, by omega, by go_num, by rw [HOV.out, HNXC.out] at HIB; exact HIB, Lib.hid (by rw [← addRoles_hit HLT.out HDX.out HCV.out]; exact HAR.out), Lib.hid (by have := HOL.out; omega), HML⟩
            case measure => simp [intOf]; omega
          | false =>
            have HN7 := Lib.hid (reads_new w3 9 #[.string d.name])
            have HIA := Lib.hid (HIB.out.bel ((Below.refl _ _).alloc (Nat.le_refl _) (.cells #[.string d.name] 9)))
            have HOA : Hid (OG 9 1 (w3.alloc (.cells #[.string d.name] 9)) w.heap.size (.slice vA out'.length vc) out'.length (out'.map Value.string)) := Lib.hid (by rw [← HOV.out]; exact HIA.out.o)
            have hln : out'.length + 1 ≤ 1000000000 := by have := HOL9.out; omega
            have hszA : w.heap.size ≤ (w3.alloc (.cells #[.string d.name] 9)).heap.size := HIA.out.b.size
            have HONE : Hid (∀ u ∈ (#[.string d.name] : Array Value).toList, u.oneCell' = true) := Lib.hid (by simp [Value.oneCell'])
            have HPOST : Hid (∀ v9 w4, OG 9 1 w4 w.heap.size v9 (out'.length + 1) (out'.map Value.string ++ (#[.string d.name] : Array Value).toList) → (w3.alloc (.cells #[.string d.name] 9)).grownBy w4 (Value.slice vA out'.length vc).ownBlock →
                Hid (RoI X w w4 v9 u6 (out' ++ [d.name]) (N ++ M))) := Lib.hid (fun v9 w4 hown hg => Lib.hid (HIA.out.appO HX.out hown (by rw [HOV.out]; exact hg)))
            have HNOF := Lib.hid (fun w4 (hb : Below w.heap.size w w4) => rload_any X A n c l d.name w4 (HV.out.bel hb) HN.out HS.out)
            go_wp2_with (at_builtin; refine app_raw _ infoStrG Tryz.underlying32 (by omega) (by omega) rfl _ _ rfl w.heap.size (.slice vA out'.length vc) out'.length _ rfl HOA.out _ 1 1 _ rfl HN7.out HONE.out hln hszA ?_; clear HN7 hln hszA; intro v9 w4 hown hg hat; have HI4 := HPOST.out v9 w4 hown hg; clear hown hg hat HPOST)
            refine (HNOF.out _ HI4.out.b).mono ?_
            rintro e w5 ⟨t2, a2, rfl, htt, hmo, hb5⟩
            unfold Sea.PM.val Sea.PM.cs
            obtain ⟨W6, hW6⟩ : ∃ W6, W6 = w5.alloc (.cells #[.int .i64 t2.ver, .int .i64 t2.exp, .slice a2.tA t2.ts.length a2.tc, .slice a2.kA t2.ks.length a2.kc, .slice a2.dA t2.ds.length a2.dc] 26) := ⟨_, rfl⟩
            have hb6 : Below w5.heap.size w5 W6 := by rw [hW6]; exact (Below.refl _ _).alloc (Nat.le_refl _) _
            have HI6 := Lib.hid ((HI4.out.bel hb5).bel hb6)
            have HMO6 := Lib.hid (hmo.bel hb6)
            obtain ⟨ls, hls⟩ : ∃ ls, ls = loadP l d.name := ⟨_, rfl⟩
            rw [← hls] at htt ⊢
            have HLS := Lib.hid hls
            have HTT := Lib.hid htt
            have HW6 := Lib.hid hW6
            clear hb5 hb6 hmo htt hW6 hls HNOF
            cases ls with
            | none =>
              have eq9 : (none : Option PM).isSome = false := rfl
              go_wp2
              rw [← HW6.out]
              go_roundw
              case rel => exact ⟨k + 1, out' ++ [d.name], M, by omega, by go_num, by rw [HNXC.out] at HI6; exact HI6, Lib.hid (by rw [← HAR.out, addRoles_new HLT.out HDX.out HCV.out, ← HLS.out]; simp), Lib.hid (by have := HOL.out; simp; omega), Lib.hid (by have := HML.out; have := left_snoc_le (l := l) out' d.name; omega)⟩
              case measure => simp [intOf]; omega
            | some tt =>
              have eq9 : (some tt : Option PM).isSome = true := rfl
              have HT2 : Hid (t2 = tt) := Lib.hid HTT.out
              have HGT : Hid (PMs t2) := Lib.hid (by rw [HT2.out]; exact loadP_good HGD.out HLS.out.symm)
              have HNA : Hid (Reads (W6.alloc (.cells (t2.cs a2).toArray 26)) (W6.alloc (.cells (t2.cs a2).toArray 26)).heap.size 5 (some ⟨w5.heap.size + 1, 0, none⟩) 1 (t2.cs a2)) := Lib.hid (by
                have q := reads_new W6 26 (t2.cs a2).toArray
                have hz6 : W6.heap.size = w5.heap.size + 1 := by rw [HW6.out]; simp
                rw [hz6] at q
                exact q)
              have HI7 := Lib.hid (HI6.out.bel ((Below.refl _ _).alloc (Nat.le_refl _) (.cells (t2.cs a2).toArray 26)))
              have HLA : Hid (LG 26 5 (W6.alloc (.cells (t2.cs a2).toArray 26)) w.heap.size (.slice (some ⟨g, off, none⟩) nl nc') nl ((N ++ M).flatMap mcs)) := Lib.hid (by
                have q := HI7.out.n
                rw [HNXC.out, ← HNL.out] at q
                exact q)
              have hlnA : nl + 1 ≤ 1000000000 := by have h1 := HML.out; have h2 := HNN.out; have h3 := HNL.out; rw [List.length_append] at h3; omega
              have hszA : w.heap.size ≤ (W6.alloc (.cells (t2.cs a2).toArray 26)).heap.size := HI7.out.b.size
              have HPO2 : Hid (∀ v9' w7, LG 26 5 w7 w.heap.size v9' (nl + 1) ((N ++ M).flatMap mcs ++ (t2.cs a2).toArray.toList) → (W6.alloc (.cells (t2.cs a2).toArray 26)).grownBy w7 (Value.slice (some ⟨g, off, none⟩) nl nc').ownBlock → Hid (RoI X w w7 v9 v9' (out' ++ [d.name]) (N ++ (M ++ [(t2, a2)])))) := Lib.hid (fun v9' w7 hown hg => Lib.hid (by
                have q := HI7.out.appN HX.out (by rw [← HNL.out]; exact hown) (by rw [HNXC.out]; exact hg) (HMO6.out.bel ((Below.refl _ _).alloc (Nat.le_refl _) _)) HGT.out
                rw [List.append_assoc] at q
                exact q))
              clear HI7
              go_wp2_with (at_builtin; rw [← HW6.out]; refine app_lg _ infoTgs Tryz.underlying79 (by omega) (by omega) rfl _ _ rfl w.heap.size (.slice (some ⟨g, off, none⟩) nl nc') nl _ rfl HLA.out _ 1 1 _ rfl HNA.out (mcs_one (t2, a2)) (by omega) hlnA hszA ?_; clear HNA hlnA hszA HLA; intro v9' w7 hown hg hat; have HI9 := HPO2.out v9' w7 hown hg; clear hown hg hat HPO2)
              go_roundw
              case rel => exact ⟨k + 1, out' ++ [d.name], M ++ [(t2, a2)], by omega, by go_num, HI9, Lib.hid (by rw [← HAR.out, addRoles_new HLT.out HDX.out HCV.out, ← HLS.out, HT2.out, ← List.append_assoc, List.map_append (l₂ := [(tt, a2)])]; rfl), Lib.hid (by have := HOL.out; simp; omega), Lib.hid (by have h1 := HML.out; have h2 := left_snoc_lt HCV.out HLS.out.symm; simp; omega)⟩
              case measure => simp [intOf]; omega
        · have q5 : decide ((k : Int) < (ds.length : Int)) = false := by rw [decide_eq_false_iff_not]; omega
          have q5' : decide (k < ds.length) = false := by rw [decide_eq_false_iff_not]; omega
          have HEND : Hid (addRoles l ds out ((N.drop (i + 1)).map (·.1)) = (out', (N.drop (i + 1) ++ M).map (·.1))) := Lib.hid (by rw [← HAR.out, heq, List.drop_length]; rfl)
          have HOL2 : Hid (out'.length ≤ out.length + 30) := Lib.hid (by have := HOL.out; have := HDS.out; omega)
          obtain ⟨f', hf'⟩ : ∃ f', f = f' + 1 := ⟨f - 1, by have := HF.out; omega⟩
          have HDRP : Hid ((N ++ M).drop (i + 1) = N.drop (i + 1) ++ M) := Lib.hid (List.drop_append_of_le_length (by omega))
          have HRN : Hid (R = rolesP l f' out' (((N ++ M).drop (i + 1)).map (·.1))) := Lib.hid (by
            have e : N.drop i = (t1, a1) :: N.drop (i + 1) := by
              rw [List.drop_eq_getElem_cons HILT.out]
              congr 1
              exact HX1.out.symm
            rw [HR.out, hf', HDRP.out, e]
            show rolesP l f' (addRoles l t1.ds out ((N.drop (i + 1)).map (·.1))).1 (addRoles l t1.ds out ((N.drop (i + 1)).map (·.1))).2 = _
            rw [← HD0.out, HEND.out])
          have hla : (N ++ M).length = N.length + M.length := List.length_append
          have HFN : Hid ((N ++ M).length - (i + 1) + left l out' ≤ f') := Lib.hid (by have h1 := HF.out; have h2 := HML.out; rw [hla]; omega)
          have HCN : Hid (out'.length + 30 * ((N ++ M).length - (i + 1) + left l out') ≤ 930) := Lib.hid (by have h1 := HC.out; have h2 := HML.out; have h3 := HOL2.out; rw [hla]; omega)
          have HNN2 : Hid ((N ++ M).length + left l out' ≤ 31) := Lib.hid (by have h1 := HNN.out; have h2 := HML.out; rw [hla]; omega)
          have HLE : Hid (nl = N.length + M.length) := Lib.hid (by rw [HNL.out, hla])
          have HNXC : Hid (u6 = .slice (some ⟨g, off, none⟩) nl nc') := Lib.hid (by rw [hnx', hA'])
          have HI99 : Hid (RoI X w wr u5 (.slice (some ⟨g, off, none⟩) nl nc') out' (N ++ M)) := by have q := HI'; rw [HNXC.out] at q; exact q
          have hi9 : (i : Int) + 1 ≤ 100 := by have := HNN.out; omega
          rw [hnx', hA']
          clear heq hov hnx' hnn1 hnn2 hnn3 hA' hcx hgm hlg hnl hf' hla
          go_wp2
          go_roundw
          case rel => exact ⟨out', N ++ M, f', i + 1, by rw [List.length_append]; omega, by go_num, HI99, HRN, HFN, HCN, HNN2⟩
          case measure =>
            rw [HSTR.out, strsAt_og HI'.out.o]
            have h2 := HML.out
            have h3 := HLE.out
            show nl - _ + _ < N.length - _ + _
            simp [intOf]
            omega
end Go.Proofs.YthidjdjcjjbpbaaGreatDoor
