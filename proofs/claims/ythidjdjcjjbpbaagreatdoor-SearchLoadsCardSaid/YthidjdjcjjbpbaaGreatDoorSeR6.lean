/-
  The document's search.
-/
import Derived.Deep.CutRange
import Derived.Test.YthidjdjcjjbpbaaGreatDoorSeF2
import Derived.Test.YthidjdjcjjbpbaaGreatDoorSeR5
namespace Go.Proofs.YthidjdjcjjbpbaaGreatDoor
open Go.RowKit Sea Glob
set_option linter.unusedVariables false
set_option linter.unusedSimpArgs false

theorem LG.reads {w : World} {base : Nat} {A : Option Addr} {t : TypeId} {size n c : Nat} {xs : List Value} (h : LG t size w base (.slice A n c) n xs) : Reads w w.heap.size size A n xs := by
  refine ⟨h.1, fun h0 => ?_⟩
  obtain ⟨A', c', e, _, _, hc⟩ := h.form
  cases e
  obtain ⟨g, off, hA, hg, hc⟩ := hc h0
  exact ⟨_, hA, hg, fun j u hu => by rw [Addr.add_lit]; exact hc j u hu⟩
theorem LG.head {w : World} {base : Nat} {A : Option Addr} {c : Nat} {L : List (PD × DA)} (h : LG 59 6 w base (.slice A L.length c) L.length (L.flatMap dcs)) {x : PD × DA} {r : List (PD × DA)} (hL : L = x :: r) : ∃ g off, A = some ⟨g, off, none⟩ ∧ w.cell? ⟨g, off, none⟩ = some (.string x.1.name) := by
  obtain ⟨A', c', e, _, _, hc⟩ := h.form
  cases e
  obtain ⟨g, off, hA, hg, hc⟩ := hc (by rw [hL]; simp)
  exact ⟨g, off, hA, hc 0 _ (by rw [hL]; rfl)⟩
/-- what lies there between two visits -/
structure RfI (X : Nat → Prop) (w wr : World) (B13 : Nat) (t : PM) (a : MA) (vis : List ByteArray) (vv nx : Value) (L : List (PD × DA)) : Prop where
  vo : OG 9 1 wr w.heap.size vv vis.length (vis.map Value.string)
  nx : LG 59 6 wr w.heap.size nx L.length (L.flatMap dcs)
  b13 : Blk wr B13 26 #[.int .i64 t.ver, .int .i64 t.exp, .slice a.tA t.ts.length a.tc, .slice a.kA t.ks.length a.kc, .slice a.dA t.ds.length a.dc]
  b8 : Blk wr (w.heap.size + 1) 31 #[.string ⟨#[]⟩, .int .i64 0, .string ⟨#[]⟩]
  mo : MOk X wr t a
  bl : Below w.heap.size w wr
theorem RfI.bel {X : Nat → Prop} {w wr w' : World} {B13 : Nat} {t : PM} {a : MA} {vis : List ByteArray} {vv nx : Value} {L : List (PD × DA)} (h : RfI X w wr B13 t a vis vv nx L) (hb : Below wr.heap.size wr w') : RfI X w w' B13 t a vis vv nx L :=
  ⟨OG.below h.vo hb, h.nx.below hb, h.b13.below hb h.b13.lt, h.b8.below hb h.b8.lt, h.mo.bel hb, h.bl.trans (hb.mono h.bl.size)⟩
/-- a block of the call's own of another kind was written -/
theorem RfI.far {X : Nat → Prop} {w wr w' : World} {B13 g : Nat} {t : PM} {a : MA} {vis : List ByteArray} {vv nx : Value} {L : List (PD × DA)} (h : RfI X w wr B13 t a vis vv nx L) {tt : TypeId} {cs : Array Value} (hg : Blk wr g tt cs) (hw : w.heap.size ≤ g) (hX : ∀ b, w.heap.size ≤ b → X b) (h1 : tt ≠ 9 ∧ tt ≠ 59) (h2 : g ≠ B13) (h3 : g ≠ (w.heap.size + 1)) (hf : Fr (· = g) wr w') : RfI X w w' B13 t a vis vv nx L :=
  ⟨OG.frT h.vo hf (fun q cs' hb e => by subst e; exact hb.ne_ hg (Ne.symm h1.1) rfl), h.nx.frT hf (fun q cs' hb e => by subst e; exact hb.ne_ hg (Ne.symm h1.2) rfl), h.b13.fr hf (Ne.symm h2), h.b8.fr hf (Ne.symm h3), h.mo.fr (hf.mono (fun k _ e => e ▸ hX g hw)), Fr.below_trans h.bl hf h.bl.size (fun k e => by omega)⟩
def restD (vis : List ByteArray) (s : List (PD × DA)) : List (PD × DA) := s.dropWhile (fun x => hasB vis x.1.name)
theorem restD_map (vis : List ByteArray) (s : List (PD × DA)) (l : List Todo) (h : l.map (·.1) = s.map (·.1)) : (rest vis l).map (·.1) = (restD vis s).map (·.1) := by
  unfold restD rest
  induction s generalizing l with
  | nil => rw [List.map_nil, List.map_eq_nil_iff] at h; rw [h]; rfl
  | cons x s ih =>
    cases l with
    | nil => simp at h
    | cons y l =>
      simp only [List.map_cons, List.cons.injEq] at h
      rw [List.dropWhile_cons, List.dropWhile_cons, h.1]
      split
      · exact ih l h.2
      · simp [h.1, h.2]
theorem LG.tailD {w : World} {base : Nat} {A : Option Addr} {c : Nat} {x : PD × DA} {r : List (PD × DA)} {n : Nat} (hn : n = r.length + 1) (h : LG 59 6 w base (.slice A n c) n ((x :: r).flatMap dcs)) : ∃ g off, A = some ⟨g, off, none⟩ ∧ n ≤ c ∧ c ≤ maxLen ∧ w.cell? ⟨g, off, none⟩ = some (.string x.1.name) ∧
    (c = 1 → LG 59 6 w base (.slice (some ⟨g, off, none⟩) r.length 0) r.length (r.flatMap dcs)) ∧ (c ≠ 1 → LG 59 6 w base (.slice (some ⟨g, off + 6, none⟩) r.length (c - 1)) r.length (r.flatMap dcs)) := by
  subst hn
  obtain ⟨g, off, hA, h1, h2, h3, h4⟩ := h.tail (by omega) (by omega)
  obtain ⟨g', off', hA', hc⟩ := LG.head (L := x :: r) h rfl
  rw [hA] at hA'
  cases hA'
  have e : ((x :: r).flatMap dcs).drop 6 = r.flatMap dcs := by rw [List.flatMap_cons]; exact List.drop_left' (dcs_len _)
  rw [e, Nat.add_sub_cancel] at h3 h4
  exact ⟨g, off, hA, h1, h2, hc, h3, h4⟩
theorem RfI.appV {X : Nat → Prop} {w w2 w3 : World} {B13 : Nat} {t : PM} {a : MA} {vis : List ByteArray} {vv vv' nx : Value} {L : List (PD × DA)} {x : ByteArray} (h : RfI X w w2 B13 t a vis vv nx L) (hX : ∀ b, w.heap.size ≤ b → X b) (ho : OG 9 1 w3 w.heap.size vv' (vis.length + 1) (vis.map Value.string ++ [.string x])) (hg : w2.grownBy w3 vv.ownBlock) : RfI X w w3 B13 t a (vis ++ [x]) vv' nx L := by
  have hf : Fr (fun g => vv.ownBlock = some g) w2 w3 := Fr.of_grown hg (fun g e => e)
  exact ⟨by rw [List.length_append, List.map_append]; exact ho, h.nx.frT hf (fun g cs hb => OG.far h.vo hb (by decide)), h.b13.fr hf (OG.far h.vo h.b13 (by decide)), h.b8.fr hf (OG.far h.vo h.b8 (by decide)), h.mo.fr (hf.mono (fun k _ e => hX k (OG.ge h.vo k e))), Fr.below_trans h.bl hf h.bl.size (OG.ge h.vo)⟩
theorem RfI.set13 {X : Nat → Prop} {w w2 w3 : World} {B13 : Nat} {t t' : PM} {a a' : MA} {vis : List ByteArray} {vv nx : Value} {L : List (PD × DA)} (h : RfI X w w2 B13 t a vis vv nx L) (hX : ∀ b, w.heap.size ≤ b → X b) (hB : w.heap.size ≤ B13 ∧ B13 ≠ (w.heap.size + 1)) (hm : MOk X w2 t' a') (hf : Fr (· = B13) w2 w3) (hb : Blk w3 B13 26 #[.int .i64 t'.ver, .int .i64 t'.exp, .slice a'.tA t'.ts.length a'.tc, .slice a'.kA t'.ks.length a'.kc, .slice a'.dA t'.ds.length a'.dc]) : RfI X w w3 B13 t' a' vis vv nx L :=
  ⟨OG.frT h.vo hf (fun q cs' hq e => by subst e; exact hq.ne_ h.b13 (by decide) rfl), h.nx.frT hf (fun q cs' hq e => by subst e; exact hq.ne_ h.b13 (by decide) rfl), hb, h.b8.fr hf (Ne.symm hB.2), hm.fr (hf.mono (fun k _ e => e ▸ hX _ hB.1)), Fr.below_trans h.bl hf h.bl.size (fun k e => by have := hB.1; omega)⟩
theorem RfI.nxt {X : Nat → Prop} {w w2 : World} {B13 : Nat} {t : PM} {a : MA} {vis : List ByteArray} {vv nx nx' : Value} {L L' : List (PD × DA)} (h : RfI X w w2 B13 t a vis vv nx L) (hn : LG 59 6 w2 w.heap.size nx' L'.length (L'.flatMap dcs)) : RfI X w w2 B13 t a vis vv nx' L' := ⟨h.vo, hn, h.b13, h.b8, h.mo, h.bl⟩
set_option maxRecDepth 100000 in
set_option maxHeartbeats 16000000 in
theorem rfind20_any (A : Option Addr) (n c : Nat) (l : List PN) (t0 : PM) (a0 : MA) (path : ByteArray) (most : Int) (w : World) (h : MOk (fun b => w.heap.size ≤ b) w t0 a0) (hl : NsR (fun b => w.heap.size ≤ b) w A l) (hg0 : PMs t0) (hn : l.length = n) (hs : n ≤ 30) (hg : ∀ x ∈ l, PMs x.t) (hp : path.size ≤ 1000) :
    Calls Tryz.prog 10 #[t0.val a0, .slice A n c, .string path, .int .i64 most] w fun e w' => PF (FndP (searchP (ldOf l 4) path most t0) w) e w' := by
  obtain ⟨X, hX⟩ : ∃ X : Nat → Prop, X = fun b => w.heap.size ≤ b := ⟨_, rfl⟩
  rw [← hX] at h hl
  have hXX : ∀ b, w.heap.size ≤ b → X b := fun b hb => by rw [hX]; exact hb
  clear hX
  obtain ⟨W2, hW2⟩ : ∃ W2, W2 = (w.alloc (.cells #[.int .i64 t0.ver, .int .i64 t0.exp, .slice a0.tA t0.ts.length a0.tc, .slice a0.kA t0.ks.length a0.kc, .slice a0.dA t0.ds.length a0.dc] 26)).alloc (.cells #[.string ⟨#[]⟩, .int .i64 0, .string ⟨#[]⟩] 31) := ⟨_, rfl⟩
  have hb2 : Below w.heap.size w W2 := by rw [hW2]; exact ((Below.refl _ _).alloc (Nat.le_refl _) _).alloc (by simp) _
  have hk4 : Blk W2 w.heap.size 26 #[.int .i64 t0.ver, .int .i64 t0.exp, .slice a0.tA t0.ts.length a0.tc, .slice a0.kA t0.ks.length a0.kc, .slice a0.dA t0.ds.length a0.dc] := by rw [hW2]; exact (Blk.new _ _ _).alloc _
  have hk8 : Blk W2 (w.heap.size + 1) 31 #[.string ⟨#[]⟩, .int .i64 0, .string ⟨#[]⟩] := by
    rw [hW2]
    have h2 := Blk.new (w.alloc (.cells #[.int .i64 t0.ver, .int .i64 t0.exp, .slice a0.tA t0.ts.length a0.tc, .slice a0.kA t0.ks.length a0.kc, .slice a0.dA t0.ds.length a0.dc] 26)) 31 #[.string ⟨#[]⟩, .int .i64 0, .string ⟨#[]⟩]
    simpa using h2
  have hpa := rpath_any path W2 (by omega)
  obtain ⟨R, hR⟩ : ∃ R, R = searchP (ldOf l 4) path most t0 := ⟨_, rfl⟩
  rw [← hR]
  have HR : Hid (R = if mayS path most = 0 then walkP (covP path) path most (ldOf l 4) 4 200 33 t0 [] [targetsB] [] else ⟨none, [], mayS path most, []⟩) := Lib.hid (by rw [hR]; rfl)
  obtain ⟨pb, hpb⟩ : ∃ pb, pb = pathL path.data.toList := ⟨_, rfl⟩
  rw [← hpb] at hpa
  have HPB := Lib.hid hpb
  have HPA := Lib.hid hpa
  have HV := Lib.hid hl
  have HMO0 := Lib.hid (h.bel hb2)
  have HG0 := Lib.hid hg0
  have HGD := Lib.hid hg
  have HPS := Lib.hid hp
  have HX := Lib.hid hXX
  have HN := Lib.hid hn
  have HS := Lib.hid hs
  have HB2 := Lib.hid hb2
  have HK4 := Lib.hid hk4
  have HK8 := Lib.hid hk8
  have HW2 := Lib.hid hW2
  unfold Sea.PM.val Sea.PM.cs
  clear hW2 hb2 hk4 hk8 hpa hR h hl hg hg0 hp hXX hn hs hpb
  cases pb with
  | false =>
    have HI : Hid (R = ⟨none, [], 120, []⟩) := Lib.hid (by
      have e : mayS path most = 120 := by unfold mayS; rw [if_pos HPB.out.symm]
      rw [HR.out, e, if_neg (by decide)])
    go_enter Tryz.func10, Tryz.ntmps10
    go_wp2_with fail
    rw [← HW2.out]
    refine HPA.out.mono ?_
    rintro e w3 ⟨rfl, hb3⟩
    have HB3 : Hid (Below w.heap.size w w3) := Lib.hid (HB2.out.trans (hb3.mono HB2.out.size))
    have HB8 := Lib.hid (HK8.out.below hb3 HK8.out.lt)
    clear hb3
    have z0 : w3.cell? ⟨w.heap.size + 1, 0, none⟩ = some (.string ⟨#[]⟩) := HB8.out.cell 0
    have f0 : w3.frozen? ⟨w.heap.size + 1, 0, none⟩ = false := HB8.out.frozen 0
    have z1 : w3.cell? ⟨w.heap.size + 1, 1, none⟩ = some (.int .i64 0) := HB8.out.cell 1
    have f1 : w3.frozen? ⟨w.heap.size + 1, 1, none⟩ = false := HB8.out.frozen 1
    have z2 : w3.cell? ⟨w.heap.size + 1, 2, none⟩ = some (.string ⟨#[]⟩) := HB8.out.cell 2
    have f2 : w3.frozen? ⟨w.heap.size + 1, 2, none⟩ = false := HB8.out.frozen 2
    have HF := Lib.hid ((((HB8.out.set_ 0 (.string ⟨#[]⟩)).set_ 1 (.int .i64 0)).set_ 2 (.string ⟨#[]⟩)))
    have HFR := Lib.hid ((Fr.setCell (S := fun b => b = w.heap.size + 1) (Fr.setCell (S := fun b => b = w.heap.size + 1) (Fr.setCell (S := fun b => b = w.heap.size + 1) (Fr.refl (fun b => b = w.heap.size + 1) w3) (p := ⟨w.heap.size + 1, 0, none⟩) (fun _ => rfl) (.string ⟨#[]⟩)) (p := ⟨w.heap.size + 1, 1, none⟩) (fun _ => rfl) (.int .i64 0)) (p := ⟨w.heap.size + 1, 2, none⟩) (fun _ => rfl) (.string ⟨#[]⟩)))
    go_wp2
    have k0 := HF.out.cell 0
    have k1 := HF.out.cell 1
    have k2 := HF.out.cell 2
    simp at k0 k1 k2
    refine bodyPost_ret (v := .tuple #[ptV (none), .slice none 0 0, .int .i64 120]) (by simp [results, Tryz.results10, go_sem, k0, k1, k2, ptV]) rfl ?_
    rw [HI.out]
    exact ⟨none, 0, rfl, OG.nil _ _ _ _, Fr.below_trans HB3.out HFR.out HB3.out.size (fun k e => by omega)⟩
  | true =>
    rcases (by omega : most < 1 ∨ (1 ≤ most ∧ 32 < most) ∨ (1 ≤ most ∧ most ≤ 32)) with h1 | ⟨h1, h2⟩ | ⟨h1, h2⟩
    · have HI : Hid (R = ⟨none, [], 1, []⟩) := Lib.hid (by
        have e : mayS path most = 1 := by unfold mayS; rw [if_neg (by rw [← HPB.out]; decide), if_pos (.inl h1)]
        rw [HR.out, e, if_neg (by decide)])
      have q1 : decide (most < 1) = true := by rw [decide_eq_true_iff]; omega
      clear h1
      go_enter Tryz.func10, Tryz.ntmps10
      go_wp2_with fail
      rw [← HW2.out]
      refine HPA.out.mono ?_
      rintro e w3 ⟨rfl, hb3⟩
      have HB3 : Hid (Below w.heap.size w w3) := Lib.hid (HB2.out.trans (hb3.mono HB2.out.size))
      have HB8 := Lib.hid (HK8.out.below hb3 HK8.out.lt)
      clear hb3
      have z0 : w3.cell? ⟨w.heap.size + 1, 0, none⟩ = some (.string ⟨#[]⟩) := HB8.out.cell 0
      have f0 : w3.frozen? ⟨w.heap.size + 1, 0, none⟩ = false := HB8.out.frozen 0
      have z1 : w3.cell? ⟨w.heap.size + 1, 1, none⟩ = some (.int .i64 0) := HB8.out.cell 1
      have f1 : w3.frozen? ⟨w.heap.size + 1, 1, none⟩ = false := HB8.out.frozen 1
      have z2 : w3.cell? ⟨w.heap.size + 1, 2, none⟩ = some (.string ⟨#[]⟩) := HB8.out.cell 2
      have f2 : w3.frozen? ⟨w.heap.size + 1, 2, none⟩ = false := HB8.out.frozen 2
      have HF := Lib.hid ((((HB8.out.set_ 0 (.string ⟨#[]⟩)).set_ 1 (.int .i64 0)).set_ 2 (.string ⟨#[]⟩)))
      have HFR := Lib.hid ((Fr.setCell (S := fun b => b = w.heap.size + 1) (Fr.setCell (S := fun b => b = w.heap.size + 1) (Fr.setCell (S := fun b => b = w.heap.size + 1) (Fr.refl (fun b => b = w.heap.size + 1) w3) (p := ⟨w.heap.size + 1, 0, none⟩) (fun _ => rfl) (.string ⟨#[]⟩)) (p := ⟨w.heap.size + 1, 1, none⟩) (fun _ => rfl) (.int .i64 0)) (p := ⟨w.heap.size + 1, 2, none⟩) (fun _ => rfl) (.string ⟨#[]⟩)))
      go_wp2
      have k0 := HF.out.cell 0
      have k1 := HF.out.cell 1
      have k2 := HF.out.cell 2
      simp at k0 k1 k2
      refine bodyPost_ret (v := .tuple #[ptV (none), .slice none 0 0, .int .i64 1]) (by simp [results, Tryz.results10, go_sem, k0, k1, k2, ptV]) rfl ?_
      rw [HI.out]
      exact ⟨none, 0, rfl, OG.nil _ _ _ _, Fr.below_trans HB3.out HFR.out HB3.out.size (fun k e => by omega)⟩
    · have HI : Hid (R = ⟨none, [], 1, []⟩) := Lib.hid (by
        have e : mayS path most = 1 := by unfold mayS; rw [if_neg (by rw [← HPB.out]; decide), if_pos (.inr h2)]
        rw [HR.out, e, if_neg (by decide)])
      have q1 : decide (most < 1) = false := by rw [decide_eq_false_iff_not]; omega
      have q2 : decide (32 < most) = true := by rw [decide_eq_true_iff]; omega
      have q2' : decide (most > 32) = true := by rw [decide_eq_true_iff]; omega
      clear h1 h2
      go_enter Tryz.func10, Tryz.ntmps10
      go_wp2_with fail
      rw [← HW2.out]
      refine HPA.out.mono ?_
      rintro e w3 ⟨rfl, hb3⟩
      have HB3 : Hid (Below w.heap.size w w3) := Lib.hid (HB2.out.trans (hb3.mono HB2.out.size))
      have HB8 := Lib.hid (HK8.out.below hb3 HK8.out.lt)
      clear hb3
      have z0 : w3.cell? ⟨w.heap.size + 1, 0, none⟩ = some (.string ⟨#[]⟩) := HB8.out.cell 0
      have f0 : w3.frozen? ⟨w.heap.size + 1, 0, none⟩ = false := HB8.out.frozen 0
      have z1 : w3.cell? ⟨w.heap.size + 1, 1, none⟩ = some (.int .i64 0) := HB8.out.cell 1
      have f1 : w3.frozen? ⟨w.heap.size + 1, 1, none⟩ = false := HB8.out.frozen 1
      have z2 : w3.cell? ⟨w.heap.size + 1, 2, none⟩ = some (.string ⟨#[]⟩) := HB8.out.cell 2
      have f2 : w3.frozen? ⟨w.heap.size + 1, 2, none⟩ = false := HB8.out.frozen 2
      have HF := Lib.hid ((((HB8.out.set_ 0 (.string ⟨#[]⟩)).set_ 1 (.int .i64 0)).set_ 2 (.string ⟨#[]⟩)))
      have HFR := Lib.hid ((Fr.setCell (S := fun b => b = w.heap.size + 1) (Fr.setCell (S := fun b => b = w.heap.size + 1) (Fr.setCell (S := fun b => b = w.heap.size + 1) (Fr.refl (fun b => b = w.heap.size + 1) w3) (p := ⟨w.heap.size + 1, 0, none⟩) (fun _ => rfl) (.string ⟨#[]⟩)) (p := ⟨w.heap.size + 1, 1, none⟩) (fun _ => rfl) (.int .i64 0)) (p := ⟨w.heap.size + 1, 2, none⟩) (fun _ => rfl) (.string ⟨#[]⟩)))
      go_wp2
      have k0 := HF.out.cell 0
      have k1 := HF.out.cell 1
      have k2 := HF.out.cell 2
      simp at k0 k1 k2
      refine bodyPost_ret (v := .tuple #[ptV (none), .slice none 0 0, .int .i64 1]) (by simp [results, Tryz.results10, go_sem, k0, k1, k2, ptV]) rfl ?_
      rw [HI.out]
      exact ⟨none, 0, rfl, OG.nil _ _ _ _, Fr.below_trans HB3.out HFR.out HB3.out.size (fun k e => by omega)⟩
    · have HI : Hid (R = walkP (covP path) path most (ldOf l 4) 4 200 33 t0 [] [targetsB] []) := Lib.hid (by
        have e : mayS path most = 0 := by unfold mayS; rw [if_neg (by rw [← HPB.out]; decide), if_neg (by omega)]
        rw [HR.out, e, if_pos rfl])
      have HMO : Hid (1 ≤ most ∧ most ≤ 32) := Lib.hid ⟨h1, h2⟩
      have q1 : decide (most < 1) = false := by rw [decide_eq_false_iff_not]; omega
      have q2 : decide (32 < most) = false := by rw [decide_eq_false_iff_not]; omega
      have q2' : decide (most > 32) = false := by rw [decide_eq_false_iff_not]; omega
      clear h1 h2
      go_enter Tryz.func10, Tryz.ntmps10
      go_wp2_with fail
      rw [← HW2.out]
      refine HPA.out.mono ?_
      rintro e w3 ⟨rfl, hb3⟩
      have HB3 : Hid (Below w.heap.size w w3) := Lib.hid (HB2.out.trans (hb3.mono HB2.out.size))
      have HK83 := Lib.hid (HK8.out.below hb3 HK8.out.lt)
      have HK43 := Lib.hid (HK4.out.below hb3 HK4.out.lt)
      obtain ⟨W6, hW6⟩ : ∃ W6, W6 = (w3.alloc (.cells #[.string ⟨#[116, 97, 114, 103, 101, 116, 115]⟩] 9)).alloc (.cells #[.int .i64 t0.ver, .int .i64 t0.exp, .slice a0.tA t0.ts.length a0.tc, .slice a0.kA t0.ks.length a0.kc, .slice a0.dA t0.ds.length a0.dc] 26) := ⟨_, rfl⟩
      have hz3 := HB3.out.size
      have hb6 : Below w3.heap.size w3 W6 := by rw [hW6]; exact ((Below.refl _ _).alloc (Nat.le_refl _) _).alloc (by simp) _
      have hst : Blk W6 w3.heap.size 9 #[.string ⟨#[116, 97, 114, 103, 101, 116, 115]⟩] := by rw [hW6]; exact (Blk.new _ _ _).alloc _
      have h13 : Blk W6 (w3.heap.size + 1) 26 #[.int .i64 t0.ver, .int .i64 t0.exp, .slice a0.tA t0.ts.length a0.tc, .slice a0.kA t0.ks.length a0.kc, .slice a0.dA t0.ds.length a0.dc] := by
        rw [hW6]
        have h2 := Blk.new (w3.alloc (.cells #[.string ⟨#[116, 97, 114, 103, 101, 116, 115]⟩] 9)) 26 #[.int .i64 t0.ver, .int .i64 t0.exp, .slice a0.tA t0.ts.length a0.tc, .slice a0.kA t0.ks.length a0.kc, .slice a0.dA t0.ds.length a0.dc]
        simpa using h2
      obtain ⟨B13, hB13⟩ : ∃ B13, B13 = w3.heap.size + 1 := ⟨_, rfl⟩
      have HB13 : Hid (w.heap.size ≤ B13 ∧ B13 ≠ (w.heap.size + 1)) := Lib.hid (by have := HK83.out.lt; omega)
      have HRF : Hid (RfI X w W6 B13 t0 a0 [targetsB] (.slice (some ⟨w3.heap.size, 0, none⟩) 1 1) (.slice none 0 0) []) := Lib.hid (by
        refine ⟨⟨rfl, .inr ⟨w3.heap.size, 1, #[.string ⟨#[116, 97, 114, 103, 101, 116, 115]⟩], rfl, hz3, hst, Nat.le_refl _, by simp [maxLen], rfl, rfl⟩⟩, ⟨rfl, .inl ⟨rfl, rfl⟩⟩, by rw [hB13]; exact h13, HK83.out.below hb6 HK83.out.lt, ?_, HB3.out.trans (hb6.mono hz3)⟩
        exact ((HMO0.out.bel hb3).bel hb6))
      have e0 : (w3.alloc (.cells #[.string ⟨#[116, 97, 114, 103, 101, 116, 115]⟩] 9)).cell? ⟨w.heap.size, 0, none⟩ = some (.int .i64 t0.ver) := (HK43.out.alloc _).cell 0
      have e1 : (w3.alloc (.cells #[.string ⟨#[116, 97, 114, 103, 101, 116, 115]⟩] 9)).cell? ⟨w.heap.size, 1, none⟩ = some (.int .i64 t0.exp) := (HK43.out.alloc _).cell 1
      have e2 : (w3.alloc (.cells #[.string ⟨#[116, 97, 114, 103, 101, 116, 115]⟩] 9)).cell? ⟨w.heap.size, 2, none⟩ = some (.slice a0.tA t0.ts.length a0.tc) := (HK43.out.alloc _).cell 2
      have e3 : (w3.alloc (.cells #[.string ⟨#[116, 97, 114, 103, 101, 116, 115]⟩] 9)).cell? ⟨w.heap.size, 3, none⟩ = some (.slice a0.kA t0.ks.length a0.kc) := (HK43.out.alloc _).cell 3
      have e4 : (w3.alloc (.cells #[.string ⟨#[116, 97, 114, 103, 101, 116, 115]⟩] 9)).cell? ⟨w.heap.size, 4, none⟩ = some (.slice a0.dA t0.ds.length a0.dc) := (HK43.out.alloc _).cell 4
      have HBB := Lib.hid hB13
      have HW6 := Lib.hid hW6
      clear hb3 hb6 hst h13 hW6 hz3 hB13
      go_wp2
      rw [← HW6.out, ← HBB.out]
      clear e0 e1 e2 e3 e4 q1 q2 q2'
      go_loopw [11, 12, 14, 15, 16, 17, 18] (fun vv nx _ _ _ _ _ wr => ∃ (t : PM) (a : MA) (vis : List ByteArray) (L : List (PD × DA)) (s : List Todo) (ask : List (List PK)) (f : Nat), Hid (RfI X w wr B13 t a vis vv nx L) ∧ Hid (PMs t) ∧ Hid (s.map (·.1) = L.map (·.1)) ∧ Hid (R = walkP (covP path) path most (ldOf l 4) 4 200 f t s vis ask) ∧ Hid (1 ≤ vis.length ∧ (vis.length : Int) ≤ most ∧ most < f + vis.length) ∧ Hid (L.length ≤ 30 * vis.length)) (fun vv _ _ _ _ _ _ _ => 100 - lenV vv)
      case atStart => exact ⟨t0, a0, [targetsB], [], [], [], 33, HRF, HG0, Lib.hid rfl, HI, Lib.hid (by have := HMO.out; simp; omega), Lib.hid (by simp)⟩
      case round =>
        obtain ⟨t, a, vis, L, s, ask, f, HK, HGT, HSL, HRR, HV1, HLL⟩ := hrel
        obtain ⟨vA, vc, hvv, hv1, hv2, _⟩ := OG.form HK.out.vo
        obtain ⟨nA, nc, hnx, hn1, hn2, _⟩ := HK.out.nx.form
        have HVV := Lib.hid hvv
        have HNX := Lib.hid hnx
        have HFI := Lib.hid (rfind_any X t a path wr HK.out.mo HGT.out.ts)
        obtain ⟨g0, hg0⟩ : ∃ g0, f = g0 + 1 := ⟨f - 1, by have := HV1.out; omega⟩
        subst hg0
        have e0 : wr.cell? ⟨B13, 0, none⟩ = some (.int .i64 t.ver) := HK.out.b13.cell 0
        have e1 : wr.cell? ⟨B13, 1, none⟩ = some (.int .i64 t.exp) := HK.out.b13.cell 1
        have e2 : wr.cell? ⟨B13, 2, none⟩ = some (.slice a.tA t.ts.length a.tc) := HK.out.b13.cell 2
        have e3 : wr.cell? ⟨B13, 3, none⟩ = some (.slice a.kA t.ks.length a.kc) := HK.out.b13.cell 3
        have e4 : wr.cell? ⟨B13, 4, none⟩ = some (.slice a.dA t.ds.length a.dc) := HK.out.b13.cell 4
        obtain ⟨fx, hfx⟩ : ∃ fx, fx = findT path t.ts := ⟨_, rfl⟩
        rw [← hfx] at HFI
        unfold Sea.PM.val Sea.PM.cs at HFI
        have HFX := Lib.hid hfx.symm
        rw [hvv, hnx]
        clear hfx hvv hnx hv1 hv2 hn1 hn2
        go_wp2_with fail
        refine HFI.out.mono ?_
        rintro e w4 ⟨rfl, hb4⟩
        have HJ4 := Lib.hid (HK.out.bel hb4)
        clear hb4 e0 e1 e2 e3 e4
        cases fx with
        | some p =>
          unfold ptV
          obtain ⟨WZ, hWZ⟩ : ∃ WZ, WZ = w4.alloc (.cells #[.string p.p, .int .i64 p.n, .string p.h] 31) := ⟨_, rfl⟩
          have hbz : Below w4.heap.size w4 WZ := by rw [hWZ]; exact (Below.refl _ _).alloc (Nat.le_refl _) _
          have HJZ := Lib.hid (HJ4.out.bel hbz)
          have HB8 := Lib.hid HJZ.out.b8
          have HRX : Hid (R = ⟨some p, vis, 0, ask⟩) := Lib.hid (by rw [HRR.out]; exact walkP_found HFX.out)
          have HWZ := Lib.hid hWZ
          clear hbz hWZ
          have z0 : (w4.alloc (.cells #[.string p.p, .int .i64 p.n, .string p.h] 31)).cell? ⟨w.heap.size + 1, 0, none⟩ = some (.string ⟨#[]⟩) := by rw [← HWZ.out]; exact HB8.out.cell 0
          have f0 : (w4.alloc (.cells #[.string p.p, .int .i64 p.n, .string p.h] 31)).frozen? ⟨w.heap.size + 1, 0, none⟩ = false := by rw [← HWZ.out]; exact HB8.out.frozen 0
          have z1 : (w4.alloc (.cells #[.string p.p, .int .i64 p.n, .string p.h] 31)).cell? ⟨w.heap.size + 1, 1, none⟩ = some (.int .i64 0) := by rw [← HWZ.out]; exact HB8.out.cell 1
          have f1 : (w4.alloc (.cells #[.string p.p, .int .i64 p.n, .string p.h] 31)).frozen? ⟨w.heap.size + 1, 1, none⟩ = false := by rw [← HWZ.out]; exact HB8.out.frozen 1
          have z2 : (w4.alloc (.cells #[.string p.p, .int .i64 p.n, .string p.h] 31)).cell? ⟨w.heap.size + 1, 2, none⟩ = some (.string ⟨#[]⟩) := by rw [← HWZ.out]; exact HB8.out.cell 2
          have f2 : (w4.alloc (.cells #[.string p.p, .int .i64 p.n, .string p.h] 31)).frozen? ⟨w.heap.size + 1, 2, none⟩ = false := by rw [← HWZ.out]; exact HB8.out.frozen 2
          have HF := Lib.hid ((((HB8.out.set_ 0 (.string p.p)).set_ 1 (.int .i64 p.n)).set_ 2 (.string p.h)))
          have HFR := Lib.hid ((Fr.setCell (S := fun b => b = w.heap.size + 1) (Fr.setCell (S := fun b => b = w.heap.size + 1) (Fr.setCell (S := fun b => b = w.heap.size + 1) (Fr.refl (fun b => b = w.heap.size + 1) WZ) (p := ⟨w.heap.size + 1, 0, none⟩) (fun _ => rfl) (.string p.p)) (p := ⟨w.heap.size + 1, 1, none⟩) (fun _ => rfl) (.int .i64 p.n)) (p := ⟨w.heap.size + 1, 2, none⟩) (fun _ => rfl) (.string p.h)))
          go_wp2
          rw [← HWZ.out]
          have k0 := HF.out.cell 0
          have k1 := HF.out.cell 1
          have k2 := HF.out.cell 2
          simp at k0 k1 k2
          refine bodyPost_ret (v := .tuple #[ptV (some p), .slice vA vis.length vc, .int .i64 0]) (by simp [results, Tryz.results10, go_sem, k0, k1, k2, ptV]) rfl ?_
          rw [HRX.out]
          refine ⟨vA, vc, rfl, ?_, Fr.below_trans HJZ.out.bl HFR.out HJZ.out.bl.size (fun k e => by omega)⟩
          have q := HJZ.out.vo
          rw [HVV.out] at q
          exact OG.frT q HFR.out (fun g cs hb e => by subst e; exact hb.ne_ HB8.out (by decide) rfl)
        | none =>
          unfold ptV
          obtain ⟨W5, hW5⟩ : ∃ W5, W5 = w4.alloc (.cells #[.string ⟨#[]⟩, .int .i64 0, .string ⟨#[]⟩] 31) := ⟨_, rfl⟩
          have hb5 : Below w4.heap.size w4 W5 := by rw [hW5]; exact (Below.refl _ _).alloc (Nat.le_refl _) _
          have HJ5 := Lib.hid (HJ4.out.bel hb5)
          have hcv := rcovering_any X t a path W5 HJ5.out.mo HGT.out.ds HPS.out
          unfold Sea.PM.val Sea.PM.cs at hcv
          have HCV := Lib.hid hcv
          have e0 : (w4.alloc (.cells #[.string ⟨#[]⟩, .int .i64 0, .string ⟨#[]⟩] 31)).cell? ⟨B13, 0, none⟩ = some (.int .i64 t.ver) := by rw [← hW5]; exact HJ5.out.b13.cell 0
          have e1 : (w4.alloc (.cells #[.string ⟨#[]⟩, .int .i64 0, .string ⟨#[]⟩] 31)).cell? ⟨B13, 1, none⟩ = some (.int .i64 t.exp) := by rw [← hW5]; exact HJ5.out.b13.cell 1
          have e2 : (w4.alloc (.cells #[.string ⟨#[]⟩, .int .i64 0, .string ⟨#[]⟩] 31)).cell? ⟨B13, 2, none⟩ = some (.slice a.tA t.ts.length a.tc) := by rw [← hW5]; exact HJ5.out.b13.cell 2
          have e3 : (w4.alloc (.cells #[.string ⟨#[]⟩, .int .i64 0, .string ⟨#[]⟩] 31)).cell? ⟨B13, 3, none⟩ = some (.slice a.kA t.ks.length a.kc) := by rw [← hW5]; exact HJ5.out.b13.cell 3
          have e4 : (w4.alloc (.cells #[.string ⟨#[]⟩, .int .i64 0, .string ⟨#[]⟩] 31)).cell? ⟨B13, 4, none⟩ = some (.slice a.dA t.ds.length a.dc) := by rw [← hW5]; exact HJ5.out.b13.cell 4
          have HW5 := Lib.hid hW5
          clear hcv hW5 hb5
          go_wp2_with fail
          rw [← HW5.out]
          refine HCV.out.mono ?_
          rintro e w6 ⟨cvv, LC, rfl, hdl, hb6⟩
          have HJ6 := Lib.hid (HJ5.out.bel hb6)
          obtain ⟨cA, cc, hcvv, hc1, hc2, hc3, hc4⟩ := OG.form hdl.own
          have HCA := Lib.hid hc4
          have HCR := Lib.hid hc3
          have HCL := Lib.hid hdl.l
          have HCN : Hid (LC.length ≤ 30) := Lib.hid (by
            have h1 := covering_len (cov := covP path) t.ds
            rw [← hdl.l, List.length_map] at h1
            have := HGT.out.ds
            omega)
          obtain ⟨cn, hcn⟩ : ∃ cn, cn = LC.length := ⟨_, rfl⟩
          have HCC := Lib.hid hcn
          rw [hcvv, ← hcn]
          clear hb6 hdl hcvv hc1 hc2 hc3 hc4 e0 e1 e2 e3 e4 hcn
          go_upto_region 12 with fail
          go_cut [16, 55] from 32 to 107 (fun cv' bv wx => ∃ tb : Bool, bv = .bool tb ∧ cv' = .slice cA cn cc ∧ Hid (lastTerm (LC.map (·.1)) = tb) ∧ wx = w6)
          case first =>
            rcases (by omega : cn = 0 ∨ 0 < cn) with hz | hpos
            · have HLT : Hid (lastTerm (LC.map (·.1)) = false) := Lib.hid (by rw [List.eq_nil_of_length_eq_zero (by have := HCC.out; omega : LC.length = 0)]; rfl)
              subst hz
              go_wp2
              go_meet
              case rel => exact ⟨false, rfl, rfl, HLT, rfl⟩
            · obtain ⟨k, hk⟩ : ∃ k, cn = k + 1 := ⟨cn - 1, by omega⟩
              have hcn := HCC.out
              have hkl : k < LC.length := by omega
              obtain ⟨b, o, hA, hbl, hcs⟩ := reads_at dcs_len HCR.out (fun ad e => (HCA.out ad e).2.2.2.1) hkl
              obtain ⟨x, hx⟩ : ∃ x, x = LC[k] := ⟨_, rfl⟩
              obtain ⟨tm, htm⟩ : ∃ tm, tm = x.1.term := ⟨_, rfl⟩
              have c3 : w6.cell? ⟨b, o + k * 6 + 3, none⟩ = some (.bool tm) := by
                have q := hcs 3 (by omega)
                rw [q, htm, hx]
                rfl
              have HLT : Hid (lastTerm (LC.map (·.1)) = tm) := Lib.hid (by
                unfold lastTerm
                rw [List.getLast?_map, List.getLast?_eq_getElem?, show LC.length - 1 = k by omega, List.getElem?_eq_getElem hkl, htm, hx]
                rfl)
              have q0 : decide ((cn : Int) > 0) = true := by rw [decide_eq_true_iff]; omega
              have q0' : decide ((0 : Int) < (cn : Int)) = true := by rw [decide_eq_true_iff]; omega
              have hsub : (cn : Int) - 1 = (k : Int) := by omega
              have hki : (k : Int) < (cn : Int) := by omega
              have hk0 : (0 : Int) ≤ (k : Int) := by omega
              have hk9 : (k : Int) ≤ 1000 := by have := HCN.out; omega
              have HAA := Lib.hid hA
              rw [hA]
              clear hA hbl hcs hx htm hk hkl hcn hpos
              cases tm with
              | false =>
                go_wp2
                go_meet
                case rel => exact ⟨false, rfl, by rw [HAA.out], HLT, rfl⟩
              | true =>
                go_wp2
                go_meet
                case rel => exact ⟨true, rfl, by rw [HAA.out], HLT, rfl⟩
          case rest =>
            obtain ⟨tb, rfl, rfl, HTB, rfl⟩ := hcut
            have hlg : LG 59 6 wc w.heap.size (.slice nA L.length nc) L.length (L.flatMap dcs) := by rw [← HNX.out]; exact HJ6.out.nx
            have HLG0 := Lib.hid hlg
            clear hlg
            go_upto_if 55 with fail
            go_cut [12] from 32 to 107 (fun nx' wx => ∃ (LN : List (PD × DA)) (A9 : Option Addr) (c9 : Nat), nx' = .slice A9 LN.length c9 ∧ Hid (LG 59 6 wc w.heap.size (.slice A9 LN.length c9) LN.length (LN.flatMap dcs)) ∧ Hid (LN.map (·.1) = if lastTerm (LC.map (·.1)) then [] else L.map (·.1)) ∧ wx = wc)
            case first =>
              cases tb with
              | false =>
                go_wp2
                go_meet
                case rel => exact ⟨L, nA, nc, rfl, HLG0, Lib.hid (by rw [HTB.out]; rfl), rfl⟩
              | true =>
                go_wp2
                go_meet
                case rel => exact ⟨[], none, 0, rfl, Lib.hid ⟨rfl, .inl ⟨rfl, rfl⟩⟩, Lib.hid (by rw [HTB.out]; rfl), rfl⟩
            case rest =>
              obtain ⟨LN, A9, c9, rfl, HLG, HLN, rfl⟩ := hcut
              have hszc : w.heap.size ≤ wc.heap.size := HJ6.out.bl.size
              have HOE := Lib.hid (emptyRowT wc 59 6 w.heap.size hszc)
              have HRE : Hid (Reads (wc.alloc (.cells #[] 59)) (wc.alloc (.cells #[] 59)).heap.size 6 cA cn (LC.flatMap dcs)) := Lib.hid (by
                rw [HCC.out]
                exact (Reads.alloc HCR.out (Nat.le_refl _) _).more (by simp))
              have hl1 : 0 + cn ≤ 1000000000 := by have := HCC.out; have := HCN.out; omega
              have hs1 : w.heap.size ≤ (wc.alloc (.cells #[] 59)).heap.size := by simp; omega
              have HLNL : Hid (LN.length ≤ 960) := Lib.hid (by
                have h1 : (LN.map (·.1)).length = LN.length := List.length_map _
                have h2 := HLL.out
                have h3 := HV1.out
                have h4 := HMO.out
                rw [HLN.out] at h1
                split at h1
                · simp at h1; omega
                · rw [List.length_map] at h1; omega)
              have HP1 : Hid (∀ v7 w7, OG 59 6 w7 w.heap.size v7 (0 + cn) ([] ++ LC.flatMap dcs) → (wc.alloc (.cells #[] 59)).grownBy w7 (Value.slice (some ⟨wc.heap.size, 0, none⟩) 0 0).ownBlock → (v7.ownBlock = (Value.slice (some ⟨wc.heap.size, 0, none⟩) 0 0).ownBlock ∨ v7.ownBlock = some (wc.alloc (.cells #[] 59)).heap.size) →
                  Hid (Below wc.heap.size wc w7) ∧ Hid (OG 59 6 w7 w.heap.size v7 cn (LC.flatMap dcs)) ∧ Hid (Reads w7 w7.heap.size 6 A9 LN.length (LN.flatMap dcs)) ∧ Hid (∀ g, v7.ownBlock = some g → wc.heap.size ≤ g) ∧ w.heap.size ≤ w7.heap.size) := Lib.hid (fun v7 w7 ho hg hat => by
                have hb : Below wc.heap.size wc w7 := ((Below.refl _ _).alloc (Nat.le_refl _) _).grown hg (by simp) (by intro k hk; cases hk; exact Nat.le_refl _)
                refine ⟨Lib.hid hb, Lib.hid (by rw [Nat.zero_add, List.nil_append] at ho; exact ho), Lib.hid (HLG.out.below hb).reads, Lib.hid (fun g hg => ?_), Nat.le_trans hszc hb.size⟩
                rcases hat with e | e
                · rw [e] at hg; cases hg; exact Nat.le_refl _
                · rw [e] at hg; cases hg; simp)
              have HTOK1 : Hid (0 = 0) := Lib.hid rfl
              go_wp2_with (first | (at_builtin; have htk := HTOK1.out; refine app_raw _ infoDel Tryz.underlying24 (by omega) (by omega) rfl _ _ rfl w.heap.size _ 0 [] rfl HOE.out cA cn cc _ rfl HRE.out (flat_one dcs_one _) hl1 hs1 ?_; clear htk HTOK1 hl1 hs1 HOE HRE; intro v7 w7 ho hg hat; obtain ⟨HB7, HO7, HR7, HGE7, hs2⟩ := HP1.out v7 w7 ho hg hat; clear ho hg hat HP1; have hl2 : cn + LN.length ≤ 1000000000 := (by have := HLNL.out; have := HCC.out; have := HCN.out; omega)) | (at_builtin; refine app_raw _ infoDel Tryz.underlying24 (by omega) (by omega) rfl _ _ rfl w.heap.size v7 cn _ rfl HO7.out A9 LN.length c9 _ rfl HR7.out (flat_one dcs_one _) hl2 hs2 ?_; clear hl2 hs2 HR7; intro v8 w8 ho hg hat; obtain ⟨A8, c8, rfl, _⟩ := OG.form ho; have HB8' := Lib.hid (HB7.out.grown hg HB7.out.size HGE7.out); have HO8 := Lib.hid (LG.of ho); clear ho hg hat HO7 HGE7))
              obtain ⟨mn, hmn⟩ : ∃ mn, mn = cn + LN.length := ⟨_, rfl⟩
              have HMN : Hid (mn = (LC ++ LN).length) := Lib.hid (by rw [hmn, HCC.out, List.length_append])
              rw [← hmn] at HO8 ⊢
              have HO8' : Hid (LG 59 6 w8 w.heap.size (.slice A8 mn c8) mn ((LC ++ LN).flatMap dcs)) := Lib.hid (by rw [List.flatMap_append]; exact HO8.out)
              have HJ8 := Lib.hid (HJ6.out.bel HB8'.out)
              have HML : Hid (mn ≤ 1000) := Lib.hid (by have := HLNL.out; have := HCC.out; have := HCN.out; omega)
              have HSTR : Hid (SS w8 vA vis) := Lib.hid (by
                have q := HJ8.out.vo
                rw [HVV.out] at q
                exact (og_strv q).1)
              have HVL9 : Hid (vis.length ≤ 32) := Lib.hid (by have := HV1.out; have := HMO.out; omega)
              clear hmn hszc
              go_loopw [12] (fun nx wr => ∃ (Q : List (PD × DA)) (A : Option Addr) (c qn : Nat), nx = .slice A qn c ∧ Hid (qn = Q.length) ∧ Hid (LG 59 6 wr w.heap.size (.slice A qn c) qn (Q.flatMap dcs)) ∧ Hid (restD vis (LC ++ LN) = restD vis Q) ∧ Hid (Below w8.heap.size w8 wr) ∧ Hid (Q.length ≤ 1000)) (fun nx _ => lenV nx)
              case atStart => exact ⟨LC ++ LN, A8, c8, mn, rfl, HMN, HO8', Lib.hid rfl, Lib.hid (Below.refl _ _), Lib.hid (by rw [← HMN.out]; exact HML.out)⟩
              case round =>
                obtain ⟨Q, qA, qc, qn, rfl, HQN, HQ, HRS, HBW, HQL⟩ := hrel
                rcases Q with _ | ⟨x, r⟩
                · -- none is left
                  obtain rfl : qn = 0 := HQN.out
                  have HRE : Hid (rest vis (pushP (covP path) t s) = []) := Lib.hid (by
                    have h1 := restD_map vis (LC ++ LN) (pushP (covP path) t s) (by
                      unfold pushP
                      rw [List.map_append, List.map_append, HLN.out, ← HCL.out]
                      congr 1
                      · rw [List.map_map]; exact List.map_id _
                      · split
                        · rfl
                        · exact HSL.out)
                    rw [HRS.out] at h1
                    have h2 : (rest vis (pushP (covP path) t s)).map (·.1) = [] := h1
                    rw [List.map_eq_nil_iff] at h2
                    exact h2)
                  have HRX : Hid (R = ⟨none, vis, 4, ask⟩) := Lib.hid (by rw [HRR.out]; exact walkP_none HFX.out HRE.out)
                  have HJ9 := Lib.hid (HJ8.out.bel HBW.out)
                  have HB8 := Lib.hid HJ9.out.b8
                  have HOV9 : Hid (OG 9 1 wr w.heap.size (.slice vA vis.length vc) vis.length (vis.map Value.string)) := Lib.hid (by rw [← HVV.out]; exact HJ9.out.vo)
                  have z0 : wr.cell? ⟨w.heap.size + 1, 0, none⟩ = some (.string ⟨#[]⟩) := HB8.out.cell 0
                  have f0 : wr.frozen? ⟨w.heap.size + 1, 0, none⟩ = false := HB8.out.frozen 0
                  have z1 : wr.cell? ⟨w.heap.size + 1, 1, none⟩ = some (.int .i64 0) := HB8.out.cell 1
                  have f1 : wr.frozen? ⟨w.heap.size + 1, 1, none⟩ = false := HB8.out.frozen 1
                  have z2 : wr.cell? ⟨w.heap.size + 1, 2, none⟩ = some (.string ⟨#[]⟩) := HB8.out.cell 2
                  have f2 : wr.frozen? ⟨w.heap.size + 1, 2, none⟩ = false := HB8.out.frozen 2
                  have HF := Lib.hid ((((HB8.out.set_ 0 (.string ⟨#[]⟩)).set_ 1 (.int .i64 0)).set_ 2 (.string ⟨#[]⟩)))
                  have HFR := Lib.hid ((Fr.setCell (S := fun b => b = w.heap.size + 1) (Fr.setCell (S := fun b => b = w.heap.size + 1) (Fr.setCell (S := fun b => b = w.heap.size + 1) (Fr.refl (fun b => b = w.heap.size + 1) wr) (p := ⟨w.heap.size + 1, 0, none⟩) (fun _ => rfl) (.string ⟨#[]⟩)) (p := ⟨w.heap.size + 1, 1, none⟩) (fun _ => rfl) (.int .i64 0)) (p := ⟨w.heap.size + 1, 2, none⟩) (fun _ => rfl) (.string ⟨#[]⟩)))
                  go_wp2
                  have k0 := HF.out.cell 0
                  have k1 := HF.out.cell 1
                  have k2 := HF.out.cell 2
                  simp at k0 k1 k2
                  refine bodyPost_ret (v := .tuple #[ptV (none), .slice vA vis.length vc, .int .i64 4]) (by simp [results, Tryz.results10, go_sem, k0, k1, k2, ptV]) rfl ?_
                  rw [HRX.out]
                  refine ⟨vA, vc, by rfl, ?_, Fr.below_trans HJ9.out.bl HFR.out HJ9.out.bl.size (fun k e => by omega)⟩
                  exact OG.frT HOV9.out HFR.out (fun g cs hb e => by subst e; exact hb.ne_ HB8.out (by decide) rfl)
                · have hqn : qn = r.length + 1 := HQN.out
                  obtain ⟨g, off, hA, hq1, hq2, hcx, ht1, ht2⟩ := LG.tailD hqn HQ.out
                  have q0 : decide ((qn : Int) > 0) = true := by rw [decide_eq_true_iff]; omega
                  have q0' : decide ((0 : Int) < (qn : Int)) = true := by rw [decide_eq_true_iff]; omega
                  have q1 : (0 : Int) < (qn : Int) := by omega
                  have q2 : ((qn : Int) == 0) = false := by rw [beq_eq_false_iff_ne]; omega
                  have q2' : decide ((qn : Int) = 0) = false := by rw [decide_eq_false_iff_not]; omega
                  have HT1 := Lib.hid ht1
                  have HT2 := Lib.hid ht2
                  have HQNN := Lib.hid hqn
                  have HQ1 := Lib.hid hq1
                  have HAA := Lib.hid hA
                  obtain ⟨nm, hnm⟩ : ∃ nm, nm = x.1.name := ⟨_, rfl⟩
                  rw [← hnm] at hcx
                  have HNM := Lib.hid hnm
                  obtain ⟨cv, hcv⟩ : ∃ cv, cv = hasB vis nm := ⟨_, rfl⟩
                  have hcc := rhas_any vA vis.length vc vis nm wr (HSTR.out.below HBW.out) rfl (by have := HVL9.out; omega)
                  rw [← hcv] at hcc
                  have HCCC := Lib.hid hcc
                  have HCV := Lib.hid hcv.symm
                  rw [hA]
                  clear hqn hA hq1 hq2 ht1 ht2 hnm hcc hcv
                  go_wp2_with fail
                  refine HCCC.out.mono ?_
                  rintro e wh ⟨rfl, hbh⟩
                  have HBH := Lib.hid (HBW.out.trans (hbh.mono HBW.out.size))
                  have HQH := Lib.hid hbh
                  have hcx2 : wh.cell? ⟨g, off, none⟩ = some (.string nm) := (hbh.cell (by
                    obtain ⟨A', c', e1, _, _, hx⟩ := HQ.out.form
                    cases e1
                    obtain ⟨g', off', e2, hl, _⟩ := hx (by have := HQNN.out; omega)
                    rw [HAA.out] at e2
                    cases e2
                    exact hl)).trans hcx
                  clear hbh hcx
                  cases cv with
                  | true =>
                    have HRS2 : Hid (restD vis (LC ++ LN) = restD vis r) := Lib.hid (by
                      rw [HRS.out]
                      unfold restD
                      rw [List.dropWhile_cons_of_pos (by rw [← HNM.out]; exact HCV.out)])
                    have HSB : Hid (qn - 1 = r.length) := Lib.hid (by have := HQNN.out; omega)
                    have hz1 : (1 : Int) ≤ (qn : Int) := by omega
                    have hz2 : (1 : Int) ≤ (qc : Int) := by have := HQ1.out; omega
                    have HLR : Hid (r.length ≤ 1000) := Lib.hid (by have := HQL.out; simp at this; omega)
                    rcases (by omega : qc = 1 ∨ qc ≠ 1) with hone | hmany
                    · clear q0 q0' q1 q2 q2' hcx2
                      go_wp2
                      go_roundw
                      case rel => exact ⟨r, _, _, _, rfl, HSB, Lib.hid (by have q := (HT1.out hone).below HQH.out; rw [← HSB.out] at q; exact q), HRS2, HBH, HLR⟩
                      case measure => have := HSB.out; have := HQNN.out; show qn - 1 < qn; omega
                    · clear q0 q0' q1 q2 q2' hcx2
                      go_wp2
                      go_roundw
                      case rel => exact ⟨r, _, _, _, rfl, HSB, Lib.hid (by have q := (HT2.out hmany).below HQH.out; rw [← HSB.out] at q; exact q), HRS2, HBH, HLR⟩
                      case measure => have := HSB.out; have := HQNN.out; show qn - 1 < qn; omega
                  | false =>
                    have HRSX : Hid (restD vis (LC ++ LN) = x :: r) := Lib.hid (by
                      rw [HRS.out]
                      unfold restD
                      rw [List.dropWhile_cons_of_neg (by rw [← HNM.out, HCV.out]; decide)])
                    have HPU : Hid ((rest vis (pushP (covP path) t s)).map (·.1) = x.1 :: r.map (·.1)) := Lib.hid (by
                      have h1 := restD_map vis (LC ++ LN) (pushP (covP path) t s) (by
                        unfold pushP
                        rw [List.map_append, List.map_append, HLN.out, ← HCL.out]
                        congr 1
                        · rw [List.map_map]; exact List.map_id _
                        · split
                          · rfl
                          · exact HSL.out)
                      rw [HRSX.out] at h1
                      exact h1)
                    obtain ⟨td, tr, htd⟩ : ∃ td tr, rest vis (pushP (covP path) t s) = td :: tr := by
                      cases hq : rest vis (pushP (covP path) t s) with
                      | nil => have h1 := HPU.out; rw [hq] at h1; cases h1
                      | cons td tr => exact ⟨td, tr, rfl⟩
                    have HTD := Lib.hid htd
                    have HTN : Hid (td.1 = x.1 ∧ tr.map (·.1) = r.map (·.1)) := Lib.hid (by
                      have h1 := HPU.out
                      rw [htd] at h1
                      simpa using h1)
                    obtain ⟨bm, hbm⟩ : ∃ bm, bm = decide ((vis.length : Int) = most) := ⟨_, rfl⟩
                    have HBM := Lib.hid hbm.symm
                    have hbq : ((vis.length : Int) == most) = bm := by rw [hbm]; rfl
                    have HJH := Lib.hid (HJ8.out.bel HBH.out)
                    have HOVH : Hid (OG 9 1 wh w.heap.size (.slice vA vis.length vc) vis.length (vis.map Value.string)) := Lib.hid (by rw [← HVV.out]; exact HJH.out.vo)
                    clear htd hbm
                    cases bm with
                    | true =>
                      have HEQ : Hid ((vis.length : Int) = most) := Lib.hid (of_decide_eq_true HBM.out)
                      have HRX : Hid (R = ⟨none, vis, 200, ask⟩) := Lib.hid (by rw [HRR.out]; exact walkP_many HFX.out HTD.out HEQ.out)
                      have HB8 := Lib.hid HJH.out.b8
                      have z0 : wh.cell? ⟨w.heap.size + 1, 0, none⟩ = some (.string ⟨#[]⟩) := HB8.out.cell 0
                      have f0 : wh.frozen? ⟨w.heap.size + 1, 0, none⟩ = false := HB8.out.frozen 0
                      have z1 : wh.cell? ⟨w.heap.size + 1, 1, none⟩ = some (.int .i64 0) := HB8.out.cell 1
                      have f1 : wh.frozen? ⟨w.heap.size + 1, 1, none⟩ = false := HB8.out.frozen 1
                      have z2 : wh.cell? ⟨w.heap.size + 1, 2, none⟩ = some (.string ⟨#[]⟩) := HB8.out.cell 2
                      have f2 : wh.frozen? ⟨w.heap.size + 1, 2, none⟩ = false := HB8.out.frozen 2
                      have HF := Lib.hid ((((HB8.out.set_ 0 (.string ⟨#[]⟩)).set_ 1 (.int .i64 0)).set_ 2 (.string ⟨#[]⟩)))
                      have HFR := Lib.hid ((Fr.setCell (S := fun b => b = w.heap.size + 1) (Fr.setCell (S := fun b => b = w.heap.size + 1) (Fr.setCell (S := fun b => b = w.heap.size + 1) (Fr.refl (fun b => b = w.heap.size + 1) wh) (p := ⟨w.heap.size + 1, 0, none⟩) (fun _ => rfl) (.string ⟨#[]⟩)) (p := ⟨w.heap.size + 1, 1, none⟩) (fun _ => rfl) (.int .i64 0)) (p := ⟨w.heap.size + 1, 2, none⟩) (fun _ => rfl) (.string ⟨#[]⟩)))
                      go_wp2
                      have k0 := HF.out.cell 0
                      have k1 := HF.out.cell 1
                      have k2 := HF.out.cell 2
                      simp at k0 k1 k2
                      refine bodyPost_ret (v := .tuple #[ptV (none), .slice vA vis.length vc, .int .i64 200]) (by simp [results, Tryz.results10, go_sem, k0, k1, k2, ptV]) rfl ?_
                      rw [HRX.out]
                      refine ⟨vA, vc, by rfl, ?_, Fr.below_trans HJH.out.bl HFR.out HJH.out.bl.size (fun k e => by omega)⟩
                      exact OG.frT HOVH.out HFR.out (fun g cs hb e => by subst e; exact hb.ne_ HB8.out (by decide) rfl)
                    | false =>
                      have HEQ : Hid (¬ (vis.length : Int) = most) := Lib.hid (of_decide_eq_false HBM.out)
                      have HJX : Hid (RfI X w wh B13 t a vis (.slice vA vis.length vc) (.slice (some ⟨g, off, none⟩) qn qc) (x :: r)) := Lib.hid (by
                        have q := HJH.out
                        rw [HVV.out] at q
                        refine q.nxt ?_
                        have q2 := HQ.out.below HQH.out
                        rw [HAA.out] at q2
                        rw [← HQN.out]
                        exact q2)
                      have HN7 := Lib.hid (reads_new wh 9 #[.string nm])
                      have HJA := Lib.hid (HJX.out.bel ((Below.refl _ _).alloc (Nat.le_refl _) (.cells #[.string nm] 9)))
                      have HOA := Lib.hid HJA.out.vo
                      have hln : vis.length + 1 ≤ 1000000000 := by have := HVL9.out; omega
                      have hszA : w.heap.size ≤ (wh.alloc (.cells #[.string nm] 9)).heap.size := HJA.out.bl.size
                      have HONE : Hid (∀ u ∈ (#[.string nm] : Array Value).toList, u.oneCell' = true) := Lib.hid (by simp [Value.oneCell'])
                      have HPOST : Hid (∀ v9 wV, OG 9 1 wV w.heap.size v9 (vis.length + 1) (vis.map Value.string ++ (#[.string nm] : Array Value).toList) → (wh.alloc (.cells #[.string nm] 9)).grownBy wV (Value.slice vA vis.length vc).ownBlock →
                          Hid (RfI X w wV B13 t a (vis ++ [nm]) v9 (.slice (some ⟨g, off, none⟩) qn qc) (x :: r)) ∧ wV.cell? ⟨g, off, none⟩ = some (.string nm)) := by
                        refine Lib.hid fun v9 wV hown hg => ?_
                        have hj := HJA.out.appV HX.out hown hg
                        refine ⟨Lib.hid hj, ?_⟩
                        have hnx := hj.nx
                        have e : (x :: r).length = qn := HQN.out.symm
                        rw [e] at hnx
                        obtain ⟨g', off', e1, _, _, hc, _⟩ := LG.tailD HQNN.out hnx
                        cases e1
                        rw [HNM.out]
                        exact hc
                      have HLOAD := Lib.hid (fun w4 (hb : Below w.heap.size w w4) => rload_any X A n c l nm w4 (HV.out.bel hb) HN.out HS.out)
                      go_wp2_with (at_builtin; refine app_raw _ infoStrG Tryz.underlying32 (by omega) (by omega) rfl _ _ rfl w.heap.size (.slice vA vis.length vc) vis.length _ rfl HOA.out _ 1 1 _ rfl HN7.out HONE.out hln hszA ?_; clear HN7 hln hszA hcx2; intro v9 wV hown hg hat; obtain ⟨A9, c9, rfl, _⟩ := OG.form hown; obtain ⟨HJV, hcV⟩ := HPOST.out _ wV hown hg; clear hown hg hat HPOST)
                      refine (HLOAD.out _ HJV.out.bl).mono ?_
                      rintro e w5 ⟨t2, a2, rfl, htt, hmo, hb5⟩
                      unfold Sea.PM.val Sea.PM.cs
                      obtain ⟨W6b, hW6b⟩ : ∃ W6b, W6b = w5.alloc (.cells #[.int .i64 t2.ver, .int .i64 t2.exp, .slice a2.tA t2.ts.length a2.tc, .slice a2.kA t2.ks.length a2.kc, .slice a2.dA t2.ds.length a2.dc] 26) := ⟨_, rfl⟩
                      have hb6 : Below w5.heap.size w5 W6b := by rw [hW6b]; exact (Below.refl _ _).alloc (Nat.le_refl _) _
                      have HJ6b := Lib.hid ((HJV.out.bel hb5).bel hb6)
                      have HQ17 : Hid (Blk W6b w5.heap.size 26 #[.int .i64 t2.ver, .int .i64 t2.exp, .slice a2.tA t2.ts.length a2.tc, .slice a2.kA t2.ks.length a2.kc, .slice a2.dA t2.ds.length a2.dc]) := Lib.hid (by rw [hW6b]; exact Blk.new _ _ _)
                      have HMO6 := Lib.hid (hmo.bel hb6)
                      obtain ⟨ls, hls⟩ : ∃ ls, ls = loadP l nm := ⟨_, rfl⟩
                      rw [← hls] at htt ⊢
                      have HLS := Lib.hid hls
                      have HTT := Lib.hid htt
                      have HW6b := Lib.hid hW6b
                      have HNAME : Hid (td.1.name = nm) := Lib.hid (by rw [HTN.out.1, HNM.out])
                      clear hb5 hb6 hmo htt hW6b hls hcV HLOAD
                      cases ls with
                      | none =>
                        have eq9 : (none : Option PM).isSome = false := rfl
                        have HRX : Hid (R = ⟨none, vis ++ [nm], 4, ask ++ [td.2]⟩) := Lib.hid (by
                          rw [HRR.out, ← HNAME.out]
                          exact walkP_err HFX.out HTD.out HEQ.out (by unfold ldOf; rw [HNAME.out, ← HLS.out]))
                        have HB8 := Lib.hid HJ6b.out.b8
                        have hl9 : (vis ++ [nm]).length = vis.length + 1 := by simp
                        have HOV9 : Hid (OG 9 1 W6b w.heap.size (.slice A9 (vis ++ [nm]).length c9) (vis ++ [nm]).length ((vis ++ [nm]).map Value.string)) := Lib.hid (by
                          have q := HJ6b.out.vo
                          rw [hl9] at q ⊢
                          exact q)
                        clear hl9
                        have z0 : (w5.alloc (.cells #[.int .i64 t2.ver, .int .i64 t2.exp, .slice a2.tA t2.ts.length a2.tc, .slice a2.kA t2.ks.length a2.kc, .slice a2.dA t2.ds.length a2.dc] 26)).cell? ⟨w.heap.size + 1, 0, none⟩ = some (.string ⟨#[]⟩) := by rw [← HW6b.out]; exact HB8.out.cell 0
                        have f0 : (w5.alloc (.cells #[.int .i64 t2.ver, .int .i64 t2.exp, .slice a2.tA t2.ts.length a2.tc, .slice a2.kA t2.ks.length a2.kc, .slice a2.dA t2.ds.length a2.dc] 26)).frozen? ⟨w.heap.size + 1, 0, none⟩ = false := by rw [← HW6b.out]; exact HB8.out.frozen 0
                        have z1 : (w5.alloc (.cells #[.int .i64 t2.ver, .int .i64 t2.exp, .slice a2.tA t2.ts.length a2.tc, .slice a2.kA t2.ks.length a2.kc, .slice a2.dA t2.ds.length a2.dc] 26)).cell? ⟨w.heap.size + 1, 1, none⟩ = some (.int .i64 0) := by rw [← HW6b.out]; exact HB8.out.cell 1
                        have f1 : (w5.alloc (.cells #[.int .i64 t2.ver, .int .i64 t2.exp, .slice a2.tA t2.ts.length a2.tc, .slice a2.kA t2.ks.length a2.kc, .slice a2.dA t2.ds.length a2.dc] 26)).frozen? ⟨w.heap.size + 1, 1, none⟩ = false := by rw [← HW6b.out]; exact HB8.out.frozen 1
                        have z2 : (w5.alloc (.cells #[.int .i64 t2.ver, .int .i64 t2.exp, .slice a2.tA t2.ts.length a2.tc, .slice a2.kA t2.ks.length a2.kc, .slice a2.dA t2.ds.length a2.dc] 26)).cell? ⟨w.heap.size + 1, 2, none⟩ = some (.string ⟨#[]⟩) := by rw [← HW6b.out]; exact HB8.out.cell 2
                        have f2 : (w5.alloc (.cells #[.int .i64 t2.ver, .int .i64 t2.exp, .slice a2.tA t2.ts.length a2.tc, .slice a2.kA t2.ks.length a2.kc, .slice a2.dA t2.ds.length a2.dc] 26)).frozen? ⟨w.heap.size + 1, 2, none⟩ = false := by rw [← HW6b.out]; exact HB8.out.frozen 2
                        have HF := Lib.hid ((((HB8.out.set_ 0 (.string ⟨#[]⟩)).set_ 1 (.int .i64 0)).set_ 2 (.string ⟨#[]⟩)))
                        have HFR := Lib.hid ((Fr.setCell (S := fun b => b = w.heap.size + 1) (Fr.setCell (S := fun b => b = w.heap.size + 1) (Fr.setCell (S := fun b => b = w.heap.size + 1) (Fr.refl (fun b => b = w.heap.size + 1) W6b) (p := ⟨w.heap.size + 1, 0, none⟩) (fun _ => rfl) (.string ⟨#[]⟩)) (p := ⟨w.heap.size + 1, 1, none⟩) (fun _ => rfl) (.int .i64 0)) (p := ⟨w.heap.size + 1, 2, none⟩) (fun _ => rfl) (.string ⟨#[]⟩)))
                        go_wp2
                        rw [← HW6b.out]
                        have k0 := HF.out.cell 0
                        have k1 := HF.out.cell 1
                        have k2 := HF.out.cell 2
                        simp at k0 k1 k2
                        refine bodyPost_ret (v := .tuple #[ptV (none), .slice A9 (vis.length + 1) c9, .int .i64 4]) (by simp [results, Tryz.results10, go_sem, k0, k1, k2, ptV]) rfl ?_
                        rw [HRX.out]
                        refine ⟨A9, c9, by simp, ?_, Fr.below_trans HJ6b.out.bl HFR.out HJ6b.out.bl.size (fun k e => by omega)⟩
                        exact OG.frT HOV9.out HFR.out (fun g cs hb e => by subst e; exact hb.ne_ HB8.out (by decide) rfl)
                      | some tt =>
                        have eq9 : (some tt : Option PM).isSome = true := rfl
                        have HT2 : Hid (t2 = tt) := Lib.hid HTT.out
                        have HGT2 : Hid (PMs t2) := Lib.hid (by rw [HT2.out]; exact loadP_good HGD.out HLS.out.symm)
                        have HRX : Hid (R = walkP (covP path) path most (ldOf l 4) 4 200 g0 t2 tr (vis ++ [nm]) (ask ++ [td.2])) := Lib.hid (by
                          rw [HRR.out, ← HNAME.out]
                          exact walkP_go HFX.out HTD.out HEQ.out (by unfold ldOf; rw [HNAME.out, ← HLS.out, HT2.out]))
                        obtain ⟨W9, hW9⟩ : ∃ W9, W9 = (((((W6b.setCell ⟨B13, 0, none⟩ (.int .i64 t2.ver)).setCell ⟨B13, 1, none⟩ (.int .i64 t2.exp)).setCell ⟨B13, 2, none⟩ (.slice a2.tA t2.ts.length a2.tc)).setCell ⟨B13, 3, none⟩ (.slice a2.kA t2.ks.length a2.kc)).setCell ⟨B13, 4, none⟩ (.slice a2.dA t2.ds.length a2.dc)) := ⟨_, rfl⟩
                        have hf13 : Fr (fun b => b = B13) W6b W9 := by rw [hW9]; exact (Fr.setCell (S := fun b => b = B13) (Fr.setCell (S := fun b => b = B13) (Fr.setCell (S := fun b => b = B13) (Fr.setCell (S := fun b => b = B13) (Fr.setCell (S := fun b => b = B13) (Fr.refl (fun b => b = B13) W6b) (p := ⟨B13, 0, none⟩) (fun _ => rfl) (.int .i64 t2.ver)) (p := ⟨B13, 1, none⟩) (fun _ => rfl) (.int .i64 t2.exp)) (p := ⟨B13, 2, none⟩) (fun _ => rfl) (.slice a2.tA t2.ts.length a2.tc)) (p := ⟨B13, 3, none⟩) (fun _ => rfl) (.slice a2.kA t2.ks.length a2.kc)) (p := ⟨B13, 4, none⟩) (fun _ => rfl) (.slice a2.dA t2.ds.length a2.dc))
                        have hb13 : Blk W9 B13 26 #[.int .i64 t2.ver, .int .i64 t2.exp, .slice a2.tA t2.ts.length a2.tc, .slice a2.kA t2.ks.length a2.kc, .slice a2.dA t2.ds.length a2.dc] := by
                          rw [hW9]
                          have q := (((((HJ6b.out.b13.set_ 0 (.int .i64 t2.ver)).set_ 1 (.int .i64 t2.exp)).set_ 2 (.slice a2.tA t2.ts.length a2.tc)).set_ 3 (.slice a2.kA t2.ks.length a2.kc)).set_ 4 (.slice a2.dA t2.ds.length a2.dc))
                          simpa using q
                        have HJ9 := Lib.hid (HJ6b.out.set13 HX.out HB13.out HMO6.out hf13 hb13)
                        have hnx9 := HJ9.out.nx
                        have e : (x :: r).length = qn := HQN.out.symm
                        rw [e] at hnx9
                        obtain ⟨g', off', e1, _, _, _, ht1', ht2'⟩ := LG.tailD HQNN.out hnx9
                        cases e1
                        have HT1' := Lib.hid ht1'
                        have HT2' := Lib.hid ht2'
                        have HSB : Hid (qn - 1 = r.length) := Lib.hid (by have := HQNN.out; omega)
                        have hz1 : (1 : Int) ≤ (qn : Int) := by have := HQNN.out; omega
                        have hz2 : (1 : Int) ≤ (qc : Int) := by have := HQ1.out; have := HQNN.out; omega
                        have HSN : Hid (tr.map (·.1) = r.map (·.1)) := Lib.hid HTN.out.2
                        have HVN : Hid (1 ≤ (vis ++ [nm]).length ∧ ((vis ++ [nm]).length : Int) ≤ most ∧ most < g0 + (vis ++ [nm]).length) := Lib.hid (by have h1 := HV1.out; have h2 := HEQ.out; rw [List.length_append]; simp; omega)
                        have HLR : Hid (r.length ≤ 30 * (vis ++ [nm]).length) := Lib.hid (by
                          have h1 : (restD vis (LC ++ LN)).length ≤ (LC ++ LN).length := (List.dropWhile_sublist _).length_le
                          rw [HRSX.out, List.length_append, List.length_cons] at h1
                          have h2 := HCN.out
                          have h3 : LN.length ≤ 30 * vis.length := by
                            have q1 : (LN.map (·.1)).length = LN.length := List.length_map _
                            have q2 := HLL.out
                            rw [HLN.out] at q1
                            split at q1
                            · simp at q1; omega
                            · rw [List.length_map] at q1; omega
                          rw [List.length_append]
                          simp
                          omega)
                        have HW9 := Lib.hid hW9
                        have z0 : (w5.alloc (.cells #[.int .i64 t2.ver, .int .i64 t2.exp, .slice a2.tA t2.ts.length a2.tc, .slice a2.kA t2.ks.length a2.kc, .slice a2.dA t2.ds.length a2.dc] 26)).cell? ⟨B13, 0, none⟩ = some (.int .i64 t.ver) := by rw [← HW6b.out]; exact HJ6b.out.b13.cell 0
                        have f0 : (w5.alloc (.cells #[.int .i64 t2.ver, .int .i64 t2.exp, .slice a2.tA t2.ts.length a2.tc, .slice a2.kA t2.ks.length a2.kc, .slice a2.dA t2.ds.length a2.dc] 26)).frozen? ⟨B13, 0, none⟩ = false := by rw [← HW6b.out]; exact HJ6b.out.b13.frozen 0
                        have z1 : (w5.alloc (.cells #[.int .i64 t2.ver, .int .i64 t2.exp, .slice a2.tA t2.ts.length a2.tc, .slice a2.kA t2.ks.length a2.kc, .slice a2.dA t2.ds.length a2.dc] 26)).cell? ⟨B13, 1, none⟩ = some (.int .i64 t.exp) := by rw [← HW6b.out]; exact HJ6b.out.b13.cell 1
                        have f1 : (w5.alloc (.cells #[.int .i64 t2.ver, .int .i64 t2.exp, .slice a2.tA t2.ts.length a2.tc, .slice a2.kA t2.ks.length a2.kc, .slice a2.dA t2.ds.length a2.dc] 26)).frozen? ⟨B13, 1, none⟩ = false := by rw [← HW6b.out]; exact HJ6b.out.b13.frozen 1
                        have z2 : (w5.alloc (.cells #[.int .i64 t2.ver, .int .i64 t2.exp, .slice a2.tA t2.ts.length a2.tc, .slice a2.kA t2.ks.length a2.kc, .slice a2.dA t2.ds.length a2.dc] 26)).cell? ⟨B13, 2, none⟩ = some (.slice a.tA t.ts.length a.tc) := by rw [← HW6b.out]; exact HJ6b.out.b13.cell 2
                        have f2 : (w5.alloc (.cells #[.int .i64 t2.ver, .int .i64 t2.exp, .slice a2.tA t2.ts.length a2.tc, .slice a2.kA t2.ks.length a2.kc, .slice a2.dA t2.ds.length a2.dc] 26)).frozen? ⟨B13, 2, none⟩ = false := by rw [← HW6b.out]; exact HJ6b.out.b13.frozen 2
                        have z3 : (w5.alloc (.cells #[.int .i64 t2.ver, .int .i64 t2.exp, .slice a2.tA t2.ts.length a2.tc, .slice a2.kA t2.ks.length a2.kc, .slice a2.dA t2.ds.length a2.dc] 26)).cell? ⟨B13, 3, none⟩ = some (.slice a.kA t.ks.length a.kc) := by rw [← HW6b.out]; exact HJ6b.out.b13.cell 3
                        have f3 : (w5.alloc (.cells #[.int .i64 t2.ver, .int .i64 t2.exp, .slice a2.tA t2.ts.length a2.tc, .slice a2.kA t2.ks.length a2.kc, .slice a2.dA t2.ds.length a2.dc] 26)).frozen? ⟨B13, 3, none⟩ = false := by rw [← HW6b.out]; exact HJ6b.out.b13.frozen 3
                        have z4 : (w5.alloc (.cells #[.int .i64 t2.ver, .int .i64 t2.exp, .slice a2.tA t2.ts.length a2.tc, .slice a2.kA t2.ks.length a2.kc, .slice a2.dA t2.ds.length a2.dc] 26)).cell? ⟨B13, 4, none⟩ = some (.slice a.dA t.ds.length a.dc) := by rw [← HW6b.out]; exact HJ6b.out.b13.cell 4
                        have f4 : (w5.alloc (.cells #[.int .i64 t2.ver, .int .i64 t2.exp, .slice a2.tA t2.ts.length a2.tc, .slice a2.kA t2.ks.length a2.kc, .slice a2.dA t2.ds.length a2.dc] 26)).frozen? ⟨B13, 4, none⟩ = false := by rw [← HW6b.out]; exact HJ6b.out.b13.frozen 4
                        rw [HW6b.out] at HW9
                        clear hf13 hb13 hnx9 e ht1' ht2' hW9 q0 q0' q1 q2 q2' hbq
                        rcases (by omega : qc = 1 ∨ qc ≠ 1) with hone | hmany
                        · go_wp2
                          rw [← HW9.out]
                          go_roundw
                          case rel => exact ⟨t2, a2, vis ++ [nm], r, tr, ask ++ [td.2], g0, Lib.hid (HJ9.out.nxt (by rw [HSB.out]; exact HT1'.out hone)), HGT2, HSN, HRX, HVN, HLR⟩
                          case measure =>
                            have := HVL9.out
                            show 100 - (vis.length + 1) < 100 - vis.length
                            omega
                        · go_wp2
                          rw [← HW9.out]
                          go_roundw
                          case rel => exact ⟨t2, a2, vis ++ [nm], r, tr, ask ++ [td.2], g0, Lib.hid (HJ9.out.nxt (by rw [HSB.out]; exact HT2'.out hmany)), HGT2, HSN, HRX, HVN, HLR⟩
                          case measure =>
                            have := HVL9.out
                            show 100 - (vis.length + 1) < 100 - vis.length
                            omega
end Go.Proofs.YthidjdjcjjbpbaaGreatDoor
