/-
  search: named.load; named metadata as a loader; Find.
-/
import Derived.Test.YthidjdjcjjbpbaaGreatDoorSeU5
namespace Go.Proofs.YthidjdjcjjbpbaaGreatDoor
open Go.RowKit Sea Glob
set_option linter.unusedVariables false
set_option linter.unusedSimpArgs false

/-- what named.load answers -/
def NloP (X : Nat → Prop) (r : Except Int PM) (w : World) (e : Ending) (w' : World) : Prop :=
  ∃ (t : PM) (a : MA) (en : Int), e = .returned (.tuple #[t.val a, .int .i64 en]) ∧ (match r with | .ok t' => t = t' ∧ en = 0 | .error x => en = x) ∧ MOk X w' t a ∧ Below w.heap.size w w'
set_option maxRecDepth 100000 in
set_option maxHeartbeats 4000000 in
theorem nload_any (X : Nat → Prop) (A : Option Addr) (n c : Nat) (l : List PN) (d : PD) (da : DA) (kv : Value) (k : Nat) (w : World) (h : NsR X w A l) (hn : l.length = n) (hs : n ≤ 30) (hX : ∀ b, w.heap.size ≤ b → X b) : Calls Tryz.prog 20 #[.slice A n c, d.val da, kv] w fun e w' => PF (NloP X (ldOf l 4 k d.name) w) e w' := by
  obtain ⟨W2, hW2⟩ : ∃ W2, W2 = (w.alloc (.cells #[.string d.name, .slice da.kA d.rk.length da.kc, .int .i64 d.thr, .bool d.term, .slice da.pA d.paths.length da.pc, .slice da.xA d.prefs.length da.xc] 59)).alloc (.cells #[.int .i64 0, .int .i64 0, .slice none 0 0, .slice none 0 0, .slice none 0 0] 26) := ⟨_, rfl⟩
  have hb2 : Below w.heap.size w W2 := by rw [hW2]; exact ((Below.refl _ _).alloc (Nat.le_refl _) _).alloc (by simp) _
  have hk2 : Blk W2 (w.heap.size + 1) 26 #[.int .i64 0, .int .i64 0, .slice none 0 0, .slice none 0 0, .slice none 0 0] := by
    rw [hW2]
    have h2 := Blk.new (w.alloc (.cells #[.string d.name, .slice da.kA d.rk.length da.kc, .int .i64 d.thr, .bool d.term, .slice da.pA d.paths.length da.pc, .slice da.xA d.prefs.length da.xc] 59)) 26 #[.int .i64 0, .int .i64 0, .slice none 0 0, .slice none 0 0, .slice none 0 0]
    simpa using h2
  have hof := nof_any X A n c l d.name W2 (h.bel hb2) hn hs
  obtain ⟨r, hr⟩ : ∃ r, r = ldOf l 4 k d.name := ⟨_, rfl⟩
  rw [← hr]
  have HR : Hid (r = match loadP l d.name with | some t => .ok t | none => .error 4) := Lib.hid (by rw [hr]; rfl)
  have HOF := Lib.hid hof
  have HX := Lib.hid hX
  have HB2 := Lib.hid hb2
  have HK2 := Lib.hid hk2
  have HW2 := Lib.hid hW2
  unfold Sea.PD.val Sea.PD.cs
  clear hof hb2 hk2 hW2 hr h hn hs hX
  go_enter Tryz.func20, Tryz.ntmps20
  go_wp2_with fail
  rw [← HW2.out]
  refine HOF.out.mono ?_
  rintro e w4 ⟨t, a, rfl, htt, hmo, hb4⟩
  unfold Sea.PM.val Sea.PM.cs
  obtain ⟨W5, hW5⟩ : ∃ W5, W5 = w4.alloc (.cells #[.int .i64 t.ver, .int .i64 t.exp, .slice a.tA t.ts.length a.tc, .slice a.kA t.ks.length a.kc, .slice a.dA t.ds.length a.dc] 26) := ⟨_, rfl⟩
  have hb5 : Below w4.heap.size w4 W5 := by rw [hW5]; exact (Below.refl _ _).alloc (Nat.le_refl _) _
  have HB5 : Hid (Below w.heap.size w W5) := Lib.hid ((HB2.out.trans (hb4.mono HB2.out.size)).trans (hb5.mono (Nat.le_trans HB2.out.size hb4.size)))
  have HZ4 := Lib.hid ((HK2.out.below hb4 HK2.out.lt).below hb5 (Nat.lt_of_lt_of_le HK2.out.lt hb4.size))
  have hq5 : Blk W5 w4.heap.size 26 #[.int .i64 t.ver, .int .i64 t.exp, .slice a.tA t.ts.length a.tc, .slice a.kA t.ks.length a.kc, .slice a.dA t.ds.length a.dc] := by rw [hW5]; exact Blk.new _ _ _
  have HMO := Lib.hid (hmo.bel hb5)
  have HTT := Lib.hid htt
  have z0 : (w4.alloc (.cells #[.int .i64 t.ver, .int .i64 t.exp, .slice a.tA t.ts.length a.tc, .slice a.kA t.ks.length a.kc, .slice a.dA t.ds.length a.dc] 26)).cell? ⟨w.heap.size + 1, 0, none⟩ = some (.int .i64 0) := by rw [← hW5]; exact HZ4.out.cell 0
  have f0 : (w4.alloc (.cells #[.int .i64 t.ver, .int .i64 t.exp, .slice a.tA t.ts.length a.tc, .slice a.kA t.ks.length a.kc, .slice a.dA t.ds.length a.dc] 26)).frozen? ⟨w.heap.size + 1, 0, none⟩ = false := by rw [← hW5]; exact HZ4.out.frozen 0
  have z1 : (w4.alloc (.cells #[.int .i64 t.ver, .int .i64 t.exp, .slice a.tA t.ts.length a.tc, .slice a.kA t.ks.length a.kc, .slice a.dA t.ds.length a.dc] 26)).cell? ⟨w.heap.size + 1, 1, none⟩ = some (.int .i64 0) := by rw [← hW5]; exact HZ4.out.cell 1
  have f1 : (w4.alloc (.cells #[.int .i64 t.ver, .int .i64 t.exp, .slice a.tA t.ts.length a.tc, .slice a.kA t.ks.length a.kc, .slice a.dA t.ds.length a.dc] 26)).frozen? ⟨w.heap.size + 1, 1, none⟩ = false := by rw [← hW5]; exact HZ4.out.frozen 1
  have z2 : (w4.alloc (.cells #[.int .i64 t.ver, .int .i64 t.exp, .slice a.tA t.ts.length a.tc, .slice a.kA t.ks.length a.kc, .slice a.dA t.ds.length a.dc] 26)).cell? ⟨w.heap.size + 1, 2, none⟩ = some (.slice none 0 0) := by rw [← hW5]; exact HZ4.out.cell 2
  have f2 : (w4.alloc (.cells #[.int .i64 t.ver, .int .i64 t.exp, .slice a.tA t.ts.length a.tc, .slice a.kA t.ks.length a.kc, .slice a.dA t.ds.length a.dc] 26)).frozen? ⟨w.heap.size + 1, 2, none⟩ = false := by rw [← hW5]; exact HZ4.out.frozen 2
  have z3 : (w4.alloc (.cells #[.int .i64 t.ver, .int .i64 t.exp, .slice a.tA t.ts.length a.tc, .slice a.kA t.ks.length a.kc, .slice a.dA t.ds.length a.dc] 26)).cell? ⟨w.heap.size + 1, 3, none⟩ = some (.slice none 0 0) := by rw [← hW5]; exact HZ4.out.cell 3
  have f3 : (w4.alloc (.cells #[.int .i64 t.ver, .int .i64 t.exp, .slice a.tA t.ts.length a.tc, .slice a.kA t.ks.length a.kc, .slice a.dA t.ds.length a.dc] 26)).frozen? ⟨w.heap.size + 1, 3, none⟩ = false := by rw [← hW5]; exact HZ4.out.frozen 3
  have z4 : (w4.alloc (.cells #[.int .i64 t.ver, .int .i64 t.exp, .slice a.tA t.ts.length a.tc, .slice a.kA t.ks.length a.kc, .slice a.dA t.ds.length a.dc] 26)).cell? ⟨w.heap.size + 1, 4, none⟩ = some (.slice none 0 0) := by rw [← hW5]; exact HZ4.out.cell 4
  have f4 : (w4.alloc (.cells #[.int .i64 t.ver, .int .i64 t.exp, .slice a.tA t.ts.length a.tc, .slice a.kA t.ks.length a.kc, .slice a.dA t.ds.length a.dc] 26)).frozen? ⟨w.heap.size + 1, 4, none⟩ = false := by rw [← hW5]; exact HZ4.out.frozen 4
  obtain ⟨ls, hls⟩ : ∃ ls, ls = loadP l d.name := ⟨_, rfl⟩
  rw [← hls]
  have HLS := Lib.hid hls
  have HW5 := Lib.hid hW5
  clear hb4 hb5 hmo htt hW5 hls
  cases ls with
  | none =>
    have eq9 : (none : Option PM).isSome = false := rfl
    have HF := Lib.hid ((((((HZ4.out.set_ 0 (.int .i64 0)).set_ 1 (.int .i64 0)).set_ 2 (.slice none 0 0)).set_ 3 (.slice none 0 0)).set_ 4 (.slice none 0 0)))
    have HFR := Lib.hid (((((((Fr.refl (fun b => b = w.heap.size + 1) W5).setCell (p := ⟨w.heap.size + 1, 0, none⟩) (fun _ => rfl) (.int .i64 0)).setCell (p := ⟨w.heap.size + 1, 1, none⟩) (fun _ => rfl) (.int .i64 0)).setCell (p := ⟨w.heap.size + 1, 2, none⟩) (fun _ => rfl) (.slice none 0 0)).setCell (p := ⟨w.heap.size + 1, 3, none⟩) (fun _ => rfl) (.slice none 0 0)).setCell (p := ⟨w.heap.size + 1, 4, none⟩) (fun _ => rfl) (.slice none 0 0)))
    have HB9 := Lib.hid ((((((HB5.out.setCell (p := ⟨w.heap.size + 1, 0, none⟩) (Nat.le_succ _) (.int .i64 0)).setCell (p := ⟨w.heap.size + 1, 1, none⟩) (Nat.le_succ _) (.int .i64 0)).setCell (p := ⟨w.heap.size + 1, 2, none⟩) (Nat.le_succ _) (.slice none 0 0)).setCell (p := ⟨w.heap.size + 1, 3, none⟩) (Nat.le_succ _) (.slice none 0 0)).setCell (p := ⟨w.heap.size + 1, 4, none⟩) (Nat.le_succ _) (.slice none 0 0)))
    clear eq9
    go_wp2
    rw [← HW5.out]
    have k0 := HF.out.cell 0
    have k1 := HF.out.cell 1
    have k2 := HF.out.cell 2
    have k3 := HF.out.cell 3
    have k4 := HF.out.cell 4
    simp at k0 k1 k2 k3 k4
    refine bodyPost_ret (v := .tuple #[noM.val ⟨none, 0, none, 0, none, 0⟩, .int .i64 4]) (by simp [results, Tryz.results20, go_sem, k0, k1, k2, k3, k4, Sea.PM.val, Sea.PM.cs, noM]) rfl ?_
    exact ⟨noM, ⟨none, 0, none, 0, none, 0⟩, 4, by rfl, by rw [HR.out, ← HLS.out], noM_ok _ _, HB9.out⟩
  | some tt =>
    have eq9 : (some tt : Option PM).isSome = true := rfl
    have HF := Lib.hid ((((((HZ4.out.set_ 0 (.int .i64 t.ver)).set_ 1 (.int .i64 t.exp)).set_ 2 (.slice a.tA t.ts.length a.tc)).set_ 3 (.slice a.kA t.ks.length a.kc)).set_ 4 (.slice a.dA t.ds.length a.dc)))
    have HFR := Lib.hid (((((((Fr.refl (fun b => b = w.heap.size + 1) W5).setCell (p := ⟨w.heap.size + 1, 0, none⟩) (fun _ => rfl) (.int .i64 t.ver)).setCell (p := ⟨w.heap.size + 1, 1, none⟩) (fun _ => rfl) (.int .i64 t.exp)).setCell (p := ⟨w.heap.size + 1, 2, none⟩) (fun _ => rfl) (.slice a.tA t.ts.length a.tc)).setCell (p := ⟨w.heap.size + 1, 3, none⟩) (fun _ => rfl) (.slice a.kA t.ks.length a.kc)).setCell (p := ⟨w.heap.size + 1, 4, none⟩) (fun _ => rfl) (.slice a.dA t.ds.length a.dc)))
    have HB9 := Lib.hid ((((((HB5.out.setCell (p := ⟨w.heap.size + 1, 0, none⟩) (Nat.le_succ _) (.int .i64 t.ver)).setCell (p := ⟨w.heap.size + 1, 1, none⟩) (Nat.le_succ _) (.int .i64 t.exp)).setCell (p := ⟨w.heap.size + 1, 2, none⟩) (Nat.le_succ _) (.slice a.tA t.ts.length a.tc)).setCell (p := ⟨w.heap.size + 1, 3, none⟩) (Nat.le_succ _) (.slice a.kA t.ks.length a.kc)).setCell (p := ⟨w.heap.size + 1, 4, none⟩) (Nat.le_succ _) (.slice a.dA t.ds.length a.dc)))
    clear eq9
    go_wp2
    rw [← HW5.out]
    have k0 := HF.out.cell 0
    have k1 := HF.out.cell 1
    have k2 := HF.out.cell 2
    have k3 := HF.out.cell 3
    have k4 := HF.out.cell 4
    simp at k0 k1 k2 k3 k4
    refine bodyPost_ret (v := .tuple #[t.val a, .int .i64 0]) (by simp [results, Tryz.results20, go_sem, k0, k1, k2, k3, k4, Sea.PM.val, Sea.PM.cs, noM]) rfl ?_
    exact ⟨t, a, 0, by rfl, by rw [HR.out, ← HLS.out]; exact ⟨by rw [HTT.out, ← HLS.out]; rfl, rfl⟩, HMO.out.fr (HFR.out.mono (fun k _ e => HX.out k (by omega))), HB9.out⟩
/-- named metadata, as a loader -/
theorem nload_ldr (X : Nat → Prop) (N : Nat) (hX : ∀ b, N ≤ b → X b) (A : Option Addr) (n c : Nat) (l : List PN) (hn : l.length = n) (hs : n ≤ 30) (hg : ∀ x ∈ l, PMs x.t ∧ PMz x.t ∧ PKo x.t) : Ldr X 20 (.slice A n c) (ldOf l 4) (fun w S _ _ => (∀ b, ¬ S b) ∧ NsR X w A l ∧ N ≤ w.heap.size) where
  ent := enters_of Tryz.func20 (by kernel_rfl) rfl
  good := fun k m t h => by
    unfold ldOf at h
    split at h
    · rename_i u hu
      injection h with h
      subst h
      unfold loadP at hu
      cases hf : l.find? (fun x => decide (x.name = m)) with
      | none => rw [hf] at hu; cases hu
      | some y => rw [hf] at hu; injection hu with hu; rw [← hu]; exact hg y (List.mem_of_find?_eq_some hf)
    · cases h
  nz := fun k m e h => by
    unfold ldOf at h
    split at h
    · cases h
    · injection h with h; rw [← h]; decide
  typ := fun h b hb => absurd hb (h.1 b)
  keep := fun T h hf hT => ⟨h.1, h.2.1.fr (hf.mono (fun b hb e => (hT b hb e).1)), Nat.le_trans h.2.2 hf.size⟩
  step := fun {w S vis ask} d a ks kv base h _ _ ho hk => (nload_any X A n c l d a kv vis.length w h.2.1 hn hs (fun b hb => hX b (Nat.le_trans h.2.2 hb))).mono fun e w' ⟨t, a', en, h1, h2, h3, h4⟩ => ⟨t, a', en, S, h1, h2, h3, ⟨h.1, h.2.1.bel h4, Nat.le_trans h.2.2 h4.size⟩, Fr.of_below h4, fun b hb => absurd hb (h.1 b)⟩
/-- search.Find -/
def FndP (R : Res) (w : World) (e : Ending) (w' : World) : Prop := ∃ vA vc, e = .returned (.tuple #[ptV R.x, .slice vA R.vis.length vc, .int .i64 R.e]) ∧ OG 9 1 w' w.heap.size (.slice vA R.vis.length vc) R.vis.length (R.vis.map Value.string) ∧ Below w.heap.size w w'
section
variable {X Y : Nat → Prop} {w : World}
theorem StrR.mono {A : Option Addr} {l : List ByteArray} (h : StrR X w A l) (hy : ∀ b, Y b → X b) : StrR Y w A l := ⟨h.1, fun h0 ad e q => h.2 h0 ad e (hy _ q)⟩
theorem DOk.mono {d : PD} {a : DA} (h : DOk X w d a) (hy : ∀ b, Y b → X b) : DOk Y w d a := ⟨h.rk.mono hy, h.rp.mono hy, h.rx.mono hy, h.ck, h.cp, h.cx⟩
theorem RowE.mono {α : Type} {E E' : Nat → Nat → α → Prop} {size : Nat} {A : Option Addr} {l : List α} (h : RowE E size X w A l) (hy : ∀ b, Y b → X b) (hE : ∀ B o x, E B o x → E' B o x) : RowE E' size Y w A l := fun h0 => by
  obtain ⟨B, o, hA, hB, hX, hi⟩ := h h0
  exact ⟨B, o, hA, hB, fun q => hX (hy _ q), fun i hil => hE _ _ _ (hi i hil)⟩
theorem MOk.mono {t : PM} {a : MA} (h : MOk X w t a) (hy : ∀ b, Y b → X b) : MOk Y w t a :=
  ⟨h.rt.mono hy fun _ _ _ q => q, h.rk.mono hy fun _ _ _ q => q, h.rd.mono hy fun _ _ _ ⟨a', h1, h2⟩ => ⟨a', h1, h2.mono hy⟩, h.ct, h.ck, h.cd⟩
theorem NsR.mono {A : Option Addr} {l : List PN} (h : NsR X w A l) (hy : ∀ b, Y b → X b) : NsR Y w A l := RowE.mono h hy fun _ _ _ ⟨a', h1, h2⟩ => ⟨a', h1, h2.mono hy⟩
end
set_option maxRecDepth 100000 in
set_option maxHeartbeats 4000000 in
theorem find_any (A : Option Addr) (n c : Nat) (l : List PN) (t : PM) (a : MA) (path : ByteArray) (most : Int) (w : World) (h : MOk (fun b => w.heap.size ≤ b) w t a) (hl : NsR (fun b => w.heap.size ≤ b) w A l) (hg0 : PMs t ∧ PMz t ∧ PKo t) (hn : l.length = n) (hs : n ≤ 30) (hg : ∀ x ∈ l, PMs x.t ∧ PMz x.t ∧ PKo x.t) (hp : path.size ≤ 1000) (hT : Tbs w) (h63 : -9223372036854775808 ≤ most ∧ most ≤ 9223372036854775807) :
    Calls Tryz.prog 9 #[t.val a, .slice A n c, .string path, .int .i64 most] w fun e w' => PF (FndP (searchP (ldOf l 4) path most t) w) e w' := by
  obtain ⟨W2, hW2⟩ : ∃ W2, W2 = (w.alloc (.cells #[.int .i64 t.ver, .int .i64 t.exp, .slice a.tA t.ts.length a.tc, .slice a.kA t.ks.length a.kc, .slice a.dA t.ds.length a.dc] 26)).alloc (.cells #[.string ⟨#[]⟩, .int .i64 0, .string ⟨#[]⟩] 31) := ⟨_, rfl⟩
  have hb2 : Below w.heap.size w W2 := by rw [hW2]; exact ((Below.refl _ _).alloc (Nat.le_refl _) _).alloc (by simp) _
  have hk8 : Blk W2 (w.heap.size + 1) 31 #[.string ⟨#[]⟩, .int .i64 0, .string ⟨#[]⟩] := by
    rw [hW2]
    have h2 := Blk.new (w.alloc (.cells #[.int .i64 t.ver, .int .i64 t.exp, .slice a.tA t.ts.length a.tc, .slice a.kA t.ks.length a.kc, .slice a.dA t.ds.length a.dc] 26)) 31 #[.string ⟨#[]⟩, .int .i64 0, .string ⟨#[]⟩]
    simpa using h2
  have hsub : ∀ b, W2.heap.size ≤ b → w.heap.size ≤ b := fun b hb => Nat.le_trans hb2.size hb
  have q1 : MOk (fun b => W2.heap.size ≤ b) W2 t a := (h.bel hb2).mono hsub
  have q2 : NsR (fun b => W2.heap.size ≤ b) W2 A l := (hl.bel hb2).mono hsub
  have hT2 := hT.bel hb2
  have hFB : ∀ w', Fr (fun b => W2.heap.size ≤ b) W2 w' → Below W2.heap.size W2 w' := fun w' hf => hf.to_below (fun k hk e => by omega)
  have hwk := walk_any (fun b => W2.heap.size ≤ b) 20 (.slice A n c) (ldOf l 4) _ (nload_ldr (fun b => W2.heap.size ≤ b) W2.heap.size (fun b hb => hb) A n c l hn hs hg) t a path most W2 (fun _ => False) q1 hg0 hp hT2 (fun b hb => hb) (fun w' hf => hT2.bel (hFB w' hf)) ⟨fun _ e => e, q2, Nat.le_refl _⟩ h63
  obtain ⟨R, hR⟩ : ∃ R, R = searchP (ldOf l 4) path most t := ⟨_, rfl⟩
  rw [← hR] at hwk ⊢
  unfold Sea.PM.val Sea.PM.cs at hwk ⊢
  have HWK := Lib.hid hwk
  have HB2 := Lib.hid hb2
  have HK8 := Lib.hid hk8
  have HW2 := Lib.hid hW2
  have HFB := Lib.hid hFB
  clear hwk hb2 hk8 hW2 hT2 q1 q2 h hl hg0 hg hT hR hsub hFB
  go_enter Tryz.func9, Tryz.ntmps9
  go_wp2_with fail
  rw [← HW2.out]
  refine HWK.out.mono ?_
  rintro e w4 ⟨vA, vc, S', V, rfl, hog, _, _, _, hf⟩
  have hb24 := HFB.out w4 hf
  have HB4 : Hid (Below w.heap.size w w4) := Lib.hid (HB2.out.trans (hb24.mono HB2.out.size))
  have HZ4 := Lib.hid (HK8.out.below hb24 HK8.out.lt)
  have HOG : Hid (OG 9 1 w4 w.heap.size (.slice vA R.vis.length vc) R.vis.length (R.vis.map Value.string)) := Lib.hid (OG.mono hog HB2.out.size)
  have HOL := Lib.hid (show ∀ g, (Value.slice vA R.vis.length vc).ownBlock = some g → W2.heap.size ≤ g from OG.ge hog)
  have HLT := Lib.hid HK8.out.lt
  have z0 : w4.cell? ⟨w.heap.size + 1, 0, none⟩ = some (.string ⟨#[]⟩) := HZ4.out.cell 0
  have f0 : w4.frozen? ⟨w.heap.size + 1, 0, none⟩ = false := HZ4.out.frozen 0
  have z1 : w4.cell? ⟨w.heap.size + 1, 1, none⟩ = some (.int .i64 0) := HZ4.out.cell 1
  have f1 : w4.frozen? ⟨w.heap.size + 1, 1, none⟩ = false := HZ4.out.frozen 1
  have z2 : w4.cell? ⟨w.heap.size + 1, 2, none⟩ = some (.string ⟨#[]⟩) := HZ4.out.cell 2
  have f2 : w4.frozen? ⟨w.heap.size + 1, 2, none⟩ = false := HZ4.out.frozen 2
  clear hog hf hb24
  obtain ⟨rx, hrx⟩ : ∃ rx, rx = R.x := ⟨_, rfl⟩
  rw [← hrx]
  have HRX := Lib.hid hrx
  clear hrx
  cases rx with
  | none =>
    unfold ptV
    have HF := Lib.hid ((((HZ4.out.set_ 0 (.string ⟨#[]⟩)).set_ 1 (.int .i64 0)).set_ 2 (.string ⟨#[]⟩)))
    have HFR : Hid (Fr (fun b => b = w.heap.size + 1) w4 _) := Lib.hid ((Fr.setCell (S := fun b => b = w.heap.size + 1) (Fr.setCell (S := fun b => b = w.heap.size + 1) (Fr.setCell (S := fun b => b = w.heap.size + 1) (Fr.refl (fun b => b = w.heap.size + 1) w4) (p := ⟨w.heap.size + 1, 0, none⟩) (fun _ => rfl) (.string ⟨#[]⟩)) (p := ⟨w.heap.size + 1, 1, none⟩) (fun _ => rfl) (.int .i64 0)) (p := ⟨w.heap.size + 1, 2, none⟩) (fun _ => rfl) (.string ⟨#[]⟩)))
    have HB9 := Lib.hid ((((HB4.out.setCell (p := ⟨w.heap.size + 1, 0, none⟩) (Nat.le_succ _) (.string ⟨#[]⟩)).setCell (p := ⟨w.heap.size + 1, 1, none⟩) (Nat.le_succ _) (.int .i64 0)).setCell (p := ⟨w.heap.size + 1, 2, none⟩) (Nat.le_succ _) (.string ⟨#[]⟩)))
    go_wp2
    have k0 := HF.out.cell 0
    have k1 := HF.out.cell 1
    have k2 := HF.out.cell 2
    simp at k0 k1 k2
    refine bodyPost_ret (v := .tuple #[ptV (none), .slice vA R.vis.length vc, .int .i64 R.e]) (by simp [results, Tryz.results9, go_sem, k0, k1, k2, ptV]) rfl ?_
    refine ⟨vA, vc, by rw [HRX.out], OG.fr HOG.out HFR.out (fun g q e => ?_), HB9.out⟩
    have h1 := HOL.out g q
    have h2 := HLT.out
    omega
  | some p =>
    unfold ptV
    have HF := Lib.hid ((((HZ4.out.set_ 0 (.string p.p)).set_ 1 (.int .i64 p.n)).set_ 2 (.string p.h)))
    have HFR : Hid (Fr (fun b => b = w.heap.size + 1) w4 _) := Lib.hid ((Fr.setCell (S := fun b => b = w.heap.size + 1) (Fr.setCell (S := fun b => b = w.heap.size + 1) (Fr.setCell (S := fun b => b = w.heap.size + 1) (Fr.refl (fun b => b = w.heap.size + 1) w4) (p := ⟨w.heap.size + 1, 0, none⟩) (fun _ => rfl) (.string p.p)) (p := ⟨w.heap.size + 1, 1, none⟩) (fun _ => rfl) (.int .i64 p.n)) (p := ⟨w.heap.size + 1, 2, none⟩) (fun _ => rfl) (.string p.h)))
    have HB9 := Lib.hid ((((HB4.out.setCell (p := ⟨w.heap.size + 1, 0, none⟩) (Nat.le_succ _) (.string p.p)).setCell (p := ⟨w.heap.size + 1, 1, none⟩) (Nat.le_succ _) (.int .i64 p.n)).setCell (p := ⟨w.heap.size + 1, 2, none⟩) (Nat.le_succ _) (.string p.h)))
    go_wp2
    have k0 := HF.out.cell 0
    have k1 := HF.out.cell 1
    have k2 := HF.out.cell 2
    simp at k0 k1 k2
    refine bodyPost_ret (v := .tuple #[ptV (some p), .slice vA R.vis.length vc, .int .i64 R.e]) (by simp [results, Tryz.results9, go_sem, k0, k1, k2, ptV]) rfl ?_
    refine ⟨vA, vc, by rw [HRX.out], OG.fr HOG.out HFR.out (fun g q e => ?_), HB9.out⟩
    have h1 := HOL.out g q
    have h2 := HLT.out
    omega
end Go.Proofs.YthidjdjcjjbpbaaGreatDoor
