/-
  target.copyOf.
-/
import Derived.Test.YthidjdjcjjbpbaaGreatDoorSeW3
import Derived.Test.YthidjdjcjjbpbaaGreatDoorHeldT
import Derived.Test.YthidjdjcjjbpbaaGreatDoorGA
namespace Go.Proofs.YthidjdjcjjbpbaaGreatDoor
open Go.RowKit Sea
set_option linter.unusedVariables false
set_option linter.unusedSimpArgs false

/-- what copyOf gives: the same delegation, in memory of the call's own -/
def CpyP (d : PD) (w : World) (e : Ending) (w' : World) : Prop :=
  ∃ a : DA, e = .returned (d.val a) ∧ (∀ X : Nat → Prop, (∀ b, w.heap.size ≤ b → b < w'.heap.size → ¬ X b) → DOk X w' d a) ∧ Below w.heap.size w w'
theorem oneC_strs (l : List ByteArray) : ∀ u ∈ l.map Value.string, u.oneCell' = true := fun u hu => by
  obtain ⟨x, _, rfl⟩ := List.mem_map.1 hu; rfl
theorem newA_lt {A : Option Addr} {V n k : Nat} (h : A = none ∨ ∃ g, A = some ⟨g, 0, none⟩ ∧ V ≤ g ∧ g < n) (hk : k < V) : ∀ ad, A = some ad → k < ad.block ∧ ad.block < n := fun ad e => by
  rcases h with h | ⟨g, h, h1, h2⟩
  · rw [h] at e; cases e
  · rw [h] at e; cases e; exact ⟨by show k < g; omega, h2⟩
/-- a new row, behind writes to older blocks -/
theorem new_row {X : Nat → Prop} {w1 w2 w' : World} {A : Option Addr} {l : List ByteArray} {k n : Nat} (hr : Reads w1 w1.heap.size 1 A l.length (l.map Value.string)) (hg : ∀ ad, A = some ad → k < ad.block ∧ ad.block < n) (hb : Below w1.heap.size w1 w2) (hf : Fr (fun b => b ≤ k) w2 w')
    (hn : n ≤ w'.heap.size) (hX : ∀ b, k < b → b < w'.heap.size → ¬ X b) : StrR X w' A l :=
  ⟨(((Reads.below hr hb).more hb.size).fr hf (Nat.le_refl _) (fun ad e h => by have := (hg ad e).1; omega)).more hf.size, fun _ ad e => hX _ (hg ad e).1 (by have := (hg ad e).2; omega)⟩
set_option maxRecDepth 100000 in
set_option maxHeartbeats 4000000 in
theorem copyOf_any (X : Nat → Prop) (d : PD) (a : DA) (w : World) (h : DOk X w d a) (hs : PDs d) : Calls Tryz.prog 49 #[d.val a] w fun e w' => PF (CpyP d w) e w' := by
  have hc1 : ∀ W, Below w.heap.size w W → Calls Tryz.prog 62 #[.slice a.kA d.rk.length a.kc] W fun e w' => PF (ClnP 1 (d.rk.map Value.string) d.rk.length W) e w' := fun W hW => cloneS_any _ _ _ _ W (by have := hs.1; omega) (h.rk.bel hW).1 (oneC_strs _)
  have hc2 : ∀ W, Below w.heap.size w W → Calls Tryz.prog 62 #[.slice a.pA d.paths.length a.pc] W fun e w' => PF (ClnP 1 (d.paths.map Value.string) d.paths.length W) e w' := fun W hW => cloneS_any _ _ _ _ W (by have := hs.2.1; omega) (h.rp.bel hW).1 (oneC_strs _)
  have hc3 : ∀ W, Below w.heap.size w W → Calls Tryz.prog 62 #[.slice a.xA d.prefs.length a.xc] W fun e w' => PF (ClnP 1 (d.prefs.map Value.string) d.prefs.length W) e w' := fun W hW => cloneS_any _ _ _ _ W (by have := hs.2.2; omega) (h.rx.bel hW).1 (oneC_strs _)
  have hi : Blk ((w.alloc (.cells #[.string d.name, .slice a.kA d.rk.length a.kc, .int .i64 d.thr, .bool d.term, .slice a.pA d.paths.length a.pc, .slice a.xA d.prefs.length a.xc] 59)).alloc (.cells #[.string ⟨#[]⟩, .slice none 0 0, .int .i64 0, .bool false, .slice none 0 0, .slice none 0 0] 59)) w.heap.size 59 #[.string d.name, .slice a.kA d.rk.length a.kc, .int .i64 d.thr, .bool d.term, .slice a.pA d.paths.length a.pc, .slice a.xA d.prefs.length a.xc] ∧ Blk ((w.alloc (.cells #[.string d.name, .slice a.kA d.rk.length a.kc, .int .i64 d.thr, .bool d.term, .slice a.pA d.paths.length a.pc, .slice a.xA d.prefs.length a.xc] 59)).alloc (.cells #[.string ⟨#[]⟩, .slice none 0 0, .int .i64 0, .bool false, .slice none 0 0, .slice none 0 0] 59)) (w.heap.size + 1) 59 #[.string ⟨#[]⟩, .slice none 0 0, .int .i64 0, .bool false, .slice none 0 0, .slice none 0 0] ∧ Below w.heap.size w ((w.alloc (.cells #[.string d.name, .slice a.kA d.rk.length a.kc, .int .i64 d.thr, .bool d.term, .slice a.pA d.paths.length a.pc, .slice a.xA d.prefs.length a.xc] 59)).alloc (.cells #[.string ⟨#[]⟩, .slice none 0 0, .int .i64 0, .bool false, .slice none 0 0, .slice none 0 0] 59)) := by
    refine ⟨(Blk.new _ _ _).alloc _, ?_, ((Below.refl _ _).alloc (Nat.le_refl _) _).alloc (by simp) _⟩
    have h2 := Blk.new (w.alloc (.cells #[.string d.name, .slice a.kA d.rk.length a.kc, .int .i64 d.thr, .bool d.term, .slice a.pA d.paths.length a.pc, .slice a.xA d.prefs.length a.xc] 59)) 59 #[.string ⟨#[]⟩, .slice none 0 0, .int .i64 0, .bool false, .slice none 0 0, .slice none 0 0]
    simpa using h2
  have HI := Lib.hid hi
  have HC1 := Lib.hid hc1
  have HC2 := Lib.hid hc2
  have HC3 := Lib.hid hc3
  unfold Sea.PD.val Sea.PD.cs
  clear h hs hc1 hc2 hc3 hi
  go_enter Tryz.func49, Tryz.ntmps49
  go_wp2_with fail
  refine wp_region_heldT (S := fun V => Blk V w.heap.size 59 #[.string d.name, .slice a.kA d.rk.length a.kc, .int .i64 d.thr, .bool d.term, .slice a.pA d.paths.length a.pc, .slice a.xA d.prefs.length a.xc] ∧ Blk V (w.heap.size + 1) 59 #[.string ⟨#[]⟩, .slice none 0 0, .int .i64 0, .bool false, .slice none 0 0, .slice none 0 0] ∧ Below w.heap.size w V) 12 (by kernel_rfl) (⟨HI.out.1.drew, HI.out.2.1.drew, HI.out.2.2.drew⟩) (fun hS1 => ?_)
  refine wpAnyT_pure (i := 0) (oi := ⟨some 3, _, _, _, _, _⟩) (v := .pointer (some ⟨w.heap.size, 1, none⟩)) rfl (by kernel_rfl) (by kernel_rfl) (by kernel_rfl) (by decide) (fun _ _ _ h => h) (.inl ⟨by kernel_rfl, fun V hS => by go_simp⟩) hS1 ?_
  simp only [Act.put, List.setIfInBounds_toArray, List.set_cons_zero, List.set_cons_succ]
  refine wpAnyT_pure (i := 1) (oi := ⟨some 4, _, _, _, _, _⟩) (v := .pointer (some ⟨w.heap.size, 1, none⟩)) rfl (by kernel_rfl) (by kernel_rfl) (by kernel_rfl) (by decide) (fun _ _ _ h => h) (.inl ⟨by kernel_rfl, fun V hS => by go_simp⟩) hS1 ?_
  simp only [Act.put, List.setIfInBounds_toArray, List.set_cons_zero, List.set_cons_succ]
  refine wpAnyT_take (i := 2) (oi := ⟨some 5, _, _, _, _, _⟩) (v := .slice a.kA d.rk.length a.kc) rfl (by kernel_rfl) (by kernel_rfl) (by kernel_rfl) (by kernel_rfl) (by kernel_rfl) (fun _ _ _ h => h) (.inl ⟨by kernel_rfl, fun V hS => by have hc := hS.1.cell 1; simp at hc; go_simp⟩) hS1 ?_
  simp only [Act.put, List.setIfInBounds_toArray, List.set_cons_zero, List.set_cons_succ]
  refine wpAnyT_pure (i := 4) (oi := ⟨some 7, _, _, _, _, _⟩) (v := .pointer (some ⟨w.heap.size, 4, none⟩)) rfl (by kernel_rfl) (by kernel_rfl) (by kernel_rfl) (by decide) (fun _ _ _ h => h) (.inl ⟨by kernel_rfl, fun V hS => by go_simp⟩) hS1 ?_
  simp only [Act.put, List.setIfInBounds_toArray, List.set_cons_zero, List.set_cons_succ]
  refine wpAnyT_take (i := 5) (oi := ⟨some 8, _, _, _, _, _⟩) (v := .slice a.pA d.paths.length a.pc) rfl (by kernel_rfl) (by kernel_rfl) (by kernel_rfl) (by kernel_rfl) (by kernel_rfl) (fun _ _ _ h => h) (.inl ⟨by kernel_rfl, fun V hS => by have hc := hS.1.cell 4; simp at hc; go_simp⟩) hS1 ?_
  simp only [Act.put, List.setIfInBounds_toArray, List.set_cons_zero, List.set_cons_succ]
  refine wpAnyT_pure (i := 7) (oi := ⟨some 10, _, _, _, _, _⟩) (v := .pointer (some ⟨w.heap.size, 5, none⟩)) rfl (by kernel_rfl) (by kernel_rfl) (by kernel_rfl) (by decide) (fun _ _ _ h => h) (.inl ⟨by kernel_rfl, fun V hS => by go_simp⟩) hS1 ?_
  simp only [Act.put, List.setIfInBounds_toArray, List.set_cons_zero, List.set_cons_succ]
  refine wpAnyT_take (i := 8) (oi := ⟨some 11, _, _, _, _, _⟩) (v := .slice a.xA d.prefs.length a.xc) rfl (by kernel_rfl) (by kernel_rfl) (by kernel_rfl) (by kernel_rfl) (by kernel_rfl) (fun _ _ _ h => h) (.inl ⟨by kernel_rfl, fun V hS => by have hc := hS.1.cell 5; simp at hc; go_simp⟩) hS1 ?_
  simp only [Act.put, List.setIfInBounds_toArray, List.set_cons_zero, List.set_cons_succ]
  refine wpAnyT_ready (rs := [3]) (by kernel_rfl) (by simp) ?_
  refine AllReadyT.cons rfl (fun K' hK => ?_) AllReadyT.nil
  go_simp
  refine (HC1.out _ (hS1).2.2).mono ?_
  rintro e w1 ⟨A1, c1, rfl, l1, m1, r1, g1, b1⟩
  have R1 := Lib.hid r1
  have G1 := Lib.hid (newA_lt g1 (hS1).2.1.lt)
  have B1 := Lib.hid b1
  clear r1 g1 b1
  refine hK.out _ _ (⟨Blk.below hS1.1 B1.out hS1.1.lt, Blk.below hS1.2.1 B1.out hS1.2.1.lt, hS1.2.2.trans (B1.out.mono hS1.2.2.size)⟩) (fun hS2 => ?_)
  clear hK K' hS1
  refine wpAnyT_pure (i := 10) (oi := ⟨some 13, _, _, _, _, _⟩) (v := .pointer (some ⟨w.heap.size, 1, none⟩)) rfl (by kernel_rfl) (by kernel_rfl) (by kernel_rfl) (by decide) (fun _ _ _ h => h) (.inl ⟨by kernel_rfl, fun V hS => by go_simp⟩) hS2 ?_
  simp only [Act.put, List.setIfInBounds_toArray, List.set_cons_zero, List.set_cons_succ]
  refine wpAnyT_pure (i := 11) (oi := ⟨some 14, _, _, _, _, _⟩) (v := .pointer (some ⟨w.heap.size, 1, none⟩)) rfl (by kernel_rfl) (by kernel_rfl) (by kernel_rfl) (by decide) (fun _ _ _ h => h) (.inl ⟨by kernel_rfl, fun V hS => by go_simp⟩) hS2 ?_
  simp only [Act.put, List.setIfInBounds_toArray, List.set_cons_zero, List.set_cons_succ]
  refine wpAnyT_ready (rs := [6]) (by kernel_rfl) (by simp) ?_
  refine AllReadyT.cons rfl (fun K' hK => ?_) AllReadyT.nil
  go_simp
  refine (HC2.out _ (hS2).2.2).mono ?_
  rintro e w2 ⟨A2, c2, rfl, l2, m2, r2, g2, b2⟩
  have R2 := Lib.hid r2
  have G2 := Lib.hid (newA_lt g2 (hS2).2.1.lt)
  have B2 := Lib.hid b2
  clear r2 g2 b2
  refine hK.out _ _ (⟨Blk.below hS2.1 B2.out hS2.1.lt, Blk.below hS2.2.1 B2.out hS2.2.1.lt, hS2.2.2.trans (B2.out.mono hS2.2.2.size)⟩) (fun hS3 => ?_)
  clear hK K' hS2
  refine wpAnyT_ready (rs := [9]) (by kernel_rfl) (by simp) ?_
  refine AllReadyT.cons rfl (fun K' hK => ?_) AllReadyT.nil
  go_simp
  refine (HC3.out _ (hS3).2.2).mono ?_
  rintro e w3 ⟨A3, c3, rfl, l3, m3, r3, g3, b3⟩
  have R3 := Lib.hid r3
  have G3 := Lib.hid (newA_lt g3 (hS3).2.1.lt)
  have B3 := Lib.hid b3
  clear r3 g3 b3
  have HK3 := Lib.hid (Blk.below (hS3).1 B3.out (hS3).1.lt)
  have BB3 := Lib.hid ((hS3).2.2.trans (B3.out.mono (hS3).2.2.size))
  have HZ3 := Lib.hid (Blk.below (hS3).2.1 B3.out (hS3).2.1.lt)
  refine hK.out _ _ (⟨HK3.out, HZ3.out, BB3.out⟩) (fun hS4 => ?_)
  clear hK K' hS3
  refine wpAnyT_T (by kernel_rfl) rfl (by kernel_rfl) (fun K' hK => ?_)
  have sc := HK3.out.cell 1
  have sf := HK3.out.frozen 1
  simp at sc sf
  go_simp
  clear sc sf
  refine hK.out _ _ ?_
  clear hK K' hS4
  refine wpAnyH_take (i := 13) (oi := ⟨some 15, _, _, _, _, _⟩) (v := .pointer (some ⟨w.heap.size, 4, none⟩)) rfl (by kernel_rfl) (by kernel_rfl) (by kernel_rfl) (fun _ _ _ h => h) (.inl ⟨by kernel_rfl, fun V hS => by go_simp⟩) trivial ?_
  simp only [Act.put, List.setIfInBounds_toArray, List.set_cons_zero, List.set_cons_succ]
  refine wpAnyH_ready (rs := [14]) (by kernel_rfl) (by simp) ?_
  refine AllReadyH.cons rfl (fun K' hK => ?_) AllReadyH.nil
  have sc := (HK3.out.set_ 1 (.slice A1 d.rk.length c1)).cell 4
  have sf := (HK3.out.set_ 1 (.slice A1 d.rk.length c1)).frozen 4
  simp at sc sf
  go_simp
  clear sc sf
  refine hK.out _ _ trivial (fun _ => ?_)
  clear hK K'
  refine wpAnyH_take (i := 15) (oi := ⟨some 16, _, _, _, _, _⟩) (v := .pointer (some ⟨w.heap.size, 5, none⟩)) rfl (by kernel_rfl) (by kernel_rfl) (by kernel_rfl) (fun _ _ _ h => h) (.inl ⟨by kernel_rfl, fun V hS => by go_simp⟩) trivial ?_
  simp only [Act.put, List.setIfInBounds_toArray, List.set_cons_zero, List.set_cons_succ]
  refine wpAnyH_ready (rs := [16]) (by kernel_rfl) (by simp) ?_
  refine AllReadyH.cons rfl (fun K' hK => ?_) AllReadyH.nil
  have sc := ((HK3.out.set_ 1 (.slice A1 d.rk.length c1)).set_ 4 (.slice A2 d.paths.length c2)).cell 5
  have sf := ((HK3.out.set_ 1 (.slice A1 d.rk.length c1)).set_ 4 (.slice A2 d.paths.length c2)).frozen 5
  simp at sc sf
  go_simp
  clear sc sf
  refine hK.out _ _ trivial (fun _ => ?_)
  clear hK K'
  refine wpAnyH_done (by kernel_rfl) ?_ _
  obtain ⟨W5, hW5⟩ : ∃ W5, W5 = (((w3.setCell ⟨w.heap.size, 1, none⟩ (.slice A1 d.rk.length c1)).setCell ⟨w.heap.size, 4, none⟩ (.slice A2 d.paths.length c2)).setCell ⟨w.heap.size, 5, none⟩ (.slice A3 d.prefs.length c3)) := ⟨_, rfl⟩
  have hk5 : Blk W5 w.heap.size 59 #[.string d.name, .slice A1 d.rk.length c1, .int .i64 d.thr, .bool d.term, .slice A2 d.paths.length c2, .slice A3 d.prefs.length c3] := by
    rw [hW5]
    have h := ((HK3.out.set_ 1 (.slice A1 d.rk.length c1)).set_ 4 (.slice A2 d.paths.length c2)).set_ 5 (.slice A3 d.prefs.length c3)
    simpa using h
  have hz5 : Blk W5 (w.heap.size + 1) 59 #[.string ⟨#[]⟩, .slice none 0 0, .int .i64 0, .bool false, .slice none 0 0, .slice none 0 0] := by
    rw [hW5]
    exact ((HZ3.out.far (by simp) _).far (by simp) _).far (by simp) _
  have hf5 : Fr (fun b => b ≤ w.heap.size + 1) w3 W5 := by
    rw [hW5]
    exact (((Fr.refl _ _).setCell (fun _ => by simp) _).setCell (fun _ => by simp) _).setCell (fun _ => by simp) _
  have hb5 : Below w.heap.size w W5 := by
    rw [hW5]
    exact ((BB3.out.setCell (by simp) _).setCell (by simp) _).setCell (by simp) _
  rw [← hW5]
  clear hW5
  have e0 : W5.cell? ⟨w.heap.size, 0, none⟩ = some (.string d.name) := hk5.cell 0
  have e1 : W5.cell? ⟨w.heap.size, 1, none⟩ = some (.slice A1 d.rk.length c1) := hk5.cell 1
  have e2 : W5.cell? ⟨w.heap.size, 2, none⟩ = some (.int .i64 d.thr) := hk5.cell 2
  have e3 : W5.cell? ⟨w.heap.size, 3, none⟩ = some (.bool d.term) := hk5.cell 3
  have e4 : W5.cell? ⟨w.heap.size, 4, none⟩ = some (.slice A2 d.paths.length c2) := hk5.cell 4
  have e5 : W5.cell? ⟨w.heap.size, 5, none⟩ = some (.slice A3 d.prefs.length c3) := hk5.cell 5
  have z0 : W5.cell? ⟨w.heap.size + 1, 0, none⟩ = some (.string ⟨#[]⟩) := hz5.cell 0
  have f0 : W5.frozen? ⟨w.heap.size + 1, 0, none⟩ = false := hz5.frozen 0
  have z1 : W5.cell? ⟨w.heap.size + 1, 1, none⟩ = some (.slice none 0 0) := hz5.cell 1
  have f1 : W5.frozen? ⟨w.heap.size + 1, 1, none⟩ = false := hz5.frozen 1
  have z2 : W5.cell? ⟨w.heap.size + 1, 2, none⟩ = some (.int .i64 0) := hz5.cell 2
  have f2 : W5.frozen? ⟨w.heap.size + 1, 2, none⟩ = false := hz5.frozen 2
  have z3 : W5.cell? ⟨w.heap.size + 1, 3, none⟩ = some (.bool false) := hz5.cell 3
  have f3 : W5.frozen? ⟨w.heap.size + 1, 3, none⟩ = false := hz5.frozen 3
  have z4 : W5.cell? ⟨w.heap.size + 1, 4, none⟩ = some (.slice none 0 0) := hz5.cell 4
  have f4 : W5.frozen? ⟨w.heap.size + 1, 4, none⟩ = false := hz5.frozen 4
  have z5 : W5.cell? ⟨w.heap.size + 1, 5, none⟩ = some (.slice none 0 0) := hz5.cell 5
  have f5 : W5.frozen? ⟨w.heap.size + 1, 5, none⟩ = false := hz5.frozen 5
  have HF := Lib.hid ((((((hz5.set_ 0 (.string d.name)).set_ 1 (.slice A1 d.rk.length c1)).set_ 2 (.int .i64 d.thr)).set_ 3 (.bool d.term)).set_ 4 (.slice A2 d.paths.length c2)).set_ 5 (.slice A3 d.prefs.length c3))
  have HF5 := Lib.hid hf5
  have HB5 := Lib.hid hb5
  clear hk5 hz5 hf5 hb5
  go_wp2
  have k0 := HF.out.cell 0
  have k1 := HF.out.cell 1
  have k2 := HF.out.cell 2
  have k3 := HF.out.cell 3
  have k4 := HF.out.cell 4
  have k5 := HF.out.cell 5
  simp at k0 k1 k2 k3 k4 k5
  refine bodyPost_ret (v := d.val ⟨A1, c1, A2, c2, A3, c3⟩) (by simp [results, Tryz.results49, go_sem, k0, k1, k2, k3, k4, k5, Sea.PD.val, Sea.PD.cs]) rfl ?_
  have hf9 := (((((HF5.out.setCell (p := ⟨w.heap.size + 1, 0, none⟩) (fun _ => Nat.le_refl _) (.string d.name)).setCell (p := ⟨w.heap.size + 1, 1, none⟩) (fun _ => Nat.le_refl _) (.slice A1 d.rk.length c1)).setCell (p := ⟨w.heap.size + 1, 2, none⟩) (fun _ => Nat.le_refl _) (.int .i64 d.thr)).setCell (p := ⟨w.heap.size + 1, 3, none⟩) (fun _ => Nat.le_refl _) (.bool d.term)).setCell (p := ⟨w.heap.size + 1, 4, none⟩) (fun _ => Nat.le_refl _) (.slice A2 d.paths.length c2)).setCell (p := ⟨w.heap.size + 1, 5, none⟩) (fun _ => Nat.le_refl _) (.slice A3 d.prefs.length c3)
  have hb9 := (((((HB5.out.setCell (p := ⟨w.heap.size + 1, 0, none⟩) (Nat.le_succ _) (.string d.name)).setCell (p := ⟨w.heap.size + 1, 1, none⟩) (Nat.le_succ _) (.slice A1 d.rk.length c1)).setCell (p := ⟨w.heap.size + 1, 2, none⟩) (Nat.le_succ _) (.int .i64 d.thr)).setCell (p := ⟨w.heap.size + 1, 3, none⟩) (Nat.le_succ _) (.bool d.term)).setCell (p := ⟨w.heap.size + 1, 4, none⟩) (Nat.le_succ _) (.slice A2 d.paths.length c2)).setCell (p := ⟨w.heap.size + 1, 5, none⟩) (Nat.le_succ _) (.slice A3 d.prefs.length c3)
  refine ⟨⟨A1, c1, A2, c2, A3, c3⟩, rfl, fun X hX => ?_, hb9⟩
  have hX' : ∀ b, w.heap.size + 1 < b → b < _ → ¬ X b := fun b h1 h2 => hX b (by omega) h2
  have s2 := B2.out.size
  have s3 := B3.out.size
  have s9 := hf9.size
  exact ⟨new_row R1.out G1.out (B2.out.trans (B3.out.mono B2.out.size)) hf9 (by omega) hX', new_row R2.out G2.out B3.out hf9 (by omega) hX', new_row R3.out G3.out (Below.refl _ _) hf9 (by omega) hX', ⟨l1, m1⟩, ⟨l2, m2⟩, ⟨l3, m3⟩⟩
end Go.Proofs.YthidjdjcjjbpbaaGreatDoor
