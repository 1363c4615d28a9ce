/-
  The document's both: the walk.
-/
import Derived.Test.YtodkjhbnodcbhaaDoorGlobT7
namespace Go.Proofs.YtodkjhbnodcbhaaDoor
open Go.RowKit Glob
set_option linter.unusedVariables false

theorem then_mono {I I' : Act → World → Prop} {Q : Exit → Act → World → Prop} (h : ∀ a w, I a w → I' a w) : ∀ e a w, Exit.then I Q e a w → Exit.then I' Q e a w := by
  intro e a w
  cases e <;> first | exact h a w | exact id
set_option maxRecDepth 100000 in
set_option maxHeartbeats 32000000 in
theorem rboth_any (p q : ByteArray) (w : World) (hp : p.size ≤ 1000) (hq : q.size ≤ 1000) : Calls Tryd.prog 34 #[.string p, .string q] w fun e w' => e = .returned (.bool (bothL p.data.toList q.data.toList)) ∧ Below w.heap.size w w' := by
  have hpl : p.data.toList.length = p.size := by cases p; simp [ByteArray.size]
  have hql : q.data.toList.length = q.size := by cases q; simp [ByteArray.size]
  have HPL := Lib.hid hpl
  have HQL := Lib.hid hql
  clear hpl hql
  rw [bothL_ovB]
  have hmr := fun w => run_make_rows p.size (by omega) w
  have hmb := fun w => run_make_bools q.size (by omega) w
  have H0 : Hid (OutP p.data.toList q.data.toList w w.heap.size (p.size + 1) (w.alloc (.cells (madeCells #[Value.slice none 0 0] (p.size + 1)) 60))) :=
    ⟨⟨_, Blk.new _ _ _, by rw [size_madeCells, HPL.out], fun h => by rw [HPL.out] at h; omega⟩, Nat.le_refl _, (Below.refl _ _).alloc (Nat.le_refl _) _⟩
  go_enter Tryd.func34, Tryd.ntmps34
  go_wp2
  generalize (w.alloc (.cells (madeCells #[Value.slice none 0 0] (p.size + 1)) 60)) = W1 at H0 ⊢
  clear hmr
  have HMB := Lib.hid hmb
  clear hmb
  go_loopw [6] (fun v wr => ∃ (t : Nat) (z : Int), Hid (z = (t : Int) - 1) ∧ v = .int .i64 z ∧ t ≤ p.size + 1 ∧ Hid (OutP p.data.toList q.data.toList w w.heap.size t wr)) (fun v _ => (intOf v + 1).toNat)
  case atStart => exact ⟨p.size + 1, (p.size : Int), Lib.hid (by omega), rfl, Nat.le_refl _, H0⟩
  case round =>
    obtain ⟨t, z, hz, rfl, ht, HO⟩ := hrel
    rcases (by omega : t = 0 ∨ 1 ≤ t) with h0 | h0
    · subst h0
      obtain rfl : z = -1 := by have := hz.out; omega
      obtain ⟨B, hc1, hc2, hb⟩ := HO.out.first
      rw [HQL.out] at hc1
      clear hz HO H0
      go_wp2
      go_ret
      exact ⟨rfl, hb⟩
    · obtain ⟨i, rfl⟩ : ∃ i, t = i + 1 := ⟨t - 1, by omega⟩
      obtain rfl : z = (i : Int) := by have := hz.out; omega
      obtain ⟨B, hI⟩ := HO.out.begin (by rw [HPL.out]; omega)
      obtain ⟨⟨cs, h1, h2, _⟩, hGw, _⟩ := HO.out
      have hgc : ∃ v, (wr.alloc (.cells (madeCells #[Value.bool false] (q.size + 1)) 4)).cell? ⟨w.heap.size, i, none⟩ = some v := by
        rw [(h1.alloc _).cell]
        exact ⟨cs[i]'(by rw [h2, HPL.out]; omega), Array.getElem?_eq_getElem (by rw [h2, HPL.out]; omega)⟩
      obtain ⟨v0, hgc⟩ := hgc
      have hgf := (h1.alloc (.cells (madeCells #[Value.bool false] (q.size + 1)) 4)).frozen i
      rw [HQL.out] at hI
      have HI := Lib.hid hI
      clear hI h1 h2 hz HO hGw H0
      have hmb := HMB.out wr
      have hi0 : (0 : Int) ≤ (i : Int) := by omega
      have hi1 : (i : Int) < (p.size : Int) + 1 := by omega
      have hip : i ≤ p.size := by omega
      go_wp2
      clear hmb hgc hgf
      obtain ⟨R, hR⟩ : ∃ R, R = wr.heap.size := ⟨_, rfl⟩
      rw [← hR] at HI ⊢
      clear hR
      generalize ((wr.alloc (.cells (madeCells #[Value.bool false] (q.size + 1)) 4)).setCell ⟨w.heap.size, i, none⟩ (.slice (some ⟨R, 0, none⟩) (q.size + 1) (q.size + 1))) = W2 at HI ⊢
      obtain ⟨f, hf⟩ : ∃ f : Nat → Value, f = fun n => if n = 4 then .bool false else if n = 8 then .string p else if n = 9 then .int .i64 (p.size : Int) else if n = 10 then .int .i64 ((p.size : Int) + 1) else if n = 11 then .slice (some ⟨w.heap.size, 0, none⟩) (p.size + 1) (p.size + 1) else if n = 12 then .string p else if n = 13 then .int .i64 (p.size : Int) else undef := ⟨_, rfl⟩
      refine wp_loop (WI p q w w.heap.size R i B f) mu2 ⟨by intro n hn; simp only [List.mem_cons, List.not_mem_nil, or_false] at hn; rw [hf]; rcases hn with rfl | rfl | rfl | rfl | rfl | rfl | rfl | rfl | rfl | rfl | rfl | rfl | rfl | rfl <;> rfl, rfl, rfl, rfl, rfl, rfl, rfl, q.size + 1, Nat.le_refl _, congrArg (Value.int .i64) (by omega), HI.out⟩ ?_
      intro a wr2 hW
      obtain ⟨hkeep, hs, hd, g0, g1, g5, g6, t2, ht2, g7, hJ⟩ := hW
      obtain ⟨u, hu, rfl⟩ := act_lit a hs hd
      rw [hu] at g0 g1 g5 g6 g7
      rw [g0, g1, g5, g6, g7]
      have hkeep' : ∀ n ∈ ([2, 3, 4, 8, 9, 10, 11, 12, 13, 230, 231, 232, 233, 234] : List Nat), u n = f n := fun n hn => by rw [← hkeep n hn, hu]
      clear HI hu hs hd hkeep
      rcases (by omega : t2 = 0 ∨ 1 ≤ t2) with h0 | h0
      · subst h0
        have HO' := Lib.hid (hJ.done (Nat.le_refl _))
        clear hJ g0 g1 g5 g6 g7
        refine cell_out p q wr2 w.heap.size i u _ _ ?_
        have k2 := hkeep' 2 (by decide)
        have k3 := hkeep' 3 (by decide)
        have k4 := hkeep' 4 (by decide)
        have k8 := hkeep' 8 (by decide)
        have k9 := hkeep' 9 (by decide)
        have k10 := hkeep' 10 (by decide)
        have k11 := hkeep' 11 (by decide)
        have k12 := hkeep' 12 (by decide)
        have k13 := hkeep' 13 (by decide)
        have k230 := hkeep' 230 (by decide)
        have k231 := hkeep' 231 (by decide)
        have k232 := hkeep' 232 (by decide)
        have k233 := hkeep' 233 (by decide)
        have k234 := hkeep' 234 (by decide)
        rw [hf] at k2 k3 k4 k8 k9 k10 k11 k12 k13 k230 k231 k232 k233 k234
        simp only [Nat.reduceEqDiff, if_true, if_false] at k2 k3 k4 k8 k9 k10 k11 k12 k13 k230 k231 k232 k233 k234
        unfold fr2
        simp only [Nat.reduceEqDiff, if_true, if_false]
        rw [k2, k3, k4, k8, k9, k10, k11, k12, k13, k230, k231, k232, k233, k234]
        clear k2 k3 k4 k8 k9 k10 k11 k12 k13 k230 k231 k232 k233 k234 hf hkeep'
        go_wp2
        go_roundw
        case rel => exact ⟨i, (i : Int) - 1, Lib.hid rfl, rfl, by omega, HO'⟩
        case measure => simp [intOf]
      · obtain ⟨k, rfl⟩ : ∃ k, t2 = k + 1 := ⟨t2 - 1, by omega⟩
        have hz : ((k + 1 : Nat) : Int) - 1 = (k : Int) := by omega
        rw [hz]
        have hm : mu2 (fr2 p q w.heap.size (i : Int) (k : Int) u) wr2 = k + 1 := by show ((k : Int) + 1).toNat = k + 1; omega
        have hcell := fun Q0 => cell_any p q w wr2 w.heap.size R i k B u Q0 hp hq HPL HQL hip (by omega) (Lib.hid hJ)
        rw [← hm] at hcell
        exact wp_mono (hcell _) (then_mono fun a' w' h => ⟨⟨fun n hn => (h.1.1 n hn).trans (hkeep' n hn), h.1.2⟩, h.2⟩)
end Go.Proofs.YtodkjhbnodcbhaaDoor
