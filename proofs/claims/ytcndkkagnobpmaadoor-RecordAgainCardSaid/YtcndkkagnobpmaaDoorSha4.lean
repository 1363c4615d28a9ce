/-
  sha.Block.
-/
import Derived.Test.YtcndkkagnobpmaaDoorShaB
import Derived.Deep.QuietTactic
import Derived.BigQuiet
import Derived.StillTailTactics
namespace Go.Proofs.YtcndkkagnobpmaaDoor
open Go.RowKit
set_option linter.unusedVariables false

theorem run_index_k (t : Nat) (ht : t < 64) (w : World) : (Instr.index 133 (.agg kV) (.int .i64 (t : Int))).run Tryd.prog w = .ok (.int .u32 (kL.getD t 0)) w := by
  have h := kV_at t ht
  have hs : kV.size = 64 := rfl
  rw [List.getD_eq_getElem?_getD] at h ⊢
  simp [Instr.index, run_underlying Tryd.underlying133, asIntOf, part, Tryd.isAgg113, Tryd.sizeOf113, h, go_sem]
  intro h; omega
/-- the constants are laid -/
def TabK (w : World) : Prop := ∃ t fr, w.heap[(0 : Nat)]? = some (.cells kV t fr)
theorem TabK.lt {w : World} (h : TabK w) : (0 : Nat) < w.heap.size := by
  obtain ⟨t, fr, h⟩ := h
  rcases Nat.lt_or_ge (0 : Nat) w.heap.size with hlt | hge
  · exact hlt
  · rw [Array.getElem?_eq_none hge] at h; cases h
theorem TabK.below {w w' : World} (h : TabK w) (hb : Below w.heap.size w w') : TabK w' := by
  have hl := h.lt
  obtain ⟨t, fr, h⟩ := h
  exact ⟨t, fr, (hb.block _ hl).trans h⟩
theorem TabK.fr {S : Nat → Prop} {w w' : World} (h : TabK w) (hf : Fr S w w') (hg : ¬ S (0 : Nat)) : TabK w' := by
  have hl := h.lt
  obtain ⟨t, fr, h⟩ := h
  exact ⟨t, fr, (hf.block _ hl hg).trans h⟩
theorem TabK.ne {w : World} {g : Nat} {t : TypeId} {cs : Array Value} (h : TabK w) (hB : Blk w g t cs) (hs : cs.size ≠ 64) : (0 : Nat) ≠ g := by
  rintro rfl
  obtain ⟨t', fr, h⟩ := h
  unfold Blk at hB
  rw [h] at hB
  injection hB with hB
  injection hB with hc _ _
  exact hs (by rw [← hc]; rfl)
theorem kL_isW : ∀ x ∈ kL, isW x := by
  have h : kL.all (fun x => decide (0 ≤ x ∧ x < 4294967296)) = true := by decide +kernel
  intro x hx
  show 0 ≤ x ∧ x < 4294967296
  exact of_decide_eq_true (List.all_eq_true.1 h x hx)
theorem roundI_isW (S : St) (k w : Int) (h : S.isW) : (roundI S k w).isW := by
  obtain ⟨h1, h2, h3, h4, h5, h6, h7, h8⟩ := h
  have e1 : isW (add32 (t1I S k w) (t2I S)) := by unfold isW add32; omega
  have e2 : isW (add32 S.d (t1I S k w)) := by unfold isW add32; omega
  exact ⟨e1, h1, h2, h3, e2, h5, h6, h7⟩
def stV (s : St) : Array Value := #[.int .u32 s.a, .int .u32 s.b, .int .u32 s.c, .int .u32 s.d, .int .u32 s.e, .int .u32 s.f, .int .u32 s.g, .int .u32 s.h]
theorem Blk.setRow_far {w : World} {g g' : Nat} {t : TypeId} {cs : Array Value} (h : Blk w g t cs) (hne : g ≠ g') (v : Array Value) : Blk (w.setRow g' v) g t cs := by
  unfold Blk at h ⊢
  simp only [World.setRow, Array.getElem?_modify]
  rw [if_neg (Ne.symm hne)]
  exact h
def stL (s : St) : List Int := [s.a, s.b, s.c, s.d, s.e, s.f, s.g, s.h]
def midV (s r : St) (i : Nat) : Array Value := ((List.range 8).map fun k => Value.int .u32 (if k < i then add32 ((stL s).getD k 0) ((stL r).getD k 0) else (stL s).getD k 0)).toArray
theorem mid_zero (s r : St) : midV s r 0 = stV s := rfl
theorem mid_eight (s : St) (b : List UInt8) : midV s (roundsN s (schedN b 64) 64) 8 = stV (blockI s b) := rfl
theorem mid_at (s r : St) (j : Nat) (hj : j < 8) : (midV s r j)[j]? = some (.int .u32 ((stL s).getD j 0)) := by
  rcases (by omega : j = 0 ∨ j = 1 ∨ j = 2 ∨ j = 3 ∨ j = 4 ∨ j = 5 ∨ j = 6 ∨ j = 7) with rfl | rfl | rfl | rfl | rfl | rfl | rfl | rfl <;> rfl
theorem mid_set (s r : St) (j : Nat) (hj : j < 8) : (midV s r j).setIfInBounds j (.int .u32 (add32 ((stL s).getD j 0) ((stL r).getD j 0))) = midV s r (j + 1) := by
  rcases (by omega : j = 0 ∨ j = 1 ∨ j = 2 ∨ j = 3 ∨ j = 4 ∨ j = 5 ∨ j = 6 ∨ j = 7) with rfl | rfl | rfl | rfl | rfl | rfl | rfl | rfl <;> rfl
theorem stL_bd (s : St) (h : s.isW) (j : Nat) : isW ((stL s).getD j 0) := by
  obtain ⟨h1, h2, h3, h4, h5, h6, h7, h8⟩ := h
  refine getD_bd ?_ j
  intro x hx
  simp only [stL, List.mem_cons, List.not_mem_nil, or_false] at hx
  rcases hx with rfl | rfl | rfl | rfl | rfl | rfl | rfl | rfl <;> assumption
theorem run_index_8 (s : St) (t : Nat) (ht : t < 8) (w : World) : (Instr.index 114 (.agg #[.int .u32 s.a, .int .u32 s.b, .int .u32 s.c, .int .u32 s.d, .int .u32 s.e, .int .u32 s.f, .int .u32 s.g, .int .u32 s.h]) (.int .i64 (t : Int))).run Tryd.prog w = .ok (.int .u32 ((stL s).getD t 0)) w := by
  rcases (by omega : t = 0 ∨ t = 1 ∨ t = 2 ∨ t = 3 ∨ t = 4 ∨ t = 5 ∨ t = 6 ∨ t = 7) with rfl | rfl | rfl | rfl | rfl | rfl | rfl | rfl <;>
    simp [Instr.index, run_underlying Tryd.underlying114, asIntOf, part, Tryd.isAgg113, Tryd.sizeOf113, go_sem, stL]
set_option maxRecDepth 100000 in
set_option maxHeartbeats 8000000 in
theorem block_any (s : St) (hs : s.isW) (A : Option Addr) (c : Nat) (b : List UInt8) (w : World) (hK : TabK w) (hb : RB w A b) (hl : b.length = 64) (hc : 64 ≤ c) (hcm : c ≤ 9223372036854775807) : Calls Tryd.prog 103 #[.agg (stV s), .slice A 64 c] w fun e w' => e = .returned (.agg (stV (blockI s b))) ∧ Below w.heap.size w w' := by
  obtain ⟨WV, hWV⟩ : ∃ WV : Array Value, WV = ((schedN b 64).map (Value.int .u32)).toArray := ⟨_, rfl⟩
  have HS := fun w h => schedule_any A c b w h hl hc hcm
  rw [← hWV] at HS
  have hWs : WV.size = 64 := by rw [hWV]; simp [schedN_len]
  have hWo : WV.all (·.oneCell') = true := by rw [hWV]; simp [Value.oneCell']
  have HWV := Lib.hid hWV
  have HSX := Lib.hid HS
  clear HS
  have HWI : Hid ((Tryd.prog.info? 133).map (·.size) = some WV.size) := by show _ = _; rw [hWs]; kernel_rfl
  have HWZ : Hid ((#[.int .u32 0, .int .u32 0, .int .u32 0, .int .u32 0, .int .u32 0, .int .u32 0, .int .u32 0, .int .u32 0, .int .u32 0, .int .u32 0, .int .u32 0, .int .u32 0, .int .u32 0, .int .u32 0, .int .u32 0, .int .u32 0, .int .u32 0, .int .u32 0, .int .u32 0, .int .u32 0, .int .u32 0, .int .u32 0, .int .u32 0, .int .u32 0, .int .u32 0, .int .u32 0, .int .u32 0, .int .u32 0, .int .u32 0, .int .u32 0, .int .u32 0, .int .u32 0, .int .u32 0, .int .u32 0, .int .u32 0, .int .u32 0, .int .u32 0, .int .u32 0, .int .u32 0, .int .u32 0, .int .u32 0, .int .u32 0, .int .u32 0, .int .u32 0, .int .u32 0, .int .u32 0, .int .u32 0, .int .u32 0, .int .u32 0, .int .u32 0, .int .u32 0, .int .u32 0, .int .u32 0, .int .u32 0, .int .u32 0, .int .u32 0, .int .u32 0, .int .u32 0, .int .u32 0, .int .u32 0, .int .u32 0, .int .u32 0, .int .u32 0, .int .u32 0] : Array Value).size = WV.size) := by show _ = _; rw [hWs]; rfl
  have HWO := Lib.hid hWo
  clear hWV hWs hWo
  have hB0 : Blk ((w.alloc (.cells (stV s) 114)).alloc (.cells #[.int .u32 0, .int .u32 0, .int .u32 0, .int .u32 0, .int .u32 0, .int .u32 0, .int .u32 0, .int .u32 0] 114)) w.heap.size 114 (stV s) := (Blk.new _ _ _).alloc _
  have hB1 : Blk ((w.alloc (.cells (stV s) 114)).alloc (.cells #[.int .u32 0, .int .u32 0, .int .u32 0, .int .u32 0, .int .u32 0, .int .u32 0, .int .u32 0, .int .u32 0] 114)) (w.heap.size + 1) 114 #[.int .u32 0, .int .u32 0, .int .u32 0, .int .u32 0, .int .u32 0, .int .u32 0, .int .u32 0, .int .u32 0] := by
    simpa using Blk.new (w.alloc (.cells (stV s) 114)) 114 #[.int .u32 0, .int .u32 0, .int .u32 0, .int .u32 0, .int .u32 0, .int .u32 0, .int .u32 0, .int .u32 0]
  have hbel0 : Below w.heap.size w ((w.alloc (.cells (stV s) 114)).alloc (.cells #[.int .u32 0, .int .u32 0, .int .u32 0, .int .u32 0, .int .u32 0, .int .u32 0, .int .u32 0, .int .u32 0] 114)) := ((Below.refl _ _).alloc (Nat.le_refl _) _).alloc (by simp) _
  unfold stV at hB0 hB1 hbel0 ⊢
  go_enter Tryd.func103, Tryd.ntmps103
  go_wp2_with fail
  refine (HSX.out _ (hb.below hbel0)).mono ?_
  rintro e w1 ⟨rfl, hb1⟩
  have hB0 := hB0.below hb1 hB0.lt
  have hB1 := hB1.below hb1 hB1.lt
  have hbel1 : Below w.heap.size w w1 := hbel0.trans (hb1.mono hbel0.size)
  clear hb1 hbel0
  have hZ := Blk.new w1 133 (#[.int .u32 0, .int .u32 0, .int .u32 0, .int .u32 0, .int .u32 0, .int .u32 0, .int .u32 0, .int .u32 0, .int .u32 0, .int .u32 0, .int .u32 0, .int .u32 0, .int .u32 0, .int .u32 0, .int .u32 0, .int .u32 0, .int .u32 0, .int .u32 0, .int .u32 0, .int .u32 0, .int .u32 0, .int .u32 0, .int .u32 0, .int .u32 0, .int .u32 0, .int .u32 0, .int .u32 0, .int .u32 0, .int .u32 0, .int .u32 0, .int .u32 0, .int .u32 0, .int .u32 0, .int .u32 0, .int .u32 0, .int .u32 0, .int .u32 0, .int .u32 0, .int .u32 0, .int .u32 0, .int .u32 0, .int .u32 0, .int .u32 0, .int .u32 0, .int .u32 0, .int .u32 0, .int .u32 0, .int .u32 0, .int .u32 0, .int .u32 0, .int .u32 0, .int .u32 0, .int .u32 0, .int .u32 0, .int .u32 0, .int .u32 0, .int .u32 0, .int .u32 0, .int .u32 0, .int .u32 0, .int .u32 0, .int .u32 0, .int .u32 0, .int .u32 0] : Array Value)
  have HZ := Lib.hid hZ
  go_wp2_with (refine wpList_store_row rfl 133 _ _ rfl w1.heap.size WV rfl rfl 133 _ HZ.out HWI.out HWZ.out HWO.out ?_)
  have hw0 : w.heap.size < w1.heap.size := hB0.lt
  have hw1 : w.heap.size + 1 < w1.heap.size := hB1.lt
  have hW2 := setRow_at hZ WV
  have hC0 := (hB0.alloc (.cells (#[.int .u32 0, .int .u32 0, .int .u32 0, .int .u32 0, .int .u32 0, .int .u32 0, .int .u32 0, .int .u32 0, .int .u32 0, .int .u32 0, .int .u32 0, .int .u32 0, .int .u32 0, .int .u32 0, .int .u32 0, .int .u32 0, .int .u32 0, .int .u32 0, .int .u32 0, .int .u32 0, .int .u32 0, .int .u32 0, .int .u32 0, .int .u32 0, .int .u32 0, .int .u32 0, .int .u32 0, .int .u32 0, .int .u32 0, .int .u32 0, .int .u32 0, .int .u32 0, .int .u32 0, .int .u32 0, .int .u32 0, .int .u32 0, .int .u32 0, .int .u32 0, .int .u32 0, .int .u32 0, .int .u32 0, .int .u32 0, .int .u32 0, .int .u32 0, .int .u32 0, .int .u32 0, .int .u32 0, .int .u32 0, .int .u32 0, .int .u32 0, .int .u32 0, .int .u32 0, .int .u32 0, .int .u32 0, .int .u32 0, .int .u32 0, .int .u32 0, .int .u32 0, .int .u32 0, .int .u32 0, .int .u32 0, .int .u32 0, .int .u32 0, .int .u32 0] : Array Value) 133)).setRow_far (g' := w1.heap.size) (by omega) WV
  have hC1 := (hB1.alloc (.cells (#[.int .u32 0, .int .u32 0, .int .u32 0, .int .u32 0, .int .u32 0, .int .u32 0, .int .u32 0, .int .u32 0, .int .u32 0, .int .u32 0, .int .u32 0, .int .u32 0, .int .u32 0, .int .u32 0, .int .u32 0, .int .u32 0, .int .u32 0, .int .u32 0, .int .u32 0, .int .u32 0, .int .u32 0, .int .u32 0, .int .u32 0, .int .u32 0, .int .u32 0, .int .u32 0, .int .u32 0, .int .u32 0, .int .u32 0, .int .u32 0, .int .u32 0, .int .u32 0, .int .u32 0, .int .u32 0, .int .u32 0, .int .u32 0, .int .u32 0, .int .u32 0, .int .u32 0, .int .u32 0, .int .u32 0, .int .u32 0, .int .u32 0, .int .u32 0, .int .u32 0, .int .u32 0, .int .u32 0, .int .u32 0, .int .u32 0, .int .u32 0, .int .u32 0, .int .u32 0, .int .u32 0, .int .u32 0, .int .u32 0, .int .u32 0, .int .u32 0, .int .u32 0, .int .u32 0, .int .u32 0, .int .u32 0, .int .u32 0, .int .u32 0, .int .u32 0] : Array Value) 133)).setRow_far (g' := w1.heap.size) (by omega) WV
  have hbel2 : Below w.heap.size w ((w1.alloc (.cells (#[.int .u32 0, .int .u32 0, .int .u32 0, .int .u32 0, .int .u32 0, .int .u32 0, .int .u32 0, .int .u32 0, .int .u32 0, .int .u32 0, .int .u32 0, .int .u32 0, .int .u32 0, .int .u32 0, .int .u32 0, .int .u32 0, .int .u32 0, .int .u32 0, .int .u32 0, .int .u32 0, .int .u32 0, .int .u32 0, .int .u32 0, .int .u32 0, .int .u32 0, .int .u32 0, .int .u32 0, .int .u32 0, .int .u32 0, .int .u32 0, .int .u32 0, .int .u32 0, .int .u32 0, .int .u32 0, .int .u32 0, .int .u32 0, .int .u32 0, .int .u32 0, .int .u32 0, .int .u32 0, .int .u32 0, .int .u32 0, .int .u32 0, .int .u32 0, .int .u32 0, .int .u32 0, .int .u32 0, .int .u32 0, .int .u32 0, .int .u32 0, .int .u32 0, .int .u32 0, .int .u32 0, .int .u32 0, .int .u32 0, .int .u32 0, .int .u32 0, .int .u32 0, .int .u32 0, .int .u32 0, .int .u32 0, .int .u32 0, .int .u32 0, .int .u32 0] : Array Value) 133)).setRow w1.heap.size WV) := below_setRow (hbel1.alloc hbel1.size _) (by omega)
  clear hZ HZ hB0 hB1
  obtain ⟨H2, hH2⟩ : ∃ H, H = w1.heap.size := ⟨_, rfl⟩
  rw [← hH2] at hW2 hC0 hC1 hbel2 hw0 hw1 ⊢
  generalize ((w1.alloc (.cells (#[.int .u32 0, .int .u32 0, .int .u32 0, .int .u32 0, .int .u32 0, .int .u32 0, .int .u32 0, .int .u32 0, .int .u32 0, .int .u32 0, .int .u32 0, .int .u32 0, .int .u32 0, .int .u32 0, .int .u32 0, .int .u32 0, .int .u32 0, .int .u32 0, .int .u32 0, .int .u32 0, .int .u32 0, .int .u32 0, .int .u32 0, .int .u32 0, .int .u32 0, .int .u32 0, .int .u32 0, .int .u32 0, .int .u32 0, .int .u32 0, .int .u32 0, .int .u32 0, .int .u32 0, .int .u32 0, .int .u32 0, .int .u32 0, .int .u32 0, .int .u32 0, .int .u32 0, .int .u32 0, .int .u32 0, .int .u32 0, .int .u32 0, .int .u32 0, .int .u32 0, .int .u32 0, .int .u32 0, .int .u32 0, .int .u32 0, .int .u32 0, .int .u32 0, .int .u32 0, .int .u32 0, .int .u32 0, .int .u32 0, .int .u32 0, .int .u32 0, .int .u32 0, .int .u32 0, .int .u32 0, .int .u32 0, .int .u32 0, .int .u32 0, .int .u32 0] : Array Value) 133)).setRow H2 WV) = W2 at hW2 hC0 hC1 hbel2 ⊢
  clear hH2 hbel1
  have c0 := hC0.cell 0
  have c1 := hC0.cell 1
  have c2 := hC0.cell 2
  have c3 := hC0.cell 3
  have c4 := hC0.cell 4
  have c5 := hC0.cell 5
  have c6 := hC0.cell 6
  have c7 := hC0.cell 7
  go_quiet (fail)
  obtain ⟨tK, fK, hK0⟩ := TabK.below hK (show Below w.heap.size w (W2.drewN nq) from ⟨hbel2.os, hbel2.tape, hbel2.output, hbel2.size, hbel2.block⟩)
  have HK := Lib.hid hK0
  clear hK0
  have hbel3 : Below w.heap.size w (W2.drewN nq) := ⟨hbel2.os, hbel2.tape, hbel2.output, hbel2.size, hbel2.block⟩
  have HC0 := Lib.hid (hC0.drewN nq)
  have HC1 := Lib.hid (hC1.drewN nq)
  have HW2 := Lib.hid (show Blk (W2.drewN nq) H2 133 WV from hW2)
  clear c0 c1 c2 c3 c4 c5 c6 c7 hC0 hC1 hW2 hbel2
  generalize W2.drewN nq = W3 at HK hbel3 HC0 HC1 HW2 ⊢
  have HKI : Hid ((Tryd.prog.info? 133).map (·.size) = some kV.size) := by show _ = _; kernel_rfl
  go_wp2_with (refine wpList_load_row rfl 133 _ rfl 0 rfl tK kV fK _ HK.out Tryd.underlying133 rfl HKI.out ?_)
  have HWg : Hid (∀ t, t < 64 → WV[t]? = some (.int .u32 ((schedN b 64).getD t 0))) := by
    intro t ht
    have hlen := schedN_len b 64
    rw [HWV.out, List.getElem?_toArray, List.getElem?_map, List.getD_eq_getElem?_getD, List.getElem?_eq_getElem (by omega)]; rfl
  have HWb : Hid (∀ t, isW ((schedN b 64).getD t 0)) := fun t => getD_bd (schedN_bd b 64) t
  have HWZ2 := HWZ
  clear HWV HWZ HWI HWO HKI HK HSX
  go_loopw [6, 7, 8, 9, 10, 11, 12, 13, 14, 15, 16, 17, 43] (fun va vb vc vd ve vf vg vh _ _ _ _ i wr => ∃ (t : Nat) (S : St), t ≤ 64 ∧ i = .int .i64 t ∧ va = .int .u32 S.a ∧ vb = .int .u32 S.b ∧ vc = .int .u32 S.c ∧ vd = .int .u32 S.d ∧ ve = .int .u32 S.e ∧ vf = .int .u32 S.f ∧ vg = .int .u32 S.g ∧ vh = .int .u32 S.h ∧ Hid (S = roundsN s (schedN b 64) t) ∧ Hid S.isW ∧ Hid (Blk wr H2 133 WV) ∧ Hid (Blk wr w.heap.size 114 (stV s)) ∧ Hid (Blk wr (w.heap.size + 1) 114 #[.int .u32 0, .int .u32 0, .int .u32 0, .int .u32 0, .int .u32 0, .int .u32 0, .int .u32 0, .int .u32 0]) ∧ Hid (Below w.heap.size w wr)) (fun _ _ _ _ _ _ _ _ _ _ _ _ i _ => 64 - (intOf i).toNat)
  case atStart => exact ⟨0, s, Nat.zero_le _, rfl, rfl, rfl, rfl, rfl, rfl, rfl, rfl, rfl, Lib.hid rfl, Lib.hid hs, HW2, HC0, HC1, Lib.hid hbel3⟩
  case round =>
    obtain ⟨t, S, ht, rfl, rfl, rfl, rfl, rfl, rfl, rfl, rfl, rfl, HSt, HSw, HB2, HB0, HB1, HBL⟩ := hrel
    clear HW2 HC0 HC1 hbel3
    rcases (by omega : t < 64 ∨ t = 64) with hlt | heq
    · obtain ⟨⟨a0, a1⟩, ⟨b0, b1⟩, ⟨c0, c1⟩, ⟨d0, d1⟩, ⟨e0, e1⟩, ⟨f0, f1⟩, ⟨g0, g1⟩, ⟨h0, h1⟩⟩ := HSw.out
      have RI := fun w => run_index_k t hlt w
      have hti : (t : Int) < 64 := by omega
      have hti0 : (0 : Int) ≤ (t : Int) := by omega
      obtain ⟨KT, hKT⟩ : ∃ K, K = kL.getD t 0 := ⟨_, rfl⟩
      obtain ⟨WT, hWT⟩ : ∃ K, K = (schedN b 64).getD t 0 := ⟨_, rfl⟩
      have hcell : wr.cell? ⟨H2, t, none⟩ = some (.int .u32 WT) := by rw [HB2.out.cell, HWg.out t hlt, hWT]
      have bWT : 0 ≤ WT ∧ WT < 4294967296 := by rw [hWT]; exact HWb.out t
      have bKT : 0 ≤ KT ∧ KT < 4294967296 := by rw [hKT]; exact getD_bd kL_isW t
      rw [← hKT] at RI
      have HN : Hid (roundsN s (schedN b 64) (t + 1) = roundI S KT WT) := by show _ = _; rw [hKT, hWT, HSt.out]; rfl
      have HNW : Hid (roundI S KT WT).isW := roundI_isW S KT WT HSw.out
      clear hKT hWT HSw HSt HWg HWb
      obtain ⟨bWT0, bWT1⟩ := bWT
      obtain ⟨bKT0, bKT1⟩ := bKT
      obtain ⟨xa, xb, xc, xd, xe, xf, xg, xh⟩ := S
      dsimp only at a0 a1 b0 b1 c0 c1 d0 d1 e0 e1 f0 f1 g0 g1 h0 h1 ⊢
      have R6 : Hid (∀ w, Calls Tryd.prog 117 #[.int .u32 xe, .int .i64 6] w fun r w' => r = .returned (.int .u32 (rotI xe 6)) ∧ w' = w) := fun w => right_any xe 6 (by unfold isTurn; omega) e0 e1 w
      have R11 : Hid (∀ w, Calls Tryd.prog 117 #[.int .u32 xe, .int .i64 11] w fun r w' => r = .returned (.int .u32 (rotI xe 11)) ∧ w' = w) := fun w => right_any xe 11 (by unfold isTurn; omega) e0 e1 w
      have R25 : Hid (∀ w, Calls Tryd.prog 117 #[.int .u32 xe, .int .i64 25] w fun r w' => r = .returned (.int .u32 (rotI xe 25)) ∧ w' = w) := fun w => right_any xe 25 (by unfold isTurn; omega) e0 e1 w
      have R2 : Hid (∀ w, Calls Tryd.prog 117 #[.int .u32 xa, .int .i64 2] w fun r w' => r = .returned (.int .u32 (rotI xa 2)) ∧ w' = w) := fun w => right_any xa 2 (by unfold isTurn; omega) a0 a1 w
      have R13 : Hid (∀ w, Calls Tryd.prog 117 #[.int .u32 xa, .int .i64 13] w fun r w' => r = .returned (.int .u32 (rotI xa 13)) ∧ w' = w) := fun w => right_any xa 13 (by unfold isTurn; omega) a0 a1 w
      have R22 : Hid (∀ w, Calls Tryd.prog 117 #[.int .u32 xa, .int .i64 22] w fun r w' => r = .returned (.int .u32 (rotI xa 22)) ∧ w' = w) := fun w => right_any xa 22 (by unfold isTurn; omega) a0 a1 w
      obtain ⟨E1, hE1⟩ : ∃ z, z = big1 xe := ⟨_, rfl⟩
      obtain ⟨Q1, hQ1⟩ : ∃ z, z = add32 xh E1 := ⟨_, rfl⟩
      obtain ⟨CH, hCH⟩ : ∃ z, z = chI xe xf xg := ⟨_, rfl⟩
      obtain ⟨Q2, hQ2⟩ : ∃ z, z = add32 Q1 CH := ⟨_, rfl⟩
      obtain ⟨Q3, hQ3⟩ : ∃ z, z = add32 Q2 KT := ⟨_, rfl⟩
      obtain ⟨T1, hT1⟩ : ∃ z, z = add32 Q3 WT := ⟨_, rfl⟩
      obtain ⟨A0, hA0⟩ : ∃ z, z = big0 xa := ⟨_, rfl⟩
      obtain ⟨MJ, hMJ⟩ : ∃ z, z = majI xa xb xc := ⟨_, rfl⟩
      obtain ⟨T2, hT2⟩ : ∃ z, z = add32 A0 MJ := ⟨_, rfl⟩
      obtain ⟨NA, hNA⟩ : ∃ z, z = add32 T1 T2 := ⟨_, rfl⟩
      obtain ⟨NE, hNE⟩ : ∃ z, z = add32 xd T1 := ⟨_, rfl⟩
      have hR : roundI ⟨xa, xb, xc, xd, xe, xf, xg, xh⟩ KT WT = ⟨NA, xa, xb, xc, NE, xe, xf, xg⟩ := by
        rw [hNA, hNE, hT2, hMJ, hA0, hT1, hQ3, hQ2, hCH, hQ1, hE1]; rfl
      have HN2 : Hid ((⟨NA, xa, xb, xc, NE, xe, xf, xg⟩ : St) = roundsN s (schedN b 64) (t + 1)) := by show _ = _; rw [HN.out, hR]
      have HNW2 : Hid (St.isW ⟨NA, xa, xb, xc, NE, xe, xf, xg⟩) := by have := HNW.out; rw [hR] at this; exact this
      have wE1 : bits .xor .u32 (bits .xor .u32 (rotI xe 6) (rotI xe 11)) (rotI xe 25) = E1 := hE1.symm
      have wQ1 : IntKind.u32.wrap (xh + E1) = Q1 := by rw [IntKind.wrap_u32, hQ1]; rfl
      have wCH : bits .xor .u32 (bits .and .u32 xe xf) (bits .and .u32 (bits .xor .u32 (if IntKind.u32.signed = true then -1 else IntKind.u32.max) xe) xg) = CH := hCH.symm
      have wQ2 : IntKind.u32.wrap (Q1 + CH) = Q2 := by rw [IntKind.wrap_u32, hQ2]; rfl
      have wQ3 : IntKind.u32.wrap (Q2 + KT) = Q3 := by rw [IntKind.wrap_u32, hQ3]; rfl
      have wT1 : IntKind.u32.wrap (Q3 + WT) = T1 := by rw [IntKind.wrap_u32, hT1]; rfl
      clear hR hE1 hQ1 hCH hQ2 hQ3 hT1 HN HNW
      go_wp2
      go_quiet ((first | (go_at_call 117; exact Calls.quiet_of_same (R6.out _)) | (go_at_call 117; exact Calls.quiet_of_same (R11.out _)) | (go_at_call 117; exact Calls.quiet_of_same (R25.out _))))
      clear wE1 wQ1 wCH wQ2 wQ3 wT1 RI
      have HB2n := Lib.hid (HB2.out.drewN nq)
      have HB0n := Lib.hid (HB0.out.drewN nq)
      have HB1n := Lib.hid (HB1.out.drewN nq)
      have HBLn := Lib.hid (below_drewN HBL.out nq)
      clear HB2 HB0 HB1 HBL hcell
      generalize wr.drewN nq = wn at HB2n HB0n HB1n HBLn ⊢
      go_wp2_with fail
      refine (R2.out _).mono ?_
      rintro r w' ⟨rfl, rfl⟩
      go_wp2_with fail
      refine (R13.out _).mono ?_
      rintro r w' ⟨rfl, rfl⟩
      go_wp2_with fail
      refine (R22.out _).mono ?_
      rintro r w' ⟨rfl, rfl⟩
      have wA0 : bits .xor .u32 (bits .xor .u32 (rotI xa 2) (rotI xa 13)) (rotI xa 22) = A0 := hA0.symm
      have wMJ : bits .xor .u32 (bits .xor .u32 (bits .and .u32 xa xb) (bits .and .u32 xa xc)) (bits .and .u32 xb xc) = MJ := hMJ.symm
      have wT2 : (A0 + MJ) % 4294967296 = T2 := hT2.symm
      have wNA : (T1 + T2) % 4294967296 = NA := hNA.symm
      have wNE : (xd + T1) % 4294967296 = NE := hNE.symm
      clear hA0 hMJ hT2 hNA hNE
      go_wp2
      go_roundw
      case rel => exact ⟨t + 1, _, by omega, by go_num, (by show Value.int _ _ = Value.int _ NA; rw [wNA]), rfl, rfl, rfl, (by show Value.int _ _ = Value.int _ NE; rw [wNE]), rfl, rfl, rfl, HN2, HNW2, HB2n, HB0n, HB1n, HBLn⟩
      case measure => simp [intOf]; omega
    · subst heq
      have ht64 : decide (((64 : Nat) : Int) < 64) = false := by decide
      obtain ⟨⟨a0, a1⟩, ⟨b0, b1⟩, ⟨c0, c1⟩, ⟨d0, d1⟩, ⟨e0, e1⟩, ⟨f0, f1⟩, ⟨g0, g1⟩, ⟨h0, h1⟩⟩ := HSw.out
      clear HB2 HWg HWb
      have HB0m : Hid (Blk wr w.heap.size 114 (midV s S 0)) := by show Blk _ _ _ _; rw [mid_zero]; exact HB0.out
      clear HB0
      go_wp2
      go_loopw [18, 19, 114] (fun _ _ i wr => ∃ t : Nat, t ≤ 8 ∧ i = .int .i64 t ∧ Hid (Blk wr w.heap.size 114 (midV s S t)) ∧ Hid (Blk wr (w.heap.size + 1) 114 #[.int .u32 0, .int .u32 0, .int .u32 0, .int .u32 0, .int .u32 0, .int .u32 0, .int .u32 0, .int .u32 0]) ∧ Hid (Below w.heap.size w wr)) (fun _ _ i _ => 8 - (intOf i).toNat)
      case atStart => exact ⟨0, Nat.zero_le _, rfl, HB0m, HB1, HBL⟩
      case round =>
        obtain ⟨j, hj, rfl, HM, HZ, HB⟩ := hrel
        clear HB0m HB1 HBL
        rcases (by omega : j < 8 ∨ j = 8) with hlt | heq
        · have hji : (j : Int) < 8 := by omega
          have hj0 : (0 : Int) ≤ (j : Int) := by omega
          have RI := fun w => run_index_8 S j hlt w
          have hcell := HM.out.cell j
          rw [mid_at s S j hlt] at hcell
          have hfr := HM.out.frozen j
          have HN := Lib.hid (HM.out.set_ j (.int .u32 (add32 ((stL s).getD j 0) ((stL S).getD j 0))))
          rw [mid_set s S j hlt] at HN
          have HZn := Lib.hid (HZ.out.far (p := ⟨w.heap.size, j, none⟩) (by simp) (.int .u32 (add32 ((stL s).getD j 0) ((stL S).getD j 0))))
          have HBn := Lib.hid (HB.out.setCell (p := ⟨w.heap.size, j, none⟩) (Nat.le_refl _) (.int .u32 (add32 ((stL s).getD j 0) ((stL S).getD j 0))))
          obtain ⟨x, hx⟩ : ∃ x, x = (stL s).getD j 0 := ⟨_, rfl⟩
          obtain ⟨y, hy⟩ : ∃ x, x = (stL S).getD j 0 := ⟨_, rfl⟩
          rw [← hx] at hcell HN HZn HBn
          rw [← hy] at HN HZn HBn RI
          have hbx := stL_bd s hs j
          have hby := stL_bd S HSw.out j
          rw [← hx] at hbx
          rw [← hy] at hby
          obtain ⟨x0, x1⟩ := hbx
          obtain ⟨y0, y1⟩ := hby
          clear hx hy
          obtain ⟨z, hz⟩ : ∃ z, z = add32 x y := ⟨_, rfl⟩
          rw [← hz] at HN HZn HBn
          have hz' : (x + y) % 4294967296 = z := hz.symm
          have hz'' : IntKind.u32.wrap (x + y) = z := by rw [IntKind.wrap_u32]; exact hz'
          clear hz HM HZ HB HSw
          go_wp2
          go_roundw
          case rel => exact ⟨j + 1, by omega, by go_num, HN, HZn, HBn⟩
          case measure => simp [intOf]; omega
        · subst heq
          have h88 : decide (((8 : Nat) : Int) < 8) = false := by decide
          have HE : Hid (midV s S 8 = stV (blockI s b)) := by
            have := mid_eight s b
            rw [← HSt.out] at this
            exact this
          have HI : Hid ((Tryd.prog.info? 114).map (·.size) = some (midV s S 8).size) := by show _ = _; kernel_rfl
          have HO : Hid ((midV s S 8).all (·.oneCell') = true) := by show _ = _; simp [midV, Value.oneCell']
          have HS0 : Hid ((#[.int .u32 0, .int .u32 0, .int .u32 0, .int .u32 0, .int .u32 0, .int .u32 0, .int .u32 0, .int .u32 0] : Array Value).size = (midV s S 8).size) := by show _ = _; rfl
          have HSO : Hid (stV (blockI s b) = stV (blockI s b)) := Lib.hid rfl
          generalize midV s S 8 = V at HM HE HI HO HS0 ⊢
          have HBz : Hid (Below w.heap.size w (wr.setRow (w.heap.size + 1) V)) := below_setRow HB.out (by omega)
          have HGz := Lib.hid (setRow_at HZ.out V)
          clear HSt HSw
          go_wp2_with (first
            | (refine wpList_load_row rfl 114 _ rfl w.heap.size rfl 114 V (0, 0) _ HM.out Tryd.underlying114 rfl HI.out ?_)
            | (refine wpList_store_row rfl 114 _ _ rfl (w.heap.size + 1) V rfl rfl 114 _ HZ.out HI.out HS0.out HO.out ?_))
          exact bodyPost_ret (v := .agg V) (results_cell_row (fn := Tryd.f103) rfl _ _ (w.heap.size + 1) 114 V (0, 0) _ rfl HGz.out Tryd.underlying114 rfl HI.out) rfl ⟨by rw [HE.out]; rfl, HBz.out⟩
end Go.Proofs.YtcndkkagnobpmaaDoor
