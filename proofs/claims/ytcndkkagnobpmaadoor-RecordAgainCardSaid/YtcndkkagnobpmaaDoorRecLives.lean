/-
  pursuivantlaw22.lives.
-/
import Derived.Test.YtcndkkagnobpmaaDoorRec8
import Derived.Test.YtcndkkagnobpmaaDoorRunStr
import Derived.Lib.SlBytesConst
namespace Go.Proofs.YtcndkkagnobpmaaDoor
open Go.RowKit
attribute [local go_sem ↓] Go.wp_at_zero Go.wp_at_succ
set_option linter.unusedVariables false

theorem zero_now (N i : Nat) (h : i < N) : (Dk.zero N).now i = zeros64 := by
  unfold Dk.now Dk.zero
  simp only [Option.getD_none]
  rw [List.getD_eq_getElem?_getD, List.getElem?_replicate, if_pos h]
  rfl
theorem zero_full (N : Nat) : Full (Dk.zero N) := fun i hi => by
  rw [zero_now N i (by simpa [Dk.zero] using hi)]; rfl
/-- a half whose first block is of zeros holds nothing -/
theorem st_zero {K : Dk} {first half g : Nat} (hh : 1 ≤ half) (h : K.now (first + g * half) = zeros64) : stK K first half g = none := by
  unfold stK
  generalize first + g * half = a at h ⊢
  obtain ⟨m, rfl⟩ : ∃ m, half = m + 1 := ⟨half - 1, by omega⟩
  refine stands_zero _ _ ?_
  rw [allL_cons, h, List.take_append_of_le_length (by decide)]
  decide
theorem rec_zero {K : Dk} {first half : Nat} (hh : 1 ≤ half) (h : ∀ i, i < 2 * half → K.now (first + i) = zeros64) : RecOK K first half 0 [] :=
  .inl ⟨rfl, rfl, st_zero hh (by have := h 0 (by omega); simpa using this), st_zero hh (by have := h half (by omega); simpa using this)⟩
theorem lit_rbf (w : World) (l : List UInt8) (cs : Array Value) (fr : Nat × Nat) (h : cs = (Lib.byteCells l).toArray) : RB (w.alloc (.cells cs 5 fr)) (some ⟨w.heap.size, 0, none⟩) l := by
  subst h
  refine ⟨by simp [Lib.byteCells], fun hn => ⟨_, rfl, by simp, fun j u hu => ?_⟩⟩
  rw [Addr.add_lit, Nat.zero_add, cell_of_row _ w.heap.size j _ 5 fr (heap_alloc_new w _)]
  simpa using hu
theorem fr_of_ge {S : Nat → Prop} {w w1 w' : World} (hb : Below w.heap.size w w1) (hf : Fr S w1 w') (hS : ∀ k, S k → w.heap.size ≤ k) : Below w.heap.size w w' := Fr.below_trans hb hf hb.size hS
set_option maxRecDepth 100000 in
set_option maxHeartbeats 4000000 in
theorem rlives_any (w : World) (hK : TabK w) : Calls Tryd.prog 10 #[] w fun e w' => e = .returned (.bool true) ∧ Below w.heap.size w w' := by
  have HN := Lib.hid (dnew_yes 8 w (by omega) (by omega))
  have HK := Lib.hid hK
  clear hK
  go_enter Tryd.func10, Tryd.ntmps10
  go_wp2_with fail
  refine HN.out.mono ?_
  rintro e w1 ⟨d, s, M, rfl, g1, g2, g3, hD, hb1⟩
  have HB1 := Lib.hid hb1
  have HK1 := Lib.hid (TabK.below HK.out hb1)
  have HO1 : Hid (RecOn w1 d s M 0 4 0 [] (Dk.zero 8)) := Lib.hid ⟨hD, rfl, by show (-1 : Int) < 0; omega, zero_full 8, rec_zero (by omega) (fun i hi => by rw [Nat.zero_add]; exact zero_now 8 i hi), by simp [Dk.zero], by omega⟩
  have HOP := Lib.hid (open_on 8 w1 HO1.out HK1.out rfl)
  have HDS : Hid (∀ k, DS d s M k → w.heap.size ≤ k) := Lib.hid (fun k e => by rcases e with rfl | rfl | rfl <;> assumption)
  clear hD hb1
  go_wp2_with fail
  refine HOP.out.mono ?_
  rintro e w2 ⟨r, rfl, hr, hR, hb2⟩
  have HB2 : Hid (Below w.heap.size w w2) := Lib.hid (HB1.out.trans (hb2.mono HB1.out.size))
  have HO2 := Lib.hid (HO1.out.below hb2)
  have HK2 := Lib.hid (TabK.below HK1.out hb2)
  have HR2 := Lib.hid hR
  have HRG : Hid (w.heap.size ≤ r) := Lib.hid (Nat.le_trans HB1.out.size hr)
  have HNU := Lib.hid (rnumber_any w2 hR)
  have HRO := Lib.hid (rroom_any w2 hR (by omega) (by omega))
  have HTX := Lib.hid (rtext_any w2 hR (by simp))
  clear hR hr hb2 HOP
  go_wp2_with fail
  refine HNU.out.mono ?_
  rintro e w2 ⟨rfl, rfl⟩
  go_wp2_with fail
  refine HRO.out.mono ?_
  rintro e w2 ⟨rfl, rfl⟩
  go_wp2_with fail
  refine HTX.out.mono ?_
  rintro e w3 ⟨v, rfl, hv, hb3⟩
  obtain ⟨A3, c3, rfl, _, _, _, _⟩ := hv.shape_n rfl
  have HB3 : Hid (Below w.heap.size w w3) := Lib.hid (HB2.out.trans (hb3.mono HB2.out.size))
  have HO3 := Lib.hid (HO2.out.below hb3)
  have HK3 := Lib.hid (TabK.below HK2.out hb3)
  have HR3 := Lib.hid (HR2.out.below hb3)
  clear hv hb3
  have HA : Hid (Below w3.heap.size w3 (w3.alloc (.cells #[.int .u8 111, .int .u8 110, .int .u8 101] 5 (3, 4)))) := Lib.hid ((Below.refl _ _).alloc (Nat.le_refl _) _)
  have HT3 := Lib.hid (lit_rbf w3 [111, 110, 101] #[.int .u8 111, .int .u8 110, .int .u8 101] (3, 4) rfl)
  have kc := fun (w : World) (C : Array Value) (n c : Nat) => Lib.run_convert_bytes_const (P := Tryd.prog) w 22 5 C n c Tryd.underlying22 Tryd.underlying5
  have HCO := Lib.hid (rcommit_on (some ⟨w3.heap.size, 0, none⟩) 3 3 [111, 110, 101] _ (HO3.out.below HA.out) (TabK.below HK3.out HA.out) (HR3.out.below HA.out) HT3.out rfl (by omega) (by omega) (by omega) (by omega))
  go_wp2_with fail
  refine HCO.out.mono ?_
  rintro e w4 ⟨rfl, ⟨K4, hO4, hl4, _⟩, hR4, hf4⟩
  have hge : ∀ k, (DS d s M k ∨ k = r) → w.heap.size ≤ k := fun k e => e.elim (HDS.out k) (fun e => e ▸ HRG.out)
  have HB4 : Hid (Below w.heap.size w w4) := Lib.hid (fr_of_ge (HB3.out.trans (HA.out.mono HB3.out.size)) hf4 hge)
  have HO4 := Lib.hid hO4
  have HR4 := Lib.hid hR4
  have HK4 := Lib.hid (TabK.below HK.out HB4.out)
  have HL4 : Hid (K4.sure.length = 8) := by show _ = _; rw [hl4]; simp [Dk.zero]
  clear hO4 hl4 hR4 hf4 hge kc
  obtain ⟨Q, hQ⟩ : ∃ Q, Q = madeCells #[Value.int .u8 0] 193 := ⟨_, rfl⟩
  have RM : ∀ w, (Instr.makeSlice 22 (.int .i64 193) (.int .i64 193)).run Tryd.prog w = .ok (.slice (some ⟨w.heap.size, 0, none⟩) 193 193) (w.alloc (.cells Q 5)) := fun w => by
    rw [hQ]
    exact run_make_bytes 193 (by omega) w
  have HA5 : Hid (Below w4.heap.size w4 (w4.alloc (.cells Q 5))) := Lib.hid ((Below.refl _ _).alloc (Nat.le_refl _) _)
  have HCL := Lib.hid (rcommit_long (some ⟨w4.heap.size, 0, none⟩) 193 193 _ (HR4.out.below HA5.out) (by omega) (by omega) (by omega) (by omega))
  clear hQ
  go_wp2_with fail
  refine HCL.out.mono ?_
  rintro e w5 ⟨rfl, hb5⟩
  have hb45 := HA5.out.trans (hb5.mono HA5.out.size)
  have HB5 : Hid (Below w.heap.size w w5) := Lib.hid (HB4.out.trans (hb45.mono HB4.out.size))
  have HO5 := Lib.hid (HO4.out.below hb45)
  have HR5 := Lib.hid (HR4.out.below hb45)
  have HK5 := Lib.hid (TabK.below HK4.out hb45)
  clear hb5 hb45 RM
  have HOP := Lib.hid (open_on 8 w5 HO5.out HK5.out rfl)
  go_wp2_with fail
  refine HOP.out.mono ?_
  rintro e w6 ⟨x, rfl, hx, hX, hb6⟩
  have HB6 : Hid (Below w.heap.size w w6) := Lib.hid (HB5.out.trans (hb6.mono HB5.out.size))
  have HO6 := Lib.hid (HO5.out.below hb6)
  have HR6 := Lib.hid (HR5.out.below hb6)
  have HX6 := Lib.hid hX
  have HF := Lib.hid (open_few 1 8 4 w6 HO6.out.disk rfl (by omega) (by rw [HL4.out]; omega) (by rw [HL4.out]; omega) (by omega))
  clear hx hX hb6 HOP
  go_wp2_with fail
  refine HF.out.mono ?_
  rintro e w6 ⟨rfl, rfl⟩
  have HT6 := Lib.hid (rtext_any w6 HR6.out (by simp))
  go_wp2_with fail
  refine HT6.out.mono ?_
  rintro e w7 ⟨v, rfl, hv, hb7⟩
  obtain ⟨A7, c7, rfl, _, _, hr7, _⟩ := hv.shape_n rfl
  have RC := run_string hr7 3 c7 rfl
  have HB7 : Hid (Below w.heap.size w w7) := Lib.hid (HB6.out.trans (hb7.mono HB6.out.size))
  have HR7 := Lib.hid (HR6.out.below hb7)
  have HX7 := Lib.hid (HX6.out.below hb7)
  clear hv hb7 hr7
  have HNU := Lib.hid (rnumber_any w7 HR7.out)
  go_wp2_with fail
  refine HNU.out.mono ?_
  rintro e w7 ⟨rfl, rfl⟩
  have HT7 := Lib.hid (rtext_any w7 HX7.out (by simp))
  go_wp2_with fail
  refine HT7.out.mono ?_
  rintro e w8 ⟨v, rfl, hv, hb8⟩
  obtain ⟨A8, c8, rfl, _, _, hr8, _⟩ := hv.shape_n rfl
  have RC8 := run_string hr8 3 c8 rfl
  have HB8 : Hid (Below w.heap.size w w8) := Lib.hid (HB7.out.trans (hb8.mono HB7.out.size))
  have HR8 := Lib.hid (HR7.out.below hb8)
  have HX8 := Lib.hid (HX7.out.below hb8)
  clear hv hb8 hr8
  have HNX := Lib.hid (rnumber_any w8 HX8.out)
  have HDE := Lib.hid (rdead_any w8 HR8.out)
  go_wp2_with fail
  refine HNX.out.mono ?_
  rintro e w8 ⟨rfl, rfl⟩
  go_wp2_with fail
  refine HDE.out.mono ?_
  rintro e w8 ⟨rfl, rfl⟩
  go_wp2
  go_ret
  exact ⟨rfl, HB8.out⟩
end Go.Proofs.YtcndkkagnobpmaaDoor
