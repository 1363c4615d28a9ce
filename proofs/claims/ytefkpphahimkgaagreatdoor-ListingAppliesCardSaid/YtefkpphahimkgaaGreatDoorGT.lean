/-
  pursuivantref02.Block.
  pursuivantref02.first, Of.
-/
import Derived.Test.YtefkpphahimkgaaGreatDoorGS
import Derived.Deep.RegionHeld3
import Derived.Test.YtefkpphahimkgaaGreatDoorGA
import Derived.Deep.RegionWith
namespace Go.Proofs.YtefkpphahimkgaaGreatDoor
open Go.RowKit
set_option linter.unusedVariables false

/-- the words' block: the first t words stand, zeros behind -/
def SchR (b : List UInt8) (H t : Nat) (wr : World) : Prop := ∃ cs : Array Value, Blk wr H 175 cs ∧ cs.size = 64 ∧ (∀ i, i < t → cs[i]? = some (.int .u32 ((schedN b t).getD i 0))) ∧ ∀ i, t ≤ i → i < 64 → cs[i]? = some (.int .u32 0)
theorem SchR.start (b : List UInt8) {w : World} {H : Nat} (h : Blk w H 175 zero64) : SchR b H 0 w := by
  have hz : ∀ i, i < 64 → zero64[i]? = some (.int .u32 0) := fun i hi => by
    rw [show zero64 = Array.replicate 64 (.int .u32 0) from rfl]
    simp [hi]
  exact ⟨zero64, h, rfl, fun i hi => by omega, fun i _ hi => hz i hi⟩
theorem SchR.here {b : List UInt8} {H t : Nat} {wr : World} (h : SchR b H t wr) (ht : t < 64) : wr.cell? ⟨H, t, none⟩ = some (.int .u32 0) ∧ wr.frozen? ⟨H, t, none⟩ = false := by
  obtain ⟨cs, h1, h2, h3, h5⟩ := h
  exact ⟨by rw [h1.cell, h5 t (Nat.le_refl _) ht], h1.frozen t⟩
theorem SchR.old {b : List UInt8} {H t i : Nat} {wr : World} (h : SchR b H t wr) (hi : i < t) : wr.cell? ⟨H, i, none⟩ = some (.int .u32 ((schedN b t).getD i 0)) := by
  obtain ⟨cs, h1, h2, h3, h5⟩ := h
  rw [h1.cell, h3 i hi]
theorem SchR.word {b : List UInt8} {H t : Nat} {wr : World} (h : SchR b H t wr) (ht : t < 64) {v : Int} (hv : v = stepW b (schedN b t) t) : SchR b H (t + 1) (wr.setCell ⟨H, t, none⟩ (.int .u32 v)) := by
  obtain ⟨cs, h1, h2, h3, h5⟩ := h
  subst hv
  refine ⟨_, h1.set_ t _, by simpa using h2, fun i hi => ?_, fun i hi hi2 => by rw [Array.getElem?_setIfInBounds_ne (by omega)]; exact h5 i (by omega) hi2⟩
  rcases (by omega : i < t ∨ i = t) with h | h
  · rw [Array.getElem?_setIfInBounds_ne (by omega), sched_getD h]; exact h3 i h
  · subst h; rw [sched_last, Array.getElem?_setIfInBounds_self_of_lt (by omega)]
theorem SchR.drew {b : List UInt8} {H t : Nat} {w : World} (h : SchR b H t w) : SchR b H t w.drew := h
theorem SchR.fr {S : Nat → Prop} {b : List UInt8} {H t : Nat} {w w' : World} (h : SchR b H t w) (hf : Fr S w w') (hH : ¬ S H) : SchR b H t w' := by
  obtain ⟨cs, h1, h2⟩ := h
  exact ⟨cs, h1.fr hf hH, h2⟩
theorem or4 (x0 x1 x2 x3 : Int) (h0 : 0 ≤ x0) (k0 : x0 < 256) (h1 : 0 ≤ x1) (k1 : x1 < 256) (h2 : 0 ≤ x2) (k2 : x2 < 256) (h3 : 0 ≤ x3) (k3 : x3 < 256) :
    bits .or .u32 (bits .or .u32 (bits .or .u32 (x0 * 16777216) (x1 * 65536)) (x2 * 256)) x3 = ((x0 * 256 + x1) * 256 + x2) * 256 + x3 := by
  have J := fun (k : Nat) (a c : Int) (ha : 0 ≤ a) (hm : a % 2 ^ k = 0) (ha2 : a < 4294967296) (hc : 0 ≤ c) (hc2 : c < 2 ^ k) (hs : c < 4294967296) => bits_join .u32 32 (by decide) (fun n h0 h1 => by rw [IntKind.wrap_u32]; have h2 : n < 4294967296 := h1; omega) k a c ha hm ha2 hc hc2 hs
  rw [J 24 (x0 * 16777216) (x1 * 65536) (by omega) (by show _ % 16777216 = _; omega) (by omega) (by omega) (by show _ < 16777216; omega) (by omega)]
  rw [J 16 (x0 * 16777216 + x1 * 65536) (x2 * 256) (by omega) (by show _ % 65536 = _; omega) (by omega) (by omega) (by show _ < 65536; omega) (by omega)]
  rw [J 8 (x0 * 16777216 + x1 * 65536 + x2 * 256) x3 (by omega) (by show _ % 256 = _; omega) (by omega) (by omega) (by show _ < 256; omega) (by omega)]
  omega
theorem part4 (b : List UInt8) (t : Nat) : partI b t 4 = ((byteI b (4 * t) * 256 + byteI b (4 * t + 1)) * 256 + byteI b (4 * t + 2)) * 256 + byteI b (4 * t + 3) := by
  simp only [partI, Nat.add_zero]; omega
theorem rb_byte {w : World} {A : Option Addr} {b : List UInt8} (hb : RB w A b) {k : Nat} (hk : k < b.length) : ∃ ad, A = some ad ∧ w.cell? (ad.add k) = some (.int .u8 (byteI b k)) := by
  obtain ⟨ad, h1, h2, h3⟩ := hb.at_ hk
  refine ⟨ad, h1, ?_⟩
  rw [h3]
  unfold byteI
  rw [List.getD_eq_getElem?_getD, List.getElem?_eq_getElem hk]; rfl

theorem st_cells {w : World} {g : Nat} {s : St} (h : Blk w g 141 (stV s)) : w.cell? ⟨g, 0, none⟩ = some (.int .u32 s.a) ∧ w.cell? ⟨g, 1, none⟩ = some (.int .u32 s.b) ∧ w.cell? ⟨g, 2, none⟩ = some (.int .u32 s.c) ∧ w.cell? ⟨g, 3, none⟩ = some (.int .u32 s.d) ∧ w.cell? ⟨g, 4, none⟩ = some (.int .u32 s.e) ∧ w.cell? ⟨g, 5, none⟩ = some (.int .u32 s.f) ∧ w.cell? ⟨g, 6, none⟩ = some (.int .u32 s.g) ∧ w.cell? ⟨g, 7, none⟩ = some (.int .u32 s.h) :=
  ⟨h.cell 0, h.cell 1, h.cell 2, h.cell 3, h.cell 4, h.cell 5, h.cell 6, h.cell 7⟩
theorem Blk.setSt {w : World} {g : Nat} {s t : St} (h : Blk w g 141 (stV s)) : Blk ((((((((w.setCell ⟨g, 0, none⟩ (.int .u32 t.a)).setCell ⟨g, 1, none⟩ (.int .u32 t.b)).setCell ⟨g, 2, none⟩ (.int .u32 t.c)).setCell ⟨g, 3, none⟩ (.int .u32 t.d)).setCell ⟨g, 4, none⟩ (.int .u32 t.e)).setCell ⟨g, 5, none⟩ (.int .u32 t.f)).setCell ⟨g, 6, none⟩ (.int .u32 t.g)).setCell ⟨g, 7, none⟩ (.int .u32 t.h)) g 141 (stV t) := by
  have := (((((((h.set_ 0 (.int .u32 t.a)).set_ 1 (.int .u32 t.b)).set_ 2 (.int .u32 t.c)).set_ 3 (.int .u32 t.d)).set_ 4 (.int .u32 t.e)).set_ 5 (.int .u32 t.f)).set_ 6 (.int .u32 t.g)).set_ 7 (.int .u32 t.h)
  unfold stV at this ⊢
  simpa only [List.setIfInBounds_toArray, List.set_cons_zero, List.set_cons_succ] using this
theorem SchR.below {b : List UInt8} {H t : Nat} {w w' : World} (h : SchR b H t w) (hb : Below w.heap.size w w') : SchR b H t w' := by
  obtain ⟨cs, h1, h2⟩ := h
  exact ⟨cs, h1.below hb h1.lt, h2⟩
theorem refS {w : World} {g H t : Nat} {S : St} {b : List UInt8} {WT : Int} (hG : Blk w g 141 (stV S)) (hS : SchR b H 64 w) (ht : t < 64) (hW : WT = (schedN b 64).getD t 0) :
    w.cell? ⟨g, 4, none⟩ = some (.int .u32 S.e) ∧ w.cell? ⟨g, 5, none⟩ = some (.int .u32 S.f) ∧ w.cell? ⟨g, 6, none⟩ = some (.int .u32 S.g) ∧ w.cell? ⟨g, 7, none⟩ = some (.int .u32 S.h) ∧ w.cell? ⟨H, t, none⟩ = some (.int .u32 WT) :=
  ⟨hG.cell 4, hG.cell 5, hG.cell 6, hG.cell 7, by rw [hW]; exact hS.old ht⟩
def midR (s r : St) (i : Nat) : Array Value := ((List.range 8).map fun k => Value.int .u32 (if k < i then add32 ((stL r).getD k 0) ((stL s).getD k 0) else (stL r).getD k 0)).toArray
theorem midR_zero (s r : St) : midR s r 0 = stV r := rfl
theorem add32_comm (x y : Int) : add32 x y = add32 y x := by unfold add32; rw [Int.add_comm]
theorem midR_mid (s r : St) : midR s r 8 = midV s r 8 := by
  unfold midR midV
  have h : ∀ k ∈ List.range 8, Value.int .u32 (if k < 8 then add32 ((stL r).getD k 0) ((stL s).getD k 0) else (stL r).getD k 0) = Value.int .u32 (if k < 8 then add32 ((stL s).getD k 0) ((stL r).getD k 0) else (stL s).getD k 0) := by
    intro k hk
    have hk8 := List.mem_range.1 hk
    rw [if_pos hk8, if_pos hk8, add32_comm]
  rw [List.map_congr_left h]
theorem midR_eight (s : St) (b : List UInt8) : midR s (roundsN s (schedN b 64) 64) 8 = stV (blockI s b) := (midR_mid s _).trans (mid_eight s b)
theorem midR_at (s r : St) (j : Nat) (hj : j < 8) : (midR s r j)[j]? = some (.int .u32 ((stL r).getD j 0)) := by
  rcases (by omega : j = 0 ∨ j = 1 ∨ j = 2 ∨ j = 3 ∨ j = 4 ∨ j = 5 ∨ j = 6 ∨ j = 7) with rfl | rfl | rfl | rfl | rfl | rfl | rfl | rfl <;> rfl
theorem stV_at (s : St) (j : Nat) (hj : j < 8) : (stV s)[j]? = some (.int .u32 ((stL s).getD j 0)) := by
  rcases (by omega : j = 0 ∨ j = 1 ∨ j = 2 ∨ j = 3 ∨ j = 4 ∨ j = 5 ∨ j = 6 ∨ j = 7) with rfl | rfl | rfl | rfl | rfl | rfl | rfl | rfl <;> rfl
theorem midR_set (s r : St) (j : Nat) (hj : j < 8) : (midR s r j).setIfInBounds j (.int .u32 (add32 ((stL r).getD j 0) ((stL s).getD j 0))) = midR s r (j + 1) := by
  rcases (by omega : j = 0 ∨ j = 1 ∨ j = 2 ∨ j = 3 ∨ j = 4 ∨ j = 5 ∨ j = 6 ∨ j = 7) with rfl | rfl | rfl | rfl | rfl | rfl | rfl | rfl <;> rfl
theorem refS2 {w : World} {g : Nat} {S : St} (hG : Blk w g 141 (stV S)) : w.cell? ⟨g, 0, none⟩ = some (.int .u32 S.a) ∧ w.cell? ⟨g, 1, none⟩ = some (.int .u32 S.b) ∧ w.cell? ⟨g, 2, none⟩ = some (.int .u32 S.c) := ⟨hG.cell 0, hG.cell 1, hG.cell 2⟩
set_option maxRecDepth 100000 in
set_option maxHeartbeats 8000000 in
theorem refBlock_any (s : St) (hs : s.isW) (A : Option Addr) (c : Nat) (b : List UInt8) (w : World) (hb : RB w A b) (hl : b.length = 64) (hc : 64 ≤ c) (hcm : c ≤ 9223372036854775807) : Calls Tryz.prog 103 #[.agg (stV s), .slice A 64 c] w fun e w' => e = .returned (.agg (stV (blockI s b))) ∧ Below w.heap.size w w' := by
  have hal : Below w.heap.size w ((w.alloc (.cells (stV s) 141)).alloc (.cells #[.int .u32 0, .int .u32 0, .int .u32 0, .int .u32 0, .int .u32 0, .int .u32 0, .int .u32 0, .int .u32 0] 141)) := ((Below.refl _ _).alloc (Nat.le_refl _) _).alloc (by simp) _
  have hB0 : Blk ((w.alloc (.cells (stV s) 141)).alloc (.cells #[.int .u32 0, .int .u32 0, .int .u32 0, .int .u32 0, .int .u32 0, .int .u32 0, .int .u32 0, .int .u32 0] 141)) w.heap.size 141 (stV s) := (Blk.new _ _ _).alloc _
  have hB1 : Blk ((w.alloc (.cells (stV s) 141)).alloc (.cells #[.int .u32 0, .int .u32 0, .int .u32 0, .int .u32 0, .int .u32 0, .int .u32 0, .int .u32 0, .int .u32 0] 141)) (w.heap.size + 1) 141 #[.int .u32 0, .int .u32 0, .int .u32 0, .int .u32 0, .int .u32 0, .int .u32 0, .int .u32 0, .int .u32 0] := by
    simpa using Blk.new (w.alloc (.cells (stV s) 141)) 141 #[.int .u32 0, .int .u32 0, .int .u32 0, .int .u32 0, .int .u32 0, .int .u32 0, .int .u32 0, .int .u32 0]
  have hZ := Blk.new ((w.alloc (.cells (stV s) 141)).alloc (.cells #[.int .u32 0, .int .u32 0, .int .u32 0, .int .u32 0, .int .u32 0, .int .u32 0, .int .u32 0, .int .u32 0] 141)) 175 zero64
  obtain ⟨W0, hW0⟩ : ∃ W0, W0 = ((w.alloc (.cells (stV s) 141)).alloc (.cells #[.int .u32 0, .int .u32 0, .int .u32 0, .int .u32 0, .int .u32 0, .int .u32 0, .int .u32 0, .int .u32 0] 141)).alloc (.cells zero64 175) := ⟨_, rfl⟩
  have HSR : Hid (SchR b (w.heap.size + 1 + 1) 0 W0) := by
    refine SchR.start b ?_
    rw [hW0]
    simpa using hZ
  have HB0 : Hid (Blk W0 w.heap.size 141 (stV s)) := by show Blk _ _ _ _; rw [hW0]; exact hB0.alloc _
  have HB1 : Hid (Blk W0 (w.heap.size + 1) 141 #[.int .u32 0, .int .u32 0, .int .u32 0, .int .u32 0, .int .u32 0, .int .u32 0, .int .u32 0, .int .u32 0]) := by show Blk _ _ _ _; rw [hW0]; exact hB1.alloc _
  have HBL : Hid (Below w.heap.size w W0) := by show Below _ _ _; rw [hW0]; exact hal.alloc hal.size _
  have HL := Lib.hid hl
  have HB := Lib.hid hb
  unfold zero64 at hW0
  have HW0 := Lib.hid hW0
  clear hal hB0 hB1 hZ hl hb hW0
  unfold stV at HW0 ⊢
  go_enter Tryz.func103, Tryz.ntmps103
  go_wp2
  rw [← HW0.out]
  clear HW0
  go_loopw [6, 7, 8] (fun i _ _ wr => ∃ t : Nat, t ≤ 64 ∧ i = .int .i64 t ∧ Hid (SchR b (w.heap.size + 1 + 1) t wr) ∧ Hid (Blk wr w.heap.size 141 (stV s)) ∧ Hid (Blk wr (w.heap.size + 1) 141 #[.int .u32 0, .int .u32 0, .int .u32 0, .int .u32 0, .int .u32 0, .int .u32 0, .int .u32 0, .int .u32 0]) ∧ Hid (Below w.heap.size w wr)) (fun i _ _ _ => 64 - (intOf i).toNat)
  case atStart => exact ⟨0, Nat.zero_le _, rfl, HSR, HB0, HB1, HBL⟩
  case round =>
    obtain ⟨t, ht, rfl, HSR, HB0, HB1, HBL⟩ := hrel
    rcases (by omega : t < 16 ∨ (16 ≤ t ∧ t < 64) ∨ t = 64) with hlt | hlt | heq
    · have h1 : decide ((t : Int) < 64) = true := by rw [decide_eq_true_iff]; omega
      have h2 : decide ((t : Int) < 16) = true := by rw [decide_eq_true_iff]; omega
      obtain ⟨ad, rfl, c0⟩ := rb_byte (HB.out.below HBL.out) (k := 4 * t) (by rw [HL.out]; omega)
      obtain ⟨_, e1, c1⟩ := rb_byte (HB.out.below HBL.out) (k := 4 * t + 1) (by rw [HL.out]; omega)
      cases e1
      obtain ⟨_, e2, c2⟩ := rb_byte (HB.out.below HBL.out) (k := 4 * t + 2) (by rw [HL.out]; omega)
      cases e2
      obtain ⟨_, e3, c3⟩ := rb_byte (HB.out.below HBL.out) (k := 4 * t + 3) (by rw [HL.out]; omega)
      cases e3
      have b0 := byteI_bd b (4 * t)
      have b1 := byteI_bd b (4 * t + 1)
      have b2 := byteI_bd b (4 * t + 2)
      have b3 := byteI_bd b (4 * t + 3)
      have HO := or4 _ _ _ _ b0.1 b0.2 b1.1 b1.2 b2.1 b2.2 b3.1 b3.2
      rw [← part4] at HO
      obtain ⟨x0, hx0⟩ : ∃ x, x = byteI b (4 * t) := ⟨_, rfl⟩
      obtain ⟨x1, hx1⟩ : ∃ x, x = byteI b (4 * t + 1) := ⟨_, rfl⟩
      obtain ⟨x2, hx2⟩ : ∃ x, x = byteI b (4 * t + 2) := ⟨_, rfl⟩
      obtain ⟨x3, hx3⟩ : ∃ x, x = byteI b (4 * t + 3) := ⟨_, rfl⟩
      rw [← hx0] at c0 b0 HO
      rw [← hx1] at c1 b1 HO
      rw [← hx2] at c2 b2 HO
      rw [← hx3] at c3 b3 HO
      obtain ⟨V, hV⟩ : ∃ x, x = partI b t 4 := ⟨_, rfl⟩
      rw [← hV] at HO
      have hvs : V = stepW b (schedN b t) t := by rw [hV]; unfold stepW; rw [if_pos (by omega)]
      obtain ⟨j0, e0⟩ : ∃ k, k = 4 * t := ⟨_, rfl⟩
      obtain ⟨j1, e1⟩ : ∃ k, k = 4 * t + 1 := ⟨_, rfl⟩
      obtain ⟨j2, e2⟩ : ∃ k, k = 4 * t + 2 := ⟨_, rfl⟩
      obtain ⟨j3, e3⟩ : ∃ k, k = 4 * t + 3 := ⟨_, rfl⟩
      rw [← e0] at c0
      rw [← e1] at c1
      rw [← e2] at c2
      rw [← e3] at c3
      have w0 : IntKind.i64.wrap (4 * (t : Int)) = (j0 : Int) := by rw [IntWalk.i64_in _ (by omega)]; omega
      have w1 : IntKind.i64.wrap ((j0 : Int) + 1) = (j1 : Int) := by rw [IntWalk.i64_in _ (by omega)]; omega
      have w2 : IntKind.i64.wrap ((j0 : Int) + 2) = (j2 : Int) := by rw [IntWalk.i64_in _ (by omega)]; omega
      have w3 : IntKind.i64.wrap ((j0 : Int) + 3) = (j3 : Int) := by rw [IntWalk.i64_in _ (by omega)]; omega
      have i0 : (j0 : Int) < 64 := by omega
      have i1 : (j1 : Int) < 64 := by omega
      have i2 : (j2 : Int) < 64 := by omega
      have i3 : (j3 : Int) < 64 := by omega
      have p0 : (0 : Int) ≤ (j0 : Int) := by omega
      have p1 : (0 : Int) ≤ (j1 : Int) := by omega
      have p2 : (0 : Int) ≤ (j2 : Int) := by omega
      have p3 : (0 : Int) ≤ (j3 : Int) := by omega
      have hhere := HSR.out.here (by omega)
      have HN := Lib.hid (HSR.out.drew.word (by omega) hvs)
      obtain ⟨hh1, hh2⟩ := hhere
      have ht0 : (0 : Int) ≤ (t : Int) := by omega
      have wt : IntKind.i64.wrap (t : Int) = (t : Int) := IntWalk.i64_in _ (by omega)
      have HB0n := Lib.hid (HB0.out.far (p := ⟨w.heap.size + 1 + 1, t, none⟩) (by simp; omega) (.int .u32 V))
      have HB1n := Lib.hid (HB1.out.far (p := ⟨w.heap.size + 1 + 1, t, none⟩) (by simp) (.int .u32 V))
      have HBLn := Lib.hid ((below_drewN HBL.out 1).setCell (p := ⟨w.heap.size + 1 + 1, t, none⟩) (by simp; omega) (.int .u32 V))
      have HOV := Lib.hid HO
      clear hx0 hx1 hx2 hx3 hV hvs e0 e1 e2 e3 HSR HB0 HB1 HBL HO HB
      go_wp2
      refine wp_region_still_tail 34 (by kernel_rfl) (by kernel_rfl) ?_
      simp only [List.take_succ_cons, List.take_zero, List.drop_succ_cons, List.drop_zero]
      repeat (with_reducible refine wpStill_step (fun K hK => ?_); go_simp; with_reducible refine hK _ ?_; clear hK K)
      with_reducible refine wpStill_nil ?_
      change wpList _ _ _ _ _ (World.drew _)
      go_wp2
      rw [HOV.out]
      go_roundw
      case rel => exact ⟨t + 1, by omega, by go_num, HN, HB0n, HB1n, HBLn⟩
      case measure => simp [intOf]; omega
    · have h1 : decide ((t : Int) < 64) = true := by rw [decide_eq_true_iff]; omega
      have h2 : decide ((t : Int) < 16) = false := by rw [decide_eq_false_iff_not]; omega
      have hW := schedN_bd b t
      have c15 := HSR.out.old (i := t - 15) (by omega)
      have c2 := HSR.out.old (i := t - 2) (by omega)
      have c16 := HSR.out.old (i := t - 16) (by omega)
      have c7 := HSR.out.old (i := t - 7) (by omega)
      have b15 := getD_bd hW (t - 15)
      have b2 := getD_bd hW (t - 2)
      have b16 := getD_bd hW (t - 16)
      have b7 := getD_bd hW (t - 7)
      have hst : stepW b (schedN b t) t = moreI (schedN b t) t := by unfold stepW; rw [if_neg (by omega)]
      unfold moreI at hst
      obtain ⟨x, hx⟩ : ∃ x, x = (schedN b t).getD (t - 15) 0 := ⟨_, rfl⟩
      obtain ⟨y, hy⟩ : ∃ x, x = (schedN b t).getD (t - 2) 0 := ⟨_, rfl⟩
      obtain ⟨u, hu⟩ : ∃ x, x = (schedN b t).getD (t - 16) 0 := ⟨_, rfl⟩
      obtain ⟨v, hv⟩ : ∃ x, x = (schedN b t).getD (t - 7) 0 := ⟨_, rfl⟩
      rw [← hx] at c15 b15 hst
      rw [← hy] at c2 b2 hst
      rw [← hu] at c16 b16 hst
      rw [← hv] at c7 b7 hst
      clear hx hy hu hv hW
      obtain ⟨b15, b15'⟩ := b15
      obtain ⟨b2, b2'⟩ := b2
      obtain ⟨b16, b16'⟩ := b16
      obtain ⟨b7, b7'⟩ := b7
      have HST := Lib.hid hst
      clear hst
      obtain ⟨k15, e15⟩ : ∃ k, k = t - 15 := ⟨_, rfl⟩
      obtain ⟨k2, e2⟩ : ∃ k, k = t - 2 := ⟨_, rfl⟩
      obtain ⟨k16, e16⟩ : ∃ k, k = t - 16 := ⟨_, rfl⟩
      obtain ⟨k7, e7⟩ : ∃ k, k = t - 7 := ⟨_, rfl⟩
      rw [← e15] at c15
      rw [← e2] at c2
      rw [← e16] at c16
      rw [← e7] at c7
      have i15 : IntKind.i64.wrap ((t : Int) - 15) = (k15 : Int) := by rw [IntWalk.i64_in _ (by omega)]; omega
      have i2 : IntKind.i64.wrap ((t : Int) - 2) = (k2 : Int) := by rw [IntWalk.i64_in _ (by omega)]; omega
      have i16 : IntKind.i64.wrap ((t : Int) - 16) = (k16 : Int) := by rw [IntWalk.i64_in _ (by omega)]; omega
      have i7 : IntKind.i64.wrap ((t : Int) - 7) = (k7 : Int) := by rw [IntWalk.i64_in _ (by omega)]; omega
      have l15 : (k15 : Int) < 64 := by omega
      have l2 : (k2 : Int) < 64 := by omega
      have l16 : (k16 : Int) < 64 := by omega
      have l7 : (k7 : Int) < 64 := by omega
      have m15 : (0 : Int) ≤ (k15 : Int) := by omega
      have m2 : (0 : Int) ≤ (k2 : Int) := by omega
      have m16 : (0 : Int) ≤ (k16 : Int) := by omega
      have m7 : (0 : Int) ≤ (k7 : Int) := by omega
      have wk15 : IntKind.i64.wrap (k15 : Int) = (k15 : Int) := IntWalk.i64_in _ (by omega)
      have wk2 : IntKind.i64.wrap (k2 : Int) = (k2 : Int) := IntWalk.i64_in _ (by omega)
      have wk16 : IntKind.i64.wrap (k16 : Int) = (k16 : Int) := IntWalk.i64_in _ (by omega)
      have wk7 : IntKind.i64.wrap (k7 : Int) = (k7 : Int) := IntWalk.i64_in _ (by omega)
      clear e15 e2 e16 e7
      have R7 : Hid (∀ w, Calls Tryz.prog 137 #[.int .u32 x, .int .u64 7] w fun e w' => e = .returned (.int .u32 (rotI x 7)) ∧ w' = w) := fun w => turn_any x 7 (by unfold isTurn; omega) b15 b15' w
      have R18 : Hid (∀ w, Calls Tryz.prog 137 #[.int .u32 x, .int .u64 18] w fun e w' => e = .returned (.int .u32 (rotI x 18)) ∧ w' = w) := fun w => turn_any x 18 (by unfold isTurn; omega) b15 b15' w
      have R17 : Hid (∀ w, Calls Tryz.prog 137 #[.int .u32 y, .int .u64 17] w fun e w' => e = .returned (.int .u32 (rotI y 17)) ∧ w' = w) := fun w => turn_any y 17 (by unfold isTurn; omega) b2 b2' w
      have R19 : Hid (∀ w, Calls Tryz.prog 137 #[.int .u32 y, .int .u64 19] w fun e w' => e = .returned (.int .u32 (rotI y 19)) ∧ w' = w) := fun w => turn_any y 19 (by unfold isTurn; omega) b2 b2' w
      go_wp2
      go_quiet (fail)
      clear c15 c2 i15 i2 wk15 wk2
      have HS2 := Lib.hid (show SchR b (w.heap.size + 1 + 1) t (wr.drewN nq) from HSR.out)
      have HB02 := Lib.hid (HB0.out.drewN nq)
      have HB12 := Lib.hid (HB1.out.drewN nq)
      have HBL2 := Lib.hid (below_drewN HBL.out nq)
      have c16' : (wr.drewN nq).cell? ⟨w.heap.size + 1 + 1, k16, none⟩ = some (.int .u32 u) := c16
      have c7' : (wr.drewN nq).cell? ⟨w.heap.size + 1 + 1, k7, none⟩ = some (.int .u32 v) := c7
      clear c16 c7 HSR HB0 HB1 HBL
      generalize wr.drewN nq = W2 at HS2 HB02 HB12 HBL2 c16' c7' ⊢
      obtain ⟨S0, hS0⟩ : ∃ z, z = s0I x := ⟨_, rfl⟩
      obtain ⟨S1, hS1⟩ : ∃ z, z = s1I y := ⟨_, rfl⟩
      obtain ⟨P1, hP1⟩ : ∃ z, z = (u + S0) % 4294967296 := ⟨_, rfl⟩
      obtain ⟨P2, hP2⟩ : ∃ z, z = (P1 + v) % 4294967296 := ⟨_, rfl⟩
      obtain ⟨P3, hP3⟩ : ∃ z, z = (P2 + S1) % 4294967296 := ⟨_, rfl⟩
      have hvs : P3 = stepW b (schedN b t) t := by rw [HST.out, hP3, hP2, hP1, hS0, hS1]
      have wp1 : IntKind.u32.wrap (u + S0) = P1 := by rw [IntKind.wrap_u32, hP1]
      have wp2 : IntKind.u32.wrap (P1 + v) = P2 := by rw [IntKind.wrap_u32, hP2]
      have wp3 : IntKind.u32.wrap (P2 + S1) = P3 := by rw [IntKind.wrap_u32, hP3]
      have hS0' : bits .xor .u32 (bits .xor .u32 (rotI x 7) (rotI x 18)) (x / 8) = S0 := hS0.symm
      have hS1' : bits .xor .u32 (bits .xor .u32 (rotI y 17) (rotI y 19)) (y / 1024) = S1 := hS1.symm
      have hhere := HS2.out.here (by omega)
      have HN := Lib.hid (HS2.out.drew.word (by omega) hvs)
      obtain ⟨hh1, hh2⟩ := hhere
      have ht0 : (0 : Int) ≤ (t : Int) := by omega
      have HB0n := Lib.hid (HB02.out.far (p := ⟨w.heap.size + 1 + 1, t, none⟩) (by simp; omega) (.int .u32 P3))
      have HB1n := Lib.hid (HB12.out.far (p := ⟨w.heap.size + 1 + 1, t, none⟩) (by simp) (.int .u32 P3))
      have HBLn := Lib.hid ((below_drewN HBL2.out 1).setCell (p := ⟨w.heap.size + 1 + 1, t, none⟩) (by simp; omega) (.int .u32 P3))
      clear hP1 hP2 hP3 hS0 hS1 HS2 HB02 HB12 HBL2 hvs HST
      go_wp2
      refine wp_region_still_tail 28 (by kernel_rfl) (by kernel_rfl) ?_
      simp only [List.take_succ_cons, List.take_zero, List.drop_succ_cons, List.drop_zero]
      repeat (with_reducible refine wpStill_step (fun K hK => ?_); go_simp; with_reducible refine hK _ ?_; clear hK K)
      with_reducible refine wpStill_step (fun K hK => ?_)
      go_simp
      refine ⟨_, (R7.out _).mono (fun _ _ ⟨a, b⟩ => ⟨a, b⟩), hK _ ?_⟩
      clear hK K
      repeat (with_reducible refine wpStill_step (fun K hK => ?_); go_simp; with_reducible refine hK _ ?_; clear hK K)
      with_reducible refine wpStill_step (fun K hK => ?_)
      go_simp
      refine ⟨_, (R18.out _).mono (fun _ _ ⟨a, b⟩ => ⟨a, b⟩), hK _ ?_⟩
      clear hK K
      repeat (with_reducible refine wpStill_step (fun K hK => ?_); go_simp; with_reducible refine hK _ ?_; clear hK K)
      with_reducible refine wpStill_step (fun K hK => ?_)
      go_simp
      refine ⟨_, (R17.out _).mono (fun _ _ ⟨a, b⟩ => ⟨a, b⟩), hK _ ?_⟩
      clear hK K
      repeat (with_reducible refine wpStill_step (fun K hK => ?_); go_simp; with_reducible refine hK _ ?_; clear hK K)
      with_reducible refine wpStill_step (fun K hK => ?_)
      go_simp
      refine ⟨_, (R19.out _).mono (fun _ _ ⟨a, b⟩ => ⟨a, b⟩), hK _ ?_⟩
      clear hK K
      repeat (with_reducible refine wpStill_step (fun K hK => ?_); go_simp; with_reducible refine hK _ ?_; clear hK K)
      with_reducible refine wpStill_nil ?_
      change wpList _ _ _ _ _ (World.drew _)
      go_wp2
      go_roundw
      case rel => exact ⟨t + 1, by omega, by go_num, HN, HB0n, HB1n, HBLn⟩
      case measure => simp [intOf]; omega
    · subst heq
      rw [show ((64 : Nat) : Int) = 64 from rfl]
      have h1 : decide ((64 : Int) < 64) = false := by decide
      obtain ⟨q0, q1, q2, q3, q4, q5, q6, q7⟩ := st_cells HB0.out
      have hBn := Blk.new wr 141 (stV s)
      have HBn := Lib.hid hBn
      have HB0n := Lib.hid (HB0.out.alloc (.cells (stV s) 141))
      have HB1n := Lib.hid (HB1.out.alloc (.cells (stV s) 141))
      have HSRn : Hid (SchR b (w.heap.size + 1 + 1) 64 (wr.alloc (.cells (stV s) 141))) := by
        obtain ⟨cs, k1, k2⟩ := HSR.out
        exact ⟨cs, k1.alloc _, k2⟩
      have HBLn := Lib.hid (HBL.out.alloc HBL.out.size (.cells (stV s) 141))
      have hlt2 : w.heap.size + 1 + 1 < wr.heap.size := by obtain ⟨cs, k1, k2⟩ := HSR.out; exact k1.lt
      clear hBn HB0 HB1 HSR HBL
      unfold stV at HBn HB0n HB1n HSRn HBLn
      go_wp2
      obtain ⟨g, hg⟩ : ∃ g, g = wr.heap.size := ⟨_, rfl⟩
      rw [← hg] at HBn hlt2 ⊢
      clear hg q0 q1 q2 q3 q4 q5 q6 q7
      generalize wr.alloc _ = wa at HBn HB0n HB1n HSRn HBLn ⊢
      go_loopw [10, 11, 12] (fun i _ _ wr => ∃ (t : Nat) (S : St), t ≤ 64 ∧ i = .int .i64 t ∧ Hid (S = roundsN s (schedN b 64) t) ∧ Hid S.isW ∧ Hid (Blk wr g 141 (stV S)) ∧ Hid (SchR b (w.heap.size + 1 + 1) 64 wr) ∧ Hid (Blk wr w.heap.size 141 (stV s)) ∧ Hid (Blk wr (w.heap.size + 1) 141 #[.int .u32 0, .int .u32 0, .int .u32 0, .int .u32 0, .int .u32 0, .int .u32 0, .int .u32 0, .int .u32 0]) ∧ Hid (Below w.heap.size w wr)) (fun i _ _ _ => 64 - (intOf i).toNat)
      case atStart => exact ⟨0, s, Nat.zero_le _, rfl, Lib.hid rfl, Lib.hid hs, HBn, HSRn, HB0n, HB1n, HBLn⟩
      case round =>
        obtain ⟨t, S, ht, rfl, HSt, HSw, HG, HSR, HB0, HB1, HBL⟩ := hrel
        clear HBn HSRn HB0n HB1n HBLn
        rcases (by omega : t < 64 ∨ t = 64) with hlt | heq
        · have hti : decide ((t : Int) < 64) = true := by rw [decide_eq_true_iff]; omega
          have hti1 : (t : Int) < 64 := by omega
          have hti0 : (0 : Int) ≤ (t : Int) := by omega
          have wti : IntKind.i64.wrap (t : Int) = (t : Int) := IntWalk.i64_in _ (by omega)
          obtain ⟨⟨a0, a1⟩, ⟨b0, b1⟩, ⟨c0, c1⟩, ⟨d0, d1⟩, ⟨e0, e1⟩, ⟨f0, f1⟩, ⟨g0, g1⟩, ⟨h0, h1⟩⟩ := HSw.out
          obtain ⟨KT, hKT⟩ : ∃ K, K = kL.getD t 0 := ⟨_, rfl⟩
          obtain ⟨WT, hWT⟩ : ∃ K, K = (schedN b 64).getD t 0 := ⟨_, rfl⟩
          have bWT : 0 ≤ WT ∧ WT < 4294967296 := by rw [hWT]; exact getD_bd (schedN_bd b 64) t
          have bKT : 0 ≤ KT ∧ KT < 4294967296 := by rw [hKT]; exact getD_bd kL_isW t
          have HN : Hid (roundsN s (schedN b 64) (t + 1) = roundI S KT WT) := by show _ = _; rw [hKT, hWT, HSt.out]; rfl
          have HNW : Hid (roundI S KT WT).isW := roundI_isW S KT WT HSw.out
          have RK : Hid (∀ w, Calls Tryz.prog 138 #[.int .i64 (t : Int)] w fun r w' => r = .returned (.int .u32 KT) ∧ Below w.heap.size w w') := fun w => by rw [hKT]; exact round_any t hlt w
          have HWT := Lib.hid hWT
          clear hKT hWT HSw HSt
          obtain ⟨bWT0, bWT1⟩ := bWT
          obtain ⟨bKT0, bKT1⟩ := bKT
          obtain ⟨xa, xb, xc, xd, xe, xf, xg, xh⟩ := S
          dsimp only at a0 a1 b0 b1 c0 c1 d0 d1 e0 e1 f0 f1 g0 g1 h0 h1 ⊢
          have R6 : Hid (∀ w, Calls Tryz.prog 137 #[.int .u32 xe, .int .u64 6] w fun r w' => r = .returned (.int .u32 (rotI xe 6)) ∧ w' = w) := fun w => turn_any xe 6 (by unfold isTurn; omega) e0 e1 w
          have R11 : Hid (∀ w, Calls Tryz.prog 137 #[.int .u32 xe, .int .u64 11] w fun r w' => r = .returned (.int .u32 (rotI xe 11)) ∧ w' = w) := fun w => turn_any xe 11 (by unfold isTurn; omega) e0 e1 w
          have R25 : Hid (∀ w, Calls Tryz.prog 137 #[.int .u32 xe, .int .u64 25] w fun r w' => r = .returned (.int .u32 (rotI xe 25)) ∧ w' = w) := fun w => turn_any xe 25 (by unfold isTurn; omega) e0 e1 w
          have R2 : Hid (∀ w, Calls Tryz.prog 137 #[.int .u32 xa, .int .u64 2] w fun r w' => r = .returned (.int .u32 (rotI xa 2)) ∧ w' = w) := fun w => turn_any xa 2 (by unfold isTurn; omega) a0 a1 w
          have R13 : Hid (∀ w, Calls Tryz.prog 137 #[.int .u32 xa, .int .u64 13] w fun r w' => r = .returned (.int .u32 (rotI xa 13)) ∧ w' = w) := fun w => turn_any xa 13 (by unfold isTurn; omega) a0 a1 w
          have R22 : Hid (∀ w, Calls Tryz.prog 137 #[.int .u32 xa, .int .u64 22] w fun r w' => r = .returned (.int .u32 (rotI xa 22)) ∧ w' = w) := fun w => turn_any xa 22 (by unfold isTurn; omega) a0 a1 w
          obtain ⟨E1, hE1⟩ : ∃ z, z = big1 xe := ⟨_, rfl⟩
          obtain ⟨Q1, hQ1⟩ : ∃ z, z = add32 xh E1 := ⟨_, rfl⟩
          obtain ⟨CH, hCH⟩ : ∃ z, z = chI xe xf xg := ⟨_, rfl⟩
          obtain ⟨Q2, hQ2⟩ : ∃ z, z = add32 Q1 CH := ⟨_, rfl⟩
          obtain ⟨Q3, hQ3⟩ : ∃ z, z = add32 Q2 KT := ⟨_, rfl⟩
          obtain ⟨T1, hT1⟩ : ∃ z, z = add32 Q3 WT := ⟨_, rfl⟩
          obtain ⟨A0, hA0⟩ : ∃ z, z = big0 xa := ⟨_, rfl⟩
          obtain ⟨MJ, hMJ⟩ : ∃ z, z = majI xa xb xc := ⟨_, rfl⟩
          obtain ⟨T2, hT2⟩ : ∃ z, z = add32 A0 MJ := ⟨_, rfl⟩
          obtain ⟨NA, hNA⟩ : ∃ z, z = add32 T1 T2 := ⟨_, rfl⟩
          obtain ⟨NE, hNE⟩ : ∃ z, z = add32 xd T1 := ⟨_, rfl⟩
          have hR : roundI ⟨xa, xb, xc, xd, xe, xf, xg, xh⟩ KT WT = ⟨NA, xa, xb, xc, NE, xe, xf, xg⟩ := by
            rw [hNA, hNE, hT2, hMJ, hA0, hT1, hQ3, hQ2, hCH, hQ1, hE1]; rfl
          have HN2 : Hid ((⟨NA, xa, xb, xc, NE, xe, xf, xg⟩ : St) = roundsN s (schedN b 64) (t + 1)) := by show _ = _; rw [HN.out, hR]
          have HNW2 : Hid (St.isW ⟨NA, xa, xb, xc, NE, xe, xf, xg⟩) := by have := HNW.out; rw [hR] at this; exact this
          have wE1 : bits .xor .u32 (bits .xor .u32 (rotI xe 6) (rotI xe 11)) (rotI xe 25) = E1 := hE1.symm
          have wQ1 : IntKind.u32.wrap (xh + E1) = Q1 := by rw [IntKind.wrap_u32, hQ1]; rfl
          have wCH : bits .xor .u32 (bits .and .u32 xe xf) (bits .and .u32 (bits .xor .u32 (if IntKind.u32.signed = true then -1 else IntKind.u32.max) xe) xg) = CH := hCH.symm
          have wCH2 : bits .xor .u32 (bits .and .u32 xe xf) (bits .and .u32 (bits .xor .u32 4294967295 xe) xg) = CH := hCH.symm
          have wQ2 : IntKind.u32.wrap (Q1 + CH) = Q2 := by rw [IntKind.wrap_u32, hQ2]; rfl
          have wQ3 : IntKind.u32.wrap (Q2 + KT) = Q3 := by rw [IntKind.wrap_u32, hQ3]; rfl
          have wT1 : IntKind.u32.wrap (Q3 + WT) = T1 := by rw [IntKind.wrap_u32, hT1]; rfl
          have WA0 := Lib.hid hA0
          have WMJ := Lib.hid hMJ
          have WT2 := Lib.hid hT2
          have WNA := Lib.hid hNA
          have WNE := Lib.hid hNE
          clear hR hE1 hQ1 hCH hQ2 hQ3 hT1 HN HNW hA0 hMJ hT2 hNA hNE
          go_wp2
          go_region_held3 (fun w' => w'.cell? ⟨g, 4, none⟩ = some (.int .u32 xe) ∧ w'.cell? ⟨g, 5, none⟩ = some (.int .u32 xf) ∧ w'.cell? ⟨g, 6, none⟩ = some (.int .u32 xg) ∧ w'.cell? ⟨g, 7, none⟩ = some (.int .u32 xh) ∧ w'.cell? ⟨w.heap.size + 1 + 1, t, none⟩ = some (.int .u32 WT))
            (first | exact refS HG.out.drew HSR.out.drew hlt HWT.out | exact refS (HG.out.drew.below hb5 HG.out.lt) (HSR.out.drew.below hb5) hlt HWT.out | go_keep)
            (first | (go_at_call 137; (with_reducible refine (R6.out _).mono ?_); rintro r w' ⟨rfl, rfl⟩)
                   | (go_at_call 137; (with_reducible refine (R11.out _).mono ?_); rintro r w' ⟨rfl, rfl⟩)
                   | (go_at_call 137; (with_reducible refine (R25.out _).mono ?_); rintro r w' ⟨rfl, rfl⟩)
                   | (go_at_call 138; (with_reducible refine (RK.out _).mono ?_); rintro r w5 ⟨rfl, hb5⟩))
          clear wE1 wQ1 wCH wCH2 wQ2 wQ3 wT1
          have HG5 := HG.out.drew.below hb5 HG.out.lt
          have HSR5 := Lib.hid (HSR.out.drew.below hb5)
          have HB05 := Lib.hid (HB0.out.drew.below hb5 HB0.out.lt)
          have HB15 := Lib.hid (HB1.out.drew.below hb5 HB1.out.lt)
          have HBL5 := Lib.hid ((below_drewN HBL.out 1).trans (hb5.mono HBL.out.size))
          obtain ⟨q0, q1, q2, q3, q4, q5, q6, q7⟩ := st_cells HG5
          have HG5h := Lib.hid HG5
          have wA0 : bits .xor .u32 (bits .xor .u32 (rotI xa 2) (rotI xa 13)) (rotI xa 22) = A0 := WA0.out.symm
          have wMJ : bits .xor .u32 (bits .xor .u32 (bits .and .u32 xa xb) (bits .and .u32 xa xc)) (bits .and .u32 xb xc) = MJ := WMJ.out.symm
          have wT2 : IntKind.u32.wrap (A0 + MJ) = T2 := by rw [IntKind.wrap_u32, WT2.out]; rfl
          clear HG HSR HB0 HB1 HBL hb5 HG5
          go_wp2
          go_region_held3 (fun w' => w'.cell? ⟨g, 0, none⟩ = some (.int .u32 xa) ∧ w'.cell? ⟨g, 1, none⟩ = some (.int .u32 xb) ∧ w'.cell? ⟨g, 2, none⟩ = some (.int .u32 xc))
            (exact refS2 HG5h.out.drew)
            (first | (go_at_call 137; (with_reducible refine (R2.out _).mono ?_); rintro r w' ⟨rfl, rfl⟩)
                   | (go_at_call 137; (with_reducible refine (R13.out _).mono ?_); rintro r w' ⟨rfl, rfl⟩)
                   | (go_at_call 137; (with_reducible refine (R22.out _).mono ?_); rintro r w' ⟨rfl, rfl⟩))
          clear wA0 wMJ wT2
          have HGq := HG5h.out.drew
          have HSRq := Lib.hid HSR5.out.drew
          have HB0q := Lib.hid HB05.out.drew
          have HB1q := Lib.hid HB15.out.drew
          have HBLq : Hid (Below w.heap.size w w5.drew) := Lib.hid (below_drewN HBL5.out 1)
          clear q0 q1 q2 q3 q4 q5 q6 q7 HG5h HSR5 HB05 HB15 HBL5
          generalize w5.drew = w6 at HGq HSRq HB0q HB1q HBLq ⊢
          obtain ⟨q0, q1, q2, q3, q4, q5, q6, q7⟩ := st_cells HGq
          have f0 := HGq.frozen 0
          have f1' := HGq.frozen 1
          have f2 := HGq.frozen 2
          have f3 := HGq.frozen 3
          have f4 := HGq.frozen 4
          have f5 := HGq.frozen 5
          have f6 := HGq.frozen 6
          have f7 := HGq.frozen 7
          have wNA : (T1 + T2) % 4294967296 = NA := WNA.out.symm
          have wNE : (xd + T1) % 4294967296 = NE := WNE.out.symm
          have hgH : w.heap.size + 1 + 1 < g := hlt2
          have hFr : Fr (· = g) w6 ((((((((w6.setCell ⟨g, 0, none⟩ (.int .u32 NA)).setCell ⟨g, 1, none⟩ (.int .u32 xa)).setCell ⟨g, 2, none⟩ (.int .u32 xb)).setCell ⟨g, 3, none⟩ (.int .u32 xc)).setCell ⟨g, 4, none⟩ (.int .u32 NE)).setCell ⟨g, 5, none⟩ (.int .u32 xe)).setCell ⟨g, 6, none⟩ (.int .u32 xf)).setCell ⟨g, 7, none⟩ (.int .u32 xg)) :=
            ((((((((Fr.refl (· = g) w6).setCell (fun _ => rfl) _).setCell (fun _ => rfl) _).setCell (fun _ => rfl) _).setCell (fun _ => rfl) _).setCell (fun _ => rfl) _).setCell (fun _ => rfl) _).setCell (fun _ => rfl) _).setCell (fun _ => rfl) _
          have HGn := Lib.hid (Blk.setSt (t := ⟨NA, xa, xb, xc, NE, xe, xf, xg⟩) HGq)
          have HSRn := Lib.hid (HSRq.out.fr hFr (by omega))
          have HB0n := Lib.hid (HB0q.out.fr hFr (by omega))
          have HB1n := Lib.hid (HB1q.out.fr hFr (by omega))
          have HBLn := Lib.hid (Fr.below_trans HBLq.out hFr HBLq.out.size (fun k hk => by omega))
          clear hFr HGq HSRq HB0q HB1q HBLq hgH WNA WNE WT2 WMJ WA0
          go_wp2
          go_roundw
          case rel => exact ⟨t + 1, ⟨NA, xa, xb, xc, NE, xe, xf, xg⟩, by omega, by go_num, HN2, HNW2, HGn, HSRn, HB0n, HB1n, HBLn⟩
          case measure => simp [intOf]; omega
        · subst heq
          rw [show ((64 : Nat) : Int) = 64 from rfl]
          have h1 : decide ((64 : Int) < 64) = false := by decide
          have HG0 : Hid (Blk wr g 141 (midR s S 0)) := by show Blk _ _ _ _; rw [midR_zero]; exact HG.out
          have hgH : w.heap.size + 1 + 1 < g := hlt2
          have HSs := Lib.hid hs
          clear HG HSR hs hlt2
          go_wp2
          go_loopw [13] (fun i wr => ∃ t : Nat, t ≤ 8 ∧ i = .int .i64 t ∧ Hid (Blk wr g 141 (midR s S t)) ∧ Hid (Blk wr w.heap.size 141 (stV s)) ∧ Hid (Blk wr (w.heap.size + 1) 141 #[.int .u32 0, .int .u32 0, .int .u32 0, .int .u32 0, .int .u32 0, .int .u32 0, .int .u32 0, .int .u32 0]) ∧ Hid (Below w.heap.size w wr)) (fun i _ => 8 - (intOf i).toNat)
          case atStart => exact ⟨0, Nat.zero_le _, rfl, HG0, HB0, HB1, HBL⟩
          case round =>
            obtain ⟨j, hj, rfl, HM, HB0, HZ, HB⟩ := hrel
            clear HG0 HB1 HBL
            rcases (by omega : j < 8 ∨ j = 8) with hlt | heq
            · have hji : decide ((j : Int) < 8) = true := by rw [decide_eq_true_iff]; omega
              have hj1 : (j : Int) < 8 := by omega
              have hj0 : (0 : Int) ≤ (j : Int) := by omega
              have wj : IntKind.i64.wrap (j : Int) = (j : Int) := IntWalk.i64_in _ (by omega)
              have hcell := HM.out.cell j
              rw [midR_at s S j hlt] at hcell
              have hcell2 := HB0.out.cell j
              rw [stV_at s j hlt] at hcell2
              have hfr := HM.out.frozen j
              have HN := Lib.hid ((HM.out.drew).set_ j (.int .u32 (add32 ((stL S).getD j 0) ((stL s).getD j 0))))
              rw [midR_set s S j hlt] at HN
              have HZn := Lib.hid (HZ.out.drew.far (p := ⟨g, j, none⟩) (by simp; omega) (.int .u32 (add32 ((stL S).getD j 0) ((stL s).getD j 0))))
              have HB0n := Lib.hid (HB0.out.drew.far (p := ⟨g, j, none⟩) (by simp; omega) (.int .u32 (add32 ((stL S).getD j 0) ((stL s).getD j 0))))
              have HBn := Lib.hid ((below_drewN HB.out 1).setCell (p := ⟨g, j, none⟩) (by simp; omega) (.int .u32 (add32 ((stL S).getD j 0) ((stL s).getD j 0))))
              obtain ⟨x, hx⟩ : ∃ x, x = (stL s).getD j 0 := ⟨_, rfl⟩
              obtain ⟨y, hy⟩ : ∃ x, x = (stL S).getD j 0 := ⟨_, rfl⟩
              rw [← hx] at hcell2 HN HZn HBn HB0n
              rw [← hy] at hcell HN HZn HBn HB0n
              have hbx := stL_bd s HSs.out j
              have hby := stL_bd S HSw.out j
              rw [← hx] at hbx
              rw [← hy] at hby
              obtain ⟨x0, x1⟩ := hbx
              obtain ⟨y0, y1⟩ := hby
              clear hx hy
              obtain ⟨z, hz⟩ : ∃ z, z = add32 y x := ⟨_, rfl⟩
              rw [← hz] at HN HZn HBn HB0n
              have hz' : (y + x) % 4294967296 = z := hz.symm
              have hz'' : IntKind.u32.wrap (y + x) = z := by rw [IntKind.wrap_u32]; exact hz'
              clear hz HM HZ HB HB0
              go_wp2
              refine wp_region_still_tail 8 (by kernel_rfl) (by kernel_rfl) ?_
              simp only [List.take_succ_cons, List.take_zero, List.drop_succ_cons, List.drop_zero]
              repeat (with_reducible refine wpStill_step (fun K hK => ?_); go_simp; with_reducible refine hK _ ?_; clear hK K)
              with_reducible refine wpStill_nil ?_
              change wpList _ _ _ _ _ (World.drew _)
              go_wp2
              go_roundw
              case rel => exact ⟨j + 1, by omega, by go_num, HN, HB0n, HZn, HBn⟩
              case measure => simp [intOf]; omega
            · subst heq
              rw [show ((8 : Nat) : Int) = 8 from rfl]
              have h88 : decide ((8 : Int) < 8) = false := by decide
              have HE : Hid (midR s S 8 = stV (blockI s b)) := by
                have := midR_eight s b
                rw [← HSt.out] at this
                exact this
              have HI : Hid ((Tryz.prog.info? 141).map (·.size) = some (midR s S 8).size) := by show _ = _; kernel_rfl
              have HO : Hid ((midR s S 8).all (·.oneCell') = true) := by show _ = _; simp [midR, Value.oneCell']
              have HS0 : Hid ((#[.int .u32 0, .int .u32 0, .int .u32 0, .int .u32 0, .int .u32 0, .int .u32 0, .int .u32 0, .int .u32 0] : Array Value).size = (midR s S 8).size) := by show _ = _; rfl
              generalize midR s S 8 = V at HM HE HI HO HS0 ⊢
              have HBz : Hid (Below w.heap.size w (wr.setRow (w.heap.size + 1) V)) := below_setRow HB.out (by omega)
              have HGz := Lib.hid (setRow_at HZ.out V)
              clear HSt HSw
              go_wp2_with (first
                | (refine wpList_load_row rfl 141 _ rfl g rfl 141 V (0, 0) _ HM.out Tryz.underlying141 rfl HI.out ?_)
                | (refine wpList_store_row rfl 141 _ _ rfl (w.heap.size + 1) V rfl rfl 141 _ HZ.out HI.out HS0.out HO.out ?_))
              exact bodyPost_ret (v := .agg V) (results_cell_row (fn := Tryz.f103) rfl _ _ (w.heap.size + 1) 141 V (0, 0) _ rfl HGz.out Tryz.underlying141 rfl HI.out) rfl ⟨by rw [HE.out]; rfl, HBz.out⟩
end Go.Proofs.YtefkpphahimkgaaGreatDoor

namespace Go.Proofs.YtefkpphahimkgaaGreatDoor
open Go.RowKit
set_option linter.unusedVariables false

theorem emptyOB (w : World) (B : Nat) (hB : B ≤ w.heap.size) : OB (w.alloc (.cells #[] 5)) B (.slice (some ⟨w.heap.size, 0, none⟩) 0 0) [] := emptyRow w B hB
set_option maxRecDepth 100000 in
set_option maxHeartbeats 4000000 in
theorem first_any (w : World) : Calls Tryz.prog 102 #[] w fun e w' => e = .returned (.agg (stV startS)) ∧ Below w.heap.size w w' := by
  go_enter Tryz.func102, Tryz.ntmps102
  go_wp2
  refine bodyPost_ret (v := .agg (stV startS)) (by simp [results, Tryz.results102, go_sem]; rfl) rfl ⟨rfl, ?_⟩
  exact (Below.refl _ _).alloc (Nat.le_refl _) _
theorem noBy_st (s : St) (k : Nat) (x : Int) : (stV s)[k]? ≠ some (.int .u8 x) := by
  unfold stV
  rcases (by omega : k = 0 ∨ k = 1 ∨ k = 2 ∨ k = 3 ∨ k = 4 ∨ k = 5 ∨ k = 6 ∨ k = 7 ∨ 8 ≤ k) with rfl | rfl | rfl | rfl | rfl | rfl | rfl | rfl | h
  all_goals first | (intro h; cases h) | (rw [Array.getElem?_eq_none (by simpa using h)]; intro h; cases h)
theorem pad_stop (n z : Nat) (hz : z ≤ padZ n) : (n + 1 + z) % 64 = 56 ↔ z = padZ n := by
  unfold padZ at *; omega
set_option maxRecDepth 100000 in
set_option maxHeartbeats 4000000 in
theorem refOf_any (A : Option Addr) (n c : Nat) (T : List UInt8) (w : World) (hr : RB w A T) (hn : T.length = n) (hz : n ≤ 35184372088832) :
    Calls Tryz.prog 55 #[.slice A n c] w fun e w' => e = .returned (.agg (Lib.byteCells (shaL T)).toArray) ∧ Below w.heap.size w w' := by
  obtain ⟨Z, hZ⟩ : ∃ Z, Z = outV startS 0 := ⟨_, rfl⟩
  have hZ0 := hZ.trans (outV_zero _)
  obtain ⟨W1, hW1⟩ : ∃ W1, W1 = w.alloc (.cells #[.int .u8 0, .int .u8 0, .int .u8 0, .int .u8 0, .int .u8 0, .int .u8 0, .int .u8 0, .int .u8 0, .int .u8 0, .int .u8 0, .int .u8 0, .int .u8 0, .int .u8 0, .int .u8 0, .int .u8 0, .int .u8 0, .int .u8 0, .int .u8 0, .int .u8 0, .int .u8 0, .int .u8 0, .int .u8 0, .int .u8 0, .int .u8 0, .int .u8 0, .int .u8 0, .int .u8 0, .int .u8 0, .int .u8 0, .int .u8 0, .int .u8 0, .int .u8 0] 87) := ⟨_, rfl⟩
  have hB0 : Blk W1 w.heap.size 87 Z := by rw [hW1, hZ0]; exact Blk.new _ _ _
  have hbel1 : Below w.heap.size w W1 := by rw [hW1]; exact (Below.refl _ _).alloc (Nat.le_refl _) _
  have HB0 := Lib.hid hB0
  have HBL := Lib.hid hbel1
  have HZs : Hid (Z.size = 32) := by show _ = _; rw [hZ, outV_size]
  have HN := Lib.hid hn
  have HR := Lib.hid (hr.below hbel1)
  have hsz1 : W1.heap.size = w.heap.size + 1 := by rw [hW1]; simp
  have HSZ := Lib.hid hsz1
  have hE1 : OB (W1.alloc (.cells #[] 5)) (w.heap.size + 1) (.slice (some ⟨w.heap.size + 1, 0, none⟩) 0 0) [] := by
    have := emptyOB W1 (w.heap.size + 1) (by omega)
    rw [hsz1] at this
    exact this
  have HE1 := Lib.hid hE1
  have HRA := Lib.hid (HR.out.below ((Below.refl _ _).alloc (Nat.le_refl _) (.cells #[] 5)))
  clear hZ hZ0 hB0 hbel1 hn hr hsz1 hE1
  subst hW1
  go_enter Tryz.func55, Tryz.ntmps55
  go_wp2_with (first
    | (at_builtin; refine app_bytes _ rfl (.tmp 10) (.tmp 11) rfl (w.heap.size + 1) _ [] rfl HE1.out A n c T rfl HN.out HRA.out (by simp; omega) (by simp) ?_; intro v1 w1 ho1 hg1 _; have HO1 := Lib.hid ho1; have HG1 := Lib.hid hg1; clear ho1 hg1)
    | (at_builtin; refine app_one _ rfl (.tmp 12) (.tmp 13) rfl (w.heap.size + 1) _ _ rfl HO1.out 128 _ rfl rfl (by have := HN.out; simp; omega) (by have := HG1.out.size; simp at this; omega) ?_; intro v2 w2 ho2 hg2 _; have HO2 := Lib.hid ho2; have HG2 := Lib.hid hg2; clear ho2 hg2))
  obtain ⟨W0, hW0⟩ : ∃ W0, W0 = w.alloc (.cells #[.int .u8 0, .int .u8 0, .int .u8 0, .int .u8 0, .int .u8 0, .int .u8 0, .int .u8 0, .int .u8 0, .int .u8 0, .int .u8 0, .int .u8 0, .int .u8 0, .int .u8 0, .int .u8 0, .int .u8 0, .int .u8 0, .int .u8 0, .int .u8 0, .int .u8 0, .int .u8 0, .int .u8 0, .int .u8 0, .int .u8 0, .int .u8 0, .int .u8 0, .int .u8 0, .int .u8 0, .int .u8 0, .int .u8 0, .int .u8 0, .int .u8 0, .int .u8 0] 87) := ⟨_, rfl⟩
  rw [← hW0] at HB0 HBL HSZ HG1
  have b1 : Below (w.heap.size + 1) W0 w1 := ((Below.refl (w.heap.size + 1) W0).alloc (by rw [HSZ.out]; exact Nat.le_refl _) _).grown HG1.out (by have := HSZ.out; simp; omega) (by intro k hk; cases hk; exact Nat.le_refl _)
  have b2 : Below (w.heap.size + 1) W0 w2 := (b1.alloc (by have := b1.size; have := HSZ.out; omega) _).grown HG2.out (by have := b1.size; have := HSZ.out; simp; omega) (by intro k hk; exact HO1.out.grown_ge k hk)
  have HO20 : Hid (OB w2 (w.heap.size + 1) v2 (T ++ [128] ++ List.replicate 0 0)) := by show OB _ _ _ _; simpa using HO2.out
  have B2 := Lib.hid b2
  clear hW0 HG1 HG2 HO1 HO2 HE1 HR HRA b1 b2 
  go_loopw [3] (fun v wr => ∃ z, z ≤ padZ n ∧ Hid (OB wr (w.heap.size + 1) v (T ++ [128] ++ List.replicate z 0)) ∧ Hid (Below (w.heap.size + 1) W0 wr)) (fun v _ => n + 1 + padZ n - sliceLen v)
  case atStart => exact ⟨0, Nat.zero_le _, HO20, B2⟩
  case round =>
    obtain ⟨z, hzp, HO, HB⟩ := hrel
    clear HO20 B2
    obtain ⟨A', c', rfl, hlc, hcm, hrr, _⟩ := HO.out.shape
    have hlen : (T ++ [128] ++ List.replicate z 0).length = n + 1 + z := by have := HN.out; simp; omega
    have hps := pad_stop n z hzp
    have hpz : padZ n < 64 := by unfold padZ; omega
    obtain ⟨q, hq⟩ : ∃ q, q = n + 1 + z := ⟨_, rfl⟩
    rw [hlen, ← hq] at hlc HO ⊢
    rw [← hq] at hps
    have HLEN : Hid ((T ++ [128] ++ List.replicate z 0).length = q) := hlen.trans hq.symm
    have HRR := Lib.hid hrr
    have hqb : q ≤ 35184372088832 + 100 := by omega
    unfold maxLen at hcm
    have hszW := HB.out.size
    rw [HSZ.out] at hszW
    by_cases hstop : q % 64 = 56
    · have ne1 : ((q : Int) % 64 != 56) = false := by rw [bne_eq_false_iff_eq]; omega
      have ne2 : ((q : Int) % 64 == 56) = true := by rw [beq_iff_eq]; omega
      have hzz := hps.1 hstop
      have HQ : Hid (q + 8 = (T ++ padL n).length ∧ q ≤ 35184372088832 + 100) := ⟨by unfold padL; rw [← hzz]; have := HN.out; simp [beBytes_length]; omega, hqb⟩
      have HT : Hid (T ++ [128] ++ List.replicate z 0 ++ beBytes (8 * n) 8 = T ++ padL n) := by show _ = _; unfold padL; rw [← hzz]; simp
      clear hps hstop hq hzz hlen
      have h8 : (8 : Int) * (n : Int) = ((8 * n : Nat) : Int) := by push_cast; rfl
      have H8 := Lib.hid h8
      clear h8
      go_wp2_with fail
      rw [H8.out]
      refine (refPut_any (8 * n) 8 _ (by omega) (by omega) (by omega)).mono ?_
      rintro e w3 hpost
      have hpt : OB w3 (w.heap.size + 1) (.slice A' q c') (T ++ [128] ++ List.replicate z 0) ∧ ∃ pv, e = .returned (.tuple #[pv, .bool true]) ∧ OB w3 wr.heap.size pv (beBytes (8 * n) 8) ∧ Below wr.heap.size wr w3 := by
        rcases hpost with ⟨_, pv, he, hpv, hb3⟩ | ⟨hne, _⟩
        · exact ⟨HO.out.below hb3, pv, he, hpv, hb3⟩
        · exfalso; apply hne; apply Nat.div_eq_of_lt
          have : (256 : Nat) ^ 8 = 18446744073709551616 := by decide
          omega
      clear hpost
      obtain ⟨hO3, pv, rfl, hpv, hb3⟩ := hpt
      obtain ⟨Ap, cp, rfl, hlp, hmp, hrp, _⟩ := hpv.shape
      rw [beBytes_length] at hlp ⊢
      have HO3 := Lib.hid hO3
      have B3 := Lib.hid (HB.out.trans (hb3.mono hszW))
      have HRP := Lib.hid hrp
      have hs3 := B3.out.size
      rw [HSZ.out] at hs3
      clear hO3 hb3 hrp hpv HO HB HRR
      go_wp2_with (first
        | (at_builtin; refine app_bytes _ rfl (.tmp 29) (.tmp 30) rfl (w.heap.size + 1) _ _ rfl HO3.out Ap 8 cp (beBytes (8 * n) 8) rfl (beBytes_length _ _) HRP.out (by have := HQ.out.2; have := HLEN.out; omega) hs3 ?_; intro v4 w4 ho4 hg4 _; have HO4 := Lib.hid ho4; have B4 := Lib.hid (B3.out.grown hg4 hs3 (by intro k hk; exact HO3.out.grown_ge k hk)); clear ho4 hg4)
        | (go_at_call 102; (refine (first_any _).mono ?_); rintro e w5 ⟨rfl, hb5⟩; have HO5 := Lib.hid (HO4.out.below hb5); have B5 := Lib.hid (B4.out.trans (hb5.mono (by have h1 := B4.out.size; have h2 := HSZ.out; omega))); clear hb5; unfold stV))
      rw [HT.out] at HO5
      obtain ⟨Av, cv, rfl, hlv, hmv, hrv, _⟩ := HO5.out.shape
      obtain ⟨m, hm⟩ : ∃ m, m = (T ++ padL n).length := ⟨_, rfl⟩
      rw [← hm] at hlv ⊢
      have hmb : m ≤ 35184372088832 + 200 := by have := HQ.out; omega
      have hm64 : m % 64 = 0 := by rw [hm, List.length_append, HN.out]; exact padL_len n
      obtain ⟨L, hL⟩ : ∃ L, L = T ++ padL n := ⟨_, rfl⟩
      rw [← hL] at hm hrv HO5
      have HSHA : Hid (shaL T = sumL (eatN startS L (L.length / 64))) := by show _ = _; rw [hL, ← HN.out]; rfl
      have hs5 := B5.out.size
      rw [HSZ.out] at hs5
      have HB5 := Lib.hid ((HBL.out.trans (B5.out.mono (by omega))).alloc (by omega) (.cells (stV startS) 141))
      have HR5 := Lib.hid (hrv.below ((Below.refl w5.heap.size w5).alloc (Nat.le_refl _) (.cells (stV startS) 141)))
      have HZ5 := Lib.hid ((HB0.out.below B5.out (by omega)).alloc (.cells (stV startS) 141))
      have HG5 := Lib.hid (Blk.new w5 141 (stV startS))
      have HM := Lib.hid hm
      clear hL hm hrv HO3 HO4 HO5 B3 B4 B5 HRP HT HQ HLEN HB0 HBL hlp hmp
      unfold stV at HB5 HR5 HZ5
      obtain ⟨g, hg⟩ : ∃ g, g = w5.heap.size := ⟨_, rfl⟩
      rw [← hg] at HG5 hs5 ⊢
      clear hg
      have HG5 : Hid (Blk (w5.alloc (.cells #[.int .u32 startS.a, .int .u32 startS.b, .int .u32 startS.c, .int .u32 startS.d, .int .u32 startS.e, .int .u32 startS.f, .int .u32 startS.g, .int .u32 startS.h] 141)) g 141 (stV startS)) := HG5
      generalize w5.alloc _ = w6 at HB5 HR5 HZ5 HG5 ⊢
      go_loopw [7] (fun i wr => ∃ k : Nat, 64 * k ≤ m ∧ i = .int .i64 ((64 * k : Nat) : Int) ∧ Hid (Blk wr g 141 (stV (eatN startS L k))) ∧ Hid (RB wr Av L) ∧ Hid (Blk wr w.heap.size 87 Z) ∧ Hid (Below w.heap.size w wr)) (fun i _ => m - (intOf i).toNat)
      case atStart => exact ⟨0, Nat.zero_le _, rfl, HG5, HR5, HZ5, HB5⟩
      case round =>
        obtain ⟨k, hk, rfl, HG, HR, HZ, HB⟩ := hrel
        clear HG5 HR5 HZ5 HB5
        rcases (by omega : 64 * k < m ∨ 64 * k = m) with hlt | heq
        · obtain ⟨j, hj⟩ : ∃ j, j = 64 * k := ⟨_, rfl⟩
          have hjm : j + 64 ≤ m := by omega
          have HJ := Lib.hid hj
          rw [← hj]
          have w1' : IntKind.i64.wrap ((j : Int) + 64) = (j : Int) + 64 := IntWalk.i64_in _ (by omega)
          have w2' : IntKind.i64.wrap (j : Int) = (j : Int) := IntWalk.i64_in _ (by omega)
          unfold maxLen at hmv
          have l1 : decide ((j : Int) < (m : Int)) = true := by rw [decide_eq_true_iff]; omega
          have l2 : (j : Int) + 64 ≤ (cv : Int) := by omega
          have l3 : (j : Int) ≤ (j : Int) + 64 := by omega
          have l4 : (0 : Int) ≤ (j : Int) := by omega
          have l5 : (0 : Int) ≤ (j : Int) + 64 := by omega
          have l6 : ¬ cv = j := by omega
          have l7 : ((j : Int) + 64).toNat = j + 64 := by omega
          have l8 : j + 64 - j = 64 := by omega
          obtain ⟨q0, q1, q2, q3, q4, q5, q6, q7⟩ := st_cells HG.out
          obtain ⟨CK, hCK⟩ : ∃ CK, CK = (L.drop (64 * k)).take 64 := ⟨_, rfl⟩
          have hlenC : CK.length = 64 := by rw [hCK, List.length_take, List.length_drop]; have := HM.out; omega
          have hcut := HR.out.drew'.cut (k := j) (cap := cv) (by have := HM.out; omega) (by have := HM.out; omega)
          rw [if_neg l6] at hcut
          have hcut2 := hcut.take (k := 64) (by rw [List.length_drop]; have := HM.out; omega)
          rw [hj, ← hCK, ← hj] at hcut2
          have hsw := eatN_isW startS startS_isW L k
          obtain ⟨S, hS⟩ : ∃ S, S = eatN startS L k := ⟨_, rfl⟩
          rw [← hS] at hsw q0 q1 q2 q3 q4 q5 q6 q7 HG
          obtain ⟨S', hS'⟩ : ∃ S', S' = blockI S CK := ⟨_, rfl⟩
          have HC := refBlock_any S hsw (Option.map (fun x => x.add j) Av) (cv - j) CK wr.drew hcut2 hlenC (by omega) (by omega)
          rw [← hS'] at HC
          unfold stV at HC
          have HCH := Lib.hid HC
          have HNX : Hid (eatN startS L (k + 1) = S') := by show _ = _; rw [hS', hS, hCK]; rfl
          clear hj HC hcut hcut2 hCK hlenC hsw hS hS'
          go_wp2
          go_region_with ((go_at_call 103; refine HCH.out.mono ?_; rintro e w3 ⟨rfl, hb3⟩; have HB3 := (HG.out.drew).below hb3 HG.out.lt; obtain ⟨p0, p1, p2, p3, p4, p5, p6, p7⟩ := st_cells HB3; have f0 := HB3.frozen 0; have f1 := HB3.frozen 1; have f2 := HB3.frozen 2; have f3 := HB3.frozen 3; have f4 := HB3.frozen 4; have f5 := HB3.frozen 5; have f6 := HB3.frozen 6; have f7 := HB3.frozen 7))
          have hFr : Fr (· = g) wr ((((((((w3.setCell ⟨g, 0, none⟩ (.int .u32 S'.a)).setCell ⟨g, 1, none⟩ (.int .u32 S'.b)).setCell ⟨g, 2, none⟩ (.int .u32 S'.c)).setCell ⟨g, 3, none⟩ (.int .u32 S'.d)).setCell ⟨g, 4, none⟩ (.int .u32 S'.e)).setCell ⟨g, 5, none⟩ (.int .u32 S'.f)).setCell ⟨g, 6, none⟩ (.int .u32 S'.g)).setCell ⟨g, 7, none⟩ (.int .u32 S'.h)) :=
            ((((((((((Fr.refl (· = g) wr).drew).below hb3).setCell (fun _ => rfl) _).setCell (fun _ => rfl) _).setCell (fun _ => rfl) _).setCell (fun _ => rfl) _).setCell (fun _ => rfl) _).setCell (fun _ => rfl) _).setCell (fun _ => rfl) _).setCell (fun _ => rfl) _
          have HG4 := Lib.hid (Blk.setSt (t := S') HB3)
          have HB4 := Lib.hid (Fr.below_trans HB.out hFr HB.out.size (fun k hk => by omega))
          have HZ4 := Lib.hid (HZ.out.fr hFr (by omega))
          have HR4 := Lib.hid (HR.out.fr2 hFr (fun k hk _ => hk ▸ NoBy.of_blk HG.out (noBy_st S)))
          clear hFr HB3 p0 p1 p2 p3 p4 p5 p6 p7 f0 f1 f2 f3 f4 f5 f6 f7 hb3 q0 q1 q2 q3 q4 q5 q6 q7 HG HR HZ HB HCH
          generalize ((((((((w3.setCell ⟨g, 0, none⟩ (.int .u32 S'.a)).setCell ⟨g, 1, none⟩ (.int .u32 S'.b)).setCell ⟨g, 2, none⟩ (.int .u32 S'.c)).setCell ⟨g, 3, none⟩ (.int .u32 S'.d)).setCell ⟨g, 4, none⟩ (.int .u32 S'.e)).setCell ⟨g, 5, none⟩ (.int .u32 S'.f)).setCell ⟨g, 6, none⟩ (.int .u32 S'.g)).setCell ⟨g, 7, none⟩ (.int .u32 S'.h)) = W4 at HG4 HB4 HZ4 HR4 ⊢
          rw [← HNX.out] at HG4
          go_wp2
          have hj64 : (j : Int) + 64 = ((64 * (k + 1) : Nat) : Int) := by have := HJ.out; omega
          rw [hj64]
          go_roundw
          case rel => exact ⟨k + 1, by have := HJ.out; omega, rfl, HG4, HR4, HZ4, HB4⟩
          case measure => simp [intOf]; have := HJ.out; omega
        · have l1 : decide (((64 * k : Nat) : Int) < (m : Int)) = false := by rw [decide_eq_false_iff_not]; omega
          have hk64 : L.length / 64 = k := by rw [← HM.out]; omega
          have hsw := eatN_isW startS startS_isW L k
          obtain ⟨SS, hSS⟩ : ∃ S, S = eatN startS L k := ⟨_, rfl⟩
          have HSS : Hid (shaL T = sumL SS) := by show _ = _; rw [HSHA.out, hk64, hSS]
          rw [← hSS] at hsw HG
          have HSW := Lib.hid hsw
          have HO1 : Hid (Blk (wr.alloc (.cells #[.int .u8 0, .int .u8 0, .int .u8 0, .int .u8 0, .int .u8 0, .int .u8 0, .int .u8 0, .int .u8 0, .int .u8 0, .int .u8 0, .int .u8 0, .int .u8 0, .int .u8 0, .int .u8 0, .int .u8 0, .int .u8 0, .int .u8 0, .int .u8 0, .int .u8 0, .int .u8 0, .int .u8 0, .int .u8 0, .int .u8 0, .int .u8 0, .int .u8 0, .int .u8 0, .int .u8 0, .int .u8 0, .int .u8 0, .int .u8 0, .int .u8 0, .int .u8 0] 87)) wr.heap.size 87 (outV SS 0)) := by
            have := Blk.new wr 87 (outV SS 0)
            rw [outV_zero] at this ⊢
            exact this
          have HG1 := Lib.hid (HG.out.alloc (.cells #[.int .u8 0, .int .u8 0, .int .u8 0, .int .u8 0, .int .u8 0, .int .u8 0, .int .u8 0, .int .u8 0, .int .u8 0, .int .u8 0, .int .u8 0, .int .u8 0, .int .u8 0, .int .u8 0, .int .u8 0, .int .u8 0, .int .u8 0, .int .u8 0, .int .u8 0, .int .u8 0, .int .u8 0, .int .u8 0, .int .u8 0, .int .u8 0, .int .u8 0, .int .u8 0, .int .u8 0, .int .u8 0, .int .u8 0, .int .u8 0, .int .u8 0, .int .u8 0] 87))
          have HZ1 := Lib.hid (HZ.out.alloc (.cells #[.int .u8 0, .int .u8 0, .int .u8 0, .int .u8 0, .int .u8 0, .int .u8 0, .int .u8 0, .int .u8 0, .int .u8 0, .int .u8 0, .int .u8 0, .int .u8 0, .int .u8 0, .int .u8 0, .int .u8 0, .int .u8 0, .int .u8 0, .int .u8 0, .int .u8 0, .int .u8 0, .int .u8 0, .int .u8 0, .int .u8 0, .int .u8 0, .int .u8 0, .int .u8 0, .int .u8 0, .int .u8 0, .int .u8 0, .int .u8 0, .int .u8 0, .int .u8 0] 87))
          have HB1 := Lib.hid (HB.out.alloc HB.out.size (.cells #[.int .u8 0, .int .u8 0, .int .u8 0, .int .u8 0, .int .u8 0, .int .u8 0, .int .u8 0, .int .u8 0, .int .u8 0, .int .u8 0, .int .u8 0, .int .u8 0, .int .u8 0, .int .u8 0, .int .u8 0, .int .u8 0, .int .u8 0, .int .u8 0, .int .u8 0, .int .u8 0, .int .u8 0, .int .u8 0, .int .u8 0, .int .u8 0, .int .u8 0, .int .u8 0, .int .u8 0, .int .u8 0, .int .u8 0, .int .u8 0, .int .u8 0, .int .u8 0] 87))
          have hgl := HG.out.lt
          obtain ⟨j, hj⟩ : ∃ j, j = 64 * k := ⟨_, rfl⟩
          rw [← hj] at l1 ⊢
          have l1N : decide (j < m) = false := by rw [decide_eq_false_iff_not]; omega
          clear hj hk64 hsw hSS HG HR HZ HB HSHA
          go_wp2
          obtain ⟨o, ho⟩ : ∃ o, o = wr.heap.size := ⟨_, rfl⟩
          rw [← ho] at HO1 hgl ⊢
          clear ho
          generalize wr.alloc (.cells #[.int .u8 0, .int .u8 0, .int .u8 0, .int .u8 0, .int .u8 0, .int .u8 0, .int .u8 0, .int .u8 0, .int .u8 0, .int .u8 0, .int .u8 0, .int .u8 0, .int .u8 0, .int .u8 0, .int .u8 0, .int .u8 0, .int .u8 0, .int .u8 0, .int .u8 0, .int .u8 0, .int .u8 0, .int .u8 0, .int .u8 0, .int .u8 0, .int .u8 0, .int .u8 0, .int .u8 0, .int .u8 0, .int .u8 0, .int .u8 0, .int .u8 0, .int .u8 0] 87) = w7 at HO1 HG1 HZ1 HB1 ⊢
          go_loopw [9] (fun i wr => ∃ k : Nat, k ≤ 32 ∧ i = .int .i64 k ∧ Hid (Blk wr o 87 (outV SS k)) ∧ Hid (Blk wr w.heap.size 87 Z) ∧ Hid (Blk wr g 141 (stV SS)) ∧ Hid (Below w.heap.size w wr)) (fun i _ => 32 - (intOf i).toNat)
          case atStart => exact ⟨0, Nat.zero_le _, rfl, HO1, HZ1, HG1, HB1⟩
          case round =>
            obtain ⟨k, hk, rfl, HO, HZ2, HBK, HBW⟩ := hrel
            clear HO1 HZ1 HG1 HB1
            rcases (by omega : k < 32 ∨ k = 32) with hlt | heq
            · have hkj : decide ((k : Int) < 32) = true := by rw [decide_eq_true_iff]; omega
              have hki : (k : Int) < 32 := by omega
              have hk0 : (0 : Int) ≤ (k : Int) := by omega
              have hw := HBK.out.cell (k / 4)
              rw [stV_at SS (k / 4) (by omega)] at hw
              have hfr := HO.out.frozen k
              obtain ⟨ov, hov⟩ : ∃ ov, wr.cell? ⟨o, k, none⟩ = some ov := ⟨_, by rw [HO.out.cell, Array.getElem?_eq_getElem (by rw [outV_size]; omega)]⟩
              have hub := stL_bd SS HSW.out (k / 4)
              have HV := Lib.hid (sum_val SS k hub.1)
              obtain ⟨u, hu⟩ : ∃ u, u = (stL SS).getD (k / 4) 0 := ⟨_, rfl⟩
              rw [← hu] at hw hub HV
              obtain ⟨hu0, hu1⟩ := hub
              have HN1 := HO.out.set_ k (u8v (sumB SS k))
              rw [outV_set SS k hlt] at HN1
              have HNn := Lib.hid HN1
              have HZn := Lib.hid (HZ2.out.far (p := ⟨o, k, none⟩) (by simp; omega) (u8v (sumB SS k)))
              have HBn := Lib.hid (HBK.out.far (p := ⟨o, k, none⟩) (by simp; omega) (u8v (sumB SS k)))
              have HWn := Lib.hid (HBW.out.setCell (p := ⟨o, k, none⟩) (by simp; omega) (u8v (sumB SS k)))
              clear hu HO HZ2 HBK HBW HN1
              go_wp2
              rw [HV.out]
              go_roundw
              case rel => exact ⟨k + 1, by omega, by go_num, HNn, HZn, HBn, HWn⟩
              case measure => simp [intOf]; omega
            · subst heq
              rw [show ((32 : Nat) : Int) = 32 from rfl]
              have h88 : decide ((32 : Int) < 32) = false := by decide
              have HE : Hid (outV SS 32 = (Lib.byteCells (shaL T)).toArray) := by show _ = _; rw [outV_full, HSS.out]
              have HI : Hid ((Tryz.prog.info? 87).map (·.size) = some (outV SS 32).size) := by show _ = _; rw [outV_size]; kernel_rfl
              have HOC : Hid ((outV SS 32).all (·.oneCell') = true) := by show _ = _; rw [outV_full]; simp [Lib.byteCells, Value.oneCell']
              have HS0 : Hid (Z.size = (outV SS 32).size) := by show _ = _; rw [outV_size]; exact HZs.out
              generalize outV SS 32 = V at HO HE HI HOC HS0 ⊢
              have HBz : Hid (Below w.heap.size w (wr.setRow w.heap.size V)) := below_setRow HBW.out (Nat.le_refl _)
              have HGz := Lib.hid (setRow_at HZ2.out V)
              clear HBK HSW HSS HZs
              go_wp2_with (first
                | (refine wpList_load_row rfl 87 _ rfl o rfl 87 V (0, 0) _ HO.out Tryz.underlying87 rfl HI.out ?_)
                | (refine wpList_store_row rfl 87 _ _ rfl w.heap.size V rfl rfl 87 _ HZ2.out HI.out HS0.out HOC.out ?_))
              exact bodyPost_ret (v := .agg V) (results_cell_row (fn := Tryz.f55) rfl _ _ w.heap.size 87 V (0, 0) _ rfl HGz.out Tryz.underlying87 rfl HI.out) rfl ⟨by rw [HE.out], HBz.out⟩
    · have ne1 : ((q : Int) % 64 != 56) = true := by rw [bne_iff_ne]; omega
      have ne2 : ((q : Int) % 64 == 56) = false := by rw [beq_eq_false_iff_ne]; omega
      have hzz : z + 1 ≤ padZ n := by
        rcases (by omega : z + 1 ≤ padZ n ∨ z = padZ n) with h | h
        · exact h
        · exact absurd (hps.2 h) hstop
      have HQ1 : Hid (q = n + 1 + z) := hq
      clear hps hstop hq hlen
      have tok : True := trivial
      go_wp2_with (at_builtin; refine app_one _ rfl (.tmp 19) (.tmp 20) rfl (w.heap.size + 1) _ _ rfl HO.out 0 _ rfl rfl (by have := HLEN.out; omega) hszW ?_; intro v4 w4 ho4 hg4 _; have HO4 := Lib.hid ho4; have B4 := Lib.hid ((HB.out.alloc hszW _).grown hg4 (by simp; omega) (by intro k hk; exact HO.out.grown_ge k hk)); clear ho4 hg4 tok)
      have HO5 : Hid (OB w4 (w.heap.size + 1) v4 (T ++ [128] ++ List.replicate (z + 1) 0)) := by
        show OB _ _ _ _
        have := HO4.out
        rw [List.append_assoc, ← List.replicate_succ'] at this
        exact this
      clear HO4
      obtain ⟨A5, c5, rfl, _⟩ := HO5.out.shape
      have hl5 : (T ++ [128] ++ List.replicate (z + 1) 0).length = q + 1 := by have := HQ1.out; have := HN.out; simp; omega
      rw [hl5] at HO5 ⊢
      clear hl5
      go_roundw
      case rel => exact ⟨z + 1, hzz, HO5, B4⟩
      case measure => simp only [sliceLen]; have := HQ1.out; omega
end Go.Proofs.YtefkpphahimkgaaGreatDoor
