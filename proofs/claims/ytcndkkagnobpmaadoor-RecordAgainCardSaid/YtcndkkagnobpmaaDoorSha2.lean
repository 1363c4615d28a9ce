/-
  sha.schedule.
-/
import Derived.Test.YtcndkkagnobpmaaDoorShaP
import Derived.Deep.QuietTactic
import Derived.BigQuiet
import Derived.StillTailTactics
import Derived.Laws.Rows
import Derived.Laws.Tables
namespace Go.Proofs.YtcndkkagnobpmaaDoor
open Go.RowKit
set_option linter.unusedVariables false

def zero64 : Array Value := #[.int .u32 0, .int .u32 0, .int .u32 0, .int .u32 0, .int .u32 0, .int .u32 0, .int .u32 0, .int .u32 0, .int .u32 0, .int .u32 0, .int .u32 0, .int .u32 0, .int .u32 0, .int .u32 0, .int .u32 0, .int .u32 0, .int .u32 0, .int .u32 0, .int .u32 0, .int .u32 0, .int .u32 0, .int .u32 0, .int .u32 0, .int .u32 0, .int .u32 0, .int .u32 0, .int .u32 0, .int .u32 0, .int .u32 0, .int .u32 0, .int .u32 0, .int .u32 0, .int .u32 0, .int .u32 0, .int .u32 0, .int .u32 0, .int .u32 0, .int .u32 0, .int .u32 0, .int .u32 0, .int .u32 0, .int .u32 0, .int .u32 0, .int .u32 0, .int .u32 0, .int .u32 0, .int .u32 0, .int .u32 0, .int .u32 0, .int .u32 0, .int .u32 0, .int .u32 0, .int .u32 0, .int .u32 0, .int .u32 0, .int .u32 0, .int .u32 0, .int .u32 0, .int .u32 0, .int .u32 0, .int .u32 0, .int .u32 0, .int .u32 0, .int .u32 0]
/-- the words' block: the first t words stand, word t has its first j bytes, zeros behind -/
def SchP (b : List UInt8) (w0 : World) (t j : Nat) (wr : World) : Prop :=
  (∃ cs : Array Value, Blk wr (w0.heap.size + 1) 133 cs ∧ cs.size = 64 ∧ (∀ i, i < t → cs[i]? = some (.int .u32 ((schedN b t).getD i 0))) ∧ (t < 64 → cs[t]? = some (.int .u32 (partI b t j))) ∧ ∀ i, t < i → i < 64 → cs[i]? = some (.int .u32 0)) ∧
  Blk wr w0.heap.size 133 zero64 ∧ Below w0.heap.size w0 wr
theorem SchP.drew {b : List UInt8} {w0 wr : World} {t j : Nat} (h : SchP b w0 t j wr) : SchP b w0 t j wr.drew := by
  obtain ⟨h1, h2, h3⟩ := h
  exact ⟨h1, h2, h3.os, h3.tape, h3.output, h3.size, h3.block⟩
theorem SchP.drewN {b : List UInt8} {w0 wr : World} {t j : Nat} (h : SchP b w0 t j wr) (n : Nat) : SchP b w0 t j (wr.drewN n) := by
  obtain ⟨h1, h2, h3⟩ := h
  exact ⟨h1, h2, h3.os, h3.tape, h3.output, h3.size, h3.block⟩
theorem SchP.here {b : List UInt8} {w0 wr : World} {t j : Nat} (h : SchP b w0 t j wr) (ht : t < 64) : wr.cell? ⟨w0.heap.size + 1, t, none⟩ = some (.int .u32 (partI b t j)) ∧ wr.frozen? ⟨w0.heap.size + 1, t, none⟩ = false := by
  obtain ⟨⟨cs, h1, h2, h3, h4, h5⟩, _⟩ := h
  exact ⟨by rw [h1.cell, h4 ht], h1.frozen t⟩
theorem SchP.old {b : List UInt8} {w0 wr : World} {t j i : Nat} (h : SchP b w0 t j wr) (hi : i < t) : wr.cell? ⟨w0.heap.size + 1, i, none⟩ = some (.int .u32 ((schedN b t).getD i 0)) := by
  obtain ⟨⟨cs, h1, h2, h3, h4, h5⟩, _⟩ := h
  rw [h1.cell, h3 i hi]
theorem SchP.byte {b : List UInt8} {w0 wr : World} {t j : Nat} (h : SchP b w0 t j wr) (ht : t < 64) : SchP b w0 t (j + 1) (wr.setCell ⟨w0.heap.size + 1, t, none⟩ (.int .u32 (partI b t (j + 1)))) := by
  obtain ⟨⟨cs, h1, h2, h3, h4, h5⟩, h6, h7⟩ := h
  refine ⟨⟨_, h1.set_ t _, by simpa using h2, fun i hi => ?_, fun _ => by rw [Array.getElem?_setIfInBounds_self_of_lt (by omega)], fun i hi hi2 => ?_⟩, h6.far (by simp) _, h7.setCell (by simp) _⟩
  · rw [Array.getElem?_setIfInBounds_ne (by omega)]; exact h3 i hi
  · rw [Array.getElem?_setIfInBounds_ne (by omega)]; exact h5 i hi hi2
theorem sched_getD {b : List UInt8} {t i : Nat} (hi : i < t) : (schedN b (t + 1)).getD i 0 = (schedN b t).getD i 0 := by
  have hl := schedN_len b t
  rw [List.getD_eq_getElem?_getD, List.getD_eq_getElem?_getD]
  show ((schedN b t ++ [stepW b (schedN b t) t])[i]?).getD 0 = _
  rw [List.getElem?_append_left (by omega)]
theorem sched_last (b : List UInt8) (t : Nat) : (schedN b (t + 1)).getD t 0 = stepW b (schedN b t) t := by
  have hl := schedN_len b t
  rw [List.getD_eq_getElem?_getD]
  show ((schedN b t ++ [stepW b (schedN b t) t])[t]?).getD 0 = _
  rw [List.getElem?_append_right (by omega), hl]; simp
theorem SchP.next {b : List UInt8} {w0 wr : World} {t j : Nat} (h : SchP b w0 t j wr) (ht : t < 64) (hv : partI b t j = stepW b (schedN b t) t) : SchP b w0 (t + 1) 0 wr := by
  obtain ⟨⟨cs, h1, h2, h3, h4, h5⟩, h6, h7⟩ := h
  refine ⟨⟨cs, h1, h2, fun i hi => ?_, fun h => h5 _ (by omega) h, fun i hi hi2 => h5 i (by omega) hi2⟩, h6, h7⟩
  rcases (by omega : i < t ∨ i = t) with h | h
  · rw [sched_getD h]; exact h3 i h
  · subst h; rw [sched_last, ← hv]; exact h4 ht
theorem SchP.word {b : List UInt8} {w0 wr : World} {t j : Nat} (h : SchP b w0 t j wr) (ht : t < 64) : SchP b w0 (t + 1) 0 (wr.setCell ⟨w0.heap.size + 1, t, none⟩ (.int .u32 (stepW b (schedN b t) t))) := by
  obtain ⟨⟨cs, h1, h2, h3, h4, h5⟩, h6, h7⟩ := h
  refine ⟨⟨_, h1.set_ t _, by simpa using h2, fun i hi => ?_, fun h => by rw [Array.getElem?_setIfInBounds_ne (by omega)]; exact h5 _ (by omega) h, fun i hi hi2 => by rw [Array.getElem?_setIfInBounds_ne (by omega)]; exact h5 i (by omega) hi2⟩, h6.far (by simp) _, h7.setCell (by simp) _⟩
  rcases (by omega : i < t ∨ i = t) with h | h
  · rw [Array.getElem?_setIfInBounds_ne (by omega), sched_getD h]; exact h3 i h
  · subst h; rw [sched_last, Array.getElem?_setIfInBounds_self_of_lt (by omega)]
theorem below_setRow {w w1 : World} {B g : Nat} {cs : Array Value} (h : Below B w w1) (hg : B ≤ g) : Below B w (w1.setRow g cs) :=
  ⟨h.os, h.tape, h.output, by simpa using h.size, fun k hk => by
    have := h.block k hk
    rw [← this]
    simp only [World.setRow, Array.getElem?_modify]
    rw [if_neg (by omega)]⟩
theorem setRow_at {w1 : World} {g : Nat} {t : TypeId} {old : Array Value} (h : Blk w1 g t old) (cs : Array Value) : (w1.setRow g cs).heap[g]? = some (.cells cs t (0, 0)) := by
  unfold Blk at h
  simp [World.setRow, Array.getElem?_modify, h]
theorem SchP.start (b : List UInt8) (w : World) : SchP b w 0 0 ((w.alloc (.cells zero64 133)).alloc (.cells zero64 133)) := by
  have hz : ∀ i, i < 64 → zero64[i]? = some (.int .u32 0) := fun i hi => by
    rw [show zero64 = Array.replicate 64 (.int .u32 0) from rfl]
    simp [hi]
  refine ⟨⟨zero64, by simpa using Blk.new (w.alloc (.cells zero64 133)) 133 zero64, rfl, fun i hi => by omega, fun _ => hz 0 (by omega), fun i _ hi => hz i hi⟩, (Blk.new w _ _).alloc _, ((Below.refl _ _).alloc (Nat.le_refl _) _).alloc (by simp) _⟩
set_option maxRecDepth 100000 in
set_option maxHeartbeats 8000000 in
theorem schedule_any (A : Option Addr) (c : Nat) (b : List UInt8) (w : World) (hb : RB w A b) (hl : b.length = 64) (hc : 64 ≤ c) (hcm : c ≤ 9223372036854775807) : Calls Tryd.prog 116 #[.slice A 64 c] w fun e w' => e = .returned (.agg ((schedN b 64).map (Value.int .u32)).toArray) ∧ Below w.heap.size w w' := by
  have HL := Lib.hid hl
  have H0 := Lib.hid (SchP.start b w)
  unfold zero64 at H0
  clear hl
  go_enter Tryd.func116, Tryd.ntmps116
  go_wp2
  generalize ((w.alloc (.cells #[.int .u32 0, .int .u32 0, .int .u32 0, .int .u32 0, .int .u32 0, .int .u32 0, .int .u32 0, .int .u32 0, .int .u32 0, .int .u32 0, .int .u32 0, .int .u32 0, .int .u32 0, .int .u32 0, .int .u32 0, .int .u32 0, .int .u32 0, .int .u32 0, .int .u32 0, .int .u32 0, .int .u32 0, .int .u32 0, .int .u32 0, .int .u32 0, .int .u32 0, .int .u32 0, .int .u32 0, .int .u32 0, .int .u32 0, .int .u32 0, .int .u32 0, .int .u32 0, .int .u32 0, .int .u32 0, .int .u32 0, .int .u32 0, .int .u32 0, .int .u32 0, .int .u32 0, .int .u32 0, .int .u32 0, .int .u32 0, .int .u32 0, .int .u32 0, .int .u32 0, .int .u32 0, .int .u32 0, .int .u32 0, .int .u32 0, .int .u32 0, .int .u32 0, .int .u32 0, .int .u32 0, .int .u32 0, .int .u32 0, .int .u32 0, .int .u32 0, .int .u32 0, .int .u32 0, .int .u32 0, .int .u32 0, .int .u32 0, .int .u32 0, .int .u32 0] 133)).alloc (.cells #[.int .u32 0, .int .u32 0, .int .u32 0, .int .u32 0, .int .u32 0, .int .u32 0, .int .u32 0, .int .u32 0, .int .u32 0, .int .u32 0, .int .u32 0, .int .u32 0, .int .u32 0, .int .u32 0, .int .u32 0, .int .u32 0, .int .u32 0, .int .u32 0, .int .u32 0, .int .u32 0, .int .u32 0, .int .u32 0, .int .u32 0, .int .u32 0, .int .u32 0, .int .u32 0, .int .u32 0, .int .u32 0, .int .u32 0, .int .u32 0, .int .u32 0, .int .u32 0, .int .u32 0, .int .u32 0, .int .u32 0, .int .u32 0, .int .u32 0, .int .u32 0, .int .u32 0, .int .u32 0, .int .u32 0, .int .u32 0, .int .u32 0, .int .u32 0, .int .u32 0, .int .u32 0, .int .u32 0, .int .u32 0, .int .u32 0, .int .u32 0, .int .u32 0, .int .u32 0, .int .u32 0, .int .u32 0, .int .u32 0, .int .u32 0, .int .u32 0, .int .u32 0, .int .u32 0, .int .u32 0, .int .u32 0, .int .u32 0, .int .u32 0, .int .u32 0] 133)) = W1 at H0 ⊢
  go_loopw [4, 6, 7, 8, 9, 10, 11] (fun _ _ _ _ _ _ i wr => ∃ t : Nat, t ≤ 64 ∧ i = .int .i64 t ∧ Hid (SchP b w t 0 wr)) (fun _ _ _ _ _ _ i _ => 64 - (intOf i).toNat)
  case atStart => exact ⟨0, Nat.zero_le _, rfl, H0⟩
  case round =>
    obtain ⟨t, ht, rfl, HS⟩ := hrel
    rcases (by omega : t < 16 ∨ (16 ≤ t ∧ t < 64) ∨ t = 64) with h | ⟨h, h2⟩ | h
    · have ht1 : (t : Int) < 64 := by omega
      have ht2 : decide ((t : Int) < 16) = true := by rw [decide_eq_true_iff]; omega
      obtain ⟨ad, rfl, _, _⟩ := hb.at_ (k := 0) (by rw [HL.out]; omega)
      have ht0 : (0 : Int) ≤ (t : Int) := by omega
      have hcc : ¬ c = 4 * t := by omega
      have hcl : (4 * (t : Int) + 4) ≤ (c : Int) := by omega
      go_wp2
      rw [show 4 * t + 4 - 4 * t = 4 from by omega]
      go_loopw [6, 24] (fun _ i wr => ∃ j : Nat, j ≤ 4 ∧ i = .int .i64 j ∧ Hid (SchP b w t j wr)) (fun _ i _ => 4 - (intOf i).toNat)
      case atStart => exact ⟨0, Nat.zero_le _, rfl, HS⟩
      case round =>
        obtain ⟨j, hj, rfl, HJ⟩ := hrel
        rcases (by omega : j < 4 ∨ j = 4) with hjl | hjl
        · obtain ⟨ad', e', _, hcb⟩ := (hb.fr (Fr.of_below (S := fun _ => False) HJ.out.2.2) (fun _ _ => id)).at_ (k := 4 * t + j) (by rw [HL.out]; omega)
          obtain rfl : ad = ad' := by injection e'
          rw [← add_of_add] at hcb
          obtain ⟨hh1, hh2⟩ := HJ.out.here (by omega)
          have hv := part_lt b t j hjl
          obtain ⟨z, hz⟩ : ∃ z, z = ((b[4 * t + j]'(by rw [HL.out]; omega)).toNat : Int) := ⟨_, rfl⟩
          have hzb : 0 ≤ z ∧ z < 256 := by rw [hz]; have := (b[4 * t + j]'(by rw [HL.out]; omega)).toNat_lt; omega
          have hzz : byteI b (4 * t + j) = z := by unfold byteI; rw [List.getD_eq_getElem?_getD, List.getElem?_eq_getElem (by rw [HL.out]; omega), hz]; rfl
          rw [← hz] at hcb
          clear hz e'
          obtain ⟨v, hvv⟩ : ∃ v, v = partI b t j := ⟨_, rfl⟩
          obtain ⟨V, hVV⟩ : ∃ V, V = partI b t (j + 1) := ⟨_, rfl⟩
          have hor := or_byte v z (by rw [hvv]; exact hv.1) (by rw [hvv]; exact hv.2) hzb.1 hzb.2
          have hV : v * 256 + z = V := by rw [hVV, hvv, ← hzz]; rfl
          rw [hV] at hor
          have HN := HJ.out.byte (by omega)
          rw [← hVV] at HN
          rw [← hvv] at hh1 hv
          obtain ⟨hv1, hv2⟩ := hv
          obtain ⟨hz1, hz2⟩ := hzb
          have hor2 : bits .or .u32 (v * 256) z = V := by rw [← hor, show v * 256 % 4294967296 = v * 256 from by omega]
          have HN := Lib.hid HN
          clear hvv hVV hV hzz HJ HS H0
          have hji : (j : Int) < 4 := by omega
          have hj0 : (0 : Int) ≤ (j : Int) := by omega
          go_wp2
          go_roundw
          case rel => exact ⟨j + 1, by omega, by go_num, HN⟩
          case measure => simp [intOf]; omega
        · have hji : ¬ (j : Int) < 4 := by omega
          subst hjl
          have HN := Lib.hid (HJ.out.next (by omega) (by unfold stepW; rw [if_pos h]))
          clear HJ HS H0
          go_wp2
          go_roundw
          case rel => exact ⟨t + 1, by omega, by go_num, HN⟩
          case measure => simp [intOf]; omega
    · have ht1 : (t : Int) < 64 := by omega
      have ht2 : decide ((t : Int) < 16) = false := by rw [decide_eq_false_iff_not]; omega
      have hW := schedN_bd b t
      have c15 := HS.out.old (i := t - 15) (by omega)
      have c2 := HS.out.old (i := t - 2) (by omega)
      have c16 := HS.out.old (i := t - 16) (by omega)
      have c7 := HS.out.old (i := t - 7) (by omega)
      have b15 := getD_bd hW (t - 15)
      have b2 := getD_bd hW (t - 2)
      have b16 := getD_bd hW (t - 16)
      have b7 := getD_bd hW (t - 7)
      have hst : stepW b (schedN b t) t = moreI (schedN b t) t := by unfold stepW; rw [if_neg (by omega)]
      unfold moreI at hst
      obtain ⟨x, hx⟩ : ∃ x, x = (schedN b t).getD (t - 15) 0 := ⟨_, rfl⟩
      obtain ⟨y, hy⟩ : ∃ x, x = (schedN b t).getD (t - 2) 0 := ⟨_, rfl⟩
      obtain ⟨u, hu⟩ : ∃ x, x = (schedN b t).getD (t - 16) 0 := ⟨_, rfl⟩
      obtain ⟨v, hv⟩ : ∃ x, x = (schedN b t).getD (t - 7) 0 := ⟨_, rfl⟩
      rw [← hx] at c15 b15 hst
      rw [← hy] at c2 b2 hst
      rw [← hu] at c16 b16 hst
      rw [← hv] at c7 b7 hst
      clear hx hy hu hv hW
      obtain ⟨b15, b15'⟩ := b15
      obtain ⟨b2, b2'⟩ := b2
      obtain ⟨b16, b16'⟩ := b16
      obtain ⟨b7, b7'⟩ := b7
      have HST := Lib.hid hst
      clear hst
      obtain ⟨k15, e15⟩ : ∃ k, k = t - 15 := ⟨_, rfl⟩
      obtain ⟨k2, e2⟩ : ∃ k, k = t - 2 := ⟨_, rfl⟩
      obtain ⟨k16, e16⟩ : ∃ k, k = t - 16 := ⟨_, rfl⟩
      obtain ⟨k7, e7⟩ : ∃ k, k = t - 7 := ⟨_, rfl⟩
      rw [← e15] at c15
      rw [← e2] at c2
      rw [← e16] at c16
      rw [← e7] at c7
      have i15 : (t : Int) - 15 = (k15 : Int) := by omega
      have i2 : (t : Int) - 2 = (k2 : Int) := by omega
      have i16 : (t : Int) - 16 = (k16 : Int) := by omega
      have i7 : (t : Int) - 7 = (k7 : Int) := by omega
      have l15 : (k15 : Int) < 64 := by omega
      have l2 : (k2 : Int) < 64 := by omega
      have l16 : (k16 : Int) < 64 := by omega
      have l7 : (k7 : Int) < 64 := by omega
      have m15 : (0 : Int) ≤ (k15 : Int) := by omega
      have m2 : (0 : Int) ≤ (k2 : Int) := by omega
      have m16 : (0 : Int) ≤ (k16 : Int) := by omega
      have m7 : (0 : Int) ≤ (k7 : Int) := by omega
      clear e15 e2 e16 e7
      have R7 : Hid (∀ w, Calls Tryd.prog 117 #[.int .u32 x, .int .i64 7] w fun e w' => e = .returned (.int .u32 (rotI x 7)) ∧ w' = w) := fun w => right_any x 7 (by unfold isTurn; omega) b15 b15' w
      have R18 : Hid (∀ w, Calls Tryd.prog 117 #[.int .u32 x, .int .i64 18] w fun e w' => e = .returned (.int .u32 (rotI x 18)) ∧ w' = w) := fun w => right_any x 18 (by unfold isTurn; omega) b15 b15' w
      have R17 : Hid (∀ w, Calls Tryd.prog 117 #[.int .u32 y, .int .i64 17] w fun e w' => e = .returned (.int .u32 (rotI y 17)) ∧ w' = w) := fun w => right_any y 17 (by unfold isTurn; omega) b2 b2' w
      have R19 : Hid (∀ w, Calls Tryd.prog 117 #[.int .u32 y, .int .i64 19] w fun e w' => e = .returned (.int .u32 (rotI y 19)) ∧ w' = w) := fun w => right_any y 19 (by unfold isTurn; omega) b2 b2' w
      go_wp2
      go_quiet (fail)
      clear c15 c2
      have HS2 := Lib.hid (HS.out.drewN nq)
      have c16' : (wr.drewN nq).cell? ⟨w.heap.size + 1, k16, none⟩ = some (.int .u32 u) := c16
      have c7' : (wr.drewN nq).cell? ⟨w.heap.size + 1, k7, none⟩ = some (.int .u32 v) := c7
      clear c16 c7
      generalize wr.drewN nq = W2 at HS2 c16' c7' ⊢
      go_wp2_with fail
      refine (R7.out _).mono ?_
      rintro e w' ⟨rfl, rfl⟩
      go_wp2_with fail
      refine (R18.out _).mono ?_
      rintro e w' ⟨rfl, rfl⟩
      go_wp2_with fail
      refine (R17.out _).mono ?_
      rintro e w' ⟨rfl, rfl⟩
      go_wp2_with fail
      refine (R19.out _).mono ?_
      rintro e w' ⟨rfl, rfl⟩
      obtain ⟨S0, hS0⟩ : ∃ z, z = s0I x := ⟨_, rfl⟩
      obtain ⟨S1, hS1⟩ : ∃ z, z = s1I y := ⟨_, rfl⟩
      have q0 : 0 ≤ S0 ∧ S0 < 4294967296 := by rw [hS0]; unfold s0I xorI; exact bits_bd _ _ _
      have q1 : 0 ≤ S1 ∧ S1 < 4294967296 := by rw [hS1]; unfold s1I xorI; exact bits_bd _ _ _
      obtain ⟨P1, hP1⟩ : ∃ z, z = (u + S0) % 4294967296 := ⟨_, rfl⟩
      obtain ⟨P2, hP2⟩ : ∃ z, z = (P1 + v) % 4294967296 := ⟨_, rfl⟩
      obtain ⟨P3, hP3⟩ : ∃ z, z = (P2 + S1) % 4294967296 := ⟨_, rfl⟩
      have HV : Hid (stepW b (schedN b t) t = P3) := by show _ = _; rw [HST.out, hP3, hP2, hP1, hS0, hS1]
      have wk16 : IntKind.i64.wrap (k16 : Int) = (k16 : Int) := IntWalk.i64_in _ (by omega)
      have wk7 : IntKind.i64.wrap (k7 : Int) = (k7 : Int) := IntWalk.i64_in _ (by omega)
      have wp1 : IntKind.u32.wrap (u + S0) = P1 := by rw [IntKind.wrap_u32, hP1]
      have wp2 : IntKind.u32.wrap (P1 + v) = P2 := by rw [IntKind.wrap_u32, hP2]
      have wp3 : IntKind.u32.wrap (P2 + S1) = P3 := by rw [IntKind.wrap_u32, hP3]
      clear hP1 hP2 hP3
      have hS0' : bits .xor .u32 (bits .xor .u32 (rotI x 7) (rotI x 18)) (x / 8) = S0 := hS0.symm
      have hS1' : bits .xor .u32 (bits .xor .u32 (rotI y 17) (rotI y 19)) (y / 1024) = S1 := hS1.symm
      have HN := HS2.out.drew.word (by omega)
      rw [HV.out] at HN
      have HN := Lib.hid HN
      have hh := HS2.out.here (by omega)
      obtain ⟨hh1, hh2⟩ := hh
      have ht0 : (0 : Int) ≤ (t : Int) := by omega
      clear hS0 hS1 HS HS2
      go_wp2
      refine wp_region_still_tail 15 (by kernel_rfl) (by kernel_rfl) ?_
      simp only [List.take_succ_cons, List.take_zero, List.drop_succ_cons, List.drop_zero]
      repeat (with_reducible refine wpStill_step (fun K hK => ?_); go_simp; with_reducible refine hK _ ?_; clear hK K)
      with_reducible refine wpStill_nil ?_
      change wpList _ _ _ _ _ (World.drew _)
      go_wp2
      go_roundw
      case rel => exact ⟨t + 1, by omega, by go_num, HN⟩
      case measure => simp [intOf]; omega
    · have ht1 : ¬ (t : Int) < 64 := by omega
      subst h
      obtain ⟨⟨cs, h1, h2, h3, h4, h5⟩, h6, h7⟩ := HS.out
      have hi : (Tryd.prog.info? 133).map (·.size) = some cs.size := by rw [h2]; kernel_rfl
      have hcs : cs = ((schedN b 64).map (Value.int .u32)).toArray := by
        apply Array.ext_getElem?
        intro j
        have hlen := schedN_len b 64
        rcases Nat.lt_or_ge j 64 with hj | hj
        · rw [h3 j hj, List.getElem?_toArray, List.getElem?_map, List.getD_eq_getElem?_getD, List.getElem?_eq_getElem (by omega)]; rfl
        · rw [Array.getElem?_eq_none (by omega), Array.getElem?_eq_none (by simp; omega)]
      have hone : cs.all (·.oneCell') = true := by rw [hcs]; simp [Value.oneCell']
      have HCS := Lib.hid hcs
      have H1 := Lib.hid h1
      have H6 := Lib.hid h6
      have HB7 := Lib.hid h7
      have HI := Lib.hid hi
      have HONE := Lib.hid hone
      have HZ : Hid (zero64.size = cs.size) := by show _ = _; rw [h2]; rfl
      clear h1 h2 h3 h4 h5 h6 h7 hi hcs hone
      go_wp2_with (first
        | (refine wpList_load_row rfl 133 _ rfl (w.heap.size + 1) rfl 133 cs (0, 0) _ H1.out Tryd.underlying133 rfl HI.out ?_)
        | (refine wpList_store_row rfl 133 _ _ rfl w.heap.size cs rfl rfl 133 zero64 H6.out HI.out HZ.out HONE.out ?_))
      have hb8 : Below w.heap.size w (wr.setRow w.heap.size cs) := below_setRow HB7.out (Nat.le_refl _)
      have hg8 : (wr.setRow w.heap.size cs).heap[w.heap.size]? = some (.cells cs 133 (0, 0)) := setRow_at H6.out cs
      exact bodyPost_ret (v := .agg cs) (results_cell_row (fn := Tryd.f116) rfl _ _ w.heap.size 133 cs (0, 0) _ rfl hg8 Tryd.underlying133 rfl HI.out) rfl ⟨by rw [HCS.out], hb8⟩
end Go.Proofs.YtcndkkagnobpmaaDoor
