/-
 sha's words: turned right.
 SHA-256 on words that are numbers: the plain mirror of the code's arithmetic.
 sha.schedule.
 The rounds' constants.
 SHA-256's rounds on words that are numbers: the plain mirror.
 sha.Block.
 sha.Hash: Write.
 SHA-256 of a text, plainly.
 sha.New, Hash.Fork, Hash.Write as a text that grows.
 Hash.Sum, sha.Of.
-/
import Derived.Test.YtefkpphahimkgaaGreatDoorTk
import Derived.Test.YtefkpphahimkgaaGreatDoorGA
import Derived.Laws.BitsLemmas
import Derived.Deep.QuietTactic
import Derived.BigQuiet
import Derived.StillTailTactics
import Derived.Laws.Rows
import Derived.Laws.Tables
import Derived.Deep.RegionWith
import Derived.Deep.RegionHeld3
namespace Go.Proofs.YtefkpphahimkgaaGreatDoor
open Go.RowKit
set_option linter.unusedVariables false
def rotI (x : Int) (n : Nat) : Int := bits .or .u32 (x * 2 ^ (32 - n) % 4294967296) (x / 2 ^ n)
theorem bits_bd (op : BinOp) (a b : Int) : 0 ≤ bits op .u32 a b ∧ bits op .u32 a b < 4294967296 := by
 unfold bits
 rw [IntKind.wrap_u32]
 omega
def isTurn (n : Nat) : Prop := n = 2 ∨ n = 6 ∨ n = 7 ∨ n = 11 ∨ n = 13 ∨ n = 17 ∨ n = 18 ∨ n = 19 ∨ n = 22 ∨ n = 25
set_option maxHeartbeats 4000000 in
theorem right_any (x : Int) (n : Nat) (hn : isTurn n) (h0 : 0 ≤ x) (h1 : x < 4294967296) (w : World) : Calls Tryz.prog 162 #[.int .u32 x, .int .i64 (n : Int)] w fun e w' => e = .returned (.int .u32 (rotI x n)) ∧ w' = w := by
 unfold isTurn at hn
 rcases hn with rfl | rfl | rfl | rfl | rfl | rfl | rfl | rfl | rfl | rfl
 ·have hb : bits .and .u64 (IntKind.u64.wrap (-2)) 31 = 30 := by decide +kernel
  go_enter Tryz.func162, Tryz.ntmps162
  go_wp2
  go_ret
  exact ⟨by unfold rotI; simp, rfl⟩
 ·have hb : bits .and .u64 (IntKind.u64.wrap (-6)) 31 = 26 := by decide +kernel
  go_enter Tryz.func162, Tryz.ntmps162
  go_wp2
  go_ret
  exact ⟨by unfold rotI; simp, rfl⟩
 ·have hb : bits .and .u64 (IntKind.u64.wrap (-7)) 31 = 25 := by decide +kernel
  go_enter Tryz.func162, Tryz.ntmps162
  go_wp2
  go_ret
  exact ⟨by unfold rotI; simp, rfl⟩
 ·have hb : bits .and .u64 (IntKind.u64.wrap (-11)) 31 = 21 := by decide +kernel
  go_enter Tryz.func162, Tryz.ntmps162
  go_wp2
  go_ret
  exact ⟨by unfold rotI; simp, rfl⟩
 ·have hb : bits .and .u64 (IntKind.u64.wrap (-13)) 31 = 19 := by decide +kernel
  go_enter Tryz.func162, Tryz.ntmps162
  go_wp2
  go_ret
  exact ⟨by unfold rotI; simp, rfl⟩
 ·have hb : bits .and .u64 (IntKind.u64.wrap (-17)) 31 = 15 := by decide +kernel
  go_enter Tryz.func162, Tryz.ntmps162
  go_wp2
  go_ret
  exact ⟨by unfold rotI; simp, rfl⟩
 ·have hb : bits .and .u64 (IntKind.u64.wrap (-18)) 31 = 14 := by decide +kernel
  go_enter Tryz.func162, Tryz.ntmps162
  go_wp2
  go_ret
  exact ⟨by unfold rotI; simp, rfl⟩
 ·have hb : bits .and .u64 (IntKind.u64.wrap (-19)) 31 = 13 := by decide +kernel
  go_enter Tryz.func162, Tryz.ntmps162
  go_wp2
  go_ret
  exact ⟨by unfold rotI; simp, rfl⟩
 ·have hb : bits .and .u64 (IntKind.u64.wrap (-22)) 31 = 10 := by decide +kernel
  go_enter Tryz.func162, Tryz.ntmps162
  go_wp2
  go_ret
  exact ⟨by unfold rotI; simp, rfl⟩
 ·have hb : bits .and .u64 (IntKind.u64.wrap (-25)) 31 = 7 := by decide +kernel
  go_enter Tryz.func162, Tryz.ntmps162
  go_wp2
  go_ret
  exact ⟨by unfold rotI; simp, rfl⟩
def xorI (a b : Int) : Int := bits .xor .u32 a b
def s0I (x : Int) : Int := xorI (xorI (rotI x 7) (rotI x 18)) (x / 8)
def s1I (x : Int) : Int := xorI (xorI (rotI x 17) (rotI x 19)) (x / 1024)
def byteI (b : List UInt8) (k : Nat) : Int := ((b.getD k 0).toNat : Int)
def partI (b : List UInt8) (t : Nat) : Nat → Int
 | 0 => 0
 | j + 1 => partI b t j * 256 + byteI b (4 * t + j)
def moreI (W : List Int) (t : Nat) : Int := (((W.getD (t - 16) 0 + s0I (W.getD (t - 15) 0)) % 4294967296 + W.getD (t - 7) 0) % 4294967296 + s1I (W.getD (t - 2) 0)) % 4294967296
def stepW (b : List UInt8) (W : List Int) (t : Nat) : Int := if t < 16 then partI b t 4 else moreI W t
def schedN (b : List UInt8) : Nat → List Int
 | 0 => []
 | t + 1 => schedN b t ++ [stepW b (schedN b t) t]
def isW (x : Int) : Prop := 0 ≤ x ∧ x < 4294967296
theorem schedN_len (b : List UInt8) : ∀ t, (schedN b t).length = t
 | 0 => rfl
 | t + 1 => by unfold schedN; rw [List.length_append, schedN_len b t]; rfl
theorem byteI_bd (b : List UInt8) (k : Nat) : 0 ≤ byteI b k ∧ byteI b k < 256 := by
 unfold byteI
 have := (b.getD k 0).toNat_lt
 omega
theorem part_bd (b : List UInt8) (t : Nat) : (0 ≤ partI b t 1 ∧ partI b t 1 < 256) ∧ (0 ≤ partI b t 2 ∧ partI b t 2 < 65536) ∧ (0 ≤ partI b t 3 ∧ partI b t 3 < 16777216) ∧ (0 ≤ partI b t 4 ∧ partI b t 4 < 4294967296) := by
 have h0 := byteI_bd b (4 * t + 0)
 have h1 := byteI_bd b (4 * t + 1)
 have h2 := byteI_bd b (4 * t + 2)
 have h3 := byteI_bd b (4 * t + 3)
 simp only [partI]
 omega
theorem part_lt (b : List UInt8) (t j : Nat) (hj : j < 4) : 0 ≤ partI b t j ∧ partI b t j < 16777216 := by
 have h := part_bd b t
 rcases (by omega : j = 0 ∨ j = 1 ∨ j = 2 ∨ j = 3) with rfl | rfl | rfl | rfl
 ·simp [partI]
 ·omega
 ·omega
 ·omega
theorem moreI_bd (W : List Int) (t : Nat) : isW (moreI W t) := by unfold isW moreI; omega
theorem stepW_bd (b : List UInt8) (W : List Int) (t : Nat) : isW (stepW b W t) := by
 unfold stepW
 split
 ·exact (part_bd b t).2.2.2
 ·exact moreI_bd W t
theorem schedN_bd (b : List UInt8) : ∀ t x, x ∈ schedN b t → isW x
 | 0, x, h => by cases h
 | t + 1, x, h => by
  unfold schedN at h
  rcases List.mem_append.1 h with h | h
  ·exact schedN_bd b t x h
  ·rw [List.mem_singleton] at h; rw [h]; exact stepW_bd _ _ _
theorem getD_bd {W : List Int} (h : ∀ x ∈ W, isW x) (k : Nat) : isW (W.getD k 0) := by
 rw [List.getD_eq_getElem?_getD]
 rcases Nat.lt_or_ge k W.length with hk | hk
 ·rw [List.getElem?_eq_getElem hk]; exact h _ (List.getElem_mem hk)
 ·rw [List.getElem?_eq_none hk]; unfold isW; simp
theorem or_byte (v c : Int) (hv : 0 ≤ v) (hv2 : v < 16777216) (hc : 0 ≤ c) (hc2 : c < 256) : bits .or .u32 (v * 256 % 4294967296) c = v * 256 + c := by
 rw [show v * 256 % 4294967296 = v * 256 from by omega]
 exact bits_join .u32 32 (by decide) (fun n h0 h1 => by rw [IntKind.wrap_u32]; have h2 : n < 4294967296 := h1; omega) 8 (v * 256) c (by omega) (by show v * 256 % 256 = 0; omega) (by show v * 256 < 4294967296; omega) hc (by show c < 256; omega) (by show c < 4294967296; omega)
def zero64 : Array Value := #[.int .u32 0, .int .u32 0, .int .u32 0, .int .u32 0, .int .u32 0, .int .u32 0, .int .u32 0, .int .u32 0, .int .u32 0, .int .u32 0, .int .u32 0, .int .u32 0, .int .u32 0, .int .u32 0, .int .u32 0, .int .u32 0, .int .u32 0, .int .u32 0, .int .u32 0, .int .u32 0, .int .u32 0, .int .u32 0, .int .u32 0, .int .u32 0, .int .u32 0, .int .u32 0, .int .u32 0, .int .u32 0, .int .u32 0, .int .u32 0, .int .u32 0, .int .u32 0, .int .u32 0, .int .u32 0, .int .u32 0, .int .u32 0, .int .u32 0, .int .u32 0, .int .u32 0, .int .u32 0, .int .u32 0, .int .u32 0, .int .u32 0, .int .u32 0, .int .u32 0, .int .u32 0, .int .u32 0, .int .u32 0, .int .u32 0, .int .u32 0, .int .u32 0, .int .u32 0, .int .u32 0, .int .u32 0, .int .u32 0, .int .u32 0, .int .u32 0, .int .u32 0, .int .u32 0, .int .u32 0, .int .u32 0, .int .u32 0, .int .u32 0, .int .u32 0]
def SchP (b : List UInt8) (w0 : World) (t j : Nat) (wr : World) : Prop :=
 (∃ cs : Array Value, Blk wr (w0.heap.size + 1) 175 cs ∧ cs.size = 64 ∧ (∀ i, i < t → cs[i]? = some (.int .u32 ((schedN b t).getD i 0))) ∧ (t < 64 → cs[t]? = some (.int .u32 (partI b t j))) ∧ ∀ i, t < i → i < 64 → cs[i]? = some (.int .u32 0)) ∧
 Blk wr w0.heap.size 175 zero64 ∧ Below w0.heap.size w0 wr
theorem SchP.drew {b : List UInt8} {w0 wr : World} {t j : Nat} (h : SchP b w0 t j wr) : SchP b w0 t j wr.drew := by
 obtain ⟨h1, h2, h3⟩ := h
 exact ⟨h1, h2, h3.os, h3.tape, h3.output, h3.size, h3.block⟩
theorem SchP.drewN {b : List UInt8} {w0 wr : World} {t j : Nat} (h : SchP b w0 t j wr) (n : Nat) : SchP b w0 t j (wr.drewN n) := by
 obtain ⟨h1, h2, h3⟩ := h
 exact ⟨h1, h2, h3.os, h3.tape, h3.output, h3.size, h3.block⟩
theorem SchP.here {b : List UInt8} {w0 wr : World} {t j : Nat} (h : SchP b w0 t j wr) (ht : t < 64) : wr.cell? ⟨w0.heap.size + 1, t, none⟩ = some (.int .u32 (partI b t j)) ∧ wr.frozen? ⟨w0.heap.size + 1, t, none⟩ = false := by
 obtain ⟨⟨cs, h1, h2, h3, h4, h5⟩, _⟩ := h
 exact ⟨by rw [h1.cell, h4 ht], h1.frozen t⟩
theorem SchP.old {b : List UInt8} {w0 wr : World} {t j i : Nat} (h : SchP b w0 t j wr) (hi : i < t) : wr.cell? ⟨w0.heap.size + 1, i, none⟩ = some (.int .u32 ((schedN b t).getD i 0)) := by
 obtain ⟨⟨cs, h1, h2, h3, h4, h5⟩, _⟩ := h
 rw [h1.cell, h3 i hi]
theorem SchP.byte {b : List UInt8} {w0 wr : World} {t j : Nat} (h : SchP b w0 t j wr) (ht : t < 64) : SchP b w0 t (j + 1) (wr.setCell ⟨w0.heap.size + 1, t, none⟩ (.int .u32 (partI b t (j + 1)))) := by
 obtain ⟨⟨cs, h1, h2, h3, h4, h5⟩, h6, h7⟩ := h
 refine ⟨⟨_, h1.set_ t _, by simpa using h2, fun i hi => ?_, fun _ => by rw [Array.getElem?_setIfInBounds_self_of_lt (by omega)], fun i hi hi2 => ?_⟩, h6.far (by simp) _, h7.setCell (by simp) _⟩
 ·rw [Array.getElem?_setIfInBounds_ne (by omega)]; exact h3 i hi
 ·rw [Array.getElem?_setIfInBounds_ne (by omega)]; exact h5 i hi hi2
theorem sched_getD {b : List UInt8} {t i : Nat} (hi : i < t) : (schedN b (t + 1)).getD i 0 = (schedN b t).getD i 0 := by
 have hl := schedN_len b t
 rw [List.getD_eq_getElem?_getD, List.getD_eq_getElem?_getD]
 show ((schedN b t ++ [stepW b (schedN b t) t])[i]?).getD 0 = _
 rw [List.getElem?_append_left (by omega)]
theorem sched_last (b : List UInt8) (t : Nat) : (schedN b (t + 1)).getD t 0 = stepW b (schedN b t) t := by
 have hl := schedN_len b t
 rw [List.getD_eq_getElem?_getD]
 show ((schedN b t ++ [stepW b (schedN b t) t])[t]?).getD 0 = _
 rw [List.getElem?_append_right (by omega), hl]; simp
theorem SchP.next {b : List UInt8} {w0 wr : World} {t j : Nat} (h : SchP b w0 t j wr) (ht : t < 64) (hv : partI b t j = stepW b (schedN b t) t) : SchP b w0 (t + 1) 0 wr := by
 obtain ⟨⟨cs, h1, h2, h3, h4, h5⟩, h6, h7⟩ := h
 refine ⟨⟨cs, h1, h2, fun i hi => ?_, fun h => h5 _ (by omega) h, fun i hi hi2 => h5 i (by omega) hi2⟩, h6, h7⟩
 rcases (by omega : i < t ∨ i = t) with h | h
 ·rw [sched_getD h]; exact h3 i h
 ·subst h; rw [sched_last, ← hv]; exact h4 ht
theorem SchP.word {b : List UInt8} {w0 wr : World} {t j : Nat} (h : SchP b w0 t j wr) (ht : t < 64) : SchP b w0 (t + 1) 0 (wr.setCell ⟨w0.heap.size + 1, t, none⟩ (.int .u32 (stepW b (schedN b t) t))) := by
 obtain ⟨⟨cs, h1, h2, h3, h4, h5⟩, h6, h7⟩ := h
 refine ⟨⟨_, h1.set_ t _, by simpa using h2, fun i hi => ?_, fun h => by rw [Array.getElem?_setIfInBounds_ne (by omega)]; exact h5 _ (by omega) h, fun i hi hi2 => by rw [Array.getElem?_setIfInBounds_ne (by omega)]; exact h5 i (by omega) hi2⟩, h6.far (by simp) _, h7.setCell (by simp) _⟩
 rcases (by omega : i < t ∨ i = t) with h | h
 ·rw [Array.getElem?_setIfInBounds_ne (by omega), sched_getD h]; exact h3 i h
 ·subst h; rw [sched_last, Array.getElem?_setIfInBounds_self_of_lt (by omega)]
theorem below_setRow {w w1 : World} {B g : Nat} {cs : Array Value} (h : Below B w w1) (hg : B ≤ g) : Below B w (w1.setRow g cs) :=
 ⟨h.os, h.tape, h.output, by simpa using h.size, fun k hk => by
  have := h.block k hk
  rw [← this]
  simp only [World.setRow, Array.getElem?_modify]
  rw [if_neg (by omega)]⟩
theorem setRow_at {w1 : World} {g : Nat} {t : TypeId} {old : Array Value} (h : Blk w1 g t old) (cs : Array Value) : (w1.setRow g cs).heap[g]? = some (.cells cs t (0, 0)) := by
 unfold Blk at h
 simp [World.setRow, Array.getElem?_modify, h]
theorem SchP.start (b : List UInt8) (w : World) : SchP b w 0 0 ((w.alloc (.cells zero64 175)).alloc (.cells zero64 175)) := by
 have hz : ∀ i, i < 64 → zero64[i]? = some (.int .u32 0) := fun i hi => by
  rw [show zero64 = Array.replicate 64 (.int .u32 0) from rfl]
  simp [hi]
 refine ⟨⟨zero64, by simpa using Blk.new (w.alloc (.cells zero64 175)) 175 zero64, rfl, fun i hi => by omega, fun _ => hz 0 (by omega), fun i _ hi => hz i hi⟩, (Blk.new w _ _).alloc _, ((Below.refl _ _).alloc (Nat.le_refl _) _).alloc (by simp) _⟩
set_option maxRecDepth 100000 in
set_option maxHeartbeats 8000000 in
theorem schedule_any (A : Option Addr) (c : Nat) (b : List UInt8) (w : World) (hb : RB w A b) (hl : b.length = 64) (hc : 64 ≤ c) (hcm : c ≤ 9223372036854775807) : Calls Tryz.prog 161 #[.slice A 64 c] w fun e w' => e = .returned (.agg ((schedN b 64).map (Value.int .u32)).toArray) ∧ Below w.heap.size w w' := by
 have HL := Ld hl
 have H0 := Ld (SchP.start b w)
 unfold zero64 at H0
 clear hl
 go_enter Tryz.func161, Tryz.ntmps161
 go_wp2
 generalize ((w.alloc (.cells #[.int .u32 0, .int .u32 0, .int .u32 0, .int .u32 0, .int .u32 0, .int .u32 0, .int .u32 0, .int .u32 0, .int .u32 0, .int .u32 0, .int .u32 0, .int .u32 0, .int .u32 0, .int .u32 0, .int .u32 0, .int .u32 0, .int .u32 0, .int .u32 0, .int .u32 0, .int .u32 0, .int .u32 0, .int .u32 0, .int .u32 0, .int .u32 0, .int .u32 0, .int .u32 0, .int .u32 0, .int .u32 0, .int .u32 0, .int .u32 0, .int .u32 0, .int .u32 0, .int .u32 0, .int .u32 0, .int .u32 0, .int .u32 0, .int .u32 0, .int .u32 0, .int .u32 0, .int .u32 0, .int .u32 0, .int .u32 0, .int .u32 0, .int .u32 0, .int .u32 0, .int .u32 0, .int .u32 0, .int .u32 0, .int .u32 0, .int .u32 0, .int .u32 0, .int .u32 0, .int .u32 0, .int .u32 0, .int .u32 0, .int .u32 0, .int .u32 0, .int .u32 0, .int .u32 0, .int .u32 0, .int .u32 0, .int .u32 0, .int .u32 0, .int .u32 0] 175)).alloc (.cells #[.int .u32 0, .int .u32 0, .int .u32 0, .int .u32 0, .int .u32 0, .int .u32 0, .int .u32 0, .int .u32 0, .int .u32 0, .int .u32 0, .int .u32 0, .int .u32 0, .int .u32 0, .int .u32 0, .int .u32 0, .int .u32 0, .int .u32 0, .int .u32 0, .int .u32 0, .int .u32 0, .int .u32 0, .int .u32 0, .int .u32 0, .int .u32 0, .int .u32 0, .int .u32 0, .int .u32 0, .int .u32 0, .int .u32 0, .int .u32 0, .int .u32 0, .int .u32 0, .int .u32 0, .int .u32 0, .int .u32 0, .int .u32 0, .int .u32 0, .int .u32 0, .int .u32 0, .int .u32 0, .int .u32 0, .int .u32 0, .int .u32 0, .int .u32 0, .int .u32 0, .int .u32 0, .int .u32 0, .int .u32 0, .int .u32 0, .int .u32 0, .int .u32 0, .int .u32 0, .int .u32 0, .int .u32 0, .int .u32 0, .int .u32 0, .int .u32 0, .int .u32 0, .int .u32 0, .int .u32 0, .int .u32 0, .int .u32 0, .int .u32 0, .int .u32 0] 175)) = W1 at H0 ⊢
 go_loopw [4, 6, 7, 8, 9, 10, 11] (fun _ _ _ _ _ _ i wr => ∃ t : Nat, t ≤ 64 ∧ i = .int .i64 t ∧ Hid (SchP b w t 0 wr)) (fun _ _ _ _ _ _ i _ => 64 - (intOf i).toNat)
 case atStart => exact ⟨0, Nat.zero_le _, rfl, H0⟩
 case round =>
  obtain ⟨t, ht, rfl, HS⟩ := hrel
  rcases (by omega : t < 16 ∨ (16 ≤ t ∧ t < 64) ∨ t = 64) with h | ⟨h, h2⟩ | h
  ·have ht1 : (t : Int) < 64 := by omega
   have ht2 : decide ((t : Int) < 16) = true := by rw [decide_eq_true_iff]; omega
   obtain ⟨ad, rfl, _, _⟩ := hb.at_ (k := 0) (by rw [HL.out]; omega)
   have ht0 : (0 : Int) ≤ (t : Int) := by omega
   have hcc : ¬ c = 4 * t := by omega
   have hcl : (4 * (t : Int) + 4) ≤ (c : Int) := by omega
   go_wp2
   rw [show 4 * t + 4 - 4 * t = 4 from by omega]
   go_loopw [6, 24] (fun _ i wr => ∃ j : Nat, j ≤ 4 ∧ i = .int .i64 j ∧ Hid (SchP b w t j wr)) (fun _ i _ => 4 - (intOf i).toNat)
   case atStart => exact ⟨0, Nat.zero_le _, rfl, HS⟩
   case round =>
    obtain ⟨j, hj, rfl, HJ⟩ := hrel
    rcases (by omega : j < 4 ∨ j = 4) with hjl | hjl
    ·obtain ⟨ad', e', _, hcb⟩ := (hb.fr (Fr.of_below (S := fun _ => False) HJ.out.2.2) (fun _ _ => id)).at_ (k := 4 * t + j) (by rw [HL.out]; omega)
     obtain rfl : ad = ad' := by injection e'
     rw [← add_of_add] at hcb
     obtain ⟨hh1, hh2⟩ := HJ.out.here (by omega)
     have hv := part_lt b t j hjl
     obtain ⟨z, hz⟩ : ∃ z, z = ((b[4 * t + j]'(by rw [HL.out]; omega)).toNat : Int) := ⟨_, rfl⟩
     have hzb : 0 ≤ z ∧ z < 256 := by rw [hz]; have := (b[4 * t + j]'(by rw [HL.out]; omega)).toNat_lt; omega
     have hzz : byteI b (4 * t + j) = z := by unfold byteI; rw [List.getD_eq_getElem?_getD, List.getElem?_eq_getElem (by rw [HL.out]; omega), hz]; rfl
     rw [← hz] at hcb
     clear hz e'
     obtain ⟨v, hvv⟩ : ∃ v, v = partI b t j := ⟨_, rfl⟩
     obtain ⟨V, hVV⟩ : ∃ V, V = partI b t (j + 1) := ⟨_, rfl⟩
     have hor := or_byte v z (by rw [hvv]; exact hv.1) (by rw [hvv]; exact hv.2) hzb.1 hzb.2
     have hV : v * 256 + z = V := by rw [hVV, hvv, ← hzz]; rfl
     rw [hV] at hor
     have HN := HJ.out.byte (by omega)
     rw [← hVV] at HN
     rw [← hvv] at hh1 hv
     obtain ⟨hv1, hv2⟩ := hv
     obtain ⟨hz1, hz2⟩ := hzb
     have hor2 : bits .or .u32 (v * 256) z = V := by rw [← hor, show v * 256 % 4294967296 = v * 256 from by omega]
     have HN := Ld HN
     clear hvv hVV hV hzz HJ HS H0
     have hji : (j : Int) < 4 := by omega
     have hj0 : (0 : Int) ≤ (j : Int) := by omega
     go_wp2
     go_roundw
     case rel => exact ⟨j + 1, by omega, by go_num, HN⟩
     case measure => simp [intOf]; omega
    ·have hji : ¬ (j : Int) < 4 := by omega
     subst hjl
     have HN := Ld (HJ.out.next (by omega) (by unfold stepW; rw [if_pos h]))
     clear HJ HS H0
     go_wp2
     go_roundw
     case rel => exact ⟨t + 1, by omega, by go_num, HN⟩
     case measure => simp [intOf]; omega
  ·have ht1 : (t : Int) < 64 := by omega
   have ht2 : decide ((t : Int) < 16) = false := by rw [decide_eq_false_iff_not]; omega
   have hW := schedN_bd b t
   have c15 := HS.out.old (i := t - 15) (by omega)
   have c2 := HS.out.old (i := t - 2) (by omega)
   have c16 := HS.out.old (i := t - 16) (by omega)
   have c7 := HS.out.old (i := t - 7) (by omega)
   have b15 := getD_bd hW (t - 15)
   have b2 := getD_bd hW (t - 2)
   have b16 := getD_bd hW (t - 16)
   have b7 := getD_bd hW (t - 7)
   have hst : stepW b (schedN b t) t = moreI (schedN b t) t := by unfold stepW; rw [if_neg (by omega)]
   unfold moreI at hst
   obtain ⟨x, hx⟩ : ∃ x, x = (schedN b t).getD (t - 15) 0 := ⟨_, rfl⟩
   obtain ⟨y, hy⟩ : ∃ x, x = (schedN b t).getD (t - 2) 0 := ⟨_, rfl⟩
   obtain ⟨u, hu⟩ : ∃ x, x = (schedN b t).getD (t - 16) 0 := ⟨_, rfl⟩
   obtain ⟨v, hv⟩ : ∃ x, x = (schedN b t).getD (t - 7) 0 := ⟨_, rfl⟩
   rw [← hx] at c15 b15 hst
   rw [← hy] at c2 b2 hst
   rw [← hu] at c16 b16 hst
   rw [← hv] at c7 b7 hst
   clear hx hy hu hv hW
   obtain ⟨b15, b15'⟩ := b15
   obtain ⟨b2, b2'⟩ := b2
   obtain ⟨b16, b16'⟩ := b16
   obtain ⟨b7, b7'⟩ := b7
   have HST := Ld hst
   clear hst
   obtain ⟨k15, e15⟩ : ∃ k, k = t - 15 := ⟨_, rfl⟩
   obtain ⟨k2, e2⟩ : ∃ k, k = t - 2 := ⟨_, rfl⟩
   obtain ⟨k16, e16⟩ : ∃ k, k = t - 16 := ⟨_, rfl⟩
   obtain ⟨k7, e7⟩ : ∃ k, k = t - 7 := ⟨_, rfl⟩
   rw [← e15] at c15
   rw [← e2] at c2
   rw [← e16] at c16
   rw [← e7] at c7
   have i15 : (t : Int) - 15 = (k15 : Int) := by omega
   have i2 : (t : Int) - 2 = (k2 : Int) := by omega
   have i16 : (t : Int) - 16 = (k16 : Int) := by omega
   have i7 : (t : Int) - 7 = (k7 : Int) := by omega
   have l15 : (k15 : Int) < 64 := by omega
   have l2 : (k2 : Int) < 64 := by omega
   have l16 : (k16 : Int) < 64 := by omega
   have l7 : (k7 : Int) < 64 := by omega
   have m15 : (0 : Int) ≤ (k15 : Int) := by omega
   have m2 : (0 : Int) ≤ (k2 : Int) := by omega
   have m16 : (0 : Int) ≤ (k16 : Int) := by omega
   have m7 : (0 : Int) ≤ (k7 : Int) := by omega
   clear e15 e2 e16 e7
   have R7 : Hid (∀ w, Calls Tryz.prog 162 #[.int .u32 x, .int .i64 7] w fun e w' => e = .returned (.int .u32 (rotI x 7)) ∧ w' = w) := fun w => right_any x 7 (by unfold isTurn; omega) b15 b15' w
   have R18 : Hid (∀ w, Calls Tryz.prog 162 #[.int .u32 x, .int .i64 18] w fun e w' => e = .returned (.int .u32 (rotI x 18)) ∧ w' = w) := fun w => right_any x 18 (by unfold isTurn; omega) b15 b15' w
   have R17 : Hid (∀ w, Calls Tryz.prog 162 #[.int .u32 y, .int .i64 17] w fun e w' => e = .returned (.int .u32 (rotI y 17)) ∧ w' = w) := fun w => right_any y 17 (by unfold isTurn; omega) b2 b2' w
   have R19 : Hid (∀ w, Calls Tryz.prog 162 #[.int .u32 y, .int .i64 19] w fun e w' => e = .returned (.int .u32 (rotI y 19)) ∧ w' = w) := fun w => right_any y 19 (by unfold isTurn; omega) b2 b2' w
   go_wp2
   go_quiet (fail)
   clear c15 c2
   have HS2 := Ld (HS.out.drewN nq)
   have c16' : (wr.drewN nq).cell? ⟨w.heap.size + 1, k16, none⟩ = some (.int .u32 u) := c16
   have c7' : (wr.drewN nq).cell? ⟨w.heap.size + 1, k7, none⟩ = some (.int .u32 v) := c7
   clear c16 c7
   generalize wr.drewN nq = W2 at HS2 c16' c7' ⊢
   go_wp2_with fail
   refine (R7.out _).mono ?_
   rintro e w' ⟨rfl, rfl⟩
   go_wp2_with fail
   refine (R18.out _).mono ?_
   rintro e w' ⟨rfl, rfl⟩
   go_wp2_with fail
   refine (R17.out _).mono ?_
   rintro e w' ⟨rfl, rfl⟩
   go_wp2_with fail
   refine (R19.out _).mono ?_
   rintro e w' ⟨rfl, rfl⟩
   obtain ⟨S0, hS0⟩ : ∃ z, z = s0I x := ⟨_, rfl⟩
   obtain ⟨S1, hS1⟩ : ∃ z, z = s1I y := ⟨_, rfl⟩
   have q0 : 0 ≤ S0 ∧ S0 < 4294967296 := by rw [hS0]; unfold s0I xorI; exact bits_bd _ _ _
   have q1 : 0 ≤ S1 ∧ S1 < 4294967296 := by rw [hS1]; unfold s1I xorI; exact bits_bd _ _ _
   obtain ⟨P1, hP1⟩ : ∃ z, z = (u + S0) % 4294967296 := ⟨_, rfl⟩
   obtain ⟨P2, hP2⟩ : ∃ z, z = (P1 + v) % 4294967296 := ⟨_, rfl⟩
   obtain ⟨P3, hP3⟩ : ∃ z, z = (P2 + S1) % 4294967296 := ⟨_, rfl⟩
   have HV : Hid (stepW b (schedN b t) t = P3) := by show _ = _; rw [HST.out, hP3, hP2, hP1, hS0, hS1]
   have wk16 : IntKind.i64.wrap (k16 : Int) = (k16 : Int) := IntWalk.i64_in _ (by omega)
   have wk7 : IntKind.i64.wrap (k7 : Int) = (k7 : Int) := IntWalk.i64_in _ (by omega)
   have wp1 : IntKind.u32.wrap (u + S0) = P1 := by rw [IntKind.wrap_u32, hP1]
   have wp2 : IntKind.u32.wrap (P1 + v) = P2 := by rw [IntKind.wrap_u32, hP2]
   have wp3 : IntKind.u32.wrap (P2 + S1) = P3 := by rw [IntKind.wrap_u32, hP3]
   clear hP1 hP2 hP3
   have hS0' : bits .xor .u32 (bits .xor .u32 (rotI x 7) (rotI x 18)) (x / 8) = S0 := hS0.symm
   have hS1' : bits .xor .u32 (bits .xor .u32 (rotI y 17) (rotI y 19)) (y / 1024) = S1 := hS1.symm
   have HN := HS2.out.drew.word (by omega)
   rw [HV.out] at HN
   have HN := Ld HN
   have hh := HS2.out.here (by omega)
   obtain ⟨hh1, hh2⟩ := hh
   have ht0 : (0 : Int) ≤ (t : Int) := by omega
   clear hS0 hS1 HS HS2
   go_wp2
   refine wp_region_still_tail 15 (by kernel_rfl) (by kernel_rfl) ?_
   simp only [List.take_succ_cons, List.take_zero, List.drop_succ_cons, List.drop_zero]
   repeat (with_reducible refine wpStill_step (fun K hK => ?_); go_simp; with_reducible refine hK _ ?_; clear hK K)
   with_reducible refine wpStill_nil ?_
   change wpList _ _ _ _ _ (World.drew _)
   go_wp2
   go_roundw
   case rel => exact ⟨t + 1, by omega, by go_num, HN⟩
   case measure => simp [intOf]; omega
  ·have ht1 : ¬ (t : Int) < 64 := by omega
   subst h
   obtain ⟨⟨cs, h1, h2, h3, h4, h5⟩, h6, h7⟩ := HS.out
   have hi : (Tryz.prog.info? 175).map (·.size) = some cs.size := by rw [h2]; kernel_rfl
   have hcs : cs = ((schedN b 64).map (Value.int .u32)).toArray := by
    apply Array.ext_getElem?
    intro j
    have hlen := schedN_len b 64
    rcases Nat.lt_or_ge j 64 with hj | hj
    ·rw [h3 j hj, List.getElem?_toArray, List.getElem?_map, List.getD_eq_getElem?_getD, List.getElem?_eq_getElem (by omega)]; rfl
    ·rw [Array.getElem?_eq_none (by omega), Array.getElem?_eq_none (by simp; omega)]
   have hone : cs.all (·.oneCell') = true := by rw [hcs]; simp [Value.oneCell']
   have HCS := Ld hcs
   have H1 := Ld h1
   have H6 := Ld h6
   have HB7 := Ld h7
   have HI := Ld hi
   have HONE := Ld hone
   have HZ : Hid (zero64.size = cs.size) := by show _ = _; rw [h2]; rfl
   clear h1 h2 h3 h4 h5 h6 h7 hi hcs hone
   go_wp2_with (first
    | (refine wpList_load_row rfl 175 _ rfl (w.heap.size + 1) rfl 175 cs (0, 0) _ H1.out Tryz.underlying175 rfl HI.out ?_)
    | (refine wpList_store_row rfl 175 _ _ rfl w.heap.size cs rfl rfl 175 zero64 H6.out HI.out HZ.out HONE.out ?_))
   have hb8 : Below w.heap.size w (wr.setRow w.heap.size cs) := below_setRow HB7.out (Nat.le_refl _)
   have hg8 : (wr.setRow w.heap.size cs).heap[w.heap.size]? = some (.cells cs 175 (0, 0)) := setRow_at H6.out cs
   exact bodyPost_ret (v := .agg cs) (results_cell_row (fn := Tryz.f161) rfl _ _ w.heap.size 175 cs (0, 0) _ rfl hg8 Tryz.underlying175 rfl HI.out) rfl ⟨by rw [HCS.out], hb8⟩
def kL : List Int := [0x428a2f98, 0x71374491, 0xb5c0fbcf, 0xe9b5dba5, 0x3956c25b, 0x59f111f1, 0x923f82a4, 0xab1c5ed5,
 0xd807aa98, 0x12835b01, 0x243185be, 0x550c7dc3, 0x72be5d74, 0x80deb1fe, 0x9bdc06a7, 0xc19bf174,
 0xe49b69c1, 0xefbe4786, 0x0fc19dc6, 0x240ca1cc, 0x2de92c6f, 0x4a7484aa, 0x5cb0a9dc, 0x76f988da,
 0x983e5152, 0xa831c66d, 0xb00327c8, 0xbf597fc7, 0xc6e00bf3, 0xd5a79147, 0x06ca6351, 0x14292967,
 0x27b70a85, 0x2e1b2138, 0x4d2c6dfc, 0x53380d13, 0x650a7354, 0x766a0abb, 0x81c2c92e, 0x92722c85,
 0xa2bfe8a1, 0xa81a664b, 0xc24b8b70, 0xc76c51a3, 0xd192e819, 0xd6990624, 0xf40e3585, 0x106aa070,
 0x19a4c116, 0x1e376c08, 0x2748774c, 0x34b0bcb5, 0x391c0cb3, 0x4ed8aa4a, 0x5b9cca4f, 0x682e6ff3,
 0x748f82ee, 0x78a5636f, 0x84c87814, 0x8cc70208, 0x90befffa, 0xa4506ceb, 0xbef9a3f7, 0xc67178f2]
def kV : Array Value := (kL.map (Value.int .u32)).toArray
theorem kV_at (t : Nat) (h : t < 64) : kV[t]? = some (.int .u32 (kL.getD t 0)) := by
 unfold kV
 rw [List.getElem?_toArray, List.getElem?_map, List.getD_eq_getElem?_getD, List.getElem?_eq_getElem (show t < kL.length from h)]; rfl
structure St where
 a : Int
 b : Int
 c : Int
 d : Int
 e : Int
 f : Int
 g : Int
 h : Int
def St.isW (s : St) : Prop := Go.Proofs.YtefkpphahimkgaaGreatDoor.isW s.a ∧ Go.Proofs.YtefkpphahimkgaaGreatDoor.isW s.b ∧ Go.Proofs.YtefkpphahimkgaaGreatDoor.isW s.c ∧ Go.Proofs.YtefkpphahimkgaaGreatDoor.isW s.d ∧ Go.Proofs.YtefkpphahimkgaaGreatDoor.isW s.e ∧ Go.Proofs.YtefkpphahimkgaaGreatDoor.isW s.f ∧ Go.Proofs.YtefkpphahimkgaaGreatDoor.isW s.g ∧ Go.Proofs.YtefkpphahimkgaaGreatDoor.isW s.h
def add32 (x y : Int) : Int := (x + y) % 4294967296
def andI (x y : Int) : Int := bits .and .u32 x y
def chI (e f g : Int) : Int := xorI (andI e f) (andI (bits .xor .u32 4294967295 e) g)
def majI (a b c : Int) : Int := xorI (xorI (andI a b) (andI a c)) (andI b c)
def big1 (e : Int) : Int := xorI (xorI (rotI e 6) (rotI e 11)) (rotI e 25)
def big0 (a : Int) : Int := xorI (xorI (rotI a 2) (rotI a 13)) (rotI a 22)
def t1I (s : St) (k w : Int) : Int := add32 (add32 (add32 (add32 s.h (big1 s.e)) (chI s.e s.f s.g)) k) w
def t2I (s : St) : Int := add32 (big0 s.a) (majI s.a s.b s.c)
def roundI (s : St) (k w : Int) : St := ⟨add32 (t1I s k w) (t2I s), s.a, s.b, s.c, add32 s.d (t1I s k w), s.e, s.f, s.g⟩
def roundsN (s : St) (W : List Int) : Nat → St
 | 0 => s
 | t + 1 => roundI (roundsN s W t) (kL.getD t 0) (W.getD t 0)
def blockI (s : St) (b : List UInt8) : St :=
 let r := roundsN s (schedN b 64) 64
 ⟨add32 s.a r.a, add32 s.b r.b, add32 s.c r.c, add32 s.d r.d, add32 s.e r.e, add32 s.f r.f, add32 s.g r.g, add32 s.h r.h⟩
theorem run_index_k (t : Nat) (ht : t < 64) (w : World) : (Instr.index 175 (.agg kV) (.int .i64 (t : Int))).run Tryz.prog w = .ok (.int .u32 (kL.getD t 0)) w := by
 have h := kV_at t ht
 have hs : kV.size = 64 := rfl
 rw [List.getD_eq_getElem?_getD] at h ⊢
 simp [Instr.index, run_underlying Tryz.underlying175, asIntOf, part, Tryz.isAgg140, Tryz.sizeOf140, h, go_sem]
 intro h; omega
def TabK (w : World) : Prop := ∃ t fr, w.heap[(2 : Nat)]? = some (.cells kV t fr)
theorem TabK.lt {w : World} (h : TabK w) : (2 : Nat) < w.heap.size := by
 obtain ⟨t, fr, h⟩ := h
 rcases Nat.lt_or_ge (2 : Nat) w.heap.size with hlt | hge
 ·exact hlt
 ·rw [Array.getElem?_eq_none hge] at h; cases h
theorem TabK.below {w w' : World} (h : TabK w) (hb : Below w.heap.size w w') : TabK w' := by
 have hl := h.lt
 obtain ⟨t, fr, h⟩ := h
 exact ⟨t, fr, (hb.block _ hl).trans h⟩
theorem TabK.fr {S : Nat → Prop} {w w' : World} (h : TabK w) (hf : Fr S w w') (hg : ¬ S (2 : Nat)) : TabK w' := by
 have hl := h.lt
 obtain ⟨t, fr, h⟩ := h
 exact ⟨t, fr, (hf.block _ hl hg).trans h⟩
theorem TabK.ne {w : World} {g : Nat} {t : TypeId} {cs : Array Value} (h : TabK w) (hB : Blk w g t cs) (hs : cs.size ≠ 64) : (2 : Nat) ≠ g := by
 rintro rfl
 obtain ⟨t', fr, h⟩ := h
 unfold Blk at hB
 rw [h] at hB
 injection hB with hB
 injection hB with hc _ _
 exact hs (by rw [← hc]; rfl)
theorem kL_isW : ∀ x ∈ kL, isW x := by
 have h : kL.all (fun x => decide (0 ≤ x ∧ x < 4294967296)) = true := by decide +kernel
 intro x hx
 show 0 ≤ x ∧ x < 4294967296
 exact of_decide_eq_true (List.all_eq_true.1 h x hx)
theorem roundI_isW (S : St) (k w : Int) (h : S.isW) : (roundI S k w).isW := by
 obtain ⟨h1, h2, h3, h4, h5, h6, h7, h8⟩ := h
 have e1 : isW (add32 (t1I S k w) (t2I S)) := by unfold isW add32; omega
 have e2 : isW (add32 S.d (t1I S k w)) := by unfold isW add32; omega
 exact ⟨e1, h1, h2, h3, e2, h5, h6, h7⟩
def stV (s : St) : Array Value := #[.int .u32 s.a, .int .u32 s.b, .int .u32 s.c, .int .u32 s.d, .int .u32 s.e, .int .u32 s.f, .int .u32 s.g, .int .u32 s.h]
theorem Blk.setRow_far {w : World} {g g' : Nat} {t : TypeId} {cs : Array Value} (h : Blk w g t cs) (hne : g ≠ g') (v : Array Value) : Blk (w.setRow g' v) g t cs := by
 unfold Blk at h ⊢
 simp only [World.setRow, Array.getElem?_modify]
 rw [if_neg (Ne.symm hne)]
 exact h
def stL (s : St) : List Int := [s.a, s.b, s.c, s.d, s.e, s.f, s.g, s.h]
def midV (s r : St) (i : Nat) : Array Value := ((List.range 8).map fun k => Value.int .u32 (if k < i then add32 ((stL s).getD k 0) ((stL r).getD k 0) else (stL s).getD k 0)).toArray
theorem mid_zero (s r : St) : midV s r 0 = stV s := rfl
theorem mid_eight (s : St) (b : List UInt8) : midV s (roundsN s (schedN b 64) 64) 8 = stV (blockI s b) := rfl
theorem mid_at (s r : St) (j : Nat) (hj : j < 8) : (midV s r j)[j]? = some (.int .u32 ((stL s).getD j 0)) := by
 rcases (by omega : j = 0 ∨ j = 1 ∨ j = 2 ∨ j = 3 ∨ j = 4 ∨ j = 5 ∨ j = 6 ∨ j = 7) with rfl | rfl | rfl | rfl | rfl | rfl | rfl | rfl <;> rfl
theorem mid_set (s r : St) (j : Nat) (hj : j < 8) : (midV s r j).setIfInBounds j (.int .u32 (add32 ((stL s).getD j 0) ((stL r).getD j 0))) = midV s r (j + 1) := by
 rcases (by omega : j = 0 ∨ j = 1 ∨ j = 2 ∨ j = 3 ∨ j = 4 ∨ j = 5 ∨ j = 6 ∨ j = 7) with rfl | rfl | rfl | rfl | rfl | rfl | rfl | rfl <;> rfl
theorem stL_bd (s : St) (h : s.isW) (j : Nat) : isW ((stL s).getD j 0) := by
 obtain ⟨h1, h2, h3, h4, h5, h6, h7, h8⟩ := h
 refine getD_bd ?_ j
 intro x hx
 simp only [stL, List.mem_cons, List.not_mem_nil, or_false] at hx
 rcases hx with rfl | rfl | rfl | rfl | rfl | rfl | rfl | rfl <;> assumption
theorem run_index_8 (s : St) (t : Nat) (ht : t < 8) (w : World) : (Instr.index 141 (.agg #[.int .u32 s.a, .int .u32 s.b, .int .u32 s.c, .int .u32 s.d, .int .u32 s.e, .int .u32 s.f, .int .u32 s.g, .int .u32 s.h]) (.int .i64 (t : Int))).run Tryz.prog w = .ok (.int .u32 ((stL s).getD t 0)) w := by
  rcases (by omega : t = 0 ∨ t = 1 ∨ t = 2 ∨ t = 3 ∨ t = 4 ∨ t = 5 ∨ t = 6 ∨ t = 7) with rfl | rfl | rfl | rfl | rfl | rfl | rfl | rfl <;>
    simp [Instr.index, run_underlying Tryz.underlying141, asIntOf, part, Tryz.isAgg140, Tryz.sizeOf140, go_sem, stL]
set_option maxRecDepth 100000 in
set_option maxHeartbeats 8000000 in
theorem block_any (s : St) (hs : s.isW) (A : Option Addr) (c : Nat) (b : List UInt8) (w : World) (hK : TabK w) (hb : RB w A b) (hl : b.length = 64) (hc : 64 ≤ c) (hcm : c ≤ 9223372036854775807) : Calls Tryz.prog 132 #[.agg (stV s), .slice A 64 c] w fun e w' => e = .returned (.agg (stV (blockI s b))) ∧ Below w.heap.size w w' := by
 obtain ⟨WV, hWV⟩ : ∃ WV : Array Value, WV = ((schedN b 64).map (Value.int .u32)).toArray := ⟨_, rfl⟩
 have HS := fun w h => schedule_any A c b w h hl hc hcm
 rw [← hWV] at HS
 have hWs : WV.size = 64 := by rw [hWV]; simp [schedN_len]
 have hWo : WV.all (·.oneCell') = true := by rw [hWV]; simp [Value.oneCell']
 have HWV := Ld hWV
 have HSX := Ld HS
 clear HS
 have HWI : Hid ((Tryz.prog.info? 175).map (·.size) = some WV.size) := by show _ = _; rw [hWs]; kernel_rfl
 have HWZ : Hid ((#[.int .u32 0, .int .u32 0, .int .u32 0, .int .u32 0, .int .u32 0, .int .u32 0, .int .u32 0, .int .u32 0, .int .u32 0, .int .u32 0, .int .u32 0, .int .u32 0, .int .u32 0, .int .u32 0, .int .u32 0, .int .u32 0, .int .u32 0, .int .u32 0, .int .u32 0, .int .u32 0, .int .u32 0, .int .u32 0, .int .u32 0, .int .u32 0, .int .u32 0, .int .u32 0, .int .u32 0, .int .u32 0, .int .u32 0, .int .u32 0, .int .u32 0, .int .u32 0, .int .u32 0, .int .u32 0, .int .u32 0, .int .u32 0, .int .u32 0, .int .u32 0, .int .u32 0, .int .u32 0, .int .u32 0, .int .u32 0, .int .u32 0, .int .u32 0, .int .u32 0, .int .u32 0, .int .u32 0, .int .u32 0, .int .u32 0, .int .u32 0, .int .u32 0, .int .u32 0, .int .u32 0, .int .u32 0, .int .u32 0, .int .u32 0, .int .u32 0, .int .u32 0, .int .u32 0, .int .u32 0, .int .u32 0, .int .u32 0, .int .u32 0, .int .u32 0] : Array Value).size = WV.size) := by show _ = _; rw [hWs]; rfl
 have HWO := Ld hWo
 clear hWV hWs hWo
 have hB0 : Blk ((w.alloc (.cells (stV s) 141)).alloc (.cells #[.int .u32 0, .int .u32 0, .int .u32 0, .int .u32 0, .int .u32 0, .int .u32 0, .int .u32 0, .int .u32 0] 141)) w.heap.size 141 (stV s) := (Blk.new _ _ _).alloc _
 have hB1 : Blk ((w.alloc (.cells (stV s) 141)).alloc (.cells #[.int .u32 0, .int .u32 0, .int .u32 0, .int .u32 0, .int .u32 0, .int .u32 0, .int .u32 0, .int .u32 0] 141)) (w.heap.size + 1) 141 #[.int .u32 0, .int .u32 0, .int .u32 0, .int .u32 0, .int .u32 0, .int .u32 0, .int .u32 0, .int .u32 0] := by
  simpa using Blk.new (w.alloc (.cells (stV s) 141)) 141 #[.int .u32 0, .int .u32 0, .int .u32 0, .int .u32 0, .int .u32 0, .int .u32 0, .int .u32 0, .int .u32 0]
 have hbel0 : Below w.heap.size w ((w.alloc (.cells (stV s) 141)).alloc (.cells #[.int .u32 0, .int .u32 0, .int .u32 0, .int .u32 0, .int .u32 0, .int .u32 0, .int .u32 0, .int .u32 0] 141)) := ((Below.refl _ _).alloc (Nat.le_refl _) _).alloc (by simp) _
 unfold stV at hB0 hB1 hbel0 ⊢
 go_enter Tryz.func132, Tryz.ntmps132
 go_wp2_with fail
 refine (HSX.out _ (hb.below hbel0)).mono ?_
 rintro e w1 ⟨rfl, hb1⟩
 have hB0 := hB0.below hb1 hB0.lt
 have hB1 := hB1.below hb1 hB1.lt
 have hbel1 : Below w.heap.size w w1 := hbel0.trans (hb1.mono hbel0.size)
 clear hb1 hbel0
 have hZ := Blk.new w1 175 (#[.int .u32 0, .int .u32 0, .int .u32 0, .int .u32 0, .int .u32 0, .int .u32 0, .int .u32 0, .int .u32 0, .int .u32 0, .int .u32 0, .int .u32 0, .int .u32 0, .int .u32 0, .int .u32 0, .int .u32 0, .int .u32 0, .int .u32 0, .int .u32 0, .int .u32 0, .int .u32 0, .int .u32 0, .int .u32 0, .int .u32 0, .int .u32 0, .int .u32 0, .int .u32 0, .int .u32 0, .int .u32 0, .int .u32 0, .int .u32 0, .int .u32 0, .int .u32 0, .int .u32 0, .int .u32 0, .int .u32 0, .int .u32 0, .int .u32 0, .int .u32 0, .int .u32 0, .int .u32 0, .int .u32 0, .int .u32 0, .int .u32 0, .int .u32 0, .int .u32 0, .int .u32 0, .int .u32 0, .int .u32 0, .int .u32 0, .int .u32 0, .int .u32 0, .int .u32 0, .int .u32 0, .int .u32 0, .int .u32 0, .int .u32 0, .int .u32 0, .int .u32 0, .int .u32 0, .int .u32 0, .int .u32 0, .int .u32 0, .int .u32 0, .int .u32 0] : Array Value)
 have HZ := Ld hZ
 go_wp2_with (refine wpList_store_row rfl 175 _ _ rfl w1.heap.size WV rfl rfl 175 _ HZ.out HWI.out HWZ.out HWO.out ?_)
 have hw0 : w.heap.size < w1.heap.size := hB0.lt
 have hw1 : w.heap.size + 1 < w1.heap.size := hB1.lt
 have hW2 := setRow_at hZ WV
 have hC0 := (hB0.alloc (.cells (#[.int .u32 0, .int .u32 0, .int .u32 0, .int .u32 0, .int .u32 0, .int .u32 0, .int .u32 0, .int .u32 0, .int .u32 0, .int .u32 0, .int .u32 0, .int .u32 0, .int .u32 0, .int .u32 0, .int .u32 0, .int .u32 0, .int .u32 0, .int .u32 0, .int .u32 0, .int .u32 0, .int .u32 0, .int .u32 0, .int .u32 0, .int .u32 0, .int .u32 0, .int .u32 0, .int .u32 0, .int .u32 0, .int .u32 0, .int .u32 0, .int .u32 0, .int .u32 0, .int .u32 0, .int .u32 0, .int .u32 0, .int .u32 0, .int .u32 0, .int .u32 0, .int .u32 0, .int .u32 0, .int .u32 0, .int .u32 0, .int .u32 0, .int .u32 0, .int .u32 0, .int .u32 0, .int .u32 0, .int .u32 0, .int .u32 0, .int .u32 0, .int .u32 0, .int .u32 0, .int .u32 0, .int .u32 0, .int .u32 0, .int .u32 0, .int .u32 0, .int .u32 0, .int .u32 0, .int .u32 0, .int .u32 0, .int .u32 0, .int .u32 0, .int .u32 0] : Array Value) 175)).setRow_far (g' := w1.heap.size) (by omega) WV
 have hC1 := (hB1.alloc (.cells (#[.int .u32 0, .int .u32 0, .int .u32 0, .int .u32 0, .int .u32 0, .int .u32 0, .int .u32 0, .int .u32 0, .int .u32 0, .int .u32 0, .int .u32 0, .int .u32 0, .int .u32 0, .int .u32 0, .int .u32 0, .int .u32 0, .int .u32 0, .int .u32 0, .int .u32 0, .int .u32 0, .int .u32 0, .int .u32 0, .int .u32 0, .int .u32 0, .int .u32 0, .int .u32 0, .int .u32 0, .int .u32 0, .int .u32 0, .int .u32 0, .int .u32 0, .int .u32 0, .int .u32 0, .int .u32 0, .int .u32 0, .int .u32 0, .int .u32 0, .int .u32 0, .int .u32 0, .int .u32 0, .int .u32 0, .int .u32 0, .int .u32 0, .int .u32 0, .int .u32 0, .int .u32 0, .int .u32 0, .int .u32 0, .int .u32 0, .int .u32 0, .int .u32 0, .int .u32 0, .int .u32 0, .int .u32 0, .int .u32 0, .int .u32 0, .int .u32 0, .int .u32 0, .int .u32 0, .int .u32 0, .int .u32 0, .int .u32 0, .int .u32 0, .int .u32 0] : Array Value) 175)).setRow_far (g' := w1.heap.size) (by omega) WV
 have hbel2 : Below w.heap.size w ((w1.alloc (.cells (#[.int .u32 0, .int .u32 0, .int .u32 0, .int .u32 0, .int .u32 0, .int .u32 0, .int .u32 0, .int .u32 0, .int .u32 0, .int .u32 0, .int .u32 0, .int .u32 0, .int .u32 0, .int .u32 0, .int .u32 0, .int .u32 0, .int .u32 0, .int .u32 0, .int .u32 0, .int .u32 0, .int .u32 0, .int .u32 0, .int .u32 0, .int .u32 0, .int .u32 0, .int .u32 0, .int .u32 0, .int .u32 0, .int .u32 0, .int .u32 0, .int .u32 0, .int .u32 0, .int .u32 0, .int .u32 0, .int .u32 0, .int .u32 0, .int .u32 0, .int .u32 0, .int .u32 0, .int .u32 0, .int .u32 0, .int .u32 0, .int .u32 0, .int .u32 0, .int .u32 0, .int .u32 0, .int .u32 0, .int .u32 0, .int .u32 0, .int .u32 0, .int .u32 0, .int .u32 0, .int .u32 0, .int .u32 0, .int .u32 0, .int .u32 0, .int .u32 0, .int .u32 0, .int .u32 0, .int .u32 0, .int .u32 0, .int .u32 0, .int .u32 0, .int .u32 0] : Array Value) 175)).setRow w1.heap.size WV) := below_setRow (hbel1.alloc hbel1.size _) (by omega)
 clear hZ HZ hB0 hB1
 obtain ⟨H2, hH2⟩ : ∃ H, H = w1.heap.size := ⟨_, rfl⟩
 rw [← hH2] at hW2 hC0 hC1 hbel2 hw0 hw1 ⊢
 generalize ((w1.alloc (.cells (#[.int .u32 0, .int .u32 0, .int .u32 0, .int .u32 0, .int .u32 0, .int .u32 0, .int .u32 0, .int .u32 0, .int .u32 0, .int .u32 0, .int .u32 0, .int .u32 0, .int .u32 0, .int .u32 0, .int .u32 0, .int .u32 0, .int .u32 0, .int .u32 0, .int .u32 0, .int .u32 0, .int .u32 0, .int .u32 0, .int .u32 0, .int .u32 0, .int .u32 0, .int .u32 0, .int .u32 0, .int .u32 0, .int .u32 0, .int .u32 0, .int .u32 0, .int .u32 0, .int .u32 0, .int .u32 0, .int .u32 0, .int .u32 0, .int .u32 0, .int .u32 0, .int .u32 0, .int .u32 0, .int .u32 0, .int .u32 0, .int .u32 0, .int .u32 0, .int .u32 0, .int .u32 0, .int .u32 0, .int .u32 0, .int .u32 0, .int .u32 0, .int .u32 0, .int .u32 0, .int .u32 0, .int .u32 0, .int .u32 0, .int .u32 0, .int .u32 0, .int .u32 0, .int .u32 0, .int .u32 0, .int .u32 0, .int .u32 0, .int .u32 0, .int .u32 0] : Array Value) 175)).setRow H2 WV) = W2 at hW2 hC0 hC1 hbel2 ⊢
 clear hH2 hbel1
 have c0 := hC0.cell 0
 have c1 := hC0.cell 1
 have c2 := hC0.cell 2
 have c3 := hC0.cell 3
 have c4 := hC0.cell 4
 have c5 := hC0.cell 5
 have c6 := hC0.cell 6
 have c7 := hC0.cell 7
 go_quiet (fail)
 obtain ⟨tK, fK, hK0⟩ := TabK.below hK (show Below w.heap.size w (W2.drewN nq) from ⟨hbel2.os, hbel2.tape, hbel2.output, hbel2.size, hbel2.block⟩)
 have HK := Ld hK0
 clear hK0
 have hbel3 : Below w.heap.size w (W2.drewN nq) := ⟨hbel2.os, hbel2.tape, hbel2.output, hbel2.size, hbel2.block⟩
 have HC0 := Ld (hC0.drewN nq)
 have HC1 := Ld (hC1.drewN nq)
 have HW2 := Ld (show Blk (W2.drewN nq) H2 175 WV from hW2)
 clear c0 c1 c2 c3 c4 c5 c6 c7 hC0 hC1 hW2 hbel2
 generalize W2.drewN nq = W3 at HK hbel3 HC0 HC1 HW2 ⊢
 have HKI : Hid ((Tryz.prog.info? 175).map (·.size) = some kV.size) := by show _ = _; kernel_rfl
 go_wp2_with (refine wpList_load_row rfl 175 _ rfl 2 rfl tK kV fK _ HK.out Tryz.underlying175 rfl HKI.out ?_)
 have HWg : Hid (∀ t, t < 64 → WV[t]? = some (.int .u32 ((schedN b 64).getD t 0))) := by
  intro t ht
  have hlen := schedN_len b 64
  rw [HWV.out, List.getElem?_toArray, List.getElem?_map, List.getD_eq_getElem?_getD, List.getElem?_eq_getElem (by omega)]; rfl
 have HWb : Hid (∀ t, isW ((schedN b 64).getD t 0)) := fun t => getD_bd (schedN_bd b 64) t
 have HWZ2 := HWZ
 clear HWV HWZ HWI HWO HKI HK HSX
 go_loopw [6, 7, 8, 9, 10, 11, 12, 13, 14, 15, 16, 17, 43] (fun va vb vc vd ve vf vg vh _ _ _ _ i wr => ∃ (t : Nat) (S : St), t ≤ 64 ∧ i = .int .i64 t ∧ va = .int .u32 S.a ∧ vb = .int .u32 S.b ∧ vc = .int .u32 S.c ∧ vd = .int .u32 S.d ∧ ve = .int .u32 S.e ∧ vf = .int .u32 S.f ∧ vg = .int .u32 S.g ∧ vh = .int .u32 S.h ∧ Hid (S = roundsN s (schedN b 64) t) ∧ Hid S.isW ∧ Hid (Blk wr H2 175 WV) ∧ Hid (Blk wr w.heap.size 141 (stV s)) ∧ Hid (Blk wr (w.heap.size + 1) 141 #[.int .u32 0, .int .u32 0, .int .u32 0, .int .u32 0, .int .u32 0, .int .u32 0, .int .u32 0, .int .u32 0]) ∧ Hid (Below w.heap.size w wr)) (fun _ _ _ _ _ _ _ _ _ _ _ _ i _ => 64 - (intOf i).toNat)
 case atStart => exact ⟨0, s, Nat.zero_le _, rfl, rfl, rfl, rfl, rfl, rfl, rfl, rfl, rfl, Ld rfl, Ld hs, HW2, HC0, HC1, Ld hbel3⟩
 case round =>
  obtain ⟨t, S, ht, rfl, rfl, rfl, rfl, rfl, rfl, rfl, rfl, rfl, HSt, HSw, HB2, HB0, HB1, HBL⟩ := hrel
  clear HW2 HC0 HC1 hbel3
  rcases (by omega : t < 64 ∨ t = 64) with hlt | heq
  ·obtain ⟨⟨a0, a1⟩, ⟨b0, b1⟩, ⟨c0, c1⟩, ⟨d0, d1⟩, ⟨e0, e1⟩, ⟨f0, f1⟩, ⟨g0, g1⟩, ⟨h0, h1⟩⟩ := HSw.out
   have RI := fun w => run_index_k t hlt w
   have hti : (t : Int) < 64 := by omega
   have hti0 : (0 : Int) ≤ (t : Int) := by omega
   obtain ⟨KT, hKT⟩ : ∃ K, K = kL.getD t 0 := ⟨_, rfl⟩
   obtain ⟨WT, hWT⟩ : ∃ K, K = (schedN b 64).getD t 0 := ⟨_, rfl⟩
   have hcell : wr.cell? ⟨H2, t, none⟩ = some (.int .u32 WT) := by rw [HB2.out.cell, HWg.out t hlt, hWT]
   have bWT : 0 ≤ WT ∧ WT < 4294967296 := by rw [hWT]; exact HWb.out t
   have bKT : 0 ≤ KT ∧ KT < 4294967296 := by rw [hKT]; exact getD_bd kL_isW t
   rw [← hKT] at RI
   have HN : Hid (roundsN s (schedN b 64) (t + 1) = roundI S KT WT) := by show _ = _; rw [hKT, hWT, HSt.out]; rfl
   have HNW : Hid (roundI S KT WT).isW := roundI_isW S KT WT HSw.out
   clear hKT hWT HSw HSt HWg HWb
   obtain ⟨bWT0, bWT1⟩ := bWT
   obtain ⟨bKT0, bKT1⟩ := bKT
   obtain ⟨xa, xb, xc, xd, xe, xf, xg, xh⟩ := S
   dsimp only at a0 a1 b0 b1 c0 c1 d0 d1 e0 e1 f0 f1 g0 g1 h0 h1 ⊢
   have R6 : Hid (∀ w, Calls Tryz.prog 162 #[.int .u32 xe, .int .i64 6] w fun r w' => r = .returned (.int .u32 (rotI xe 6)) ∧ w' = w) := fun w => right_any xe 6 (by unfold isTurn; omega) e0 e1 w
   have R11 : Hid (∀ w, Calls Tryz.prog 162 #[.int .u32 xe, .int .i64 11] w fun r w' => r = .returned (.int .u32 (rotI xe 11)) ∧ w' = w) := fun w => right_any xe 11 (by unfold isTurn; omega) e0 e1 w
   have R25 : Hid (∀ w, Calls Tryz.prog 162 #[.int .u32 xe, .int .i64 25] w fun r w' => r = .returned (.int .u32 (rotI xe 25)) ∧ w' = w) := fun w => right_any xe 25 (by unfold isTurn; omega) e0 e1 w
   have R2 : Hid (∀ w, Calls Tryz.prog 162 #[.int .u32 xa, .int .i64 2] w fun r w' => r = .returned (.int .u32 (rotI xa 2)) ∧ w' = w) := fun w => right_any xa 2 (by unfold isTurn; omega) a0 a1 w
   have R13 : Hid (∀ w, Calls Tryz.prog 162 #[.int .u32 xa, .int .i64 13] w fun r w' => r = .returned (.int .u32 (rotI xa 13)) ∧ w' = w) := fun w => right_any xa 13 (by unfold isTurn; omega) a0 a1 w
   have R22 : Hid (∀ w, Calls Tryz.prog 162 #[.int .u32 xa, .int .i64 22] w fun r w' => r = .returned (.int .u32 (rotI xa 22)) ∧ w' = w) := fun w => right_any xa 22 (by unfold isTurn; omega) a0 a1 w
   obtain ⟨E1, hE1⟩ : ∃ z, z = big1 xe := ⟨_, rfl⟩
   obtain ⟨Q1, hQ1⟩ : ∃ z, z = add32 xh E1 := ⟨_, rfl⟩
   obtain ⟨CH, hCH⟩ : ∃ z, z = chI xe xf xg := ⟨_, rfl⟩
   obtain ⟨Q2, hQ2⟩ : ∃ z, z = add32 Q1 CH := ⟨_, rfl⟩
   obtain ⟨Q3, hQ3⟩ : ∃ z, z = add32 Q2 KT := ⟨_, rfl⟩
   obtain ⟨T1, hT1⟩ : ∃ z, z = add32 Q3 WT := ⟨_, rfl⟩
   obtain ⟨A0, hA0⟩ : ∃ z, z = big0 xa := ⟨_, rfl⟩
   obtain ⟨MJ, hMJ⟩ : ∃ z, z = majI xa xb xc := ⟨_, rfl⟩
   obtain ⟨T2, hT2⟩ : ∃ z, z = add32 A0 MJ := ⟨_, rfl⟩
   obtain ⟨NA, hNA⟩ : ∃ z, z = add32 T1 T2 := ⟨_, rfl⟩
   obtain ⟨NE, hNE⟩ : ∃ z, z = add32 xd T1 := ⟨_, rfl⟩
   have hR : roundI ⟨xa, xb, xc, xd, xe, xf, xg, xh⟩ KT WT = ⟨NA, xa, xb, xc, NE, xe, xf, xg⟩ := by
    rw [hNA, hNE, hT2, hMJ, hA0, hT1, hQ3, hQ2, hCH, hQ1, hE1]; rfl
   have HN2 : Hid ((⟨NA, xa, xb, xc, NE, xe, xf, xg⟩ : St) = roundsN s (schedN b 64) (t + 1)) := by show _ = _; rw [HN.out, hR]
   have HNW2 : Hid (St.isW ⟨NA, xa, xb, xc, NE, xe, xf, xg⟩) := by have := HNW.out; rw [hR] at this; exact this
   have wE1 : bits .xor .u32 (bits .xor .u32 (rotI xe 6) (rotI xe 11)) (rotI xe 25) = E1 := hE1.symm
   have wQ1 : IntKind.u32.wrap (xh + E1) = Q1 := by rw [IntKind.wrap_u32, hQ1]; rfl
   have wCH : bits .xor .u32 (bits .and .u32 xe xf) (bits .and .u32 (bits .xor .u32 (if IntKind.u32.signed = true then -1 else IntKind.u32.max) xe) xg) = CH := hCH.symm
   have wQ2 : IntKind.u32.wrap (Q1 + CH) = Q2 := by rw [IntKind.wrap_u32, hQ2]; rfl
   have wQ3 : IntKind.u32.wrap (Q2 + KT) = Q3 := by rw [IntKind.wrap_u32, hQ3]; rfl
   have wT1 : IntKind.u32.wrap (Q3 + WT) = T1 := by rw [IntKind.wrap_u32, hT1]; rfl
   clear hR hE1 hQ1 hCH hQ2 hQ3 hT1 HN HNW
   go_wp2
   go_quiet ((first | (go_at_call 162; exact Calls.quiet_of_same (R6.out _)) | (go_at_call 162; exact Calls.quiet_of_same (R11.out _)) | (go_at_call 162; exact Calls.quiet_of_same (R25.out _))))
   clear wE1 wQ1 wCH wQ2 wQ3 wT1 RI
   have HB2n := Ld (HB2.out.drewN nq)
   have HB0n := Ld (HB0.out.drewN nq)
   have HB1n := Ld (HB1.out.drewN nq)
   have HBLn := Ld (below_drewN HBL.out nq)
   clear HB2 HB0 HB1 HBL hcell
   generalize wr.drewN nq = wn at HB2n HB0n HB1n HBLn ⊢
   go_wp2_with fail
   refine (R2.out _).mono ?_
   rintro r w' ⟨rfl, rfl⟩
   go_wp2_with fail
   refine (R13.out _).mono ?_
   rintro r w' ⟨rfl, rfl⟩
   go_wp2_with fail
   refine (R22.out _).mono ?_
   rintro r w' ⟨rfl, rfl⟩
   have wA0 : bits .xor .u32 (bits .xor .u32 (rotI xa 2) (rotI xa 13)) (rotI xa 22) = A0 := hA0.symm
   have wMJ : bits .xor .u32 (bits .xor .u32 (bits .and .u32 xa xb) (bits .and .u32 xa xc)) (bits .and .u32 xb xc) = MJ := hMJ.symm
   have wT2 : (A0 + MJ) % 4294967296 = T2 := hT2.symm
   have wNA : (T1 + T2) % 4294967296 = NA := hNA.symm
   have wNE : (xd + T1) % 4294967296 = NE := hNE.symm
   clear hA0 hMJ hT2 hNA hNE
   go_wp2
   go_roundw
   case rel => exact ⟨t + 1, _, by omega, by go_num, (by show Value.int _ _ = Value.int _ NA; rw [wNA]), rfl, rfl, rfl, (by show Value.int _ _ = Value.int _ NE; rw [wNE]), rfl, rfl, rfl, HN2, HNW2, HB2n, HB0n, HB1n, HBLn⟩
   case measure => simp [intOf]; omega
  ·subst heq
   have ht64 : decide (((64 : Nat) : Int) < 64) = false := by decide
   obtain ⟨⟨a0, a1⟩, ⟨b0, b1⟩, ⟨c0, c1⟩, ⟨d0, d1⟩, ⟨e0, e1⟩, ⟨f0, f1⟩, ⟨g0, g1⟩, ⟨h0, h1⟩⟩ := HSw.out
   clear HB2 HWg HWb
   have HB0m : Hid (Blk wr w.heap.size 141 (midV s S 0)) := by show Blk _ _ _ _; rw [mid_zero]; exact HB0.out
   clear HB0
   go_wp2
   go_loopw [18, 19, 114] (fun _ _ i wr => ∃ t : Nat, t ≤ 8 ∧ i = .int .i64 t ∧ Hid (Blk wr w.heap.size 141 (midV s S t)) ∧ Hid (Blk wr (w.heap.size + 1) 141 #[.int .u32 0, .int .u32 0, .int .u32 0, .int .u32 0, .int .u32 0, .int .u32 0, .int .u32 0, .int .u32 0]) ∧ Hid (Below w.heap.size w wr)) (fun _ _ i _ => 8 - (intOf i).toNat)
   case atStart => exact ⟨0, Nat.zero_le _, rfl, HB0m, HB1, HBL⟩
   case round =>
    obtain ⟨j, hj, rfl, HM, HZ, HB⟩ := hrel
    clear HB0m HB1 HBL
    rcases (by omega : j < 8 ∨ j = 8) with hlt | heq
    ·have hji : (j : Int) < 8 := by omega
     have hj0 : (0 : Int) ≤ (j : Int) := by omega
     have RI := fun w => run_index_8 S j hlt w
     have hcell := HM.out.cell j
     rw [mid_at s S j hlt] at hcell
     have hfr := HM.out.frozen j
     have HN := Ld (HM.out.set_ j (.int .u32 (add32 ((stL s).getD j 0) ((stL S).getD j 0))))
     rw [mid_set s S j hlt] at HN
     have HZn := Ld (HZ.out.far (p := ⟨w.heap.size, j, none⟩) (by simp) (.int .u32 (add32 ((stL s).getD j 0) ((stL S).getD j 0))))
     have HBn := Ld (HB.out.setCell (p := ⟨w.heap.size, j, none⟩) (Nat.le_refl _) (.int .u32 (add32 ((stL s).getD j 0) ((stL S).getD j 0))))
     obtain ⟨x, hx⟩ : ∃ x, x = (stL s).getD j 0 := ⟨_, rfl⟩
     obtain ⟨y, hy⟩ : ∃ x, x = (stL S).getD j 0 := ⟨_, rfl⟩
     rw [← hx] at hcell HN HZn HBn
     rw [← hy] at HN HZn HBn RI
     have hbx := stL_bd s hs j
     have hby := stL_bd S HSw.out j
     rw [← hx] at hbx
     rw [← hy] at hby
     obtain ⟨x0, x1⟩ := hbx
     obtain ⟨y0, y1⟩ := hby
     clear hx hy
     obtain ⟨z, hz⟩ : ∃ z, z = add32 x y := ⟨_, rfl⟩
     rw [← hz] at HN HZn HBn
     have hz' : (x + y) % 4294967296 = z := hz.symm
     have hz'' : IntKind.u32.wrap (x + y) = z := by rw [IntKind.wrap_u32]; exact hz'
     clear hz HM HZ HB HSw
     go_wp2
     go_roundw
     case rel => exact ⟨j + 1, by omega, by go_num, HN, HZn, HBn⟩
     case measure => simp [intOf]; omega
    ·subst heq
     have h88 : decide (((8 : Nat) : Int) < 8) = false := by decide
     have HE : Hid (midV s S 8 = stV (blockI s b)) := by
      have := mid_eight s b
      rw [← HSt.out] at this
      exact this
     have HI : Hid ((Tryz.prog.info? 141).map (·.size) = some (midV s S 8).size) := by show _ = _; kernel_rfl
     have HO : Hid ((midV s S 8).all (·.oneCell') = true) := by show _ = _; simp [midV, Value.oneCell']
     have HS0 : Hid ((#[.int .u32 0, .int .u32 0, .int .u32 0, .int .u32 0, .int .u32 0, .int .u32 0, .int .u32 0, .int .u32 0] : Array Value).size = (midV s S 8).size) := by show _ = _; rfl
     have HSO : Hid (stV (blockI s b) = stV (blockI s b)) := Ld rfl
     generalize midV s S 8 = V at HM HE HI HO HS0 ⊢
     have HBz : Hid (Below w.heap.size w (wr.setRow (w.heap.size + 1) V)) := below_setRow HB.out (by omega)
     have HGz := Ld (setRow_at HZ.out V)
     clear HSt HSw
     go_wp2_with (first
      | (refine wpList_load_row rfl 141 _ rfl w.heap.size rfl 141 V (0, 0) _ HM.out Tryz.underlying141 rfl HI.out ?_)
      | (refine wpList_store_row rfl 141 _ _ rfl (w.heap.size + 1) V rfl rfl 141 _ HZ.out HI.out HS0.out HO.out ?_))
     exact bodyPost_ret (v := .agg V) (results_cell_row (fn := Tryz.f132) rfl _ _ (w.heap.size + 1) 141 V (0, 0) _ rfl HGz.out Tryz.underlying141 rfl HI.out) rfl ⟨by rw [HE.out]; rfl, HBz.out⟩
def eatN (s : St) (L : List UInt8) : Nat → St
 | 0 => s
 | k + 1 => blockI (eatN s L k) ((L.drop (64 * k)).take 64)
theorem blockI_isW (s : St) (b : List UInt8) : (blockI s b).isW := by
 have h : ∀ x y, isW (add32 x y) := fun x y => by unfold isW add32; omega
 exact ⟨h _ _, h _ _, h _ _, h _ _, h _ _, h _ _, h _ _, h _ _⟩
theorem eatN_isW (s : St) (hs : s.isW) (L : List UInt8) : ∀ k, (eatN s L k).isW
 | 0 => hs
 | k + 1 => blockI_isW _ _
def hashV (s : St) (v : Value) (n : Int) : Array Value := #[.int .u32 s.a, .int .u32 s.b, .int .u32 s.c, .int .u32 s.d, .int .u32 s.e, .int .u32 s.f, .int .u32 s.g, .int .u32 s.h, v, .int .i64 n]
def sliceLen : Value → Nat
 | .slice _ n _ => n
 | _ => 0
theorem RB.cut64 {w : World} {A : Option Addr} {l : List UInt8} {c : Nat} (h : RB w A l) (hl : 64 ≤ l.length) (hc : l.length ≤ c) : RB w (if c = 64 then A else Option.map (fun x => (⟨x.block, x.off + 64, none⟩ : Addr)) A) (l.drop 64) := by
 have := h.cut hl hc
 simpa [Addr.add] using this
structure HashAt (w : World) (g : Nat) (s : St) (rest : List UInt8) (n : Nat) : Prop where
 ex : ∃ A c, Blk w g 170 (hashV s (.slice A rest.length c) n) ∧ RB w A rest ∧ rest.length ≤ c ∧ c ≤ maxLen
theorem hash_cells {w : World} {g : Nat} {s : St} {v : Value} {n : Int} (h : Blk w g 170 (hashV s v n)) : w.cell? ⟨g, 0, none⟩ = some (.int .u32 s.a) ∧ w.cell? ⟨g, 1, none⟩ = some (.int .u32 s.b) ∧ w.cell? ⟨g, 2, none⟩ = some (.int .u32 s.c) ∧ w.cell? ⟨g, 3, none⟩ = some (.int .u32 s.d) ∧ w.cell? ⟨g, 4, none⟩ = some (.int .u32 s.e) ∧ w.cell? ⟨g, 5, none⟩ = some (.int .u32 s.f) ∧ w.cell? ⟨g, 6, none⟩ = some (.int .u32 s.g) ∧ w.cell? ⟨g, 7, none⟩ = some (.int .u32 s.h) ∧ w.cell? ⟨g, 8, none⟩ = some v ∧ w.cell? ⟨g, 9, none⟩ = some (.int .i64 n) :=
 ⟨h.cell 0, h.cell 1, h.cell 2, h.cell 3, h.cell 4, h.cell 5, h.cell 6, h.cell 7, h.cell 8, h.cell 9⟩
theorem Blk.set8 {w : World} {g : Nat} {s t : St} {v : Value} {n : Int} (h : Blk w g 170 (hashV s v n)) : Blk ((((((((w.setCell ⟨g, 0, none⟩ (.int .u32 t.a)).setCell ⟨g, 1, none⟩ (.int .u32 t.b)).setCell ⟨g, 2, none⟩ (.int .u32 t.c)).setCell ⟨g, 3, none⟩ (.int .u32 t.d)).setCell ⟨g, 4, none⟩ (.int .u32 t.e)).setCell ⟨g, 5, none⟩ (.int .u32 t.f)).setCell ⟨g, 6, none⟩ (.int .u32 t.g)).setCell ⟨g, 7, none⟩ (.int .u32 t.h)) g 170 (hashV t v n) := by
 have := (((((((h.set_ 0 (.int .u32 t.a)).set_ 1 (.int .u32 t.b)).set_ 2 (.int .u32 t.c)).set_ 3 (.int .u32 t.d)).set_ 4 (.int .u32 t.e)).set_ 5 (.int .u32 t.f)).set_ 6 (.int .u32 t.g)).set_ 7 (.int .u32 t.h)
 unfold hashV at this ⊢
 simpa only [List.setIfInBounds_toArray, List.set_cons_zero, List.set_cons_succ] using this
theorem Blk.setRest {w : World} {g : Nat} {s : St} {v v' : Value} {n : Int} (h : Blk w g 170 (hashV s v n)) : Blk (w.setCell ⟨g, 8, none⟩ v') g 170 (hashV s v' n) := by
 have := h.set_ 8 v'
 unfold hashV at this ⊢
 simpa only [List.setIfInBounds_toArray, List.set_cons_zero, List.set_cons_succ] using this
theorem Blk.setLen {w : World} {g : Nat} {s : St} {v : Value} {n n' : Int} (h : Blk w g 170 (hashV s v n)) : Blk (w.setCell ⟨g, 9, none⟩ (.int .i64 n')) g 170 (hashV s v n') := by
 have := h.set_ 9 (.int .i64 n')
 unfold hashV at this ⊢
 simpa only [List.setIfInBounds_toArray, List.set_cons_zero, List.set_cons_succ] using this
theorem Blk.noHash {w : World} {g : Nat} {s : St} {A : Option Addr} {k c : Nat} {n : Int} (h : Blk w g 170 (hashV s (.slice A k c) n)) : NoBy w g := NoBy.of_blk h (by
 intro k x
 unfold hashV
 rcases (by omega : k = 0 ∨ k = 1 ∨ k = 2 ∨ k = 3 ∨ k = 4 ∨ k = 5 ∨ k = 6 ∨ k = 7 ∨ k = 8 ∨ k = 9 ∨ 10 ≤ k) with rfl | rfl | rfl | rfl | rfl | rfl | rfl | rfl | rfl | rfl | h
 all_goals first | (intro h; cases h) | (rw [Array.getElem?_eq_none (by simpa using h)]; intro h; cases h))
set_option maxRecDepth 100000 in
set_option maxHeartbeats 4000000 in
theorem write_any (g : Nat) (s : St) (rest : List UInt8) (m : Nat) (A : Option Addr) (n c : Nat) (b : List UInt8) (w : World) (hs : s.isW) (hK : TabK w) (hH : HashAt w g s rest m) (hr : RB w A b) (hn : b.length = n) (hc : n ≤ c) (hcm : c ≤ maxLen) (hz : m + n ≤ 70368744177664) (hrz : rest.length < 64) :
  Calls Tryz.prog 97 #[.pointer (some ⟨g, 0, none⟩), .slice A n c] w fun e w' => e = .returned (.int .i64 n) ∧ HashAt w' g (eatN s (rest ++ b) ((rest ++ b).length / 64)) ((rest ++ b).drop (64 * ((rest ++ b).length / 64))) (m + n) ∧ Fr (· = g) w w' := by
 obtain ⟨A0, c0, hB, hr0, hc0, hc0m⟩ := hH.ex
 unfold maxLen at hcm hc0m
 have h0 := hB.cell 8
 have h1 := hB.cell 9
 have hf1 := hB.frozen 9
 have HN := Ld hn
 have HB := Ld hB
 have HH := Ld hH
 have HS := Ld hs
 obtain ⟨r, hrr⟩ : ∃ r, r = rest.length := ⟨_, rfl⟩
 have HR := Ld hrr
 rw [← hrr] at h0 hc0
 have hGW : g < w.heap.size := HB.out.lt
 clear hB hH hn hs hrr
 unfold hashV at h0 h1
 simp only [List.getElem?_toArray, List.getElem?_cons_succ, List.getElem?_cons_zero] at h0 h1
 have HL1 : Hid (Blk (w.setCell ⟨g, 9, none⟩ (.int .i64 ((m : Int) + (n : Int)))) g 170 (hashV s (.slice A0 r c0) ((m : Int) + (n : Int)))) := by
  have := HB.out.setLen (n' := (m : Int) + (n : Int))
  rw [← HR.out] at this
  exact this
 have HF1 := Ld (fr_cell (w := w) (g := g) (k := 9) (.int .i64 ((m : Int) + (n : Int))))
 have HRB1 := Ld (hr.fr2 HF1.out (fun k hk _ => hk ▸ HB.out.noHash))
 have HRR1 := Ld (hr0.fr2 HF1.out (fun k hk _ => hk ▸ HB.out.noHash))
 have HK1 : Hid (TabK (w.setCell ⟨g, 9, none⟩ (.int .i64 ((m : Int) + (n : Int))))) := TabK.fr hK HF1.out (fun e => hK.ne HB.out (by simp [hashV]) e)
 have hr64 : r < 64 := by rw [HR.out]; exact hrz
 have hE : ∃ L, L = rest ++ b := ⟨_, rfl⟩
 obtain ⟨L, hL⟩ := hE
 rcases Nat.eq_zero_or_pos r with hr00 | hr00
 ·have hrn : rest = [] := List.eq_nil_of_length_eq_zero (by rw [← HR.out]; exact hr00)
  have HLn : Hid (L.length = n) := by show _ = _; rw [hL, hrn, List.nil_append, HN.out]
  have HRL : Hid (RB (w.setCell ⟨g, 9, none⟩ (.int .i64 ((m : Int) + (n : Int)))) A L) := by show RB _ _ _; rw [hL, hrn, List.nil_append]; exact HRB1.out
  have HLL := Ld hL
  have hr0f : decide ((0 : Int) < (r : Int)) = false := by rw [decide_eq_false_iff_not]; omega
  have hr0g : decide (0 < r) = false := by rw [decide_eq_false_iff_not]; omega
  clear hrn hL hr00
  go_enter Tryz.func97, Tryz.ntmps97
  go_wp2
  generalize w.setCell ⟨g, 9, none⟩ (.int .i64 ((m : Int) + (n : Int))) = W1 at HL1 HF1 HRB1 HRR1 HK1 HRL ⊢
  have hcM : c ≤ 9223372036854775807 := by omega
  have hnM : n ≤ 140737488355328 := by omega
  clear hcm hz hr0 hf1 h0 h1 hK hr hc0m HRB1 HRR1
  go_loopw [5] (fun v wr => ∃ (k : Nat) (A' : Option Addr) (c' n' : Nat), v = .slice A' n' c' ∧ n' ≤ c' ∧ c' ≤ 9223372036854775807 ∧ n' ≤ 140737488355328 ∧ Hid (n' + 64 * k = L.length) ∧ Hid (RB wr A' (L.drop (64 * k))) ∧ Hid (Blk wr g 170 (hashV (eatN s L k) (.slice A0 r c0) ((m : Int) + (n : Int)))) ∧ Hid (Fr (· = g) w wr) ∧ Hid (TabK wr)) (fun v _ => sliceLen v)
  case atStart => exact ⟨0, _, _, _, rfl, by omega, by omega, by omega, Ld (by rw [HLn.out]; omega), Ld (by rw [Nat.mul_zero, List.drop_zero]; exact HRL.out), HL1, HF1, HK1⟩
  case round =>
   obtain ⟨k, A', c', n', rfl, hlc, hcc, hnn, HLK, HRK, HBK, HFK, HKK⟩ := hrel
   clear HRL HL1 HF1 HK1 hcM hnM
   rcases (by omega : 64 ≤ n' ∨ n' < 64) with h64 | h64
   ·have hi : decide ((64 : Int) ≤ (n' : Int)) = true := by rw [decide_eq_true_iff]; omega
    have hc64 : (64 : Int) ≤ (c' : Int) := by omega
    have hn64 : (64 : Int) ≤ (n' : Int) := by omega
    have h640 : (0 : Int) ≤ 64 := by omega
    obtain ⟨CK, hCK⟩ : ∃ CK, CK = (L.drop (64 * k)).take 64 := ⟨_, rfl⟩
    have hlen : CK.length = 64 := by have := HLK.out; rw [hCK, List.length_take, List.length_drop]; omega
    have hsw := eatN_isW s HS.out L k
    obtain ⟨S, hS⟩ : ∃ S, S = eatN s L k := ⟨_, rfl⟩
    have hnx : eatN s L (k + 1) = blockI S CK := by rw [hS, hCK]; rfl
    obtain ⟨S', hS'⟩ : ∃ S', S' = blockI S CK := ⟨_, rfl⟩
    have HC := block_any S (by rw [hS]; exact hsw) A' c' CK wr.drew HKK.out (by rw [hCK]; exact HRK.out.take (by have := HLK.out; rw [List.length_drop]; omega)) hlen (by omega) (by omega)
    rw [← hS'] at HC
    unfold stV at HC
    have HC := Ld HC
    have HNX : Hid (eatN s L (k + 1) = S') := hnx.trans hS'.symm
    rw [← hS] at HBK
    obtain ⟨q0, q1, q2, q3, q4, q5, q6, q7, _, _⟩ := hash_cells HBK.out
    clear hCK hlen hsw hS hnx hS'
    go_wp2
    go_region_with ((go_at_call 132; refine HC.out.mono ?_; rintro e w3 ⟨rfl, hb3⟩; have HB3 := (HBK.out.drew).below hb3 HBK.out.lt; obtain ⟨p0, p1, p2, p3, p4, p5, p6, p7, p8, p9⟩ := hash_cells HB3; have f0 := HB3.frozen 0; have f1 := HB3.frozen 1; have f2 := HB3.frozen 2; have f3 := HB3.frozen 3; have f4 := HB3.frozen 4; have f5 := HB3.frozen 5; have f6 := HB3.frozen 6; have f7 := HB3.frozen 7))
    have hFr : Fr (· = g) wr ((((((((w3.setCell ⟨g, 0, none⟩ (.int .u32 S'.a)).setCell ⟨g, 1, none⟩ (.int .u32 S'.b)).setCell ⟨g, 2, none⟩ (.int .u32 S'.c)).setCell ⟨g, 3, none⟩ (.int .u32 S'.d)).setCell ⟨g, 4, none⟩ (.int .u32 S'.e)).setCell ⟨g, 5, none⟩ (.int .u32 S'.f)).setCell ⟨g, 6, none⟩ (.int .u32 S'.g)).setCell ⟨g, 7, none⟩ (.int .u32 S'.h)) :=
     ((((((((((Fr.refl (· = g) wr).drew).below hb3).setCell (fun _ => rfl) _).setCell (fun _ => rfl) _).setCell (fun _ => rfl) _).setCell (fun _ => rfl) _).setCell (fun _ => rfl) _).setCell (fun _ => rfl) _).setCell (fun _ => rfl) _).setCell (fun _ => rfl) _
    have HB4 := Ld (Blk.set8 (t := S') HB3)
    have HF4 := Ld (HFK.out.trans hFr)
    have hgk : (2 : Nat) ≠ g := HKK.out.ne HBK.out (by simp [hashV])
    have HK4 : Hid (TabK _) := TabK.fr HKK.out hFr hgk
    have HR4 := Ld (HRK.out.fr2 hFr (fun k hk _ => hk ▸ HBK.out.noHash))
    clear hFr HB3 p0 p1 p2 p3 p4 p5 p6 p7 p8 p9 f0 f1 f2 f3 f4 f5 f6 f7 hb3 q0 q1 q2 q3 q4 q5 q6 q7 HBK HFK HKK HRK HC
    generalize (((((((w3.setCell ⟨g, 0, none⟩ (.int .u32 S'.a)).setCell ⟨g, 1, none⟩ (.int .u32 S'.b)).setCell ⟨g, 2, none⟩ (.int .u32 S'.c)).setCell ⟨g, 3, none⟩ (.int .u32 S'.d)).setCell ⟨g, 4, none⟩ (.int .u32 S'.e)).setCell ⟨g, 5, none⟩ (.int .u32 S'.f)).setCell ⟨g, 6, none⟩ (.int .u32 S'.g)).setCell ⟨g, 7, none⟩ (.int .u32 S'.h) = W4 at HB4 HF4 HK4 HR4 ⊢
    go_wp2
    refine ⟨⟨k + 1, _, _, _, rfl, by omega, by omega, by omega, Ld (by have := HLK.out; omega), Ld ?_, by rw [HNX.out]; exact HB4, HF4, HK4⟩, by simp only [sliceLen]; omega⟩
    have := HR4.out.cut64 (c := c') (by have := HLK.out; rw [List.length_drop]; omega) (by have := HLK.out; rw [List.length_drop]; omega)
    rw [List.drop_drop] at this
    exact this
   ·have hi : decide ((64 : Int) ≤ (n' : Int)) = false := by rw [decide_eq_false_iff_not]; omega
    have hq : L.length / 64 = k := by have := HLK.out; omega
    have hrl : (L.drop (64 * k)).length = n' := by have := HLK.out; rw [List.length_drop]; omega
    have HQ := Ld hq
    have HRLn := Ld hrl
    clear hq hrl
    go_wp2_with fail
    refine (clone_n A' n' c' _ _ HRLn.out hnn HRK.out).mono ?_
    rintro e w5 ⟨v, rfl, hv, hb5⟩
    obtain ⟨A5, c5, rfl, hl5, hm5, hr5, _⟩ := hv.shape
    clear hv
    rw [HRLn.out] at hl5 ⊢
    have HB5 := HBK.out.below hb5 HBK.out.lt
    have HF5 := HFK.out.below hb5
    have hcell := HB5.cell 8
    unfold hashV at hcell
    simp only [List.getElem?_toArray, List.getElem?_cons_succ, List.getElem?_cons_zero] at hcell
    have hfr5 := HB5.frozen 8
    have HB6 := Ld (HB5.setRest (v' := .slice A5 n' c5))
    have HF6 := Ld (HF5.setCell (p := ⟨g, 8, none⟩) (fun _ => rfl) (.slice A5 n' c5))
    have HR6 := Ld (hr5.fr2 (fr_cell (w := w5) (g := g) (k := 8) (.slice A5 n' c5)) (fun k hk _ => hk ▸ HB5.noHash))
    have HL5 := Ld hl5
    have HM5 := Ld hm5
    clear hl5 hm5 hr5 HB5 HF5 hb5 HRK HBK HFK HKK
    go_wp2
    go_ret
    rw [← HLL.out, HQ.out]
    exact ⟨rfl, ⟨A5, c5, by rw [HRLn.out]; push_cast; exact HB6.out, HR6.out, by rw [HRLn.out]; exact HL5.out, HM5.out⟩, HF6.out⟩
 ·have HLn : Hid (L.length = r + n) := by show _ = _; rw [hL, List.length_append, HN.out, HR.out]
  have HLL := Ld hL
  clear hL
  go_enter Tryz.func97, Tryz.ntmps97
  go_wp2_with fail
  have hps : Pts ((w.setCell ⟨g, 9, none⟩ (.int .i64 ((m : Int) + (n : Int)))).alloc (.cells #[.slice A0 r c0, .slice A n c] 45)) (some ⟨w.heap.size, 0, none⟩) [⟨A0, c0, rest⟩, ⟨A, c, b⟩] := by
   refine Pts.of_block (t := 45) ?_ ?_
   ·have := Blk.new (w.setCell ⟨g, 9, none⟩ (.int .i64 ((m : Int) + (n : Int)))) 45 #[.slice A0 r c0, .slice A n c]
    have e : (w.setCell ⟨g, 9, none⟩ (.int .i64 ((m : Int) + (n : Int)))).heap.size = w.heap.size := by simp [World.setCell]
    rw [e] at this
    simpa [Pt.v, HR.out, HN.out] using this
   ·intro p hp
    have hal : Below (w.setCell ⟨g, 9, none⟩ (.int .i64 ((m : Int) + (n : Int)))).heap.size (w.setCell ⟨g, 9, none⟩ (.int .i64 ((m : Int) + (n : Int)))) ((w.setCell ⟨g, 9, none⟩ (.int .i64 ((m : Int) + (n : Int)))).alloc (.cells #[.slice A0 r c0, .slice A n c] 45)) := (Below.refl _ _).alloc (Nat.le_refl _) _
    simp only [List.mem_cons, List.not_mem_nil, or_false] at hp
    rcases hp with rfl | rfl
    ·exact HRR1.out.below hal
    ·exact HRB1.out.below hal
  have hcat : catP [⟨A0, c0, rest⟩, ⟨A, c, b⟩] = L := by rw [HLL.out]; simp [catP]
  refine (concat_any _ 2 2 _ _ hps rfl (by omega) (by rw [hcat, HLn.out]; omega)).mono ?_
  rintro e w2 ⟨v, rfl, hv, hb2⟩
  rw [hcat] at hv
  obtain ⟨A', c', rfl, hlc, hcm', hRL, _⟩ := hv.shape
  have HL3 := Ld ((HL1.out.alloc (.cells #[.slice A0 r c0, .slice A n c] 45)).below hb2 (by have := HL1.out.lt; simp at this ⊢; omega))
  have HK3 : Hid (TabK w2) := TabK.below (TabK.below HK1.out ((Below.refl _ _).alloc (Nat.le_refl _) _)) hb2
  have HF3 := Ld ((HF1.out.alloc (.cells #[.slice A0 r c0, .slice A n c] 45)).below hb2)
  obtain ⟨n2, hn2⟩ : ∃ n2, n2 = L.length := ⟨_, rfl⟩
  rw [← hn2] at hlc ⊢
  have HRL := Ld hRL
  have HLn3 : Hid (L.length = n2) := hn2.symm
  have hcM : c' ≤ 9223372036854775807 := by unfold maxLen at hcm'; omega
  have hnM : n2 ≤ 140737488355328 := by rw [hn2, HLn.out]; omega
  clear HLn hcm' hps hv hcat hb2 HL1 HF1 HRB1 HRR1 HK1 hz hr0 hf1 h0 h1 hK hr hc0m hn2 hRL hcm
  go_wp2
  have HL1 := HL3
  have HF1 := HF3
  have HK1 := HK3
  have HLn := HLn3
  clear HL3 HF3 HK3 HLn3
  go_loopw [5] (fun v wr => ∃ (k : Nat) (A' : Option Addr) (c' n' : Nat), v = .slice A' n' c' ∧ n' ≤ c' ∧ c' ≤ 9223372036854775807 ∧ n' ≤ 140737488355328 ∧ Hid (n' + 64 * k = L.length) ∧ Hid (RB wr A' (L.drop (64 * k))) ∧ Hid (Blk wr g 170 (hashV (eatN s L k) (.slice A0 r c0) ((m : Int) + (n : Int)))) ∧ Hid (Fr (· = g) w wr) ∧ Hid (TabK wr)) (fun v _ => sliceLen v)
  case atStart => exact ⟨0, _, _, _, rfl, by omega, by omega, by omega, Ld (by rw [HLn.out]; omega), Ld (by rw [Nat.mul_zero, List.drop_zero]; exact HRL.out), HL1, HF1, HK1⟩
  case round =>
   obtain ⟨k, A', c', n', rfl, hlc, hcc, hnn, HLK, HRK, HBK, HFK, HKK⟩ := hrel
   clear HRL HL1 HF1 HK1 hcM hnM
   rcases (by omega : 64 ≤ n' ∨ n' < 64) with h64 | h64
   ·have hi : decide ((64 : Int) ≤ (n' : Int)) = true := by rw [decide_eq_true_iff]; omega
    have hc64 : (64 : Int) ≤ (c' : Int) := by omega
    have hn64 : (64 : Int) ≤ (n' : Int) := by omega
    have h640 : (0 : Int) ≤ 64 := by omega
    obtain ⟨CK, hCK⟩ : ∃ CK, CK = (L.drop (64 * k)).take 64 := ⟨_, rfl⟩
    have hlen : CK.length = 64 := by have := HLK.out; rw [hCK, List.length_take, List.length_drop]; omega
    have hsw := eatN_isW s HS.out L k
    obtain ⟨S, hS⟩ : ∃ S, S = eatN s L k := ⟨_, rfl⟩
    have hnx : eatN s L (k + 1) = blockI S CK := by rw [hS, hCK]; rfl
    obtain ⟨S', hS'⟩ : ∃ S', S' = blockI S CK := ⟨_, rfl⟩
    have HC := block_any S (by rw [hS]; exact hsw) A' c' CK wr.drew HKK.out (by rw [hCK]; exact HRK.out.take (by have := HLK.out; rw [List.length_drop]; omega)) hlen (by omega) (by omega)
    rw [← hS'] at HC
    unfold stV at HC
    have HC := Ld HC
    have HNX : Hid (eatN s L (k + 1) = S') := hnx.trans hS'.symm
    rw [← hS] at HBK
    obtain ⟨q0, q1, q2, q3, q4, q5, q6, q7, _, _⟩ := hash_cells HBK.out
    clear hCK hlen hsw hS hnx hS'
    go_wp2
    go_region_with ((go_at_call 132; refine HC.out.mono ?_; rintro e w3 ⟨rfl, hb3⟩; have HB3 := (HBK.out.drew).below hb3 HBK.out.lt; obtain ⟨p0, p1, p2, p3, p4, p5, p6, p7, p8, p9⟩ := hash_cells HB3; have f0 := HB3.frozen 0; have f1 := HB3.frozen 1; have f2 := HB3.frozen 2; have f3 := HB3.frozen 3; have f4 := HB3.frozen 4; have f5 := HB3.frozen 5; have f6 := HB3.frozen 6; have f7 := HB3.frozen 7))
    have hFr : Fr (· = g) wr ((((((((w3.setCell ⟨g, 0, none⟩ (.int .u32 S'.a)).setCell ⟨g, 1, none⟩ (.int .u32 S'.b)).setCell ⟨g, 2, none⟩ (.int .u32 S'.c)).setCell ⟨g, 3, none⟩ (.int .u32 S'.d)).setCell ⟨g, 4, none⟩ (.int .u32 S'.e)).setCell ⟨g, 5, none⟩ (.int .u32 S'.f)).setCell ⟨g, 6, none⟩ (.int .u32 S'.g)).setCell ⟨g, 7, none⟩ (.int .u32 S'.h)) :=
     ((((((((((Fr.refl (· = g) wr).drew).below hb3).setCell (fun _ => rfl) _).setCell (fun _ => rfl) _).setCell (fun _ => rfl) _).setCell (fun _ => rfl) _).setCell (fun _ => rfl) _).setCell (fun _ => rfl) _).setCell (fun _ => rfl) _).setCell (fun _ => rfl) _
    have HB4 := Ld (Blk.set8 (t := S') HB3)
    have HF4 := Ld (HFK.out.trans hFr)
    have hgk : (2 : Nat) ≠ g := HKK.out.ne HBK.out (by simp [hashV])
    have HK4 : Hid (TabK _) := TabK.fr HKK.out hFr hgk
    have HR4 := Ld (HRK.out.fr2 hFr (fun k hk _ => hk ▸ HBK.out.noHash))
    clear hFr HB3 p0 p1 p2 p3 p4 p5 p6 p7 p8 p9 f0 f1 f2 f3 f4 f5 f6 f7 hb3 q0 q1 q2 q3 q4 q5 q6 q7 HBK HFK HKK HRK HC
    generalize (((((((w3.setCell ⟨g, 0, none⟩ (.int .u32 S'.a)).setCell ⟨g, 1, none⟩ (.int .u32 S'.b)).setCell ⟨g, 2, none⟩ (.int .u32 S'.c)).setCell ⟨g, 3, none⟩ (.int .u32 S'.d)).setCell ⟨g, 4, none⟩ (.int .u32 S'.e)).setCell ⟨g, 5, none⟩ (.int .u32 S'.f)).setCell ⟨g, 6, none⟩ (.int .u32 S'.g)).setCell ⟨g, 7, none⟩ (.int .u32 S'.h) = W4 at HB4 HF4 HK4 HR4 ⊢
    go_wp2
    refine ⟨⟨k + 1, _, _, _, rfl, by omega, by omega, by omega, Ld (by have := HLK.out; omega), Ld ?_, by rw [HNX.out]; exact HB4, HF4, HK4⟩, by simp only [sliceLen]; omega⟩
    have := HR4.out.cut64 (c := c') (by have := HLK.out; rw [List.length_drop]; omega) (by have := HLK.out; rw [List.length_drop]; omega)
    rw [List.drop_drop] at this
    exact this
   ·have hi : decide ((64 : Int) ≤ (n' : Int)) = false := by rw [decide_eq_false_iff_not]; omega
    have hq : L.length / 64 = k := by have := HLK.out; omega
    have hrl : (L.drop (64 * k)).length = n' := by have := HLK.out; rw [List.length_drop]; omega
    have HQ := Ld hq
    have HRLn := Ld hrl
    clear hq hrl
    go_wp2_with fail
    refine (clone_n A' n' c' _ _ HRLn.out hnn HRK.out).mono ?_
    rintro e w5 ⟨v, rfl, hv, hb5⟩
    obtain ⟨A5, c5, rfl, hl5, hm5, hr5, _⟩ := hv.shape
    clear hv
    rw [HRLn.out] at hl5 ⊢
    have HB5 := HBK.out.below hb5 HBK.out.lt
    have HF5 := HFK.out.below hb5
    have hcell := HB5.cell 8
    unfold hashV at hcell
    simp only [List.getElem?_toArray, List.getElem?_cons_succ, List.getElem?_cons_zero] at hcell
    have hfr5 := HB5.frozen 8
    have HB6 := Ld (HB5.setRest (v' := .slice A5 n' c5))
    have HF6 := Ld (HF5.setCell (p := ⟨g, 8, none⟩) (fun _ => rfl) (.slice A5 n' c5))
    have HR6 := Ld (hr5.fr2 (fr_cell (w := w5) (g := g) (k := 8) (.slice A5 n' c5)) (fun k hk _ => hk ▸ HB5.noHash))
    have HL5 := Ld hl5
    have HM5 := Ld hm5
    clear hl5 hm5 hr5 HB5 HF5 hb5 HRK HBK HFK HKK
    go_wp2
    go_ret
    rw [← HLL.out, HQ.out]
    exact ⟨rfl, ⟨A5, c5, by rw [HRLn.out]; push_cast; exact HB6.out, HR6.out, by rw [HRLn.out]; exact HL5.out, HM5.out⟩, HF6.out⟩
theorem eatN_pre (s : St) (T b : List UInt8) : ∀ j, 64 * j ≤ T.length → eatN s (T ++ b) j = eatN s T j
 | 0, _ => rfl
 | j + 1, h => by
  unfold eatN
  rw [eatN_pre s T b j (by omega)]
  congr 1
  rw [List.drop_append_of_le_length (by omega), List.take_append_of_le_length (by rw [List.length_drop]; omega)]
theorem eatN_more (s : St) (L : List UInt8) (j : Nat) : ∀ k, eatN (eatN s L j) (L.drop (64 * j)) k = eatN s L (j + k)
 | 0 => rfl
 | k + 1 => by
  show blockI (eatN (eatN s L j) (L.drop (64 * j)) k) (((L.drop (64 * j)).drop (64 * k)).take 64) = blockI (eatN s L (j + k)) ((L.drop (64 * (j + k))).take 64)
  rw [eatN_more s L j k, List.drop_drop, Nat.mul_add]
def startS : St := ⟨0x6a09e667, 0xbb67ae85, 0x3c6ef372, 0xa54ff53a, 0x510e527f, 0x9b05688c, 0x1f83d9ab, 0x5be0cd19⟩
theorem startS_isW : startS.isW := by
 unfold startS St.isW
 simp only [isW]
 omega
def eat (T : List UInt8) : St := eatN startS T (T.length / 64)
def restL (T : List UInt8) : List UInt8 := T.drop (64 * (T.length / 64))
theorem restL_len (T : List UInt8) : (restL T).length = T.length % 64 := by unfold restL; rw [List.length_drop]; omega
theorem eat_more (T b : List UInt8) : eatN (eat T) (restL T ++ b) ((restL T ++ b).length / 64) = eat (T ++ b) := by
 have h1 : restL T ++ b = (T ++ b).drop (64 * (T.length / 64)) := by unfold restL; rw [List.drop_append_of_le_length (by omega)]
 have h2 : eat T = eatN startS (T ++ b) (T.length / 64) := (eatN_pre startS T b (T.length / 64) (by omega)).symm
 unfold eat at h2 ⊢
 rw [h1, h2, eatN_more, List.length_drop]
 congr 1
 have : (T ++ b).length = T.length + b.length := List.length_append
 omega
theorem rest_more (T b : List UInt8) : (restL T ++ b).drop (64 * ((restL T ++ b).length / 64)) = restL (T ++ b) := by
 have h1 : restL T ++ b = (T ++ b).drop (64 * (T.length / 64)) := by unfold restL; rw [List.drop_append_of_le_length (by omega)]
 rw [h1, List.drop_drop, List.length_drop]
 unfold restL
 congr 1
 have : (T ++ b).length = T.length + b.length := List.length_append
 omega
def padZ (n : Nat) : Nat := (119 - n % 64) % 64
def padL (n : Nat) : List UInt8 := [128] ++ List.replicate (padZ n) 0 ++ beBytes (8 * n) 8
def sumB (s : St) (i : Nat) : UInt8 := UInt8.ofNat (((stL s).getD (i / 4) 0).toNat / 2 ^ (24 - 8 * (i % 4)))
def sumL (s : St) : List UInt8 := (List.range 32).map (sumB s)
def shaL (T : List UInt8) : List UInt8 := sumL (eat (T ++ padL T.length))
theorem sumL_len (s : St) : (sumL s).length = 32 := by simp [sumL]
theorem shaL_len (T : List UInt8) : (shaL T).length = 32 := sumL_len _
def HashOf (w : World) (g : Nat) (T : List UInt8) : Prop := HashAt w g (eat T) (restL T) T.length
theorem HashOf.fr {S : Nat → Prop} {w w' : World} {g : Nat} {T : List UInt8} (h : HashOf w g T) (hf : Fr S w w') (hg : ¬ S g) (hS : ∀ k, S k → k < w.heap.size → NoBy w k) : HashOf w' g T := by
 obtain ⟨A, c, h1, h2, h3, h4⟩ := h.ex
 exact ⟨A, c, h1.fr hf hg, h2.fr2 hf hS, h3, h4⟩
theorem HashOf.below {w w' : World} {g : Nat} {T : List UInt8} (h : HashOf w g T) (hb : Below w.heap.size w w') : HashOf w' g T := by
 obtain ⟨A, c, h1, h2, h3, h4⟩ := h.ex
 exact ⟨A, c, h1.below hb h1.lt, h2.below hb, h3, h4⟩
theorem HashOf.lt {w : World} {g : Nat} {T : List UInt8} (h : HashOf w g T) : g < w.heap.size := by
 obtain ⟨A, c, h1, h2, h3, h4⟩ := h.ex
 exact h1.lt
theorem write_of (g : Nat) (T : List UInt8) (A : Option Addr) (n c : Nat) (b : List UInt8) (w : World) (hK : TabK w) (hH : HashOf w g T) (hr : RB w A b) (hn : b.length = n) (hc : n ≤ c) (hcm : c ≤ maxLen) (hz : T.length + n ≤ 70368744177664) :
  Calls Tryz.prog 97 #[.pointer (some ⟨g, 0, none⟩), .slice A n c] w fun e w' => e = .returned (.int .i64 n) ∧ HashOf w' g (T ++ b) ∧ Fr (· = g) w w' := by
 refine (write_any g (eat T) (restL T) T.length A n c b w (eatN_isW _ startS_isW _ _) hK hH hr hn hc hcm hz (by rw [restL_len]; omega)).mono ?_
 rintro e w' ⟨he, hh, hf⟩
 refine ⟨he, ?_, hf⟩
 rw [eat_more, rest_more] at hh
 unfold HashOf
 rw [List.length_append, hn]
 exact hh
set_option maxRecDepth 100000 in
set_option maxHeartbeats 4000000 in
theorem start_any (w : World) : Calls Tryz.prog 130 #[] w fun e w' => e = .returned (.agg (stV startS)) ∧ Below w.heap.size w w' := by
 go_enter Tryz.func130, Tryz.ntmps130
 go_wp2
 refine bodyPost_ret (v := .agg (stV startS)) (by simp [results, Tryz.results130, go_sem]; rfl) rfl ⟨rfl, ?_⟩
 exact (Below.refl _ _).alloc (Nat.le_refl _) _
set_option maxRecDepth 100000 in
set_option maxHeartbeats 4000000 in
theorem new_any (w : World) : Calls Tryz.prog 96 #[] w fun e w' => ∃ g, e = .returned (.pointer (some ⟨g, 0, none⟩)) ∧ w.heap.size ≤ g ∧ HashOf w' g [] ∧ Below w.heap.size w w' := by
 have HS := fun w => start_any w
 unfold stV at HS
 have HSX := Ld HS
 clear HS
 go_enter Tryz.func96, Tryz.ntmps96
 go_wp2_with fail
 refine (HSX.out _).mono ?_
 rintro e w1 ⟨rfl, hb⟩
 go_wp2
 go_ret
 refine ⟨_, rfl, hb.size, ⟨none, 0, Blk.new _ _ _, RB.nil _, Nat.le_refl _, by simp [maxLen]⟩, hb.alloc hb.size _⟩
set_option maxRecDepth 100000 in
set_option maxHeartbeats 4000000 in
theorem fork_any (g : Nat) (T : List UInt8) (w : World) (hH : HashOf w g T) : Calls Tryz.prog 134 #[.pointer (some ⟨g, 0, none⟩)] w fun e w' => ∃ x, e = .returned (.pointer (some ⟨x, 0, none⟩)) ∧ w.heap.size ≤ x ∧ HashOf w' x T ∧ Below w.heap.size w w' := by
 obtain ⟨A, c, hB, hr, hl, hm⟩ := hH.ex
 obtain ⟨S, hS⟩ : ∃ S, S = eat T := ⟨_, rfl⟩
 obtain ⟨n, hn⟩ : ∃ n, n = T.length := ⟨_, rfl⟩
 obtain ⟨q, hq⟩ : ∃ q, q = (restL T).length := ⟨_, rfl⟩
 have hq64 : q < 64 := by rw [hq, restL_len]; omega
 rw [← hS, ← hn, ← hq] at hB
 rw [← hq] at hl
 obtain ⟨q0, q1, q2, q3, q4, q5, q6, q7, q8, q9⟩ := hash_cells hB
 have HS := Ld hS
 have HN := Ld hn
 have HQ := Ld hq
 have HB := Ld hB
 have HR := Ld hr
 have HM := Ld hm
 clear hS hn hq hB hr hH hm
 go_enter Tryz.func134, Tryz.ntmps134
 go_wp2
 go_region_held3 (fun w' => w'.cell? ⟨g, 0, none⟩ = some (.int .u32 S.a) ∧ w'.cell? ⟨g, 1, none⟩ = some (.int .u32 S.b) ∧ w'.cell? ⟨g, 2, none⟩ = some (.int .u32 S.c) ∧ w'.cell? ⟨g, 3, none⟩ = some (.int .u32 S.d) ∧ w'.cell? ⟨g, 4, none⟩ = some (.int .u32 S.e) ∧ w'.cell? ⟨g, 5, none⟩ = some (.int .u32 S.f) ∧ w'.cell? ⟨g, 6, none⟩ = some (.int .u32 S.g) ∧ w'.cell? ⟨g, 7, none⟩ = some (.int .u32 S.h) ∧ w'.cell? ⟨g, 8, none⟩ = some (.slice A q c) ∧ w'.cell? ⟨g, 9, none⟩ = some (.int .i64 n))
  (first | exact hash_cells HB.out.drew | exact hash_cells (HB.out.drew.below hb5 HB.out.lt) | exact hash_cells ((HB.out.drew.below hb5 HB.out.lt).alloc _) | go_keep)
  (first | (go_at_call 133; refine (clone_n A q c _ _ HQ.out.symm (by omega) HR.out.drew').mono ?_; rintro e w5 ⟨v, rfl, hv, hb5⟩; obtain ⟨A5, c5, rfl, hl5, hm5, hr5, _⟩ := hv.shape; rw [HQ.out.symm] at hl5 ⊢))
 go_wp2
 go_ret
 have hx : w.heap.size ≤ w5.heap.size := hb5.size
 have hBn := Blk.new w5 170 #[.int .u32 S.a, .int .u32 S.b, .int .u32 S.c, .int .u32 S.d, .int .u32 S.e, .int .u32 S.f, .int .u32 S.g, .int .u32 S.h, .slice A5 q c5, .int .i64 n]
 refine ⟨_, rfl, hx, ⟨A5, c5, by rw [← HS.out, ← HN.out, ← HQ.out]; exact hBn, hr5.below ((Below.refl _ _).alloc (Nat.le_refl _) _), by rw [← HQ.out]; exact hl5, hm5⟩, ?_⟩
 exact ((show Below w.heap.size w w5 from ⟨hb5.os, hb5.tape, hb5.output, hb5.size, hb5.block⟩).alloc hx _)
def outV (s : St) (k : Nat) : Array Value := ((List.range 32).map fun i => if i < k then u8v (sumB s i) else .int .u8 0).toArray
theorem outV_size (s : St) (k : Nat) : (outV s k).size = 32 := by simp [outV]
theorem outV_zero (s : St) : outV s 0 = #[.int .u8 0, .int .u8 0, .int .u8 0, .int .u8 0, .int .u8 0, .int .u8 0, .int .u8 0, .int .u8 0, .int .u8 0, .int .u8 0, .int .u8 0, .int .u8 0, .int .u8 0, .int .u8 0, .int .u8 0, .int .u8 0, .int .u8 0, .int .u8 0, .int .u8 0, .int .u8 0, .int .u8 0, .int .u8 0, .int .u8 0, .int .u8 0, .int .u8 0, .int .u8 0, .int .u8 0, .int .u8 0, .int .u8 0, .int .u8 0, .int .u8 0, .int .u8 0] := rfl
theorem outV_full (s : St) : outV s 32 = (Lib.byteCells (sumL s)).toArray := by
 unfold outV sumL Lib.byteCells
 rw [List.map_map]
 congr 1
theorem outV_set (s : St) (k : Nat) (hk : k < 32) : (outV s k).setIfInBounds k (u8v (sumB s k)) = outV s (k + 1) := by
 apply Array.ext_getElem?
 intro j
 rcases Nat.lt_or_ge j 32 with hj | hj
 ·rcases (by omega : j = k ∨ j ≠ k) with rfl | hne
  ·rw [Array.getElem?_setIfInBounds_self_of_lt (by rw [outV_size]; omega)]
   unfold outV
   simp [hj]
  ·rw [Array.getElem?_setIfInBounds_ne (by omega)]
   unfold outV
   simp only [List.getElem?_toArray, List.getElem?_map, List.getElem?_range hj, Option.map_some]
   congr 1
   by_cases h : j < k
   ·rw [if_pos h, if_pos (by omega)]
   ·rw [if_neg h, if_neg (by omega)]
 ·rw [Array.getElem?_eq_none (by rw [Array.size_setIfInBounds, outV_size]; omega), Array.getElem?_eq_none (by rw [outV_size]; omega)]
theorem hash_word {w : World} {g : Nat} {s : St} {v : Value} {n : Int} (h : Blk w g 170 (hashV s v n)) (k : Nat) (hk : k < 8) : w.cell? ⟨g, k, none⟩ = some (.int .u32 ((stL s).getD k 0)) := by
 rw [h.cell]
 rcases (by omega : k = 0 ∨ k = 1 ∨ k = 2 ∨ k = 3 ∨ k = 4 ∨ k = 5 ∨ k = 6 ∨ k = 7) with rfl | rfl | rfl | rfl | rfl | rfl | rfl | rfl <;> rfl
theorem sum_val (s : St) (k : Nat) (h : 0 ≤ (stL s).getD (k / 4) 0) : Value.int .u8 ((stL s).getD (k / 4) 0 / 2 ^ (24 - 8 * (k % 4)) % 256) = u8v (sumB s k) := by
 unfold u8v sumB
 obtain ⟨n, hn⟩ := Int.eq_ofNat_of_zero_le h
 rw [hn]
 congr 1
set_option maxRecDepth 100000 in
set_option maxHeartbeats 4000000 in
theorem sum_any (g : Nat) (T : List UInt8) (w : World) (hK : TabK w) (hH : HashOf w g T) (hz : T.length ≤ 35184372088832) :
  Calls Tryz.prog 98 #[.pointer (some ⟨g, 0, none⟩)] w fun e w' => e = .returned (.agg (Lib.byteCells (shaL T)).toArray) ∧ Below w.heap.size w w' := by
 obtain ⟨Z, hZ⟩ : ∃ Z, Z = outV (eat (T ++ padL T.length)) 0 := ⟨_, rfl⟩
 have hZ0 := hZ.trans (outV_zero _)
 obtain ⟨W1, hW1⟩ : ∃ W1, W1 = (w.alloc (.cells #[.int .u8 0, .int .u8 0, .int .u8 0, .int .u8 0, .int .u8 0, .int .u8 0, .int .u8 0, .int .u8 0, .int .u8 0, .int .u8 0, .int .u8 0, .int .u8 0, .int .u8 0, .int .u8 0, .int .u8 0, .int .u8 0, .int .u8 0, .int .u8 0, .int .u8 0, .int .u8 0, .int .u8 0, .int .u8 0, .int .u8 0, .int .u8 0, .int .u8 0, .int .u8 0, .int .u8 0, .int .u8 0, .int .u8 0, .int .u8 0, .int .u8 0, .int .u8 0] 87)).alloc (.cells #[.int .u8 0, .int .u8 0, .int .u8 0, .int .u8 0, .int .u8 0, .int .u8 0, .int .u8 0, .int .u8 0, .int .u8 0, .int .u8 0, .int .u8 0, .int .u8 0, .int .u8 0, .int .u8 0, .int .u8 0, .int .u8 0, .int .u8 0, .int .u8 0, .int .u8 0, .int .u8 0, .int .u8 0, .int .u8 0, .int .u8 0, .int .u8 0, .int .u8 0, .int .u8 0, .int .u8 0, .int .u8 0, .int .u8 0, .int .u8 0, .int .u8 0, .int .u8 0] 87) := ⟨_, rfl⟩
 have hB0 : Blk W1 w.heap.size 87 Z := by rw [hW1, hZ0]; exact (Blk.new _ _ _).alloc _
 have hB1 : Blk W1 (w.heap.size + 1) 87 Z := by rw [hW1, hZ0]; simpa using Blk.new (w.alloc (.cells #[.int .u8 0, .int .u8 0, .int .u8 0, .int .u8 0, .int .u8 0, .int .u8 0, .int .u8 0, .int .u8 0, .int .u8 0, .int .u8 0, .int .u8 0, .int .u8 0, .int .u8 0, .int .u8 0, .int .u8 0, .int .u8 0, .int .u8 0, .int .u8 0, .int .u8 0, .int .u8 0, .int .u8 0, .int .u8 0, .int .u8 0, .int .u8 0, .int .u8 0, .int .u8 0, .int .u8 0, .int .u8 0, .int .u8 0, .int .u8 0, .int .u8 0, .int .u8 0] 87)) 87 _
 have hbel1 : Below w.heap.size w W1 := by rw [hW1]; exact ((Below.refl _ _).alloc (Nat.le_refl _) _).alloc (by simp) _
 have HW1 := Ld hW1
 have HK := Ld (TabK.below hK hbel1)
 have HH := Ld (hH.below hbel1)
 have HB0 := Ld hB0
 have HB1 := Ld hB1
 have HBL := Ld hbel1
 have HZ := Ld hZ
 have hH0 := hH
 clear hZ hZ0 hK hH hB0 hB1 hbel1 hW1
 go_enter Tryz.func98, Tryz.ntmps98
 go_wp2_with fail
 rw [← HW1.out]
 clear HW1
 refine (fork_any g T _ HH.out).mono ?_
 rintro e w2 ⟨x, rfl, hx, hX, hb2⟩
 obtain ⟨A, c, hBx, hrx, hlx, hmx⟩ := hX.ex
 have hc8 := hBx.cell 8
 unfold hashV at hc8
 simp only [List.getElem?_toArray, List.getElem?_cons_succ, List.getElem?_cons_zero] at hc8
 obtain ⟨q, hq⟩ : ∃ q, q = (restL T).length := ⟨_, rfl⟩
 have hq64 : q < 64 := by rw [hq, restL_len]; omega
 rw [← hq] at hc8
 have HQ : Hid (q = T.length % 64) := by show _ = _; rw [hq, restL_len]
 clear hq
 obtain ⟨Ag, cg, hBg, _, _, _⟩ := (HH.out.below hb2).ex
 have hc9 := hBg.cell 9
 unfold hashV at hc9
 simp only [List.getElem?_toArray, List.getElem?_cons_succ, List.getElem?_cons_zero] at hc9
 have hxw := HB0.out.lt
 have hxw1 := HB1.out.lt
 have HX := Ld hX
 have HB2 := Ld hb2
 clear hBx hrx hlx hmx hBg hX hb2
 obtain ⟨t, ht⟩ : ∃ t, t = T.length := ⟨_, rfl⟩
 rw [← ht] at hc9 hz
 have HT := Ld ht
 clear ht
 have wr1 : (119 - (q : Int)) % 64 = ((padZ t : Nat) : Int) := by unfold padZ; rw [HT.out, ← HQ.out]; omega
 have HP := Ld wr1
 have hpz : padZ t < 64 := by unfold padZ; omega
 obtain ⟨z, hzz⟩ : ∃ z, z = padZ t := ⟨_, rfl⟩
 rw [← hzz] at hpz HP
 have HZZ := Ld hzz
 have h8 : (8 : Int) * (t : Int) = ((8 * t : Nat) : Int) := by push_cast; rfl
 have H8 := Ld h8
 have RM := fun w => run_make_bytes z (by omega) w
 clear wr1 hzz h8
 go_wp2_with fail
 rw [HP.out, H8.out]
 refine (put_ok (8 * t) 8 _ (by omega) (by omega) (fun h => by omega)).mono ?_
 rintro e w3 ⟨pv, rfl, hpv, hb3⟩
 obtain ⟨Ap, cp, rfl, hlp, hmp, hrp, _⟩ := hpv.shape
 rw [beBytes_length] at hlp ⊢
 have HX3 := Ld (HX.out.below hb3)
 have HB3 := Ld (HB2.out.trans (hb3.mono HB2.out.size))
 have HRP := Ld hrp
 have hx3 : x < w3.heap.size := HX3.out.lt
 clear HX HB2 hrp hpv hb3 hc8 hc9
 go_wp2_with fail
 have hal1 : Below w3.heap.size w3 (w3.alloc (.cells #[.int .u8 128] 5)) := (Below.refl _ _).alloc (Nat.le_refl _) _
 have hal2 : Below w3.heap.size w3 ((w3.alloc (.cells #[.int .u8 128] 5)).alloc (.cells (madeCells #[Value.int .u8 0] z) 5)) := hal1.alloc (by simp) _
 have hal3 : Below w3.heap.size w3 (((w3.alloc (.cells #[.int .u8 128] 5)).alloc (.cells (madeCells #[Value.int .u8 0] z) 5)).alloc (.cells #[.slice (some ⟨w3.heap.size, 0, none⟩) 1 1, .slice (some ⟨w3.heap.size + 1, 0, none⟩) z z, .slice Ap 8 cp] 45)) := hal2.alloc hal2.size _
 have b1 : Blk (((w3.alloc (.cells #[.int .u8 128] 5)).alloc (.cells (madeCells #[Value.int .u8 0] z) 5)).alloc (.cells #[.slice (some ⟨w3.heap.size, 0, none⟩) 1 1, .slice (some ⟨w3.heap.size + 1, 0, none⟩) z z, .slice Ap 8 cp] 45)) w3.heap.size 5 (Lib.byteCells [128]).toArray := ((Blk.new w3 5 #[.int .u8 128]).alloc _).alloc _
 have b2 : Blk (((w3.alloc (.cells #[.int .u8 128] 5)).alloc (.cells (madeCells #[Value.int .u8 0] z) 5)).alloc (.cells #[.slice (some ⟨w3.heap.size, 0, none⟩) 1 1, .slice (some ⟨w3.heap.size + 1, 0, none⟩) z z, .slice Ap 8 cp] 45)) (w3.heap.size + 1) 5 (Lib.byteCells (List.replicate z 0)).toArray := by
  have := (Blk.new (w3.alloc (.cells #[.int .u8 128] 5)) 5 (madeCells #[Value.int .u8 0] z)).alloc (.cells #[.slice (some ⟨w3.heap.size, 0, none⟩) 1 1, .slice (some ⟨w3.heap.size + 1, 0, none⟩) z z, .slice Ap 8 cp] 45)
  rw [← made_zeros]
  simpa using this
 have b3 : Blk (((w3.alloc (.cells #[.int .u8 128] 5)).alloc (.cells (madeCells #[Value.int .u8 0] z) 5)).alloc (.cells #[.slice (some ⟨w3.heap.size, 0, none⟩) 1 1, .slice (some ⟨w3.heap.size + 1, 0, none⟩) z z, .slice Ap 8 cp] 45)) (w3.heap.size + 1 + 1) 45 #[.slice (some ⟨w3.heap.size, 0, none⟩) 1 1, .slice (some ⟨w3.heap.size + 1, 0, none⟩) z z, .slice Ap 8 cp] := by
  have := Blk.new ((w3.alloc (.cells #[.int .u8 128] 5)).alloc (.cells (madeCells #[Value.int .u8 0] z) 5)) 45 #[.slice (some ⟨w3.heap.size, 0, none⟩) 1 1, .slice (some ⟨w3.heap.size + 1, 0, none⟩) z z, .slice Ap 8 cp]
  simpa using this
 have hps : Pts (((w3.alloc (.cells #[.int .u8 128] 5)).alloc (.cells (madeCells #[Value.int .u8 0] z) 5)).alloc (.cells #[.slice (some ⟨w3.heap.size, 0, none⟩) 1 1, .slice (some ⟨w3.heap.size + 1, 0, none⟩) z z, .slice Ap 8 cp] 45)) (some ⟨w3.heap.size + 1 + 1, 0, none⟩) [⟨some ⟨w3.heap.size, 0, none⟩, 1, [128]⟩, ⟨some ⟨w3.heap.size + 1, 0, none⟩, z, List.replicate z 0⟩, ⟨Ap, cp, beBytes (8 * t) 8⟩] := by
  refine Pts.of_block (t := 45) (by simpa [Pt.v, beBytes_length] using b3) ?_
  intro p hp
  simp only [List.mem_cons, List.not_mem_nil, or_false] at hp
  rcases hp with rfl | rfl | rfl
  ·exact RB.of_blk b1
  ·exact RB.of_blk b2
  ·exact HRP.out.below hal3
 have hcat : catP [⟨some ⟨w3.heap.size, 0, none⟩, 1, [128]⟩, ⟨some ⟨w3.heap.size + 1, 0, none⟩, z, List.replicate z 0⟩, ⟨Ap, cp, beBytes (8 * t) 8⟩] = padL t := by
  rw [HZZ.out]; simp [catP, padL]
 have hpl : (padL t).length ≤ 80 := by unfold padL; rw [List.length_append, List.length_append, beBytes_length, List.length_replicate, ← HZZ.out]; simp only [List.length_cons, List.length_nil]; omega
 refine (concat_any _ 3 3 _ _ hps rfl (by omega) (by rw [hcat]; omega)).mono ?_
 rintro e w4 ⟨cv, rfl, hcv, hb4⟩
 rw [hcat] at hcv
 obtain ⟨Ac, cc, rfl, hlc, hmc, hrc, _⟩ := hcv.shape
 have hb34 : Below w3.heap.size w3 w4 := hal3.trans (hb4.mono hal3.size)
 have HX4 := Ld (HX3.out.below hb34)
 have HB4 := Ld (HB3.out.trans (hb34.mono HB3.out.size))
 have HRC := Ld hrc
 obtain ⟨m, hm⟩ : ∃ m, m = (padL t).length := ⟨_, rfl⟩
 rw [← hm] at hlc hpl ⊢
 have HM := Ld hm
 clear hm hcv hrc hps hcat b1 b2 b3 hal1 hal2 hal3 hb4 hb34 HX3 HRP HB3 RM
 go_wp2_with fail
 refine (write_of x T Ac m cc (padL t) w4 (TabK.below HK.out HB4.out) HX4.out HRC.out HM.out.symm hlc hmc (by rw [← HT.out]; omega)).mono ?_
 rintro e w5 ⟨rfl, hX5, hf5⟩
 have hxx : W1.heap.size ≤ x := hx
 have HB5 : Hid (Below W1.heap.size W1 w5) := Ld (Fr.below_trans HB4.out hf5 HB4.out.size (fun k hk => by omega))
 have HZ0 := Ld (HB0.out.below HB5.out hxw)
 have HZ1 := Ld (HB1.out.below HB5.out hxw1)
 obtain ⟨Ax, cx, hBx, _, _, _⟩ := hX5.ex
 obtain ⟨SS, hSS⟩ : ∃ SS, SS = eat (T ++ padL t) := ⟨_, rfl⟩
 rw [← hSS] at hBx
 have HSS : Hid (shaL T = sumL SS) := by show _ = _; rw [hSS, HT.out]; rfl
 have hsw : SS.isW := by rw [hSS]; exact eatN_isW _ startS_isW _ _
 rw [HZ.out, ← HT.out, ← hSS] at HZ1
 have HZ0s : Hid (Z.size = 32) := by show _ = _; rw [HZ.out, outV_size]
 have HBX := Ld hBx
 have HSW := Ld hsw
 clear hSS hBx hX5 hf5 hsw HX4 HB4 HRC HB0 HB1 HH HK hH0
 go_wp2
 go_loopw [8, 38] (fun _ i wr => ∃ k : Nat, k ≤ 32 ∧ i = .int .i64 k ∧ Hid (Blk wr (w.heap.size + 1) 87 (outV SS k)) ∧ Hid (Blk wr w.heap.size 87 Z) ∧ Hid (Blk wr x 170 (hashV SS (.slice Ax (restL (T ++ padL t)).length cx) ((T ++ padL t).length : Nat))) ∧ Hid (Below w.heap.size w wr)) (fun _ i _ => 32 - (intOf i).toNat)
 case atStart => exact ⟨0, Nat.zero_le _, rfl, HZ1, HZ0, HBX, Ld (HBL.out.trans (HB5.out.mono HBL.out.size))⟩
 case round =>
  obtain ⟨k, hk, rfl, HO, HZ2, HBK, HBW⟩ := hrel
  clear HZ1 HZ0 HBX HBL HB5
  rcases (by omega : k < 32 ∨ k = 32) with hlt | heq
  ·have hki : (k : Int) < 32 := by omega
   have hk0 : (0 : Int) ≤ (k : Int) := by omega
   have hw := hash_word HBK.out (k / 4) (by omega)
   have hfr := HO.out.frozen k
   obtain ⟨ov, hov⟩ : ∃ ov, wr.cell? ⟨w.heap.size + 1, k, none⟩ = some ov := ⟨_, by rw [HO.out.cell, Array.getElem?_eq_getElem (by rw [outV_size]; omega)]⟩
   have hub := stL_bd SS HSW.out (k / 4)
   have HV := Ld (sum_val SS k hub.1)
   obtain ⟨u, hu⟩ : ∃ u, u = (stL SS).getD (k / 4) 0 := ⟨_, rfl⟩
   rw [← hu] at hw hub HV
   obtain ⟨hu0, hu1⟩ := hub
   have HN := HO.out.set_ k (u8v (sumB SS k))
   rw [outV_set SS k hlt] at HN
   have HN := Ld HN
   have hx2 : w.heap.size + 1 < x := by omega
   have HZn := Ld (HZ2.out.far (p := ⟨w.heap.size + 1, k, none⟩) (by simp) (u8v (sumB SS k)))
   have HBn := Ld (HBK.out.far (p := ⟨w.heap.size + 1, k, none⟩) (by simp; omega) (u8v (sumB SS k)))
   have HWn := Ld (HBW.out.setCell (p := ⟨w.heap.size + 1, k, none⟩) (by simp) (u8v (sumB SS k)))
   clear hu HO HZ2 HBK HBW
   go_wp2
   rw [HV.out]
   go_roundw
   case rel => exact ⟨k + 1, by omega, by go_num, HN, HZn, HBn, HWn⟩
   case measure => simp [intOf]; omega
  ·subst heq
   have h88 : decide (((32 : Nat) : Int) < 32) = false := by decide
   have HE : Hid (outV SS 32 = (Lib.byteCells (shaL T)).toArray) := by show _ = _; rw [outV_full, HSS.out]
   have HI : Hid ((Tryz.prog.info? 87).map (·.size) = some (outV SS 32).size) := by show _ = _; rw [outV_size]; kernel_rfl
   have HOC : Hid ((outV SS 32).all (·.oneCell') = true) := by show _ = _; rw [outV_full]; simp [Lib.byteCells, Value.oneCell']
   have HS0 : Hid (Z.size = (outV SS 32).size) := by show _ = _; rw [outV_size]; exact HZ0s.out
   generalize outV SS 32 = V at HO HE HI HOC HS0 ⊢
   have HBz : Hid (Below w.heap.size w (wr.setRow w.heap.size V)) := below_setRow HBW.out (Nat.le_refl _)
   have HGz := Ld (setRow_at HZ2.out V)
   clear HBK HSW HSS HZ0s
   go_wp2_with (first
    | (refine wpList_load_row rfl 87 _ rfl (w.heap.size + 1) rfl 87 V (0, 0) _ HO.out Tryz.underlying87 rfl HI.out ?_)
    | (refine wpList_store_row rfl 87 _ _ rfl w.heap.size V rfl rfl 87 _ HZ2.out HI.out HS0.out HOC.out ?_))
   exact bodyPost_ret (v := .agg V) (results_cell_row (fn := Tryz.f98) rfl _ _ w.heap.size 87 V (0, 0) _ rfl HGz.out Tryz.underlying87 rfl HI.out) rfl ⟨by rw [HE.out], HBz.out⟩
set_option maxRecDepth 100000 in
set_option maxHeartbeats 4000000 in
theorem of_any (A : Option Addr) (n c : Nat) (ps : List Pt) (w : World) (hK : TabK w) (hps : Pts w A ps) (hn : ps.length = n) (hnb : n ≤ 9223372036854775807) (hz : (catP ps).length ≤ 35184372088832) (hcs : ∀ p ∈ ps, p.l.length ≤ p.c ∧ p.c ≤ maxLen) :
  Calls Tryz.prog 52 #[.slice A n c] w fun e w' => e = .returned (.agg (Lib.byteCells (shaL (catP ps))).toArray) ∧ Below w.heap.size w w' := by
 obtain ⟨Z, hZ⟩ : ∃ Z, Z = outV startS 0 := ⟨_, rfl⟩
 have hZ0 := hZ.trans (outV_zero _)
 obtain ⟨W1, hW1⟩ : ∃ W1, W1 = w.alloc (.cells #[.int .u8 0, .int .u8 0, .int .u8 0, .int .u8 0, .int .u8 0, .int .u8 0, .int .u8 0, .int .u8 0, .int .u8 0, .int .u8 0, .int .u8 0, .int .u8 0, .int .u8 0, .int .u8 0, .int .u8 0, .int .u8 0, .int .u8 0, .int .u8 0, .int .u8 0, .int .u8 0, .int .u8 0, .int .u8 0, .int .u8 0, .int .u8 0, .int .u8 0, .int .u8 0, .int .u8 0, .int .u8 0, .int .u8 0, .int .u8 0, .int .u8 0, .int .u8 0] 87) := ⟨_, rfl⟩
 have hB0 : Blk W1 w.heap.size 87 Z := by rw [hW1, hZ0]; exact Blk.new _ _ _
 have hbel1 : Below w.heap.size w W1 := by rw [hW1]; exact (Below.refl _ _).alloc (Nat.le_refl _) _
 have HW1 := Ld hW1
 have HB0 := Ld hB0
 have HBL := Ld hbel1
 have HZs : Hid (Z.size = 32) := by show _ = _; rw [hZ, outV_size]
 have HN := Ld hn
 have HP := Ld hps
 have HK := Ld hK
 have HCS := Ld hcs
 have HZZ := Ld hz
 clear hZ hZ0 hB0 hbel1 hn hps hK hcs hz hW1
 go_enter Tryz.func52, Tryz.ntmps52
 go_wp2_with fail
 rw [← HW1.out]
 clear HW1
 refine (new_any _).mono ?_
 rintro e w2 ⟨g, rfl, hg, hH, hb2⟩
 have HH2 := Ld hH
 have HB2 := Ld (HBL.out.trans (hb2.mono HBL.out.size))
 have hwlt := HB0.out.lt
 have HZ2 := Ld (HB0.out.below hb2 hwlt)
 have hgw : w.heap.size < g := by omega
 clear hH hb2 HB0 HBL
 go_wp2
 go_loopw [5, 9] (fun _ i wr => ∃ k : Nat, k ≤ n ∧ i = .int .i64 k ∧ Hid (HashOf wr g (catP (ps.take k))) ∧ Hid (Below w.heap.size w wr) ∧ Hid (Blk wr w.heap.size 87 Z)) (fun _ i _ => n - (intOf i).toNat)
 case atStart => exact ⟨0, Nat.zero_le _, rfl, HH2, HB2, HZ2⟩
 case round =>
  obtain ⟨k, hk, rfl, HH, HB, HZ⟩ := hrel
  clear HH2 HB2 HZ2
  rcases (by omega : k < n ∨ k = n) with hlt | heq
  ·have hkl : k < ps.length := by rw [HN.out]; exact hlt
   obtain ⟨ad, rfl, hb, hc, hr⟩ := (HP.out.below HB.out).at_ hkl
   have HR := Ld hr
   have HCt := Ld (catP_take ps k hkl)
   have hcc := HCS.out _ (List.getElem_mem hkl)
   have HC := Ld hcc
   obtain ⟨q, hq⟩ : ∃ q, q = ps[k].l.length := ⟨_, rfl⟩
   have HQ := Ld hq
   rw [← hq] at hc
   have hki : decide ((k : Int) < (n : Int)) = true := by rw [decide_eq_true_iff]; omega
   clear hq hr hb hcc
   go_wp2_with fail
   refine (write_of g (catP (ps.take k)) _ q _ ps[k].l _ (TabK.below HK.out HB.out) HH.out HR.out HQ.out.symm (by rw [HQ.out]; exact HC.out.1) HC.out.2 (by have h1 := catP_le ps (k + 1); rw [HCt.out, List.length_append] at h1; have h2 := HZZ.out; have h3 := HQ.out; omega)).mono ?_
   rintro e w5 ⟨rfl, hH5, hf5⟩
   rw [← HCt.out] at hH5
   have HH5 := Ld hH5
   have HB5 : Hid (Below w.heap.size w w5) := Ld (Fr.below_trans HB.out hf5 HB.out.size (fun k hk => by omega))
   have HZ5 := Ld (HZ.out.fr hf5 (by omega))
   clear hH5 hf5 HH HB HZ hc
   go_wp2
   go_roundw
   case rel => exact ⟨k + 1, by omega, by go_num, HH5, HB5, HZ5⟩
   case measure => simp [intOf]; omega
  ·subst heq
   have hki : decide ((k : Int) < (k : Int)) = false := by rw [decide_eq_false_iff_not]; omega
   have hall : catP (ps.take k) = catP ps := by rw [List.take_of_length_le (by rw [HN.out]; omega)]
   rw [hall] at HH
   clear hall
   go_wp2_with fail
   refine (sum_any g (catP ps) _ (TabK.below HK.out HB.out) HH.out HZZ.out).mono ?_
   rintro e w5 ⟨rfl, hb5⟩
   have HZ5 := Ld (HZ.out.below hb5 HZ.out.lt)
   have HB5 := Ld (HB.out.trans (hb5.mono HB.out.size))
   have hVs : (Lib.byteCells (shaL (catP ps))).toArray.size = 32 := by simp [Lib.byteCells, shaL_len]
   have HI : Hid ((Tryz.prog.info? 87).map (·.size) = some (Lib.byteCells (shaL (catP ps))).toArray.size) := by show _ = _; rw [hVs]; kernel_rfl
   have HOC : Hid ((Lib.byteCells (shaL (catP ps))).toArray.all (·.oneCell') = true) := by show _ = _; simp [Lib.byteCells, Value.oneCell']
   have HS0 : Hid (Z.size = (Lib.byteCells (shaL (catP ps))).toArray.size) := by show _ = _; rw [hVs]; exact HZs.out
   have HVV := Ld (rfl : (Lib.byteCells (shaL (catP ps))).toArray = (Lib.byteCells (shaL (catP ps))).toArray)
   clear hVs hb5
   generalize hV : (Lib.byteCells (shaL (catP ps))).toArray = V at HI HOC HS0 ⊢
   have HVe := Ld hV
   clear hV HVV
   have HBz : Hid (Below w.heap.size w (w5.setRow w.heap.size V)) := below_setRow HB5.out (Nat.le_refl _)
   have HGz := Ld (setRow_at HZ5.out V)
   go_wp2_with (refine wpList_store_row rfl 87 _ _ rfl w.heap.size V rfl rfl 87 _ HZ5.out HI.out HS0.out HOC.out ?_)
   exact bodyPost_ret (v := .agg V) (results_cell_row (fn := Tryz.f52) rfl _ _ w.heap.size 87 V (0, 0) _ rfl HGz.out Tryz.underlying87 rfl HI.out) rfl ⟨by rw [HVe.out], HBz.out⟩
end Go.Proofs.YtefkpphahimkgaaGreatDoor
