/-
  The document's table of a segment's match: pursuivantref12.one; the document's Match.
-/
import Derived.Test.YtcndkkagnobpmaaDoorGlobR2
import Derived.Test.YtcndkkagnobpmaaDoorGlobNfa
import Derived.Deep.QuietTactic
import Derived.BigQuiet
namespace Go.Proofs.YtcndkkagnobpmaaDoor
open Go.RowKit Glob
set_option linter.unusedVariables false

theorem infoBool : (Tryd.prog.info? 4).map (fun i => (i.zero, i.size, i.bytes)) = some (some (.bool false), 1, 1) := by kernel_rfl
theorem run_make_bools (s : Nat) (hs : s ≤ 70368744177664) (w : World) : (Instr.makeSlice 93 (.int .i64 s) (.int .i64 s)).run Tryd.prog w = .ok (.slice (some ⟨w.heap.size, 0, none⟩) s s) (w.alloc (.cells (madeCells #[Value.bool false] s) 4)) := by
  obtain ⟨i0, hi, hz0, hz1, hz2⟩ := info_parts infoBool
  have hb : (i0.bytes : Int) * (s : Int) ≤ 281474976710656 := by rw [hz2]; omega
  have hr := run_make (P := Tryd.prog) w 93 4 i0 (.bool false) Tryd.underlying93 hi hz0 .i64 .i64 s s (by omega) (by omega) hb (by omega)
  rw [hz1, Nat.mul_one] at hr
  exact hr
/-- a row of answers -/
def rowB (f : Nat → Bool) (n : Nat) : Array Value := ((List.range n).map fun k => Value.bool (f k)).toArray
theorem rowB_size (f : Nat → Bool) (n : Nat) : (rowB f n).size = n := by simp [rowB]
theorem rowB_at (f : Nat → Bool) (n k : Nat) (h : k < n) : (rowB f n)[k]? = some (.bool (f k)) := by simp [rowB, h]
theorem rowB_made (n : Nat) : madeCells #[Value.bool false] n = rowB (fun _ => false) n := by
  apply Array.ext_getElem?
  intro j
  rcases Nat.lt_or_ge j n with hj | hj
  · rw [rowB_at _ _ _ hj]; simp [madeCells, hj, Nat.mod_one]
  · rw [Array.getElem?_eq_none (by simp [madeCells]; omega), Array.getElem?_eq_none (by rw [rowB_size]; omega)]
theorem rowB_set (f g : Nat → Bool) (n k : Nat) (hk : k < n) (b : Bool) (h : ∀ j, j < n → g j = if j = k then b else f j) : (rowB f n).setIfInBounds k (.bool b) = rowB g n := by
  apply Array.ext_getElem?
  intro j
  rcases Nat.lt_or_ge j n with hj | hj
  · rw [rowB_at g n j hj, h j hj]
    rcases (by omega : j = k ∨ j ≠ k) with rfl | hne
    · rw [Array.getElem?_setIfInBounds_self_of_lt (by rw [rowB_size]; omega), if_pos rfl]
    · rw [Array.getElem?_setIfInBounds_ne (by omega), if_neg hne, rowB_at f n j hj]
  · rw [Array.getElem?_eq_none (by rw [Array.size_setIfInBounds, rowB_size]; omega), Array.getElem?_eq_none (by rw [rowB_size]; omega)]
/-- the answers of the first i signs of a pattern -/
def rowAt (p s : List UInt8) (i k : Nat) : Bool := mt (p.take i) (s.take k)
/-- the next row, as far as it is filled -/
def rowPart (p s : List UInt8) (i k j : Nat) : Bool := if j < k then rowAt p s (i + 1) j else false
theorem row_first (s : List UInt8) (n j : Nat) (hn : n = s.length) (hj : j < n + 1) : rowAt [] s 0 j = (if j = 0 then true else false) := by
  unfold rowAt
  rw [List.take_nil, Bool.eq_iff_iff, mt_nil]
  rcases (by omega : j = 0 ∨ 0 < j) with rfl | h
  · simp
  · rw [if_neg (by omega)]
    simp only [List.take_eq_nil_iff, Bool.false_eq_true, iff_false, not_or]
    refine ⟨by omega, fun e => ?_⟩
    rw [e] at hn; simp at hn; omega
theorem rowPart_next (p s : List UInt8) (i k : Nat) (b : Bool) (hb : rowAt p s (i + 1) k = b) (j : Nat) : rowPart p s i (k + 1) j = if j = k then b else rowPart p s i k j := by
  unfold rowPart
  rcases (by omega : j < k ∨ j = k ∨ k < j) with h | h | h
  · rw [if_pos (by omega), if_neg (by omega), if_pos h]
  · subst h; rw [if_pos (by omega), if_pos rfl, hb]
  · rw [if_neg (by omega), if_neg (by omega), if_neg (by omega)]
theorem rowPart_keep (p s : List UInt8) (i k : Nat) (hb : rowAt p s (i + 1) k = false) (j : Nat) : rowPart p s i (k + 1) j = rowPart p s i k j := by
  rw [rowPart_next p s i k false hb]
  unfold rowPart
  rcases (by omega : j = k ∨ j ≠ k) with h | h
  · subst h; rw [if_pos rfl, if_neg (by omega)]
  · rw [if_neg h]
theorem take_snoc1 (p : List UInt8) (i : Nat) (hi : i < p.length) : p.take (i + 1) = p.take i ++ [p[i]] := List.take_succ_eq_append_getElem hi
theorem row_star (p s : List UInt8) (i k : Nat) (hi : i < p.length) (hc : p[i] = 42) (hk : k ≤ s.length) : rowAt p s (i + 1) k = (rowAt p s i k || (decide (0 < k) && rowAt p s (i + 1) (k - 1))) := by
  unfold rowAt
  rw [take_snoc1 p i hi, hc]
  exact table_star _ _ _ hk
theorem row_sign (p s : List UInt8) (i k : Nat) (hi : i < p.length) (hc : p[i] ≠ 42) (hk : k < s.length) : rowAt p s (i + 1) (k + 1) = ((p[i] == 63 || p[i] == s[k]) && rowAt p s i k) := by
  unfold rowAt
  rw [take_snoc1 p i hi]
  exact table_sign _ _ _ hc _ hk
theorem row_sign0 (p s : List UInt8) (i : Nat) (hi : i < p.length) (hc : p[i] ≠ 42) : rowAt p s (i + 1) 0 = false := by
  unfold rowAt
  rw [take_snoc1 p i hi]
  exact table_sign0 _ _ _ hc

set_option maxRecDepth 100000 in
set_option maxHeartbeats 4000000 in
theorem rone_any (p s : ByteArray) (w : World) (hp : p.size ≤ 100000) (hs : s.size ≤ 100000) : Calls Tryd.prog 48 #[.string p, .string s] w fun e w' => e = .returned (.bool (mt p.data.toList s.data.toList)) ∧ Below w.heap.size w w' := by
  have hpl : p.data.toList.length = p.size := by cases p; simp [ByteArray.size]
  have hsl : s.data.toList.length = s.size := by cases s; simp [ByteArray.size]
  obtain ⟨n, hn⟩ : ∃ n, n = s.size := ⟨_, rfl⟩
  have hn1 : (s.size : Int) + 1 = ((n + 1 : Nat) : Int) := by rw [hn]; push_cast; rfl
  have HN1 := Lib.hid hn1
  have HN := Lib.hid hn
  have HPL := Lib.hid hpl
  have HSL := Lib.hid hsl
  have hnb : n ≤ 100000 := by omega
  have RM := fun w => run_make_bools (n + 1) (by omega) w
  have RM' : ∀ w : World, (Instr.makeSlice 93 (.int .i64 ((s.size : Int) + 1)) (.int .i64 ((s.size : Int) + 1))).run Tryd.prog w = .ok (.slice (some ⟨w.heap.size, 0, none⟩) (n + 1) (n + 1)) (w.alloc (.cells (rowB (fun _ => false) (n + 1)) 4)) := fun w => by rw [hn1, RM w, rowB_made]
  have hZ := Blk.new w 4 (rowB (fun _ => false) (n + 1))
  have hZc := hZ.cell 0
  rw [rowB_at _ _ _ (by omega)] at hZc
  have hZf := hZ.frozen 0
  have hfirst := rowB_set (fun _ => false) (rowAt p.data.toList s.data.toList 0) (n + 1) 0 (by omega) true (fun j hj => by
    have := row_first s.data.toList n j (by rw [hsl, hn]) (by omega)
    unfold rowAt at this ⊢
    rw [List.take_zero]
    rw [List.take_nil] at this
    exact this)
  have HZ1 : Hid (Blk (w.alloc (.cells ((rowB (fun _ => false) (n + 1)).setIfInBounds 0 (.bool true)) 4)) w.heap.size 4 (rowB (rowAt p.data.toList s.data.toList 0) (n + 1))) := by
    have := Blk.new w 4 ((rowB (fun _ => false) (n + 1)).setIfInBounds 0 (.bool true))
    rw [hfirst] at this ⊢
    exact this
  have HBL : Hid (Below w.heap.size w (w.alloc (.cells ((rowB (fun _ => false) (n + 1)).setIfInBounds 0 (.bool true)) 4))) := Lib.hid ((Below.refl w.heap.size w).alloc (Nat.le_refl _) _)
  have RMX := Lib.hid RM'
  clear hZ hfirst hn hn1 hpl hsl RM
  go_enter Tryd.func48, Tryd.ntmps48
  go_wp2
  go_loopw [5, 6, 7, 8] (fun v i _ _ wr => ∃ (k g : Nat), k ≤ p.size ∧ i = .int .i64 k ∧ v = .slice (some ⟨g, 0, none⟩) (n + 1) (n + 1) ∧ w.heap.size ≤ g ∧ Hid (Blk wr g 4 (rowB (rowAt p.data.toList s.data.toList k) (n + 1))) ∧ Hid (Below w.heap.size w wr)) (fun _ i _ _ _ => p.size - (intOf i).toNat)
  case atStart => exact ⟨0, _, Nat.zero_le _, rfl, rfl, Nat.le_refl _, HZ1, HBL⟩
  case round =>
    obtain ⟨i, g, hi, rfl, rfl, hg, HG, HB⟩ := hrel
    clear HZ1 HBL hZc hZf
    rcases (by omega : i < p.size ∨ i = p.size) with hlt | heq
    · have hii : decide ((i : Int) < (p.size : Int)) = true := by rw [decide_eq_true_iff]; omega
      have hi1 : (i : Int) < (p.size : Int) := by omega
      have hi0 : (0 : Int) ≤ (i : Int) := by omega
      have wi : IntKind.i64.wrap (i : Int) = (i : Int) := IntWalk.i64_in _ (by omega)
      have hgl := HG.out.lt
      have HH0 : Hid (Blk (wr.alloc (.cells (rowB (fun _ => false) (n + 1)) 4)) wr.heap.size 4 (rowB (rowPart p.data.toList s.data.toList i 0) (n + 1))) := by
        have := Blk.new wr 4 (rowB (fun _ => false) (n + 1))
        exact this
      have HG0 := Lib.hid (HG.out.alloc (.cells (rowB (fun _ => false) (n + 1)) 4))
      have HB0 := Lib.hid (HB.out.alloc HB.out.size (.cells (rowB (fun _ => false) (n + 1)) 4))
      have hwl := HB.out.size
      obtain ⟨c, hc⟩ : ∃ c, c = p[i] := ⟨_, rfl⟩
      have hc' := hc.symm
      have HC : Hid (∀ (h : i < p.data.toList.length), p.data.toList[i] = c) := by intro h; rw [hc]; rfl
      clear HG HB hc
      go_wp2
      clear RM'
      obtain ⟨h, hh⟩ : ∃ h, h = wr.heap.size := ⟨_, rfl⟩
      rw [← hh] at HH0 hgl hwl ⊢
      clear hh
      generalize wr.alloc (.cells (rowB (fun _ => false) (n + 1)) 4) = wa at HH0 HG0 HB0 ⊢
      go_loopw [8] (fun j wq => ∃ k : Nat, k ≤ n + 1 ∧ j = .int .i64 k ∧ Hid (Blk wq h 4 (rowB (rowPart p.data.toList s.data.toList i k) (n + 1))) ∧ Hid (Blk wq g 4 (rowB (rowAt p.data.toList s.data.toList i) (n + 1))) ∧ Hid (Below w.heap.size w wq)) (fun j _ => n + 1 - (intOf j).toNat)
      case atStart => exact ⟨0, Nat.zero_le _, rfl, HH0, HG0, HB0⟩
      case round =>
        obtain ⟨k, hk, rfl, HH, HG, HB⟩ := hrel
        clear HH0 HG0 HB0
        have hns : (s.size : Int) = (n : Int) := by rw [HN.out]
        rcases (by omega : k ≤ n ∨ k = n + 1) with hkl | heq
        · have hki : decide ((k : Int) ≤ (s.size : Int)) = true := by rw [decide_eq_true_iff]; omega
          have hkN : decide (k ≤ s.size) = true := by rw [decide_eq_true_iff, ← HN.out]; exact hkl
          have hk0 : (0 : Int) ≤ (k : Int) := by omega
          have hk1 : (k : Int) < ((n + 1 : Nat) : Int) := by omega
          have hk2 : (k : Int) < (n : Int) + 1 := by omega
          have wk : IntKind.i64.wrap (k : Int) = (k : Int) := IntWalk.i64_in _ (by omega)
          have hgc := HG.out.cell k
          rw [rowB_at _ _ _ (by omega)] at hgc
          have hhc := HH.out.cell k
          rw [rowB_at _ _ _ (by omega)] at hhc
          have hhf := HH.out.frozen k
          have hiL : i < p.data.toList.length := by rw [HPL.out]; exact hlt
          clear hns
          by_cases hstar : c = 42
          · have f42 : ((c.toNat : Int) == 42) = true := by rw [hstar]; rfl
            have hrow := row_star p.data.toList s.data.toList i k hiL (by rw [HC.out hiL, hstar]) (by rw [HSL.out, ← HN.out]; exact hkl)
            obtain ⟨v, hv⟩ : ∃ v, v = rowAt p.data.toList s.data.toList i k := ⟨_, rfl⟩
            rw [← hv] at hgc hrow
            cases v with
            | true =>
              have hrv : rowAt p.data.toList s.data.toList (i + 1) k = true := by rw [hrow]; simp
              have HN1' := HH.out.set_ k (.bool true)
              rw [rowB_set _ (rowPart p.data.toList s.data.toList i (k + 1)) (n + 1) k (by omega) true (fun j _ => rowPart_next _ _ _ _ _ hrv j)] at HN1'
              have HHn := Lib.hid HN1'
              have HGn := Lib.hid (HG.out.far (p := ⟨h, k, none⟩) (by simp; omega) (.bool true))
              have HBn := Lib.hid (HB.out.setCell (p := ⟨h, k, none⟩) (by simp; omega) (.bool true))
              clear hrv HN1' HH HG HB hrow hv
              go_wp2
              go_roundw
              case rel => exact ⟨k + 1, by omega, by go_num, HHn, HGn, HBn⟩
              case measure => simp [intOf]; omega
            | false =>
              rcases (by omega : k = 0 ∨ 0 < k) with hk00 | hk00
              · have fk : decide (0 < (k : Int)) = false := by rw [decide_eq_false_iff_not]; omega
                have fkN : decide (0 < k) = false := by rw [decide_eq_false_iff_not]; omega
                have hrow : rowAt p.data.toList s.data.toList (i + 1) k = false := by rw [hrow, hk00]; rfl
                clear hk00
                have hrv : rowAt p.data.toList s.data.toList (i + 1) k = false := by exact hrow
                have HN1' := HH.out.set_ k (.bool false)
                rw [rowB_set _ (rowPart p.data.toList s.data.toList i (k + 1)) (n + 1) k (by omega) false (fun j _ => rowPart_next _ _ _ _ _ hrv j)] at HN1'
                have HHn := Lib.hid HN1'
                have HGn := Lib.hid (HG.out.far (p := ⟨h, k, none⟩) (by simp; omega) (.bool false))
                have HBn := Lib.hid (HB.out.setCell (p := ⟨h, k, none⟩) (by simp; omega) (.bool false))
                clear hrv HN1' HH HG HB hrow hv
                go_wp2
                go_roundw
                case rel => exact ⟨k + 1, by omega, by go_num, HHn, HGn, HBn⟩
                case measure => simp [intOf]; omega
              · have fk : decide (0 < (k : Int)) = true := by rw [decide_eq_true_iff]; omega
                have fkN : decide (0 < k) = true := by rw [decide_eq_true_iff]; omega
                obtain ⟨k', hk'⟩ : ∃ k', k' = k - 1 := ⟨_, rfl⟩
                have hpc := HH.out.cell k'
                rw [rowB_at _ _ _ (by omega)] at hpc
                have e1 : rowPart p.data.toList s.data.toList i k k' = rowAt p.data.toList s.data.toList (i + 1) k' := by unfold rowPart; rw [if_pos (by omega)]
                rw [e1] at hpc
                have wk' : (k : Int) - 1 = (k' : Int) := by omega
                have kk0 : (0 : Int) ≤ (k' : Int) := by omega
                have kk1 : (k' : Int) < ((n + 1 : Nat) : Int) := by omega
                have kk2 : (k' : Int) < (n : Int) + 1 := by omega
                obtain ⟨u, hu⟩ : ∃ u, u = rowAt p.data.toList s.data.toList (i + 1) k' := ⟨_, rfl⟩
                rw [← hk', ← hu] at hrow
                rw [← hu] at hpc
                have hrow : rowAt p.data.toList s.data.toList (i + 1) k = u := by rw [hrow, decide_eq_true hk00]; rfl
                clear e1 hk' hu
                have hrv : rowAt p.data.toList s.data.toList (i + 1) k = u := by exact hrow
                have HN1' := HH.out.set_ k (.bool u)
                rw [rowB_set _ (rowPart p.data.toList s.data.toList i (k + 1)) (n + 1) k (by omega) u (fun j _ => rowPart_next _ _ _ _ _ hrv j)] at HN1'
                have HHn := Lib.hid HN1'
                have HGn := Lib.hid (HG.out.far (p := ⟨h, k, none⟩) (by simp; omega) (.bool u))
                have HBn := Lib.hid (HB.out.setCell (p := ⟨h, k, none⟩) (by simp; omega) (.bool u))
                clear hrv HN1' HH HG HB hrow hv
                go_wp2
                go_roundw
                case rel => exact ⟨k + 1, by omega, by go_num, HHn, HGn, HBn⟩
                case measure => simp [intOf]; omega
          · have f42 : ((c.toNat : Int) == 42) = false := by
              rw [beq_eq_false_iff_ne]; intro e; exact hstar (UInt8.toNat_inj.1 (show c.toNat = 42 by omega))
            rcases (by omega : k = 0 ∨ 0 < k) with hk00 | hk00
            · have fk : decide (0 < (k : Int)) = false := by rw [decide_eq_false_iff_not]; omega
              have fkN : decide (0 < k) = false := by rw [decide_eq_false_iff_not]; omega
              have hrow : rowAt p.data.toList s.data.toList (i + 1) k = false := by rw [hk00]; exact row_sign0 _ _ _ hiL (by rw [HC.out hiL]; exact hstar)
              clear hk00
              have HHn : Hid (Blk wr h 4 (rowB (rowPart p.data.toList s.data.toList i (k + 1)) (n + 1))) := by
                have e : rowB (rowPart p.data.toList s.data.toList i (k + 1)) (n + 1) = rowB (rowPart p.data.toList s.data.toList i k) (n + 1) := by rw [funext (rowPart_keep p.data.toList s.data.toList i k hrow)]
                show Blk _ _ _ _; rw [e]; exact HH.out
              have HHq := fun q => Lib.hid (HHn.out.drewN q)
              have HGq := fun q => Lib.hid (HG.out.drewN q)
              have HBq := fun q => Lib.hid (below_drewN HB.out q)
              clear hrow HH HG HB HHn
              go_wp2
              go_quiet (fail)
              have HHn := HHq nq
              have HGn := HGq nq
              have HBn := HBq nq
              clear HHq HGq HBq
              go_wp2
              go_roundw
              case rel => exact ⟨k + 1, by omega, by go_num, HHn, HGn, HBn⟩
              case measure => simp [intOf]; omega
            · have fk : decide (0 < (k : Int)) = true := by rw [decide_eq_true_iff]; omega
              have fkN : decide (0 < k) = true := by rw [decide_eq_true_iff]; omega
              obtain ⟨k', hk'⟩ : ∃ k', k' = k - 1 := ⟨_, rfl⟩
              have hks : k' < s.size := by rw [← HN.out]; omega
              have hksL : k' < s.data.toList.length := by rw [HSL.out]; exact hks
              have hrow := row_sign p.data.toList s.data.toList i k' hiL (by rw [HC.out hiL]; exact hstar) hksL
              rw [HC.out hiL, show k' + 1 = k from by omega] at hrow
              have hpc := HG.out.cell k'
              rw [rowB_at _ _ _ (by omega)] at hpc
              have wk' : (k : Int) - 1 = (k' : Int) := by omega
              have wk2 : IntKind.i64.wrap ((k : Int) - 1) = (k' : Int) := by rw [IntWalk.i64_in _ (by omega)]; omega
              have kk0 : (0 : Int) ≤ (k' : Int) := by omega
              have kks : (k' : Int) < (s.size : Int) := by omega
              have kk1 : (k' : Int) < ((n + 1 : Nat) : Int) := by omega
              have kk2 : (k' : Int) < (n : Int) + 1 := by omega
              obtain ⟨d, hd⟩ : ∃ d, d = s[k'] := ⟨_, rfl⟩
              have hd' := hd.symm
              rw [show s.data.toList[k'] = d from by rw [hd]; rfl] at hrow
              obtain ⟨v, hv⟩ : ∃ v, v = rowAt p.data.toList s.data.toList i k' := ⟨_, rfl⟩
              rw [← hv] at hpc hrow
              clear hk' hv hd
              have fin : (c == 63 || c == d) = true → Hid (rowAt p.data.toList s.data.toList (i + 1) k = v) := by
                intro e; show _ = _; rw [hrow, e]; rfl
              by_cases h63 : c = 63
              · have hrw := fin (by rw [h63]; rfl)
                have f63 : ((c.toNat : Int) == 63) = true := by rw [h63]; rfl
                clear fin hrow
                have HN1' := fun q => (HH.out.drewN q).set_ k (.bool v)
                simp only [rowB_set _ (rowPart p.data.toList s.data.toList i (k + 1)) (n + 1) k (by omega) v (fun j _ => rowPart_next _ _ _ _ _ hrw.out j)] at HN1'
                have HHq := fun q => Lib.hid (HN1' q)
                have HGq := fun q => Lib.hid ((HG.out.drewN q).far (p := ⟨h, k, none⟩) (by simp; omega) (.bool v))
                have HBq := fun q => Lib.hid ((below_drewN HB.out q).setCell (p := ⟨h, k, none⟩) (by simp; omega) (.bool v))
                clear hrw HN1' HH HG HB
                go_wp2
                go_quiet (fail)
                have HHn := HHq nq
                have HGn := HGq nq
                have HBn := HBq nq
                clear HHq HGq HBq
                go_wp2
                go_roundw
                case rel => exact ⟨k + 1, by omega, by go_num, HHn, HGn, HBn⟩
                case measure => simp [intOf]; omega
              · have f63 : ((c.toNat : Int) == 63) = false := by
                  rw [beq_eq_false_iff_ne]; intro e; exact h63 (UInt8.toNat_inj.1 (show c.toNat = 63 by omega))
                by_cases hcd : c = d
                · have hrw := fin (by rw [hcd]; simp)
                  have fcd : ((c.toNat : Int) == (d.toNat : Int)) = true := by rw [hcd]; simp
                  clear fin hrow hcd
                  have HN1' := fun q => (HH.out.drewN q).set_ k (.bool v)
                  simp only [rowB_set _ (rowPart p.data.toList s.data.toList i (k + 1)) (n + 1) k (by omega) v (fun j _ => rowPart_next _ _ _ _ _ hrw.out j)] at HN1'
                  have HHq := fun q => Lib.hid (HN1' q)
                  have HGq := fun q => Lib.hid ((HG.out.drewN q).far (p := ⟨h, k, none⟩) (by simp; omega) (.bool v))
                  have HBq := fun q => Lib.hid ((below_drewN HB.out q).setCell (p := ⟨h, k, none⟩) (by simp; omega) (.bool v))
                  clear hrw HN1' HH HG HB
                  go_wp2
                  go_quiet (fail)
                  have HHn := HHq nq
                  have HGn := HGq nq
                  have HBn := HBq nq
                  clear HHq HGq HBq
                  go_wp2
                  go_roundw
                  case rel => exact ⟨k + 1, by omega, by go_num, HHn, HGn, HBn⟩
                  case measure => simp [intOf]; omega
                · have hrow0 : rowAt p.data.toList s.data.toList (i + 1) k = false := by
                    rw [hrow, show (c == 63) = false from by simpa using h63, show (c == d) = false from by simpa using hcd]; rfl
                  have fcd : ((c.toNat : Int) == (d.toNat : Int)) = false := by
                    rw [beq_eq_false_iff_ne]; intro e; exact hcd (UInt8.toNat_inj.1 (by omega))
                  clear fin hrow hcd
                  have HHn : Hid (Blk wr h 4 (rowB (rowPart p.data.toList s.data.toList i (k + 1)) (n + 1))) := by
                    have e : rowB (rowPart p.data.toList s.data.toList i (k + 1)) (n + 1) = rowB (rowPart p.data.toList s.data.toList i k) (n + 1) := by rw [funext (rowPart_keep p.data.toList s.data.toList i k hrow0)]
                    show Blk _ _ _ _; rw [e]; exact HH.out
                  have HHq := fun q => Lib.hid (HHn.out.drewN q)
                  have HGq := fun q => Lib.hid (HG.out.drewN q)
                  have HBq := fun q => Lib.hid (below_drewN HB.out q)
                  clear hrow0 HH HG HB HHn
                  go_wp2
                  go_quiet (fail)
                  have HHn := HHq nq
                  have HGn := HGq nq
                  have HBn := HBq nq
                  clear HHq HGq HBq
                  go_wp2
                  go_roundw
                  case rel => exact ⟨k + 1, by omega, by go_num, HHn, HGn, HBn⟩
                  case measure => simp [intOf]; omega
        · subst heq
          have hki : decide (((n + 1 : Nat) : Int) ≤ (s.size : Int)) = false := by rw [decide_eq_false_iff_not]; omega
          have hkN : decide (n + 1 ≤ s.size) = false := by rw [decide_eq_false_iff_not, ← HN.out]; omega
          have hkM : decide ((n : Int) + 1 ≤ (s.size : Int)) = false := by rw [decide_eq_false_iff_not]; omega
          have HHn : Hid (Blk wr h 4 (rowB (rowAt p.data.toList s.data.toList (i + 1)) (n + 1))) := by
            have e : rowB (rowAt p.data.toList s.data.toList (i + 1)) (n + 1) = rowB (rowPart p.data.toList s.data.toList i (n + 1)) (n + 1) := by
              unfold rowB
              congr 1
              apply List.map_congr_left
              intro j hj
              have := List.mem_range.1 hj
              unfold rowPart
              rw [if_pos this]
            show Blk _ _ _ _
            rw [e]; exact HH.out
          clear HH HG hns
          have RM' := RMX.out
          go_wp2
          go_roundw
          case rel => exact ⟨i + 1, h, by omega, by go_num, rfl, hwl, HHn, HB⟩
          case measure => simp [intOf]; omega
    · subst heq
      have hii : decide ((p.size : Int) < (p.size : Int)) = false := by rw [decide_eq_false_iff_not]; omega
      have hc := HG.out.cell n
      rw [rowB_at _ _ _ (by omega)] at hc
      have HE : Hid (rowAt p.data.toList s.data.toList p.size n = mt p.data.toList s.data.toList) := by
        show _ = _
        unfold rowAt
        rw [← HPL.out, List.take_length, HN.out, ← HSL.out, List.take_length]
      obtain ⟨r, hr⟩ : ∃ r, r = rowAt p.data.toList s.data.toList p.size n := ⟨_, rfl⟩
      rw [← hr] at hc HE
      have hns : (s.size : Int) = (n : Int) := by rw [HN.out]
      have hnn : (n : Int) < ((n + 1 : Nat) : Int) := by omega
      have hnn2 : (n : Int) < (n : Int) + 1 := by omega
      have hn0 : (0 : Int) ≤ (n : Int) := by omega
      clear hr HG
      go_wp2
      go_ret
      exact ⟨by rw [HE.out]; rfl, HB.out⟩
end Go.Proofs.YtcndkkagnobpmaaDoor
