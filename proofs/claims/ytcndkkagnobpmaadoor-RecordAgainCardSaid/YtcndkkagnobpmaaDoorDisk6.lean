/-
  block.New.
-/
import Derived.Test.YtcndkkagnobpmaaDoorDisk5
import Derived.Test.YtcndkkagnobpmaaDoorOctPut
import Derived.Test.YtcndkkagnobpmaaDoorOwnC
import Derived.Deep.RegionLaw
namespace Go.Proofs.YtcndkkagnobpmaaDoor
open Go.RowKit
set_option linter.unusedVariables false

theorem infoSl : (Tryd.prog.info? 22).map (fun i => (i.zero, i.size, i.bytes)) = some (some (.slice none 0 0), 1, 24) := by kernel_rfl
def zeros64 : List UInt8 := List.replicate 64 0
/-- a disk of zeros -/
def Dk.zero (N : Nat) : Dk := { sure := List.replicate N zeros64, loose := fun _ => none, left := -1, bytes := 0, off := false }
def newE (N : Int) : Int := if N < 1 ∨ 16384 < N then 1 else 0
set_option maxRecDepth 100000 in
set_option maxHeartbeats 1000000 in
theorem dnew_no (N : Int) (w : World) (h : N < 1 ∨ 16384 < N) : Calls Tryd.prog 16 #[.int .i64 N] w fun e w' => e = .returned (.tuple #[.pointer none, .int .i64 1]) ∧ w' = w := by
  rcases (by omega : N < 1 ∨ (¬ N < 1 ∧ 16384 < N)) with h | ⟨h1, h⟩
  · have e1 : decide (N < 1) = true := by rw [decide_eq_true_iff]; exact h
    clear h
    go_enter Tryd.func16, Tryd.ntmps16
    go_wp2
    go_ret2
    exact ⟨rfl, rfl⟩
  · have e1 : decide (N < 1) = false := by rw [decide_eq_false_iff_not]; exact h1
    have e2 : decide (16384 < N) = true := by rw [decide_eq_true_iff]; exact h
    clear h h1
    go_enter Tryd.func16, Tryd.ntmps16
    go_wp2
    go_ret2
    exact ⟨rfl, rfl⟩
theorem reads_new (W0 : World) (e : TypeId) (x : Value) (g : Nat) (hg : W0.heap.size = g) : Reads (W0.alloc (.cells #[x] e)) (g + 1) 1 (some ⟨g, 0, none⟩) 1 [x] := by
  subst hg
  refine ⟨rfl, fun _ => ⟨_, rfl, Nat.lt_succ_self _, fun j u hu => ?_⟩⟩
  rw [Addr.add_lit, Nat.zero_add, (Blk.new W0 e #[x]).cell j]
  simpa using hu
/-- what New's loop keeps -/
structure NewInv (w wr : World) (k : Nat) (v : Value) (xs : List Value) : Prop where
  len : xs.length = k
  own : OR 22 wr (w.heap.size + 2) v xs
  cln : Clean wr v
  els : ∀ x ∈ xs, SlB wr x zeros64
  blk : Blk wr (w.heap.size + 1) 63 #[v, .map (some w.heap.size), .int .i64 (-1), .int .i64 0, .bool false]
  map : LMap wr w.heap.size 0 (fun _ => none)
  bel : Below w.heap.size w wr
  siz : w.heap.size + 2 ≤ wr.heap.size
theorem OR.noByte {e : TypeId} {w : World} {base : Nat} {v : Value} {xs : List Value} (h : OR e w base v xs) (x : Int) : v ≠ .int .u8 x := by
  obtain ⟨A, c, rfl, _⟩ := h.shape
  intro h; cases h
theorem newV_noBy {v : Value} (hv : ∀ x : Int, v ≠ .int .u8 x) (M : Nat) (k : Nat) (x : Int) : (#[v, .map (some M), .int .i64 (-1), .int .i64 0, .bool false] : Array Value)[k]? ≠ some (.int .u8 x) := by
  rcases (by omega : k = 0 ∨ k = 1 ∨ k = 2 ∨ k = 3 ∨ k = 4 ∨ 5 ≤ k) with rfl | rfl | rfl | rfl | rfl | h
  · intro h
    simp only [List.getElem?_toArray, List.getElem?_cons_zero] at h
    injection h with h
    exact hv x h
  all_goals first | (intro h; cases h) | (rw [Array.getElem?_eq_none (by simpa using h)]; intro h; cases h)
theorem NewInv.step {w wr w' : World} {k : Nat} {v v' : Value} {xs : List Value} (h : NewInv w wr k v xs) {Z : Array Value} (hZ : Z = (Lib.byteCells zeros64).toArray) {o : Obj}
    (hg : (((wr.alloc (.cells Z 5)).alloc o).drew).grownBy w' v.ownBlock) (ho : OR 22 w' (w.heap.size + 2) v' (xs ++ [Value.slice (some ⟨wr.heap.size, 0, none⟩) 64 64])) (hc : Clean w' v') :
    NewInv w (w'.setCell ⟨w.heap.size + 1, 0, none⟩ v') (k + 1) v' (xs ++ [Value.slice (some ⟨wr.heap.size, 0, none⟩) 64 64]) := by
  subst hZ
  have hf : Fr (fun g => v.ownBlock = some g) wr w' := ((((Fr.refl _ wr).alloc _).alloc _).drew).grown hg (fun g e _ => e)
  have hf2 : Fr (fun g => v.ownBlock = some g) (((wr.alloc (.cells (Lib.byteCells zeros64).toArray 5)).alloc o).drew) w' := Fr.of_grown hg (fun g e => e)
  have hlt := fun g (e : v.ownBlock = some g) => h.own.lt g e
  have hge := fun g (e : v.ownBlock = some g) => h.own.ge g e
  have hge' := fun g (e : v'.ownBlock = some g) => ho.ge g e
  have hb' : Blk w' (w.heap.size + 1) 63 #[v, .map (some w.heap.size), .int .i64 (-1), .int .i64 0, .bool false] := h.blk.fr hf (fun e => by have := hge _ e; omega)
  have hnb : NoBy w' (w.heap.size + 1) := NoBy.of_blk hb' (newV_noBy (fun x => h.own.noByte x) _)
  have hfc : Fr (· = w.heap.size + 1) w' (w'.setCell ⟨w.heap.size + 1, 0, none⟩ v') := fr_cell v'
  have hZ' : RB w' (some ⟨wr.heap.size, 0, none⟩) zeros64 := by
    have h1 : RB (((wr.alloc (.cells (Lib.byteCells zeros64).toArray 5)).alloc o).drew) (some ⟨wr.heap.size, 0, none⟩) zeros64 := RB.of_blk (t := 5) ((((Blk.new wr 5 (Lib.byteCells zeros64).toArray)).alloc o).drew)
    refine RB.fr h1 hf2 (fun ad e e2 => ?_)
    cases e
    have := hlt _ e2
    simp at this
  refine ⟨by rw [List.length_append, h.len]; rfl, ho.fr hfc (fun g e e2 => by have := hge' g e; omega), hc.fr hfc (fun g e => ⟨ho.lt g e, fun e2 => by have := hge' g e; omega⟩), ?_, ?_, ?_, ?_, ?_⟩
  · intro x hx
    rcases List.mem_append.1 hx with hx | hx
    · exact ((h.els x hx).fr2 hf (fun g e _ => h.cln g e)).fr2 hfc (fun g e _ => by subst e; exact hnb)
    · rw [List.mem_singleton] at hx
      subst hx
      exact ⟨_, _, rfl, by omega, by omega, hZ'.fr2 hfc (fun g e _ => by subst e; exact hnb), rfl⟩
  · exact hb'.set_ 0 v'
  · exact (h.map.fr hf (fun e => by have := hge _ e; omega)).fr hfc (fun e => by omega)
  · exact Fr.below_trans (Fr.below_trans h.bel hf (by have := h.siz; omega) (fun g e => by have := hge g e; omega)) hfc (by have := h.siz; have := hf.size; omega) (fun g e => by omega)
  · have := hfc.size; have := hf.size; have := h.siz; omega

theorem reads_new2 (W0 : World) (e : TypeId) (x : Value) (g : Nat) (hg : W0.heap.size = g) : Reads ((W0.alloc (.cells #[x] e)).drew) (g + 1) 1 (some ⟨g, 0, none⟩) 1 [x] := reads_new W0 e x g hg
theorem NewInv.done {w wr : World} {N : Nat} {v : Value} {xs : List Value} (h : NewInv w wr N v xs) (h1 : 1 ≤ N) (h2 : N ≤ 16384) : ∃ s, w.heap.size ≤ s ∧ DiskAt wr (w.heap.size + 1) s w.heap.size 0 (Dk.zero N) := by
  rcases h.own.2 with ⟨rfl, h0⟩ | ⟨g, cap, cur, rfl, hg, hh, hn, hm, hs, ht⟩
  · have := h.len; omega
  · have hl := h.len
    refine ⟨g, by omega, ⟨cap, ?_, ?_, ?_⟩, ⟨cur, hh, fun i hi => ?_, fun k x e => ?_⟩, ⟨_, h.map, fun i _ => rfl, fun i b e => (by cases e)⟩, ?_, fun i b e => (by cases e), by simp [Dk.zero], by simp [Dk.zero]⟩
    · have := h.blk
      simp only [diskV, Dk.zero, List.length_replicate]
      rw [hl] at this
      exact this
    · simp [Dk.zero]; omega
    · simpa [maxLen] using hm
    · have hi' : i < xs.length := by simp [Dk.zero] at hi; omega
      refine ⟨xs[i], ?_, ?_⟩
      · have e : cur.toList[i]? = xs[i]? := by
          rw [← ht, List.getElem?_take, if_pos (by omega)]
        rw [List.getElem?_eq_getElem hi'] at e
        simpa using e
      · have : (Dk.zero N).sure.getD i [] = zeros64 := by
          simp only [Dk.zero] at hi ⊢
          rw [List.getD_eq_getElem?_getD, List.getElem?_replicate, if_pos (by simpa using hi)]
          rfl
        rw [this]
        exact h.els _ (List.getElem_mem hi')
    · have := h.cln g rfl k x
      rw [Blk.cell hh] at this
      exact this e
    · simp only [Dk.zero, List.length_replicate]
      exact ⟨h1, h2⟩
set_option maxRecDepth 100000 in
set_option maxHeartbeats 2000000 in
theorem dnew_yes (N : Nat) (w : World) (h1 : 1 ≤ N) (h2 : N ≤ 16384) : Calls Tryd.prog 16 #[.int .i64 (N : Int)] w fun e w' => ∃ d s M, e = .returned (.tuple #[.pointer (some ⟨d, 0, none⟩), .int .i64 0]) ∧ w.heap.size ≤ d ∧ w.heap.size ≤ s ∧ w.heap.size ≤ M ∧ DiskAt w' d s M 0 (Dk.zero N) ∧ Below w.heap.size w w' := by
  have e1 : decide ((N : Int) < 1) = false := by rw [decide_eq_false_iff_not]; omega
  have e2 : decide (16384 < (N : Int)) = false := by rw [decide_eq_false_iff_not]; omega
  have hmm := @run_makeMap Tryd.prog
  obtain ⟨Z, hZ⟩ : ∃ Z, Z = (Lib.byteCells zeros64).toArray := ⟨_, rfl⟩
  have RM : ∀ w, (Instr.makeSlice 22 (.int .i64 64) (.int .i64 64)).run Tryd.prog w = .ok (.slice (some ⟨w.heap.size, 0, none⟩) 64 64) (w.alloc (.cells Z 5)) := fun w => by
    have := run_make_bytes 64 (by omega) w
    rw [made_zeros] at this
    rw [hZ]
    exact this
  have HZ := Lib.hid hZ
  clear hZ
  go_enter Tryd.func16, Tryd.ntmps16
  go_wp2
  have HI0 : Hid (NewInv w ((w.alloc (.map #[] 0)).alloc (.cells #[.slice none 0 0, .map (some w.heap.size), .int .i64 (-1), .int .i64 0, .bool false] 63)) 0 (.slice none 0 0) []) := by
    refine Lib.hid ⟨rfl, OR.nil _ _ _, Clean.nil _, fun x h => (by cases h), ?_, ?_, ?_, ?_⟩
    · simpa using Blk.new (w.alloc (.map #[] 0)) 63 #[.slice none 0 0, .map (some w.heap.size), .int .i64 (-1), .int .i64 0, .bool false]
    · exact (LMap.new w).below ((Below.refl _ _).alloc (Nat.le_refl _) _)
    · exact ((Below.refl _ _).alloc (Nat.le_refl _) _).alloc (by simp) _
    · simp
  clear hmm
  generalize (w.alloc (.map #[] 0)).alloc (.cells #[.slice none 0 0, .map (some w.heap.size), .int .i64 (-1), .int .i64 0, .bool false] 63) = w1 at HI0 ⊢
  go_loopw [15] (fun i wr => ∃ (k : Nat) (v : Value) (xs : List Value), k ≤ N ∧ i = .int .i64 k ∧ Hid (NewInv w wr k v xs)) (fun i _ => N - (intOf i).toNat)
  case atStart => exact ⟨0, _, [], Nat.zero_le _, rfl, HI0⟩
  case round =>
    obtain ⟨k, v, xs, hk, rfl, HI⟩ := hrel
    clear HI0
    rcases (by omega : k < N ∨ k = N) with hlt | heq
    · have hki : decide ((k : Int) < (N : Int)) = true := by rw [decide_eq_true_iff]; omega
      have HL := Lib.hid HI.out.len
      have HS := Lib.hid HI.out.siz
      have c0 := HI.out.blk.cell 0
      have f0 := HI.out.blk.frozen 0
      simp only [List.getElem?_toArray, List.getElem?_cons_zero] at c0
      have ca : ∀ o, (wr.alloc o).cell? ⟨w.heap.size + 1, 0, none⟩ = some v := fun o => (HI.out.blk.alloc o).cell 0
      have cb : ∀ o o', ((wr.alloc o).alloc o').cell? ⟨w.heap.size + 1, 0, none⟩ = some v := fun o o' => ((HI.out.blk.alloc o).alloc o').cell 0
      obtain ⟨i0, hi0, hz0, hz1, hz2⟩ := info_parts infoSl
      go_wp2
      go_region_law ((refine step_append_clean _ (by rfl) (.tmp 21) (.tmp 23) 32 (by rfl) (w.heap.size + 2) 22 i0 _ 24 Tryd.underlying32 hi0 hz0 hz1 hz2 (by rfl) (fun x e => by cases e) v xs.length xs (by rfl) (((HI.out.own.alloc (.cells Z 5)).alloc (.cells #[.slice (some ⟨wr.heap.size, 0, none⟩) 64 64] 22)).drew) (HI.out.cln.fr ((((Fr.refl (fun _ => False) wr).alloc (.cells Z 5)).alloc (.cells #[.slice (some ⟨wr.heap.size, 0, none⟩) 64 64] 22)).drew) (fun g e => ⟨HI.out.own.lt g e, fun h => h⟩)) (wr.heap.size + 2) ⟨wr.heap.size + 1, 0, none⟩ 1 1 [.slice (some ⟨wr.heap.size, 0, none⟩) 64 64] (by rfl) (reads_new2 (wr.alloc (.cells Z 5)) 22 _ (wr.heap.size + 1) (by simp)) (by omega) (by simp [Value.oneCell']) (fun u hu x e => by rw [List.mem_singleton] at hu; rw [hu] at e; cases e) (by have := HL.out; unfold maxLen; omega) (by have := HL.out; omega) (by have := HS.out; simp; omega) ?_; intro v' w' ho hg hat hcl; obtain ⟨A', c', rfl, _⟩ := OR.shape (show OR 22 w' (w.heap.size + 2) v' (xs ++ [Value.slice (some ⟨wr.heap.size, 0, none⟩) 64 64]) from (by simpa [OR] using ho)); have HN := Lib.hid (HI.out.step HZ.out hg (by simpa [OR] using ho) hcl); have hDw := Blk.grown (((HI.out.blk.alloc (.cells Z 5)).alloc (.cells #[.slice (some ⟨wr.heap.size, 0, none⟩) 64 64] 22)).drew) hg (fun e => by have := HI.out.own.ge _ e.symm; omega); have g0 := hDw.cell 0; have g1 := hDw.frozen 0; simp only [List.getElem?_toArray, List.getElem?_cons_zero] at g0; clear hDw ho hg hcl))
      all_goals simp only [List.length_append, List.length_singleton] at HN
      all_goals clear g0 g1 hat c0 f0 ca cb
      all_goals go_wp2
      all_goals go_roundw
      all_goals first | exact ⟨k + 1, _, _, by omega, by go_num, HN⟩ | (simp [intOf]; omega)
    · have hki : decide ((k : Int) < (N : Int)) = false := by rw [decide_eq_false_iff_not]; omega
      have hkn : decide (k < N) = false := by rw [decide_eq_false_iff_not]; omega
      obtain ⟨s, hs, hD⟩ := NewInv.done (heq ▸ HI.out) h1 h2
      have HD := Lib.hid hD
      have HB := Lib.hid HI.out.bel
      clear hD heq
      go_wp2
      go_ret2
      exact ⟨_, s, _, rfl, by omega, hs, by omega, HD.out, HB.out⟩
end Go.Proofs.YtcndkkagnobpmaaDoor
