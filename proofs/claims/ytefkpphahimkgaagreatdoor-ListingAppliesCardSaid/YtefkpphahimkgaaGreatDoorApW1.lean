/-
  listing.versions, listing.fits.
-/
import Derived.Test.YtefkpphahimkgaaGreatDoorApP
import Derived.Deep.Cut
import Derived.Carry
import Derived.Deep.RegionHeld3
import Derived.BigQuiet
namespace Go.Proofs.YtefkpphahimkgaaGreatDoor
open Go.RowKit
open Go.ChangeMaps (setBlock heap_setBlock_same heap_setBlock_other)
attribute [local go_sem ↓] Go.wp_at_zero Go.wp_at_succ
set_option linter.unusedVariables false
set_option linter.unusedSimpArgs false

/-- a map of one's own comes -/
def VerP (hs : HL) (w : World) (e : Ending) (w' : World) : Prop := ∃ M, e = .returned (.map (some M)) ∧ w.heap.size ≤ M ∧ HM w' M hs ∧ Below w.heap.size w w'
/-- what the loops keep -/
structure VeS (w : World) (M : Nat) (hs : HL) (wr : World) : Prop where
  bel : Below w.heap.size w wr
  hm : HM wr M hs
  hM : w.heap.size ≤ M
theorem fr_setBlk2 (w : World) (M : Nat) (o : Obj) : Fr (· = M) w (setBlock w M o) := fr_setBlockH w M o
theorem VeS.below {w V V' : World} {M : Nat} {hs : HL} (h : VeS w M hs V) (hb : Below V.heap.size V V') : VeS w M hs V' := ⟨h.bel.trans (hb.mono h.bel.size), h.hm.below hb, h.hM⟩
theorem VeS.set {w V : World} {M : Nat} {hs hs' : HL} (h : VeS w M hs V) (o : Obj) (hm : HM (setBlock V M o) M hs') : VeS w M hs' (setBlock V M o) :=
  ⟨Fr.below_trans h.bel (fr_setBlockH V M o) h.bel.size (fun b e => by have e2 : b = M := e; have := h.hM; omega), hm, h.hM⟩
set_option maxRecDepth 100000 in
set_option maxHeartbeats 4000000 in
theorem versions_any {w : World} (v e0 : Int) {A : Option Addr} {c : Nat} {l : List ME} (h : MAt w A c l) (hl : l.length ≤ 1000) :
    Calls Tryz.prog 57 #[.agg #[.int .i64 v, .int .i64 e0, .slice A l.length c]] w fun e w' => PFb (VerP (versL l) w) e w' := by
  obtain ⟨n, hn⟩ : ∃ n, n = l.length := ⟨_, rfl⟩
  obtain ⟨W1, hW1⟩ : ∃ W1, W1 = (w.alloc (.cells #[.int .i64 v, .int .i64 e0, .slice A n c] 24)) := ⟨_, rfl⟩
  have hb1 : Below w.heap.size w W1 := by rw [hW1]; exact (Below.refl _ _).alloc (Nat.le_refl _) _
  obtain ⟨W2, hW2⟩ : ∃ W2, W2 = W1.alloc (.map #[] 0) := ⟨_, rfl⟩
  obtain ⟨M, hM⟩ : ∃ M, M = W1.heap.size := ⟨_, rfl⟩
  have hb2 : Below W1.heap.size W1 W2 := by rw [hW2]; exact (Below.refl _ _).alloc (Nat.le_refl _) _
  have hk1 : Blk W1 w.heap.size 24 #[.int .i64 v, .int .i64 e0, .slice A n c] := by rw [hW1]; exact Blk.new _ _ _
  have HS0 : Hid (VeS w M (versL (l.take 0)) W2) := Lib.hid ⟨hb1.trans (hb2.mono hb1.size), by rw [hW2, hM]; exact HM.new W1, by rw [hM]; exact hb1.size⟩
  have hnI : (n : Int) ≤ 1000 := by omega
  have HK2 := Lib.hid (hk1.below hb2 hk1.lt)
  have HF := Lib.hid h
  have HN := Lib.hid hn
  have HW := Lib.hid (And.intro hW1 hW2)
  have HMM := Lib.hid hM
  rw [← hn]
  clear hb1 hb2 hk1 h hn hW1 hW2 hM hl
  have b2 := HK2.out.cell 2
  simp only [List.getElem?_toArray, List.getElem?_cons_zero, List.getElem?_cons_succ] at b2
  have hmm := @run_makeMap Tryz.prog
  go_enter Tryz.func57, Tryz.ntmps57
  go_upto_region 1 with (fail)
  rw [← HW.out.1]
  go_upto_region 2 with (fail)
  rw [← HMM.out, ← HW.out.2]
  clear hmm
  go_wp2
  go_loopw [12] (fun y wr => ∃ (k : Nat), k ≤ n ∧ y = .int .i64 (k : Int) ∧ Hid (VeS w M (versL (l.take k)) wr)) (fun y _ => n - (intOf y).toNat)
  case atStart => exact ⟨0, Nat.zero_le _, rfl, HS0⟩
  case round =>
    clear HS0 b2
    obtain ⟨k, hk, rfl, HS⟩ := hrel
    rcases (by omega : k < n ∨ k = n) with hlt | heq
    · have q0 : decide ((k : Int) < (n : Int)) = true := by rw [decide_eq_true_iff]; omega
      have q0' : decide (k < n) = true := by rw [decide_eq_true_iff]; omega
      have hkl : k < l.length := by rw [← HN.out]; exact hlt
      obtain ⟨b, o, hA, hbl, c0, c1, c2, c3⟩ := (HF.out.bel HS.out.bel).four hkl
      subst hA
      obtain ⟨m, hmm⟩ : ∃ m, m = l[k] := ⟨_, rfl⟩
      rw [← hmm] at c0 c1 c2 c3
      have hsz : m.name.size ≤ maxLen := by
        have := (HF.out.sz m (by rw [hmm]; exact List.getElem_mem hkl)).1
        unfold maxLen
        omega
      have HNX : Hid (versL (l.take (k + 1)) = verS (versL (l.take k)) m) := Lib.hid (by rw [vers_next hkl, ← hmm])
      obtain ⟨hs, hhs⟩ : ∃ hs, hs = versL (l.take k) := ⟨_, rfl⟩
      rw [← hhs] at HS HNX
      have HSR := Lib.hid (HS.out.below (V' := wr.alloc (.cells #[.string m.name, .int .i64 m.ver, .int .i64 m.len, .string m.hash] 44)) ((Below.refl _ _).alloc (Nat.le_refl _) _))
      have lk := HSR.out.hm.look m.name hsz
      have hki : (k : Int) < (n : Int) := by omega
      have hk0 : (0 : Int) ≤ (k : Int) := by omega
      cases hg : getH hs m.name with
      | some x =>
        rw [hg] at lk
        have HE : Hid (versL (l.take (k + 1)) = hs) := Lib.hid (by rw [HNX.out]; unfold verS; rw [hg]; rfl)
        simp only [Option.getD_some, Option.isSome_some] at lk
        clear hbl hmm hsz HNX hhs HS hg
        go_wp2
        go_roundw
        case rel => exact ⟨k + 1, by omega, by go_num, Lib.hid (by rw [HE.out]; exact HSR.out)⟩
        case measure => simp [intOf]; omega
      | none =>
        rw [hg] at lk
        obtain ⟨es', ck', pt, hm'⟩ := HSR.out.hm.put m.name hsz m.ver
        have HE : Hid (versL (l.take (k + 1)) = dropH hs m.name ++ [(m.name, m.ver)]) := Lib.hid (by rw [HNX.out, dropH_none hg]; unfold verS; rw [hg]; rfl)
        have HSX := Lib.hid (HSR.out.set _ hm')
        simp only [Option.getD_none, Option.isSome_none] at lk
        clear hbl hmm hsz HNX hhs HS hg hm'
        go_wp2
        go_roundw
        case rel => exact ⟨k + 1, by omega, by go_num, Lib.hid (by rw [HE.out]; exact HSX.out)⟩
        case measure => simp [intOf]; omega
    · have q0 : decide ((k : Int) < (n : Int)) = false := by rw [decide_eq_false_iff_not]; omega
      have q0' : decide (k < n) = false := by rw [decide_eq_false_iff_not]; omega
      have HE : Hid (versL (l.take k) = versL l) := Lib.hid (by rw [heq, HN.out, List.take_length])
      clear heq
      go_wp2
      refine bodyPost_ret (v := .map (some M)) (by simp [results, Tryz.results57, go_sem]) rfl ?_
      exact ⟨M, rfl, HS.out.hM, by rw [← HE.out]; exact HS.out.hm, HS.out.bel⟩
end Go.Proofs.YtefkpphahimkgaaGreatDoor
