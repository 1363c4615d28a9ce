/-
  glob.segments, Path, Pattern, Split, Plain.
-/
import Derived.Test.YtcndkkagnobpmaaDoorGlobW4
namespace Go.Proofs.YtcndkkagnobpmaaDoor
open Go.RowKit Glob
set_option linter.unusedVariables false

namespace Glob
def segBad (x : List UInt8) : Bool := x == [] || (x == [46] || x == [46, 46])
def segsL (s : List UInt8) : Bool := !(cutS 47 s).any segBad
def patL (s : List UInt8) : Bool := plainL [91, 93, 123, 125, 92] s && segsL s
def pathL (s : List UInt8) : Bool := plainL [91, 93, 123, 125, 92, 42, 63] s && segsL s
end Glob
/-- package bytealg's length is laid -/
def Tab (w : World) : Prop := 1 < w.heap.size ∧ ∃ m, w.cell? ⟨1, 0, none⟩ = some (.int .i64 m)
theorem Tab.below {w w' : World} (h : Tab w) (hb : Below w.heap.size w w') : Tab w' := by
  obtain ⟨h0, m, hm⟩ := h
  exact ⟨Nat.lt_of_lt_of_le h0 hb.size, m, by rw [hb.cell (p := ⟨1, 0, none⟩) h0]; exact hm⟩
theorem Tab.of {w w' : World} {B : Nat} (h : Tab w) (hB : w.heap.size ≤ B) (hb : Below B w w') : Tab w' := h.below (hb.mono hB)
theorem seg_val (x : ByteArray) : segBad x.data.toList = (x.toList == [] || (x.toList == [46] || x.toList == [46, 46])) := by rw [Lib.toList_data]; rfl
set_option maxHeartbeats 1000000 in
theorem seg_any (x : ByteArray) (w : World) : Calls Tryd.prog 92 #[.string x] w fun e w' => e = .returned (.bool (segBad x.data.toList)) ∧ w' = w := by
  have hv := seg_val x
  obtain ⟨r, hr⟩ : ∃ r, r = segBad x.data.toList := ⟨_, rfl⟩
  rw [← hr] at hv ⊢
  clear hr
  by_cases h0 : x.toList = []
  · have HV : Hid (r = true) := by show _ = _; rw [hv, h0]; rfl
    have hb : x.toList.isEmpty = true := by rw [h0]; rfl
    clear hv
    go_enter Tryd.func92, Tryd.ntmps92
    go_wp2
    go_ret
    exact ⟨by rw [HV.out]; rfl, rfl⟩
  · have h0' : (x.toList == []) = false := beq_eq_false_iff_ne.2 h0
    have hb : x.toList.isEmpty = false := by rw [List.isEmpty_eq_false_iff]; exact h0
    cases h1 : (x.toList == [46]) with
    | true =>
      have HV : Hid (r = true) := by show _ = _; rw [hv, h0', h1]; rfl
      clear hv
      go_enter Tryd.func92, Tryd.ntmps92
      go_wp2
      go_ret
      exact ⟨by rw [HV.out]; rfl, rfl⟩
    | false =>
      cases h2 : (x.toList == [46, 46]) with
      | true =>
        have HV : Hid (r = true) := by show _ = _; rw [hv, h0', h1, h2]; rfl
        clear hv
        go_enter Tryd.func92, Tryd.ntmps92
        go_wp2
        go_ret
        exact ⟨by rw [HV.out]; rfl, rfl⟩
      | false =>
        have HV : Hid (r = false) := by show _ = _; rw [hv, h0', h1, h2]; rfl
        clear hv
        go_enter Tryd.func92, Tryd.ntmps92
        go_wp2
        go_ret
        exact ⟨by rw [HV.out]; rfl, rfl⟩
theorem split_any (s : ByteArray) (c : UInt8) (w : World) (hs : s.size ≤ 100000) (hT : Tab w) : Calls Tryd.prog 71 #[.string s, .string ⟨#[c]⟩] w fun e w' =>
    ∃ l : List ByteArray, l.map (·.data.toList) = cutS c s.data.toList ∧ e = .returned (.slice (some ⟨w.heap.size, 0, none⟩) l.length l.length) ∧ w' = w.alloc (.cells (l.map Value.string).toArray 9) := by
  obtain ⟨_, m, hm⟩ := hT
  refine (Tryd.strings_Split s ⟨#[c]⟩ m w (by omega) hm (Nat.le_refl 1)).mono ?_
  rintro e w' ⟨rfl, rfl⟩
  have h1 := splitB_cutS c s
  have h2 := countB_cutS c s
  refine ⟨_, h1, ?_, rfl⟩
  rw [show (Lib.splitB ⟨#[c]⟩ 0 (Lib.countB s ⟨#[c]⟩) s).length = Lib.countB s ⟨#[c]⟩ + 1 from by rw [h2, ← h1, List.length_map]]
theorem cutS_len (c : UInt8) : ∀ (l : List UInt8), (cutS c l).length ≤ l.length + 1
  | [] => by simp [cutS]
  | b :: l => by
    have := cutS_len c l
    unfold cutS
    split
    · simp; omega
    · simp; omega
theorem any_map (l : List ByteArray) (p : List UInt8 → Bool) : l.any (fun x => p x.data.toList) = (l.map (·.data.toList)).any p := by rw [List.any_map]; rfl
set_option maxHeartbeats 1000000 in
theorem segments_any (s : ByteArray) (w : World) (hs : s.size ≤ 100000) (hT : Tab w) : Calls Tryd.prog 68 #[.string s] w fun e w' => e = .returned (.bool (segsL s.data.toList)) ∧ Below w.heap.size w w' := by
  obtain ⟨r, hr⟩ : ∃ r, r = segsL s.data.toList := ⟨_, rfl⟩
  rw [← hr]
  have HR := Lib.hid hr
  have HS := Lib.hid (split_any s 47 w hs hT)
  clear hr
  go_enter Tryd.func68, Tryd.ntmps68
  go_wp2_with fail
  refine HS.out.mono ?_
  rintro e w' ⟨l, hl, rfl, rfl⟩
  have hll : l.length ≤ 100001 := by
    have h1 := cutS_len 47 s.data.toList
    rw [← hl, List.length_map] at h1
    have h2 : s.data.toList.length = s.size := by cases s; simp [ByteArray.size]
    omega
  have HI : Hid (r = !(l.any (fun x => segBad x.data.toList))) := by show _ = _; rw [HR.out, any_map, hl]; rfl
  have HC := Lib.hid (containsFunc_any 92 #[] (enters_of Tryd.func92 (by kernel_rfl) rfl) (some ⟨w.heap.size, 0, none⟩) l.length l.length l _ (fun x => segBad x.data.toList) (SS.of_block (Blk.new w 9 (l.map Value.string).toArray)) rfl (by omega)
    (fun k hk W hb => (seg_any l[k] W).mono fun e w' ⟨he, hw⟩ => ⟨he, by rw [hw]; exact hb⟩))
  clear hl
  go_wp2_with fail
  refine HC.out.mono ?_
  rintro e w' ⟨rfl, hb⟩
  go_wp2
  go_ret
  exact ⟨by rw [HI.out]; simp, (Below.alloc (Below.refl _ _) (Nat.le_refl _) _).trans (hb.mono (by simp))⟩
theorem plainL_len (t s : List UInt8) (h : plainL t s = true) : 1 ≤ s.length ∧ s.length ≤ 128 := by
  unfold plainL at h
  simp only [Bool.and_eq_true, Bool.not_eq_true', decide_eq_true_eq] at h
  refine ⟨?_, h.2.2.2⟩
  cases s with
  | nil => simp at h
  | cons a s => simp
theorem below_iter {w w' : World} {s : ByteArray} {p : Nat} (hb : Below (w.iter s p).heap.size (w.iter s p) w') : Below w.heap.size w w' :=
  (Below.alloc (Below.refl _ _) (Nat.le_refl _) _).trans (hb.mono (by simp [World.iter]))
theorem below_iter' (w : World) (s : ByteArray) (p : Nat) : Below w.heap.size w (w.iter s p) := Below.alloc (Below.refl _ _) (Nat.le_refl _) _
set_option maxHeartbeats 1000000 in
theorem pattern_any (s : ByteArray) (w : World) (hs : s.size ≤ 100000) (hT : Tab w) : Calls Tryd.prog 42 #[.string s] w fun e w' => e = .returned (.bool (patL s.data.toList)) ∧ Below w.heap.size w w' := by
  have HP := Lib.hid (fun w => plain_any s ⟨#[91, 93, 123, 125, 92]⟩ w (by omega) (by decide))
  have HS := Lib.hid (fun w h => segments_any s w hs h)
  obtain ⟨r, hr⟩ : ∃ r, r = patL s.data.toList := ⟨_, rfl⟩
  rw [← hr]
  cases hp : plainL [91, 93, 123, 125, 92] s.data.toList with
  | false =>
    have HI : Hid (r = false) := by show _ = _; rw [hr]; unfold patL; rw [hp]; rfl
    rw [show (⟨#[91, 93, 123, 125, 92]⟩ : ByteArray).data.toList = [91, 93, 123, 125, 92] from rfl, hp] at HP
    clear hr hp
    go_enter Tryd.func42, Tryd.ntmps42
    go_wp2_with fail
    refine (HP.out _).mono ?_
    rintro e w' ⟨rfl, pos, rfl⟩
    go_wp2
    go_ret
    exact ⟨by rw [HI.out]; rfl, below_iter' _ _ _⟩
  | true =>
    have HI : Hid (r = segsL s.data.toList) := by show _ = _; rw [hr]; unfold patL; rw [hp]; rfl
    rw [show (⟨#[91, 93, 123, 125, 92]⟩ : ByteArray).data.toList = [91, 93, 123, 125, 92] from rfl, hp] at HP
    clear hr hp
    go_enter Tryd.func42, Tryd.ntmps42
    go_wp2_with fail
    refine (HP.out _).mono ?_
    rintro e w' ⟨rfl, pos, rfl⟩
    go_wp2_with fail
    refine (HS.out _ (hT.below (below_iter' _ _ _))).mono ?_
    rintro e w' ⟨rfl, hb⟩
    go_wp2
    go_ret
    exact ⟨by rw [HI.out]; simp, below_iter hb⟩
set_option maxHeartbeats 1000000 in
theorem path_any (s : ByteArray) (w : World) (hs : s.size ≤ 100000) (hT : Tab w) : Calls Tryd.prog 41 #[.string s] w fun e w' => e = .returned (.bool (pathL s.data.toList)) ∧ Below w.heap.size w w' := by
  have HP := Lib.hid (fun w => plain_any s ⟨#[91, 93, 123, 125, 92, 42, 63]⟩ w (by omega) (by decide))
  have HS := Lib.hid (fun w h => segments_any s w hs h)
  obtain ⟨r, hr⟩ : ∃ r, r = pathL s.data.toList := ⟨_, rfl⟩
  rw [← hr]
  cases hp : plainL [91, 93, 123, 125, 92, 42, 63] s.data.toList with
  | false =>
    have HI : Hid (r = false) := by show _ = _; rw [hr]; unfold pathL; rw [hp]; rfl
    rw [show (⟨#[91, 93, 123, 125, 92, 42, 63]⟩ : ByteArray).data.toList = [91, 93, 123, 125, 92, 42, 63] from rfl, hp] at HP
    clear hr hp
    go_enter Tryd.func41, Tryd.ntmps41
    go_wp2_with fail
    refine (HP.out _).mono ?_
    rintro e w' ⟨rfl, pos, rfl⟩
    go_wp2
    go_ret
    exact ⟨by rw [HI.out]; rfl, below_iter' _ _ _⟩
  | true =>
    have HI : Hid (r = segsL s.data.toList) := by show _ = _; rw [hr]; unfold pathL; rw [hp]; rfl
    rw [show (⟨#[91, 93, 123, 125, 92, 42, 63]⟩ : ByteArray).data.toList = [91, 93, 123, 125, 92, 42, 63] from rfl, hp] at HP
    clear hr hp
    go_enter Tryd.func41, Tryd.ntmps41
    go_wp2_with fail
    refine (HP.out _).mono ?_
    rintro e w' ⟨rfl, pos, rfl⟩
    go_wp2_with fail
    refine (HS.out _ (hT.below (below_iter' _ _ _))).mono ?_
    rintro e w' ⟨rfl, hb⟩
    go_wp2
    go_ret
    exact ⟨by rw [HI.out]; simp, below_iter hb⟩
/-- glob.Split: the segments, in memory of the call's own -/
theorem gsplit_yes (s : ByteArray) (w : World) (hs : s.size ≤ 100000) (hT : Tab w) (h : patL s.data.toList = true) : Calls Tryd.prog 44 #[.string s] w fun e w' =>
    ∃ (A : Option Addr) (l : List ByteArray), l.map (·.data.toList) = cutS 47 s.data.toList ∧ e = .returned (.slice A l.length l.length) ∧ SS w' A l ∧ Below w.heap.size w w' := by
  have HP := pattern_any s w hs hT
  rw [h] at HP
  have HP := Lib.hid HP
  have HS := Lib.hid (fun w h => split_any s 47 w hs h)
  clear h
  go_enter Tryd.func44, Tryd.ntmps44
  go_wp2_with fail
  refine HP.out.mono ?_
  rintro e w' ⟨rfl, hb⟩
  go_wp2_with fail
  refine (HS.out _ (hT.below hb)).mono ?_
  rintro e w'' ⟨l, hl, rfl, rfl⟩
  have HL := Lib.hid hl
  clear hl
  go_wp2
  go_ret
  exact ⟨_, l, HL.out, rfl, SS.of_block (Blk.new _ _ _), hb.alloc hb.size _⟩
theorem gsplit_no (s : ByteArray) (w : World) (hs : s.size ≤ 100000) (hT : Tab w) (h : patL s.data.toList = false) : Calls Tryd.prog 44 #[.string s] w fun e w' => e = .returned (.slice none 0 0) ∧ Below w.heap.size w w' := by
  have HP := pattern_any s w hs hT
  rw [h] at HP
  have HP := Lib.hid HP
  clear h
  go_enter Tryd.func44, Tryd.ntmps44
  go_wp2_with fail
  refine HP.out.mono ?_
  rintro e w' ⟨rfl, hb⟩
  go_wp2
  go_ret
  exact ⟨rfl, hb⟩
end Go.Proofs.YtcndkkagnobpmaaDoor
