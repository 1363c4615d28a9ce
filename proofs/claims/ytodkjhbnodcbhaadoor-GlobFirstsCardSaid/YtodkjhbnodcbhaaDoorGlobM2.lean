/-
  glob.both, Overlap.
-/
import Derived.Test.YtodkjhbnodcbhaaDoorGlobM1
namespace Go.Proofs.YtodkjhbnodcbhaaDoor
open Go.RowKit Glob Go.WideMaps Go.Maps
set_option linter.unusedVariables false

namespace Glob
def bothL (p q : List UInt8) : Bool := (meetF p q (p.length + q.length + 1) 0 0 []).1
def overL (p q : List UInt8) : Bool := patL p && (patL q && allL bothL (cutS 47 p) (cutS 47 q))
end Glob
set_option maxRecDepth 100000 in
set_option maxHeartbeats 1000000 in
theorem both_any (p q : ByteArray) (w : World) (hp : p.size ≤ 1000) (hq : q.size ≤ 1000) : Calls Tryd.prog 33 #[.string p, .string q] w fun e w' => e = .returned (.bool (bothL p.data.toList q.data.toList)) ∧ Below w.heap.size w w' := by
  have hpl : p.data.toList.length = p.size := by cases p; simp [ByteArray.size]
  have hql : q.data.toList.length = q.size := by cases q; simp [ByteArray.size]
  have hmm := @run_makeMap Tryd.prog
  have hX : Blk ((w.alloc (.map #[] 0)).alloc (.cells #[.string p, .string q, .map (some w.heap.size)] 57)) (w.heap.size + 1) 57 #[.string p, .string q, .map (some w.heap.size)] := by
    have := Blk.new (w.alloc (.map #[] 0)) 57 #[.string p, .string q, .map (some w.heap.size)]
    simpa using this
  have hM : Seen ((w.alloc (.map #[] 0)).alloc (.cells #[.string p, .string q, .map (some w.heap.size)] 57)) w.heap.size [] := (Seen.new w).alloc _
  have HC := meet_any p q (w.heap.size + 1) w.heap.size hp hq (p.size + q.size + 1) 0 0 [] _ (Nat.zero_le _) (Nat.zero_le _) (by omega) (by simp) hX hM
  unfold MeetP at HC
  obtain ⟨r, hr⟩ : ∃ r, r = bothL p.data.toList q.data.toList := ⟨_, rfl⟩
  rw [show (meetF p.data.toList q.data.toList (p.size + q.size + 1) 0 0 []).1 = r from by rw [hr]; unfold bothL; rw [hpl, hql]] at HC
  rw [← hr]
  have HC := Lib.hid HC
  clear hr hpl hql hX hM
  go_enter Tryd.func33, Tryd.ntmps33
  go_wp2_with fail
  refine HC.out.mono ?_
  rintro e w' ⟨rfl, _, hF⟩
  go_wp2
  go_ret
  exact ⟨rfl, below_of_frB (((Below.refl _ _).alloc (Nat.le_refl _) _).alloc (by simp) _) (by simp; omega) hF⟩
theorem seg_sizes1 {l : List ByteArray} {s : ByteArray} (hs : s.size ≤ 1000) (hl : l.map (·.data.toList) = cutS 47 s.data.toList) : l.length ≤ 1001 ∧ ∀ a ∈ l, a.size ≤ 1000 := by
  have h2 : s.data.toList.length = s.size := by cases s; simp [ByteArray.size]
  refine ⟨?_, fun a ha => ?_⟩
  · have h1 := cutS_len 47 s.data.toList
    rw [← hl, List.length_map] at h1
    omega
  · have h := cutS_le 47 s.data.toList a.data.toList (by rw [← hl]; exact List.mem_map_of_mem ha)
    have h3 : a.data.toList.length = a.size := by cases a; simp [ByteArray.size]
    omega
set_option maxHeartbeats 1000000 in
theorem overlap_any (p s : ByteArray) (w : World) (hp : p.size ≤ 1000) (hs : s.size ≤ 1000) (hT : Tab w) : Calls Tryd.prog 19 #[.string p, .string s] w fun e w' => e = .returned (.bool (overL p.data.toList s.data.toList)) ∧ Below w.heap.size w w' := by
  obtain ⟨r, hr⟩ : ∃ r, r = overL p.data.toList s.data.toList := ⟨_, rfl⟩
  rw [← hr]
  have HR := Lib.hid hr
  clear hr
  have HA := fun w h => Lib.hid (pattern_any p w (by omega) h)
  have HB := fun w h => Lib.hid (pattern_any s w (by omega) h)
  cases h1 : patL p.data.toList with
  | false =>
    have HI : Hid (r = false) := by show _ = _; rw [HR.out]; unfold overL; rw [h1]; rfl
    rw [h1] at HA
    clear h1
    go_enter Tryd.func19, Tryd.ntmps19
    go_wp2_with fail
    refine (HA _ hT).out.mono ?_
    rintro e w1 ⟨rfl, hb1⟩
    go_wp2
    go_ret
    exact ⟨by rw [HI.out]; rfl, hb1⟩
  | true =>
    cases h2 : patL s.data.toList with
    | false =>
      have HI : Hid (r = false) := by show _ = _; rw [HR.out]; unfold overL; rw [h1, h2]; rfl
      rw [h1] at HA
      rw [h2] at HB
      clear h1 h2
      go_enter Tryd.func19, Tryd.ntmps19
      go_wp2_with fail
      refine (HA _ hT).out.mono ?_
      rintro e w1 ⟨rfl, hb1⟩
      go_wp2_with fail
      refine (HB _ (hT.below hb1)).out.mono ?_
      rintro e w2 ⟨rfl, hb2⟩
      go_wp2
      go_ret
      exact ⟨by rw [HI.out]; rfl, hb1.trans (hb2.mono hb1.size)⟩
    | true =>
      have HI : Hid (r = allL bothL (cutS 47 p.data.toList) (cutS 47 s.data.toList)) := by show _ = _; rw [HR.out]; unfold overL; rw [h1, h2]; rfl
      have HC := fun w h => Lib.hid (gsplit_yes p w (by omega) h h1)
      have HD := fun w h => Lib.hid (gsplit_yes s w (by omega) h h2)
      rw [h1] at HA
      rw [h2] at HB
      clear h1 h2
      go_enter Tryd.func19, Tryd.ntmps19
      go_wp2_with fail
      refine (HA _ hT).out.mono ?_
      rintro e w1 ⟨rfl, hb1⟩
      have hT1 := hT.below hb1
      go_wp2_with fail
      refine (HB _ hT1).out.mono ?_
      rintro e w2 ⟨rfl, hb2⟩
      have hT2 := hT1.below hb2
      go_wp2_with fail
      refine (HC _ hT2).out.mono ?_
      rintro e w3 ⟨A, l, hl, rfl, hA, hb3⟩
      have hT3 := hT2.below hb3
      have HL := Lib.hid hl
      clear hl
      go_wp2_with fail
      refine (HD _ hT3).out.mono ?_
      rintro e w4 ⟨B, m, hm, rfl, hB, hb4⟩
      have hT4 := hT3.below hb4
      have HM := Lib.hid hm
      clear hm
      have hsl := seg_sizes1 hp HL.out
      have hsm := seg_sizes1 hs HM.out
      have HE := Lib.hid (equalFunc_all 33 #[] (enters_of Tryd.func33 (by kernel_rfl) rfl) A B l.length m.length l m w4 (fun a b => bothL a.data.toList b.data.toList) (hA.below hb4) hB (by omega) (by omega)
        (fun k h1 h2 W hb => (both_any l[k] m[k] W (hsl.2 _ (List.getElem_mem h1)) (hsm.2 _ (List.getElem_mem h2))).mono fun e w' ⟨he, hw⟩ => ⟨he, hb.trans (hw.mono hb.size)⟩))
      rw [allS_allL, HL.out, HM.out, ← HI.out] at HE
      go_wp2_with fail
      refine HE.out.mono ?_
      rintro e w5 ⟨rfl, hb5⟩
      go_wp2
      go_ret
      have a1 := hb1.trans (hb2.mono hb1.size)
      have a2 := a1.trans (hb3.mono a1.size)
      have a3 := a2.trans (hb4.mono a2.size)
      exact ⟨by simp, a3.trans (hb5.mono a3.size)⟩
end Go.Proofs.YtodkjhbnodcbhaaDoor
