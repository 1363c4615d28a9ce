/-
  The document's Overlap; First, and the document's First.
-/
import Derived.Test.YtodkjhbnodcbhaaDoorGlobT8
import Derived.Test.YtodkjhbnodcbhaaDoorGlobNamesW
import Derived.Test.YtodkjhbnodcbhaaDoorGlobWiderW
import Derived.Test.YtodkjhbnodcbhaaDoorGlobM2
namespace Go.Proofs.YtodkjhbnodcbhaaDoor
open Go.RowKit Glob
set_option linter.unusedVariables false

set_option maxRecDepth 100000 in
set_option maxHeartbeats 2000000 in
theorem roverlap_any (p s : ByteArray) (w : World) (hp : p.size ≤ 1000) (hs : s.size ≤ 1000) : Calls Tryd.prog 20 #[.string p, .string s] w fun e w' => e = .returned (.bool (overL p.data.toList s.data.toList)) ∧ Below w.heap.size w w' := by
  obtain ⟨r, hr⟩ : ∃ r, r = overL p.data.toList s.data.toList := ⟨_, rfl⟩
  rw [← hr]
  have HR := Lib.hid hr
  clear hr
  have HA := fun w => Lib.hid (rpattern_any p w (by omega))
  have HB := fun w => Lib.hid (rpattern_any s w (by omega))
  cases h1 : patL p.data.toList with
  | false =>
    have HI : Hid (r = false) := by show _ = _; rw [HR.out]; unfold overL; rw [h1]; rfl
    rw [h1] at HA
    clear h1
    go_enter Tryd.func20, Tryd.ntmps20
    go_wp2_with fail
    refine (HA _).out.mono ?_
    rintro e w1 ⟨rfl, hb1⟩
    go_wp2
    go_ret
    exact ⟨by rw [HI.out]; rfl, hb1⟩
  | true =>
    cases h2 : patL s.data.toList with
    | false =>
      have HI : Hid (r = false) := by show _ = _; rw [HR.out]; unfold overL; rw [h1, h2]; rfl
      rw [h1] at HA
      rw [h2] at HB
      clear h1 h2
      go_enter Tryd.func20, Tryd.ntmps20
      go_wp2_with fail
      refine (HA _).out.mono ?_
      rintro e w1 ⟨rfl, hb1⟩
      go_wp2_with fail
      refine (HB _).out.mono ?_
      rintro e w2 ⟨rfl, hb2⟩
      go_wp2
      go_ret
      exact ⟨by rw [HI.out]; rfl, hb1.trans (hb2.mono hb1.size)⟩
    | true =>
      have HI : Hid (r = allL bothL (cutS 47 p.data.toList) (cutS 47 s.data.toList)) := by show _ = _; rw [HR.out]; unfold overL; rw [h1, h2]; rfl
      have HC := fun w => Lib.hid (rsplit_any p w (by omega))
      have HD := fun w => Lib.hid (rsplit_any s w (by omega))
      rw [h1] at HA
      rw [h2] at HB
      clear h1 h2
      go_enter Tryd.func20, Tryd.ntmps20
      go_wp2_with fail
      refine (HA _).out.mono ?_
      rintro e w1 ⟨rfl, hb1⟩
      go_wp2_with fail
      refine (HB _).out.mono ?_
      rintro e w2 ⟨rfl, hb2⟩
      go_wp2_with fail
      refine (HC _).out.mono ?_
      rintro e w3 ⟨A, c3, l, hl, rfl, hA, hb3⟩
      have HL := Lib.hid hl
      clear hl
      go_wp2_with fail
      refine (HD _).out.mono ?_
      rintro e w4 ⟨B, c4, m, hm, rfl, hB, hb4⟩
      have HM := Lib.hid hm
      clear hm
      have hsl := seg_sizes1 hp HL.out
      have hsm := seg_sizes1 hs HM.out
      have hA4 := hA.below hb4
      have a1 := hb1.trans (hb2.mono hb1.size)
      have a2 := a1.trans (hb3.mono a1.size)
      have a4 := a2.trans (hb4.mono a2.size)
      have HI2 : Hid (r = allS (fun a b => bothL a.data.toList b.data.toList) l m) := by show _ = _; rw [HI.out, allS_allL, HL.out, HM.out]
      clear hA hb1 hb2 hb3 hb4 a1 a2 HI HR HA HB HC HD HL HM
      by_cases hlen : l.length = m.length
      · obtain ⟨n, hn⟩ : ∃ n, n = l.length := ⟨_, rfl⟩
        rw [← hlen, ← hn]
        have hn1 := hsl.1
        rw [← hn] at hn1
        have HN := Lib.hid hn
        have HN2 := Lib.hid (hn.trans hlen)
        have hne : ((n : Int) != (n : Int)) = false := by simp
        clear hn hlen
        go_wp2
        go_loopw [7] (fun v wr => ∃ k : Nat, k ≤ n ∧ v = .int .i64 k ∧ Hid (r = allS (fun a b => bothL a.data.toList b.data.toList) (l.drop k) (m.drop k)) ∧ Hid (Below w4.heap.size w4 wr)) (fun v _ => n - (intOf v).toNat)
        case atStart => exact ⟨0, Nat.zero_le _, rfl, Lib.hid HI2.out, Lib.hid (Below.refl _ _)⟩
        case round =>
          obtain ⟨k, hk, rfl, HK, HW⟩ := hrel
          rcases (by omega : k < n ∨ k = n) with hlt | heq
          · have hkl : k < l.length := by rw [← HN.out]; exact hlt
            have hkm : k < m.length := by rw [← HN2.out]; exact hlt
            obtain ⟨ad, rfl, hbd1, hc⟩ := (hA4.below HW.out).at_ hkl
            obtain ⟨bd, rfl, hbd2, hd⟩ := (hB.below HW.out).at_ hkm
            have hst := allS_step (fun a b => bothL a.data.toList b.data.toList) hkl hkm
            obtain ⟨x, hx⟩ : ∃ x, x = l[k] := ⟨_, rfl⟩
            obtain ⟨y, hy⟩ : ∃ y, y = m[k] := ⟨_, rfl⟩
            have hxz : x.size ≤ 1000 := by rw [hx]; exact hsl.2 _ (List.getElem_mem hkl)
            have hyz : y.size ≤ 1000 := by rw [hy]; exact hsm.2 _ (List.getElem_mem hkm)
            rw [← hx] at hc hst
            rw [← hy] at hd hst
            clear hx hy hA4 hB hsl hsm
            have HST := Lib.hid hst
            clear hst
            have hki : (k : Int) < (n : Int) := by omega
            have hk0 : (0 : Int) ≤ (k : Int) := by omega
            cases hq : bothL x.data.toList y.data.toList with
            | true =>
              have HC := fun w => (rboth_any x y w hxz hyz)
              rw [hq] at HC
              have HK2 : Hid (r = allS (fun a b => bothL a.data.toList b.data.toList) (l.drop (k + 1)) (m.drop (k + 1))) := by show _ = _; rw [HK.out, HST.out, hq]; rfl
              have HC := Lib.hid HC
              clear hq
              go_wp2
              refine wp_region_still_tail 8 (by kernel_rfl) (by kernel_rfl) ?_
              simp only [List.take_succ_cons, List.take_zero, List.drop_succ_cons, List.drop_zero]
              repeat (with_reducible refine wpStill_step (fun K hK => ?_); go_simp; with_reducible refine hK _ ?_; clear hK K)
              with_reducible refine wpStill_nil ?_
              change wpList _ _ _ _ _ (World.drew _)
              go_wp2_with fail
              refine (HC.out _).mono ?_
              rintro e w5 ⟨rfl, hb5⟩
              have HW5 : Hid (Below w4.heap.size w4 w5) := Lib.hid (HW.out.trans ((below_drew1 _ _).trans (hb5.mono (show w4.heap.size ≤ wr.drew.heap.size from HW.out.size))))
              go_wp2
              go_roundw
              case rel => exact ⟨k + 1, by omega, by go_num, HK2, HW5⟩
              case measure => simp [intOf]; omega
            | false =>
              have HC := fun w => (rboth_any x y w hxz hyz)
              rw [hq] at HC
              have HK2 : Hid (r = false) := by show _ = _; rw [HK.out, HST.out, hq]; rfl
              have HC := Lib.hid HC
              clear hq
              go_wp2
              refine wp_region_still_tail 8 (by kernel_rfl) (by kernel_rfl) ?_
              simp only [List.take_succ_cons, List.take_zero, List.drop_succ_cons, List.drop_zero]
              repeat (with_reducible refine wpStill_step (fun K hK => ?_); go_simp; with_reducible refine hK _ ?_; clear hK K)
              with_reducible refine wpStill_nil ?_
              change wpList _ _ _ _ _ (World.drew _)
              go_wp2_with fail
              refine (HC.out _).mono ?_
              rintro e w5 ⟨rfl, hb5⟩
              have HW5 : Hid (Below w4.heap.size w4 w5) := Lib.hid (HW.out.trans ((below_drew1 _ _).trans (hb5.mono (show w4.heap.size ≤ wr.drew.heap.size from HW.out.size))))
              go_wp2
              go_ret
              exact ⟨by rw [HK2.out]; rfl, a4.trans (HW5.out.mono a4.size)⟩
          · have hki : ¬ (k : Int) < (n : Int) := by omega
            have HK2 : Hid (r = true) := by show _ = _; rw [HK.out, List.drop_of_length_le (by rw [← HN.out]; omega), List.drop_of_length_le (by rw [← HN2.out]; omega)]; rfl
            clear heq hA4 hB hsl hsm
            go_wp2
            go_ret
            exact ⟨by rw [HK2.out]; rfl, a4.trans (HW.out.mono a4.size)⟩
      · have HK2 : Hid (r = false) := by show _ = _; rw [HI2.out, allS_len _ _ _ hlen]
        have h1 := hsl.1
        have h2 := hsm.1
        have hne : ((l.length : Int) != (m.length : Int)) = true := by rw [bne_iff_ne]; omega
        clear hlen
        go_wp2
        go_ret
        exact ⟨by rw [HK2.out]; rfl, a4⟩
end Go.Proofs.YtodkjhbnodcbhaaDoor
