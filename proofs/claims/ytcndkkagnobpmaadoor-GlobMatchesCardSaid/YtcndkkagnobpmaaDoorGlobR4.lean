/-
  The document's Match.
-/
import Derived.Test.YtcndkkagnobpmaaDoorGlobR3
import Derived.Test.YtcndkkagnobpmaaDoorGlobW7
import Derived.Deep.RegionHeld3
namespace Go.Proofs.YtcndkkagnobpmaaDoor
open Go.RowKit Glob
set_option linter.unusedVariables false

theorem allL_len (p : List UInt8 → List UInt8 → Bool) : ∀ (l m : List (List UInt8)), l.length ≠ m.length → allL p l m = false
  | [], [], h => absurd rfl h
  | [], _ :: _, _ => rfl
  | _ :: _, [], _ => rfl
  | a :: l, b :: m, h => by
    show (p a b && allL p l m) = false
    rw [allL_len p l m (fun e => h (by simp [e]))]; simp
theorem allL_hit (p : List UInt8 → List UInt8 → Bool) : ∀ (l m : List (List UInt8)), l.length = m.length → (∀ k (h1 : k < l.length) (h2 : k < m.length), p l[k] m[k] = true) → allL p l m = true
  | [], [], _, _ => rfl
  | [], _ :: _, h, _ => by cases h
  | _ :: _, [], h, _ => by cases h
  | a :: l, b :: m, h, hp => by
    show (p a b && allL p l m) = true
    have h0 : p a b = true := hp 0 (by simp) (by simp)
    rw [h0, allL_hit p l m (by simpa using h) (fun k h1 h2 => hp (k + 1) (by simp; omega) (by simp; omega))]; rfl
theorem allL_miss (p : List UInt8 → List UInt8 → Bool) : ∀ (l m : List (List UInt8)) (k : Nat) (h1 : k < l.length) (h2 : k < m.length), p l[k] m[k] = false → allL p l m = false
  | a :: l, b :: m, 0, _, _, h => by show (p a b && allL p l m) = false; rw [show p a b = false from h]; rfl
  | a :: l, b :: m, k + 1, h1, h2, h => by
    show (p a b && allL p l m) = false
    rw [allL_miss p l m k (by simpa using h1) (by simpa using h2) (by simpa using h)]; simp
theorem ss_cells {w : World} {a b : Addr} {l m : List ByteArray} (hA : SS w (some a) l) (hB : SS w (some b) m) {k : Nat} (h1 : k < l.length) (h2 : k < m.length) : w.cell? (a.add k) = some (.string l[k]) ∧ w.cell? (b.add k) = some (.string m[k]) := by
  obtain ⟨ad, e, _, hc⟩ := hA.at_ h1
  obtain ⟨bd, e', _, hc'⟩ := hB.at_ h2
  cases e; cases e'
  exact ⟨hc, hc'⟩
set_option maxRecDepth 100000 in
set_option maxHeartbeats 2000000 in
theorem rmatch_any (p s : ByteArray) (w : World) (hp : p.size ≤ 100000) (hs : s.size ≤ 100000) : Calls Tryd.prog 23 #[.string p, .string s] w fun e w' => e = .returned (.bool (matchL p.data.toList s.data.toList)) ∧ Below w.heap.size w w' := by
  obtain ⟨r, hr⟩ : ∃ r, r = matchL p.data.toList s.data.toList := ⟨_, rfl⟩
  rw [← hr]
  have HR := Lib.hid hr
  clear hr
  have HA := fun w => Lib.hid (rpattern_any p w hp)
  have HB := fun w => Lib.hid (rpath_any s w hs)
  cases h1 : patL p.data.toList with
  | false =>
    have HI : Hid (r = false) := by show _ = _; rw [HR.out]; unfold matchL; rw [h1]; rfl
    rw [h1] at HA
    clear h1
    go_enter Tryd.func23, Tryd.ntmps23
    go_wp2_with fail
    refine (HA _).out.mono ?_
    rintro e w1 ⟨rfl, hb1⟩
    go_wp2
    go_ret
    exact ⟨by rw [HI.out]; rfl, hb1⟩
  | true =>
    cases h2 : pathL s.data.toList with
    | false =>
      have HI : Hid (r = false) := by show _ = _; rw [HR.out]; unfold matchL; rw [h1, h2]; rfl
      rw [h1] at HA
      rw [h2] at HB
      clear h1 h2
      go_enter Tryd.func23, Tryd.ntmps23
      go_wp2_with fail
      refine (HA _).out.mono ?_
      rintro e w1 ⟨rfl, hb1⟩
      go_wp2_with fail
      refine (HB _).out.mono ?_
      rintro e w2 ⟨rfl, hb2⟩
      go_wp2
      go_ret
      exact ⟨by rw [HI.out]; rfl, hb1.trans (hb2.mono hb1.size)⟩
    | true =>
      have HI : Hid (r = allL oneL (cutS 47 p.data.toList) (cutS 47 s.data.toList)) := by show _ = _; rw [HR.out]; unfold matchL; rw [h1, h2]; rfl
      have HC := fun w => Lib.hid (rsplit_any p w hp)
      have HD := fun w => Lib.hid (rsplit_any s w hs)
      rw [h1] at HA
      rw [h2] at HB
      clear h1 h2
      go_enter Tryd.func23, Tryd.ntmps23
      go_wp2_with fail
      refine (HA _).out.mono ?_
      rintro e w1 ⟨rfl, hb1⟩
      go_wp2_with fail
      refine (HB _).out.mono ?_
      rintro e w2 ⟨rfl, hb2⟩
      go_wp2_with fail
      refine (HC _).out.mono ?_
      rintro e w3 ⟨A, ca, l, hl, rfl, hA, hb3⟩
      have HL := Lib.hid hl
      clear hl
      go_wp2_with fail
      refine (HD _).out.mono ?_
      rintro e w4 ⟨B, cb, m, hm, rfl, hB, hb4⟩
      have HM := Lib.hid hm
      clear hm
      have hsl := seg_sizes hp HL.out
      have hsm := seg_sizes hs HM.out
      have a1 := hb1.trans (hb2.mono hb1.size)
      have a2 := a1.trans (hb3.mono a1.size)
      have BW := Lib.hid (a2.trans (hb4.mono a2.size))
      have SA := Lib.hid (hA.below hb4)
      have SB := Lib.hid hB
      obtain ⟨x, hx⟩ : ∃ x, x = l.length := ⟨_, rfl⟩
      obtain ⟨y, hy⟩ : ∃ y, y = m.length := ⟨_, rfl⟩
      have hx1 : x ≤ 100001 := by rw [hx]; exact hsl.1
      have hy1 : y ≤ 100001 := by rw [hy]; exact hsm.1
      have ZL := Lib.hid hsl.2
      have ZM := Lib.hid hsm.2
      rw [← hx]
      rw [← hy]
      have HX := Lib.hid hx
      have HY := Lib.hid hy
      have HAL : Hid (allL oneL (cutS 47 p.data.toList) (cutS 47 s.data.toList) = allL oneL (l.map (·.data.toList)) (m.map (·.data.toList))) := by show _ = _; rw [HL.out, HM.out]
      clear hb1 hb2 hb3 hb4 a1 a2 hA hB hsl hsm hx hy HA HB HC HD
      by_cases hxy : x = y
      · have ne : ((x : Int) == (y : Int)) = true := by rw [hxy]; simp
        have ne2 : ((x : Int) != (y : Int)) = false := by rw [hxy]; simp
        have HXY := Lib.hid hxy
        clear hxy
        go_wp2
        go_loopw [7] (fun i wr => ∃ k : Nat, k ≤ x ∧ i = .int .i64 k ∧ Hid (∀ j (h1 : j < l.length) (h2 : j < m.length), j < k → mt l[j].data.toList m[j].data.toList = true) ∧ Hid (SS wr A l) ∧ Hid (SS wr B m) ∧ Hid (Below w.heap.size w wr)) (fun i _ => x - (intOf i).toNat)
        case atStart => exact ⟨0, Nat.zero_le _, rfl, Lib.hid (fun j _ _ h => by omega), SA, SB, BW⟩
        case round =>
          obtain ⟨k, hk, rfl, HOK, SA, SB, BW⟩ := hrel
          rcases (by omega : k < x ∨ k = x) with hlt | heq
          · have hki : decide ((k : Int) < (x : Int)) = true := by rw [decide_eq_true_iff]; omega
            have hk1 : (k : Int) < (x : Int) := by omega
            have hk2 : (k : Int) < (y : Int) := by have := HXY.out; omega
            have hk0 : (0 : Int) ≤ (k : Int) := by omega
            have wk : IntKind.i64.wrap (k : Int) = (k : Int) := IntWalk.i64_in _ (by omega)
            have h1 : k < l.length := by rw [← HX.out]; exact hlt
            have h2 : k < m.length := by rw [← HY.out, ← HXY.out]; exact hlt
            obtain ⟨ad, rfl, _, hca⟩ := SA.out.at_ h1
            obtain ⟨bd, rfl, _, hcb⟩ := SB.out.at_ h2
            obtain ⟨u, hu⟩ : ∃ u, u = l[k] := ⟨_, rfl⟩
            obtain ⟨v, hv⟩ : ∃ v, v = m[k] := ⟨_, rfl⟩
            rw [← hu] at hca
            rw [← hv] at hcb
            have HO := fun w => Lib.hid (rone_any u v w (by rw [hu]; exact ZL.out _ (List.getElem_mem h1)) (by rw [hv]; exact ZM.out _ (List.getElem_mem h2)))
            obtain ⟨b, hb⟩ : ∃ b, b = mt u.data.toList v.data.toList := ⟨_, rfl⟩
            rw [← hb] at HO
            have HBB : Hid (mt l[k].data.toList m[k].data.toList = b) := by show _ = _; rw [hb, hu, hv]
            have HU := Lib.hid hu
            have HV := Lib.hid hv
            clear hu hv hb
            go_wp2
            go_region_held3 (fun w' => w'.cell? (ad.add k) = some (.string u) ∧ w'.cell? (bd.add k) = some (.string v))
              (first | exact (by rw [HU.out, HV.out]; exact ss_cells (w := wr.drew) SA.out SB.out h1 h2) | exact (by rw [HU.out, HV.out]; exact ss_cells (SS.below (w := wr.drew) SA.out hb5) (SS.below (w := wr.drew) SB.out hb5) h1 h2) | go_keep)
              (first | (go_at_call 48; (with_reducible refine (HO _).out.mono ?_); rintro e w5 ⟨rfl, hb5⟩))
            have SA5 := Lib.hid (SS.below (w := wr.drew) SA.out hb5)
            have SB5 := Lib.hid (SS.below (w := wr.drew) SB.out hb5)
            have BW5 := Lib.hid ((below_drewN BW.out 1).trans (hb5.mono BW.out.size))
            clear SA SB BW hb5
            cases b with
            | true =>
              have HOK2 : Hid (∀ j (h1 : j < l.length) (h2 : j < m.length), j < k + 1 → mt l[j].data.toList m[j].data.toList = true) := by
                intro j g1 g2 hj
                rcases (by omega : j < k ∨ j = k) with h | h
                · exact HOK.out j g1 g2 h
                · subst h; exact HBB.out
              clear HBB HOK HO
              go_wp2
              go_roundw
              case rel => exact ⟨k + 1, by omega, by go_num, HOK2, SA5, SB5, BW5⟩
              case measure => simp [intOf]; omega
            | false =>
              have HF : Hid (r = false) := by
                show _ = _
                rw [HI.out, HAL.out]
                refine allL_miss _ _ _ k (by simpa using h1) (by simpa using h2) ?_
                rw [one_mt]; simpa using HBB.out
              clear HBB HOK HO
              go_wp2
              go_ret
              exact ⟨by rw [HF.out]; rfl, BW5.out⟩
          · subst heq
            have hki : decide ((k : Int) < (k : Int)) = false := by rw [decide_eq_false_iff_not]; omega
            have HT : Hid (r = true) := by
              show _ = _
              rw [HI.out, HAL.out]
              refine allL_hit _ _ _ (by rw [List.length_map, List.length_map, ← HX.out, ← HY.out, HXY.out]) (fun j g1 g2 => ?_)
              rw [one_mt]
              have := HOK.out j (by simpa using g1) (by simpa using g2) (by rw [HX.out]; simpa using g1)
              simpa using this
            clear HOK
            go_wp2
            go_ret
            exact ⟨by rw [HT.out]; rfl, BW.out⟩
      · have ne : ((x : Int) == (y : Int)) = false := by rw [beq_eq_false_iff_ne]; omega
        have ne2 : ((x : Int) != (y : Int)) = true := by rw [bne_iff_ne]; omega
        have HF : Hid (r = false) := by
          show _ = _
          rw [HI.out, HAL.out]
          refine allL_len _ _ _ ?_
          rw [List.length_map, List.length_map, ← HX.out, ← HY.out]; exact hxy
        clear hxy
        go_wp2
        go_ret
        exact ⟨by rw [HF.out]; rfl, BW.out⟩
end Go.Proofs.YtcndkkagnobpmaaDoor
