/-
  store.clone: another state that is the same.
-/
import Derived.Test.YtgpcinfhcamgpaaGreatDoorStD5
namespace Go.Proofs.YtgpcinfhcamgpaaGreatDoor
open Go.RowKit Glob
attribute [local go_sem ↓] Go.wp_at_zero Go.wp_at_succ
set_option linter.unusedVariables false
set_option linter.unusedSimpArgs false

def ClonePost (s : SV) (w : World) (e : Ending) (w' : World) : Prop := ∃ x : SV, e = .returned x.v ∧ x.sta = s.sta ∧ STy w' x ∧ SM x ∧ Below w.heap.size w w'
theorem SV.eta (x : SV) : ∃ rA rc rl tA tc tl sA sc sl gA gc tg iA ic ins, x = ⟨⟨rA, rc, rl⟩, ⟨tA, tc, tl⟩, ⟨sA, sc, sl⟩, gA, gc, tg, iA, ic, ins⟩ := by
  obtain ⟨⟨rA, rc, rl⟩, ⟨tA, tc, tl⟩, ⟨sA, sc, sl⟩, gA, gc, tg, iA, ic, ins⟩ := x
  exact ⟨rA, rc, rl, tA, tc, tl, sA, sc, sl, gA, gc, tg, iA, ic, ins, rfl⟩
/-- a state's five slices -/
theorem SV.five (x : SV) : ∃ a0 n0 c0 a1 n1 c1 a2 n2 c2 a3 n3 c3 a4 n4 c4, x.v = .agg #[.slice a0 n0 c0, .slice a1 n1 c1, .slice a2 n2 c2, .slice a3 n3 c3, .slice a4 n4 c4] ∧ x.cs = #[.slice a0 n0 c0, .slice a1 n1 c1, .slice a2 n2 c2, .slice a3 n3 c3, .slice a4 n4 c4] :=
  ⟨_, _, _, _, _, _, _, _, _, _, _, _, _, _, _, rfl, rfl⟩
set_option maxRecDepth 100000 in
set_option maxHeartbeats 8000000 in
theorem sclone_any (s : SV) (w : World) (h : SAt w s) (hm : SM s) (hT : Tab w) (hq : mayS fnameL pathL s.sta = true) (hl : (stB s.sta).length ≤ 100000) :
    Calls Tryz.prog 56 #[s.v] w fun e w' => ClonePost s w e w' := by
  have HE := Lib.hid (fun V (hV : Below w.heap.size w V) => encode_yes s V (h.below hV) hm (hT.below hV) hq (by omega))
  obtain ⟨L, hL⟩ : ∃ L, L = stB s.sta := ⟨_, rfl⟩
  obtain ⟨n, hn⟩ : ∃ n, n = L.length := ⟨_, rfl⟩
  have HT := Lib.hid hT
  have HP : Hid (decP fnameL pathL L = some s.sta) := Lib.hid (by rw [hL]; exact decP_enc fname_size path_size s.sta hq)
  rw [← hL, ← hn] at hl
  rw [← hL] at HE
  have HN := Lib.hid hn.symm
  have HPOST : Hid (∀ x w', x.sta = s.sta → STy w' x → SM x → Below w.heap.size w w' → ClonePost s w (.returned x.v) w') := Lib.hid (fun x w' h1 h2 h3 h4 => ⟨x, rfl, h1, h2, h3, h4⟩)
  clear h hm hT hq hL hn
  obtain ⟨a0, n0, c0, a1, n1, c1, a2, n2, c2, a3, n3, c3, a4, n4, c4, hsv, -⟩ := s.five
  rw [hsv] at HE ⊢
  clear hsv
  have HA : Hid (Below w.heap.size w ((w.alloc (.cells #[.slice a0 n0 c0, .slice a1 n1 c1, .slice a2 n2 c2, .slice a3 n3 c3, .slice a4 n4 c4] 25)).alloc (.cells #[.slice none 0 0, .slice none 0 0, .slice none 0 0, .slice none 0 0, .slice none 0 0] 25))) := Lib.hid (((Below.refl _ _).alloc (Nat.le_refl _) _).alloc (by simp) _)
  have HR : Hid (Blk ((w.alloc (.cells #[.slice a0 n0 c0, .slice a1 n1 c1, .slice a2 n2 c2, .slice a3 n3 c3, .slice a4 n4 c4] 25)).alloc (.cells #[.slice none 0 0, .slice none 0 0, .slice none 0 0, .slice none 0 0, .slice none 0 0] 25)) (w.heap.size + 1) 25 #[.slice none 0 0, .slice none 0 0, .slice none 0 0, .slice none 0 0, .slice none 0 0]) := Lib.hid (by
    have h1 := Blk.new (w.alloc (.cells #[.slice a0 n0 c0, .slice a1 n1 c1, .slice a2 n2 c2, .slice a3 n3 c3, .slice a4 n4 c4] 25)) 25 #[.slice none 0 0, .slice none 0 0, .slice none 0 0, .slice none 0 0, .slice none 0 0]
    have e1 : (w.alloc (.cells #[.slice a0 n0 c0, .slice a1 n1 c1, .slice a2 n2 c2, .slice a3 n3 c3, .slice a4 n4 c4] 25)).heap.size = w.heap.size + 1 := by simp
    rw [e1] at h1
    exact h1)
  go_enter Tryz.func56, Tryz.ntmps56
  go_wp2_with fail
  refine (HE.out _ HA.out).mono ?_
  rintro e w1 ⟨v, rfl, hv, hb1⟩
  obtain ⟨A1, k1, rfl, _, _, hr1, _⟩ := hv.shape_n HN.out
  have HB1 : Hid (Below w.heap.size w w1) := Lib.hid (HA.out.trans (hb1.mono HA.out.size))
  have HR1 := Lib.hid (HR.out.below hb1 HR.out.lt)
  have HD := Lib.hid (decode_any A1 n k1 L w1 hr1 HN.out hl (HT.out.below HB1.out))
  unfold DecPost at HD
  clear hv hb1 hr1
  go_wp2_with fail
  refine HD.out.mono ?_
  rintro e w2 ⟨hb2, ⟨x, hx, rfl, hty, hsm⟩ | ⟨hno, _⟩⟩
  · have HX : Hid (x.sta = s.sta) := Lib.hid (by
      have h1 := HP.out
      rw [hx] at h1
      injection h1)
    have HB2 : Hid (Below w.heap.size w w2) := Lib.hid (HB1.out.trans (hb2.mono HB1.out.size))
    have HR2 := Lib.hid (HR1.out.below hb2 HR1.out.lt)
    have HTY := Lib.hid hty
    have HSM := Lib.hid hsm
    obtain ⟨b0, m0, d0, b1, m1, d1, b2, m2, d2, b3, m3, d3, b4, m4, d4, hxv, -⟩ := x.five
    have HXV := Lib.hid hxv
    rw [hxv]
    clear hx hty hsm hb2 hxv
    have HA3 : Hid (Below w2.heap.size w2 (w2.alloc (.cells #[.slice b0 m0 d0, .slice b1 m1 d1, .slice b2 m2 d2, .slice b3 m3 d3, .slice b4 m4 d4] 25))) := Lib.hid ((Below.refl _ _).alloc (Nat.le_refl _) _)
    have HR3 := Lib.hid (HR2.out.alloc (.cells #[.slice b0 m0 d0, .slice b1 m1 d1, .slice b2 m2 d2, .slice b3 m3 d3, .slice b4 m4 d4] 25))
    have HB3 : Hid (Below w.heap.size w (w2.alloc (.cells #[.slice b0 m0 d0, .slice b1 m1 d1, .slice b2 m2 d2, .slice b3 m3 d3, .slice b4 m4 d4] 25))) := Lib.hid (HB2.out.alloc HB2.out.size _)
    have HTY3 := Lib.hid (HTY.out.below HA3.out)
    have q0 := HR3.out.cell 0
    have z0 := HR3.out.frozen 0
    have q1 := HR3.out.cell 1
    have z1 := HR3.out.frozen 1
    have q2 := HR3.out.cell 2
    have z2 := HR3.out.frozen 2
    have q3 := HR3.out.cell 3
    have z3 := HR3.out.frozen 3
    have q4 := HR3.out.cell 4
    have z4 := HR3.out.frozen 4
    simp only [List.getElem?_toArray, List.getElem?_cons_zero, List.getElem?_cons_succ] at q0 q1 q2 q3 q4
    go_wp2
    have HF : Hid (Blk ((((((w2.alloc (.cells #[.slice b0 m0 d0, .slice b1 m1 d1, .slice b2 m2 d2, .slice b3 m3 d3, .slice b4 m4 d4] 25)).setCell ⟨w.heap.size + 1, 0, none⟩ (.slice b0 m0 d0)).setCell ⟨w.heap.size + 1, 1, none⟩ (.slice b1 m1 d1)).setCell ⟨w.heap.size + 1, 2, none⟩ (.slice b2 m2 d2)).setCell ⟨w.heap.size + 1, 3, none⟩ (.slice b3 m3 d3)).setCell ⟨w.heap.size + 1, 4, none⟩ (.slice b4 m4 d4)) (w.heap.size + 1) 25 #[.slice b0 m0 d0, .slice b1 m1 d1, .slice b2 m2 d2, .slice b3 m3 d3, .slice b4 m4 d4]) := Lib.hid (((((HR3.out.set_ 0 (.slice b0 m0 d0)).set_ 1 (.slice b1 m1 d1)).set_ 2 (.slice b2 m2 d2)).set_ 3 (.slice b3 m3 d3)).set_ 4 (.slice b4 m4 d4))
    have HTF : Hid (STy ((((((w2.alloc (.cells #[.slice b0 m0 d0, .slice b1 m1 d1, .slice b2 m2 d2, .slice b3 m3 d3, .slice b4 m4 d4] 25)).setCell ⟨w.heap.size + 1, 0, none⟩ (.slice b0 m0 d0)).setCell ⟨w.heap.size + 1, 1, none⟩ (.slice b1 m1 d1)).setCell ⟨w.heap.size + 1, 2, none⟩ (.slice b2 m2 d2)).setCell ⟨w.heap.size + 1, 3, none⟩ (.slice b3 m3 d3)).setCell ⟨w.heap.size + 1, 4, none⟩ (.slice b4 m4 d4)) x) := Lib.hid (sty_set9 (sty_set9 (sty_set9 (sty_set9 (sty_set9 HTY3.out HR3.out 0 (.slice b0 m0 d0)) (HR3.out.set_ 0 (.slice b0 m0 d0)) 1 (.slice b1 m1 d1)) ((HR3.out.set_ 0 (.slice b0 m0 d0)).set_ 1 (.slice b1 m1 d1)) 2 (.slice b2 m2 d2)) (((HR3.out.set_ 0 (.slice b0 m0 d0)).set_ 1 (.slice b1 m1 d1)).set_ 2 (.slice b2 m2 d2)) 3 (.slice b3 m3 d3)) ((((HR3.out.set_ 0 (.slice b0 m0 d0)).set_ 1 (.slice b1 m1 d1)).set_ 2 (.slice b2 m2 d2)).set_ 3 (.slice b3 m3 d3)) 4 (.slice b4 m4 d4))
    have HBF : Hid (Below w.heap.size w ((((((w2.alloc (.cells #[.slice b0 m0 d0, .slice b1 m1 d1, .slice b2 m2 d2, .slice b3 m3 d3, .slice b4 m4 d4] 25)).setCell ⟨w.heap.size + 1, 0, none⟩ (.slice b0 m0 d0)).setCell ⟨w.heap.size + 1, 1, none⟩ (.slice b1 m1 d1)).setCell ⟨w.heap.size + 1, 2, none⟩ (.slice b2 m2 d2)).setCell ⟨w.heap.size + 1, 3, none⟩ (.slice b3 m3 d3)).setCell ⟨w.heap.size + 1, 4, none⟩ (.slice b4 m4 d4))) := Lib.hid (((((HB3.out.setCell (Nat.le_succ _) (.slice b0 m0 d0)).setCell (Nat.le_succ _) (.slice b1 m1 d1)).setCell (Nat.le_succ _) (.slice b2 m2 d2)).setCell (Nat.le_succ _) (.slice b3 m3 d3)).setCell (Nat.le_succ _) (.slice b4 m4 d4))
    generalize ((((((w2.alloc (.cells #[.slice b0 m0 d0, .slice b1 m1 d1, .slice b2 m2 d2, .slice b3 m3 d3, .slice b4 m4 d4] 25)).setCell ⟨w.heap.size + 1, 0, none⟩ (.slice b0 m0 d0)).setCell ⟨w.heap.size + 1, 1, none⟩ (.slice b1 m1 d1)).setCell ⟨w.heap.size + 1, 2, none⟩ (.slice b2 m2 d2)).setCell ⟨w.heap.size + 1, 3, none⟩ (.slice b3 m3 d3)).setCell ⟨w.heap.size + 1, 4, none⟩ (.slice b4 m4 d4)) = Wf at HF HTF HBF ⊢
    have k0 := HF.out.cell 0
    have k1' := HF.out.cell 1
    have k2 := HF.out.cell 2
    have k3 := HF.out.cell 3
    have k4 := HF.out.cell 4
    simp only [List.getElem?_toArray, List.getElem?_cons_zero, List.getElem?_cons_succ] at k0 k1' k2 k3 k4
    refine bodyPost_ret (v := .agg #[.slice b0 m0 d0, .slice b1 m1 d1, .slice b2 m2 d2, .slice b3 m3 d3, .slice b4 m4 d4]) (by simp [results, Tryz.results56, go_sem, k0, k1', k2, k3, k4]) rfl ?_
    rw [← HXV.out]
    exact HPOST.out x _ HX.out HTF.out HSM.out HBF.out
  · exact absurd (HP.out) (by rw [hno]; exact fun h => by cases h)
end Go.Proofs.YtgpcinfhcamgpaaGreatDoor
