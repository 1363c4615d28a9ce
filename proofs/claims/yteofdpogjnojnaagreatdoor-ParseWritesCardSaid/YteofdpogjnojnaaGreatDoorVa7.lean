/-
  The document's Depth.
-/
import Derived.Test.YteofdpogjnojnaaGreatDoorVa6
namespace Go.Proofs.YteofdpogjnojnaaGreatDoor
open Go.RowKit
attribute [local go_sem ↓] Go.wp_at_zero Go.wp_at_succ
set_option linter.unusedVariables false
set_option linter.unusedSimpArgs false

set_option maxRecDepth 100000 in
set_option maxHeartbeats 2000000 in
theorem rdepth_any {w0 : World} {v : MV} (h : VAt w0 v) : ∀ (w : World), Below w0.heap.size w0 w → FitV v → v.dep ≤ 1000000 →
    Calls Tryz.prog 11 #[v.val] w fun e w' => e = .returned (.int .i64 (v.dep : Int)) ∧ Below w.heap.size w w' := by
  have hgo : ∀ (v : MV), VAt w0 v → (∀ x ∈ v.l ++ v.m, ∀ (w : World), Below w0.heap.size w0 w → FitV x → x.dep ≤ 1000000 → Calls Tryz.prog 11 #[x.val] w fun e w' => e = .returned (.int .i64 (x.dep : Int)) ∧ Below w.heap.size w w') → ∀ (w : World), Below w0.heap.size w0 w → FitV v → v.dep ≤ 1000000 →
      Calls Tryz.prog 11 #[v.val] w fun e w' => e = .returned (.int .i64 (v.dep : Int)) ∧ Below w.heap.size w w' := by
    intro v hv ih w hb hf hcn
    have hce := dep_eq v
    have HNL : Hid ((v.l ++ v.m).length ≤ 1000000) := Lib.hid (by rw [List.length_append]; cases hf with | mk h0 _ _ => exact Nat.le_trans h0 (by omega))
    obtain ⟨L, hL⟩ : ∃ L, L = v.l ++ v.m := ⟨_, rfl⟩
    have hfx : ∀ x ∈ L, FitV x := by
      rw [hL]
      cases hf with
      | mk _ h1 h2 => exact fun x hx => (List.mem_append.1 hx).elim (h1 x) (h2 x)
    have hb1 : Below w.heap.size w (w.alloc (.cells #[.int .i64 v.k, .int .i64 v.n, .string v.s, .slice v.lA v.l.length v.lc, .slice v.mA v.m.length v.mc] 25)) := (Below.refl _ _).alloc (Nat.le_refl _) _
    have HKD := rkids_any v (w.alloc (.cells #[.int .i64 v.k, .int .i64 v.n, .string v.s, .slice v.lA v.l.length v.lc, .slice v.mA v.m.length v.mc] 25)) (hv.bel (hb.trans (hb1.mono hb.size))) hf
    unfold KidP MV.val at HKD
    rw [← hL] at HKD ih hce HNL
    have HKD := Lib.hid HKD
    have HB1 := Lib.hid hb1
    have HB0 := Lib.hid hb
    have HIH := Lib.hid ih
    have HFX := Lib.hid hfx
    have HCE := Lib.hid hce
    unfold MV.val
    obtain ⟨C, hC⟩ : ∃ C, C = v.dep := ⟨_, rfl⟩
    rw [← hC] at hcn ⊢
    have HCC : Hid (C = MV.depL L + 1) := Lib.hid (hC.trans hce)
    clear hb1 hb ih hfx hce hf hv hC
    go_enter Tryz.func11, Tryz.ntmps11
    go_wp2_with fail
    refine HKD.out.mono ?_
    rintro e w1 ⟨A, n, c, rfl, hn, hr, hb1⟩
    have HN := Lib.hid hn
    have HRD := Lib.hid hr
    have HB2 : Hid (Below w.heap.size w w1) := Lib.hid (HB1.out.trans (hb1.mono HB1.out.size))
    have hn3 : n ≤ 1000000 := by rw [hn]; exact HNL.out
    clear hn hr hb1 HKD
    go_wp2
    go_loopw [3, 5, 6] (fun x y z wr => ∃ (i t : Nat) (z0 : Value), z = z0 ∧ x = .int .i64 (t : Int) ∧ y = .int .i64 (i : Int) ∧ i ≤ n ∧ t ≤ 1000000 ∧ Hid (t = MV.depL (L.take i)) ∧ Hid (Below w1.heap.size w1 wr)) (fun _ y _ _ => n - (intOf y).toNat)
    case atStart => exact ⟨0, 0, _, rfl, rfl, rfl, Nat.zero_le _, by omega, Lib.hid (by simp [MV.depL]), Lib.hid (Below.refl _ _)⟩
    case round =>
      obtain ⟨i, t, z0, rfl, rfl, rfl, hi, ht, HT, HW⟩ := hrel
      rcases (by omega : i < n ∨ i = n) with hlt | heq
      · have q0 : decide ((i : Int) < (n : Int)) = true := by rw [decide_eq_true_iff]; omega
        have q0' : decide (i < n) = true := by rw [decide_eq_true_iff]; omega
        have hil : i < L.length := by rw [← HN.out]; exact hlt
        have HRW := Lib.hid ((Reads.below HRD.out HW.out).more HW.out.size)
        obtain ⟨b, o, hA, hc⟩ := csL_cells HRW.out HN.out hil
        subst hA
        obtain ⟨x, hx⟩ : ∃ x, x = L[i] := ⟨_, rfl⟩
        have hxm : x ∈ L := by rw [hx]; exact List.getElem_mem hil
        have hsn := depL_snoc L i hil
        have htk := depL_take_le L (i + 1)
        rw [← hx] at hc hsn
        have d0 : wr.cell? ⟨b, o + i * 5, none⟩ = some (.int .i64 x.k) := hc 0 (by omega)
        have d1 : wr.cell? ⟨b, o + i * 5 + 1, none⟩ = some (.int .i64 x.n) := hc 1 (by omega)
        have d2 : wr.cell? ⟨b, o + i * 5 + 2, none⟩ = some (.string x.s) := hc 2 (by omega)
        have d3 : wr.cell? ⟨b, o + i * 5 + 3, none⟩ = some (.slice x.lA x.l.length x.lc) := hc 3 (by omega)
        have d4 : wr.cell? ⟨b, o + i * 5 + 4, none⟩ = some (.slice x.mA x.m.length x.mc) := hc 4 (by omega)
        have hct : MV.depL (L.take (i + 1)) ≤ MV.depL L := htk
        have hxc : x.dep ≤ 1000000 := by have := HCC.out; omega
        obtain ⟨cx, hcx⟩ : ∃ cx, cx = x.dep := ⟨_, rfl⟩
        have hcall := HIH.out x hxm wr (HB0.out.trans ((HB2.out.trans (HW.out.mono HB2.out.size)).mono HB0.out.size)) (HFX.out x hxm) hxc
        unfold MV.val at hcall
        rw [← hcx] at hcall hxc hsn
        have HCL := Lib.hid hcall
        have HT2 : Hid (max t cx = MV.depL (L.take (i + 1))) := Lib.hid (by rw [hsn, HT.out])
        have htc : max t cx ≤ 1000000 := by omega
        have hii : (i : Int) < (n : Int) := by omega
        have hi0 : (0 : Int) ≤ (i : Int) := by omega
        clear hc hx hxm hsn htk hct hcx hcall
        go_wp2_with fail
        refine HCL.out.mono ?_
        rintro e w2 ⟨rfl, hb2⟩
        have HW2 := Lib.hid (HW.out.trans (hb2.mono HW.out.size))
        clear hb2 d0 d1 d2 d3 d4
        rcases (by omega : t < cx ∨ cx ≤ t) with hgt | hgt
        · have q1 : decide ((t : Int) < (cx : Int)) = true := by rw [decide_eq_true_iff]; omega
          have q1' : decide (t < cx) = true := by rw [decide_eq_true_iff]; omega
          rw [Nat.max_eq_right (Nat.le_of_lt hgt)] at HT2
          clear hgt htc
          go_wp2
          go_roundw
          case rel => exact ⟨i + 1, cx, _, rfl, rfl, by go_num, by omega, by omega, HT2, HW2⟩
          case measure => simp [intOf]; omega
        · have q1 : decide ((t : Int) < (cx : Int)) = false := by rw [decide_eq_false_iff_not]; omega
          have q1' : decide (t < cx) = false := by rw [decide_eq_false_iff_not]; omega
          rw [Nat.max_eq_left hgt] at HT2
          clear hgt htc
          go_wp2
          go_roundw
          case rel => exact ⟨i + 1, t, _, rfl, rfl, by go_num, by omega, by omega, HT2, HW2⟩
          case measure => simp [intOf]; omega
      · have q0 : decide ((i : Int) < (n : Int)) = false := by rw [decide_eq_false_iff_not]; omega
        have q0' : decide (i < n) = false := by rw [decide_eq_false_iff_not]; omega
        have HTC : Hid (t + 1 = C) := Lib.hid (by rw [HT.out, HCC.out, heq, HN.out, List.take_length])
        have HWE := Lib.hid (HB2.out.trans (HW.out.mono HB2.out.size))
        clear heq
        go_wp2
        go_ret
        exact ⟨by rw [← HTC.out]; rfl, HWE.out⟩
  induction h with
  | mk a b c d e f g h i j ih1 ih2 => exact hgo _ (.mk a b c d e f g h i j) (fun x hx => (List.mem_append.1 hx).elim (ih1 x) (ih2 x))
end Go.Proofs.YteofdpogjnojnaaGreatDoor
