/-
  The law's rises, of what is sorted.
-/
import Derived.Test.YteodigdcdhceiaaDoorVaW
import Derived.Deep.RegionHeld3
namespace Go.Proofs.YteodigdcdhceiaaDoor
open Go.RowKit
attribute [local go_sem ↓] Go.wp_at_zero Go.wp_at_succ
set_option linter.unusedVariables false
set_option linter.unusedSimpArgs false

/-- keys rise, everywhere -/
inductive Ris : PV → Prop
  | mk {k n : Int} {s : ByteArray} {l : List PV} {ks : List ByteArray} {m : List PV} : (∀ x ∈ l, Ris x) → ks.Pairwise (fun a b => bl a b = true) → (∀ x ∈ m, Ris x) → Ris (.mk k n s l ks m)
mutual
theorem ris_sort : ∀ p : PV, p.right = true → Ris p.sort
  | .mk k n s l ks m, h => by
    obtain ⟨h0, h4, h1, h2, h3⟩ := rightP h
    obtain ⟨p1, p2⟩ := sort_parts (m := m) h1
    rw [PV.sort]
    have hks := isortP_sorted (ks.zip (PV.sortL m))
    have hnd : ((isortP (ks.zip (PV.sortL m))).map (·.1)).Nodup := p1.nodup_iff.2 (keysB_nodup h4)
    refine .mk (fun x hx => ?_) ?_ (fun x hx => ?_)
    · rw [sortL_map] at hx
      obtain ⟨y, hy, rfl⟩ := List.mem_map.1 hx
      exact risL_sort l h2 y hy
    · rw [List.pairwise_map]
      have h5 : (isortP (ks.zip (PV.sortL m))).Pairwise (fun a b => a.1 ≠ b.1) := by rwa [List.Nodup, List.pairwise_map] at hnd
      refine (hks.and h5).imp (fun {a b} hab => ?_)
      cases h6 : bl a.1 b.1
      · exact absurd (bl_tri h6 hab.1) hab.2
      · rfl
    · have hx := p2.mem_iff.1 hx
      rw [sortL_map] at hx
      obtain ⟨y, hy, rfl⟩ := List.mem_map.1 hx
      exact risL_sort m h3 y hy
theorem risL_sort : ∀ l : List PV, PV.rightL l = true → ∀ x ∈ l, Ris x.sort
  | [], _, x, hx => by cases hx
  | v :: r, h, x, hx => by
    rw [PV.rightL, Bool.and_eq_true] at h
    rcases List.mem_cons.1 hx with e | hx
    · rw [e]; exact ris_sort v h.1
    · exact risL_sort r h.2 x hx
end
set_option maxRecDepth 100000 in
set_option maxHeartbeats 2000000 in
theorem rises_one {w0 : World} {v : MV} (hv : VAt w0 v) (hlen : v.l.length + v.m.length ≤ 3001) (hks : (v.m.map MV.key).Pairwise (fun a b => bl a b = true)) (ih : ∀ x ∈ v.l ++ v.m, ∀ V, Below w0.heap.size w0 V → Calls Tryd.prog 22 #[x.val] V fun e w' => PF (RiP true V) e w') (w : World) (hb : Below w0.heap.size w0 w) :
    Calls Tryd.prog 22 #[v.val] w fun e w' => PF (RiP true w) e w' := by
  have HV := Lib.hid (hv.bel hb)
  have HB0 := Lib.hid hb
  have HIH := Lib.hid ih
  have HKS := Lib.hid hks
  obtain ⟨key, k, n, s, lA, lc, l, mA, mc, m⟩ := v
  unfold MV.val
  simp only [MV.k, MV.n, MV.s, MV.lA, MV.lc, MV.l, MV.mA, MV.mc, MV.m] at hlen HIH HKS ⊢
  obtain ⟨nl, hnl⟩ : ∃ nl, nl = l.length := ⟨_, rfl⟩
  obtain ⟨nm, hnm⟩ : ∃ nm, nm = m.length := ⟨_, rfl⟩
  rw [← hnl, ← hnm] at hlen ⊢
  have HNL : Hid (l.length = nl) := Lib.hid hnl.symm
  have HNM : Hid (m.length = nm) := Lib.hid hnm.symm
  have hnl3 : (nl : Int) ≤ 3001 := by omega
  have hnm3 : (nm : Int) ≤ 3001 := by omega
  obtain ⟨WX, hWX⟩ : ∃ WX, WX = w.alloc (.cells #[.int .i64 k, .int .i64 n, .string s, .slice lA nl lc, .slice mA nm mc] 25) := ⟨_, rfl⟩
  have HBX : Hid (Below w.heap.size w WX) := Lib.hid (by rw [hWX]; exact below_new _ _)
  have HKX : Hid (Blk WX w.heap.size 25 #[.int .i64 k, .int .i64 n, .string s, .slice lA nl lc, .slice mA nm mc]) := Lib.hid (by rw [hWX]; exact Blk.new _ _ _)
  clear hv hb hks ih hnl hnm
  go_enter Tryd.func22, Tryd.ntmps22
  go_wp2
  rw [← hWX]
  clear hWX
  go_loopw [3] (fun y wr => ∃ i : Nat, y = .int .i64 (i : Int) ∧ i ≤ nl ∧ Hid (Below w.heap.size w wr) ∧ Hid (Blk wr w.heap.size 25 #[.int .i64 k, .int .i64 n, .string s, .slice lA nl lc, .slice mA nm mc])) (fun y _ => nl - (intOf y).toNat)
  case atStart => exact ⟨0, rfl, Nat.zero_le _, HBX, HKX⟩
  case round =>
    clear HBX HKX
    obtain ⟨i, rfl, hi, HW, HK⟩ := hrel
    obtain ⟨b0, b1, b2, b3, b4⟩ := five_cells HK.out
    rcases (by omega : i < nl ∨ i = nl) with hlt | heq
    · have q0 : decide ((i : Int) < (nl : Int)) = true := by rw [decide_eq_true_iff]; omega
      have q0' : decide (i < nl) = true := by rw [decide_eq_true_iff]; omega
      have hil : i < l.length := by rw [HNL.out]; exact hlt
      obtain ⟨b, o, hA0, hbl, hc0⟩ := (HV.out.bel HW.out).la (i := i) hil
      have hA : lA = some ⟨b, o, none⟩ := hA0
      have hc : ∀ j, j < 5 → wr.cell? ⟨b, o + i * 5 + j, none⟩ = l[i].cs[j]? := hc0
      clear hA0 hc0
      subst hA
      obtain ⟨x, hx⟩ : ∃ x, x = l[i] := ⟨_, rfl⟩
      have hxm : x ∈ l := by rw [hx]; exact List.getElem_mem hil
      rw [← hx] at hc
      have d0 : wr.cell? ⟨b, o + i * 5, none⟩ = some (.int .i64 x.k) := hc 0 (by omega)
      have d1 : wr.cell? ⟨b, o + i * 5 + 1, none⟩ = some (.int .i64 x.n) := hc 1 (by omega)
      have d2 : wr.cell? ⟨b, o + i * 5 + 2, none⟩ = some (.string x.s) := hc 2 (by omega)
      have d3 : wr.cell? ⟨b, o + i * 5 + 3, none⟩ = some (.slice x.lA x.l.length x.lc) := hc 3 (by omega)
      have d4 : wr.cell? ⟨b, o + i * 5 + 4, none⟩ = some (.slice x.mA x.m.length x.mc) := hc 4 (by omega)
      have hcall := HIH.out x (List.mem_append_left _ hxm) wr (HB0.out.trans (HW.out.mono HB0.out.size))
      unfold MV.val at hcall
      have HCC := Lib.hid hcall
      have hii : (i : Int) < (nl : Int) := by omega
      have hi0 : (0 : Int) ≤ (i : Int) := by omega
      clear hc hxm hx hcall hbl hil
      go_wp2_with fail
      refine HCC.out.mono ?_
      rintro e w3 ⟨rfl, hb3⟩
      have HW3 : Hid (Below w.heap.size w w3) := Lib.hid (HW.out.trans (hb3.mono HW.out.size))
      have HK3 := Lib.hid (HK.out.below hb3 HK.out.lt)
      clear hb3 b0 b1 b2 b3 b4 d0 d1 d2 d3 d4
      go_wp2
      go_roundw
      case rel => exact ⟨i + 1, by go_num, by omega, HW3, HK3⟩
      case measure => simp [intOf]; omega
    · have q0 : decide ((i : Int) < (nl : Int)) = false := by rw [decide_eq_false_iff_not]; omega
      have q0' : decide (i < nl) = false := by rw [decide_eq_false_iff_not]; omega
      obtain ⟨wo, rfl⟩ : ∃ wo, wo = wr := ⟨_, rfl⟩
      have HKO := Lib.hid HK.out
      have HWO := Lib.hid HW.out
      clear heq HK HW
      go_wp2
      clear b0 b1 b2 b3 b4
      go_loopw [4] (fun y wr => ∃ i : Nat, y = .int .i64 (i : Int) ∧ i ≤ nm ∧ Hid (Below wo.heap.size wo wr)) (fun y _ => nm - (intOf y).toNat)
      case atStart => exact ⟨0, rfl, Nat.zero_le _, Lib.hid (Below.refl _ _)⟩
      case round =>
        obtain ⟨i, rfl, hi, HWR⟩ := hrel
        have HW : Hid (Below w.heap.size w wr) := Lib.hid (HWO.out.trans (HWR.out.mono HWO.out.size))
        have HK : Hid (Blk wr w.heap.size 25 #[.int .i64 k, .int .i64 n, .string s, .slice lA nl lc, .slice mA nm mc]) := Lib.hid (HKO.out.below HWR.out HKO.out.lt)
        obtain ⟨b0, b1, b2, b3, b4⟩ := five_cells HK.out
        rcases (by omega : i < nm ∨ i = nm) with hlt | heq
        · have q5 : decide ((i : Int) < (nm : Int)) = true := by rw [decide_eq_true_iff]; omega
          have q5' : decide (i < nm) = true := by rw [decide_eq_true_iff]; omega
          have hil : i < m.length := by rw [HNM.out]; exact hlt
          obtain ⟨b, o, hA0, hbl, hc0⟩ := (HV.out.bel HW.out).ma (i := i) hil
          have hA : mA = some ⟨b, o, none⟩ := hA0
          have hc : ∀ j, j < 6 → wr.cell? ⟨b, o + i * 6 + j, none⟩ = m[i].pcs[j]? := hc0
          clear hA0 hc0
          subst hA
          obtain ⟨x, hx⟩ : ∃ x, x = m[i] := ⟨_, rfl⟩
          have hxm : x ∈ m := by rw [hx]; exact List.getElem_mem hil
          rw [← hx] at hc
          have HXC : Hid (∀ V, Below wr.heap.size wr V → V.cell? ⟨b, o + i * 6, none⟩ = some (.string x.key) ∧ V.cell? ⟨b, o + i * 6 + 1, none⟩ = some (.int .i64 x.k) ∧ V.cell? ⟨b, o + i * 6 + 1 + 1, none⟩ = some (.int .i64 x.n) ∧ V.cell? ⟨b, o + i * 6 + 1 + 2, none⟩ = some (.string x.s) ∧ V.cell? ⟨b, o + i * 6 + 1 + 3, none⟩ = some (.slice x.lA x.l.length x.lc) ∧ V.cell? ⟨b, o + i * 6 + 1 + 4, none⟩ = some (.slice x.mA x.m.length x.mc)) := Lib.hid (fun V hV => ⟨(hV.cell (p := ⟨b, _, none⟩) hbl).trans (hc 0 (by omega)), (hV.cell (p := ⟨b, _, none⟩) hbl).trans (hc 1 (by omega)), (hV.cell (p := ⟨b, _, none⟩) hbl).trans (hc 2 (by omega)), (hV.cell (p := ⟨b, _, none⟩) hbl).trans (hc 3 (by omega)), (hV.cell (p := ⟨b, _, none⟩) hbl).trans (hc 4 (by omega)), (hV.cell (p := ⟨b, _, none⟩) hbl).trans (hc 5 (by omega))⟩)
          have hcall := fun V (hV : Below wr.heap.size wr V) => HIH.out x (List.mem_append_right _ hxm) V (HB0.out.trans ((HW.out.trans (hV.mono HW.out.size)).mono HB0.out.size))
          unfold MV.val at hcall
          have HCC := Lib.hid hcall
          have hii : (i : Int) < (nm : Int) := by omega
          have hi0 : (0 : Int) ≤ (i : Int) := by omega
          rcases (show i = 0 ∨ ∃ p, i = p + 1 from by cases i with | zero => exact .inl rfl | succ p => exact .inr ⟨p, rfl⟩) with h0 | ⟨p, hp⟩
          · have q6 : decide ((0 : Int) < (i : Int)) = false := by rw [decide_eq_false_iff_not]; omega
            have q6' : decide (0 < i) = false := by rw [decide_eq_false_iff_not]; omega
            have HSV : Hid (∀ V, Below wr.heap.size wr V → True ∧ V.cell? ⟨w.heap.size, 4, none⟩ = some (.slice (some ⟨b, o, none⟩) nm mc) ∧ (V.cell? ⟨b, o + i * 6, none⟩ = some (.string x.key) ∧ V.cell? ⟨b, o + i * 6 + 1, none⟩ = some (.int .i64 x.k) ∧ V.cell? ⟨b, o + i * 6 + 1 + 1, none⟩ = some (.int .i64 x.n) ∧ V.cell? ⟨b, o + i * 6 + 1 + 2, none⟩ = some (.string x.s) ∧ V.cell? ⟨b, o + i * 6 + 1 + 3, none⟩ = some (.slice x.lA x.l.length x.lc) ∧ V.cell? ⟨b, o + i * 6 + 1 + 4, none⟩ = some (.slice x.mA x.m.length x.mc))) := Lib.hid (fun V hV => ⟨trivial, (HK.out.below hV HK.out.lt).cell 4, HXC.out V hV⟩)
            clear hc hxm hx hcall hbl hil h0
            go_wp2
            clear b0 b1 b2 b3 b4
            refine wp_region_held_drew (S := fun V => Below wr.heap.size wr V) (by kernel_rfl) ((Below.refl _ _).drew) (fun hS1 => ?_)
            refine wpAnyH_take (i := 0) (oi := ⟨some 26, _, _, _, _, _⟩) (v := .int .i64 (i : Int)) rfl (by kernel_rfl) (by kernel_rfl) (by kernel_rfl) (fun _ _ _ h => h) (.inl ⟨by kernel_rfl, fun V hS => by go_simp⟩) hS1 ?_
            simp only [Act.put, List.setIfInBounds_toArray, List.set_cons_zero, List.set_cons_succ]
            refine wpAnyH_take (i := 1) (oi := ⟨some 27, _, _, _, _, _⟩) (v := .bool false) rfl (by kernel_rfl) (by kernel_rfl) (by kernel_rfl) (fun _ _ _ h => h) (.inl ⟨by kernel_rfl, fun V hS => by go_simp⟩) hS1 ?_
            simp only [Act.put, List.setIfInBounds_toArray, List.set_cons_zero, List.set_cons_succ]
            refine wpAnyH_take (i := 2) (oi := ⟨some 28, _, _, _, _, _⟩) (v := .bool false) rfl (by kernel_rfl) (by kernel_rfl) (by kernel_rfl) (fun _ _ _ h => h) (.inl ⟨by kernel_rfl, fun V hS => by go_simp⟩) hS1 ?_
            simp only [Act.put, List.setIfInBounds_toArray, List.set_cons_zero, List.set_cons_succ]
            refine wpAnyH_take (i := 3) (oi := ⟨some 29, _, _, _, _, _⟩) (v := undef) rfl (by kernel_rfl) (by kernel_rfl) (by kernel_rfl) (fun _ _ _ h => h) (.inr ⟨by kernel_rfl, rfl⟩) hS1 ?_
            simp only [Act.put, List.setIfInBounds_toArray, List.set_cons_zero, List.set_cons_succ]
            refine wpAnyH_take (i := 4) (oi := ⟨some 30, _, _, _, _, _⟩) (v := undef) rfl (by kernel_rfl) (by kernel_rfl) (by kernel_rfl) (fun _ _ _ h => h) (.inr ⟨by kernel_rfl, rfl⟩) hS1 ?_
            simp only [Act.put, List.setIfInBounds_toArray, List.set_cons_zero, List.set_cons_succ]
            refine wpAnyH_take (i := 5) (oi := ⟨some 31, _, _, _, _, _⟩) (v := undef) rfl (by kernel_rfl) (by kernel_rfl) (by kernel_rfl) (fun _ _ _ h => h) (.inr ⟨by kernel_rfl, rfl⟩) hS1 ?_
            simp only [Act.put, List.setIfInBounds_toArray, List.set_cons_zero, List.set_cons_succ]
            refine wpAnyH_take (i := 6) (oi := ⟨some 32, _, _, _, _, _⟩) (v := undef) rfl (by kernel_rfl) (by kernel_rfl) (by kernel_rfl) (fun _ _ _ h => h) (.inr ⟨by kernel_rfl, rfl⟩) hS1 ?_
            simp only [Act.put, List.setIfInBounds_toArray, List.set_cons_zero, List.set_cons_succ]
            refine wpAnyH_take (i := 7) (oi := ⟨some 33, _, _, _, _, _⟩) (v := undef) rfl (by kernel_rfl) (by kernel_rfl) (by kernel_rfl) (fun _ _ _ h => h) (.inr ⟨by kernel_rfl, rfl⟩) hS1 ?_
            simp only [Act.put, List.setIfInBounds_toArray, List.set_cons_zero, List.set_cons_succ]
            refine wpAnyH_take (i := 8) (oi := ⟨some 34, _, _, _, _, _⟩) (v := undef) rfl (by kernel_rfl) (by kernel_rfl) (by kernel_rfl) (fun _ _ _ h => h) (.inr ⟨by kernel_rfl, rfl⟩) hS1 ?_
            simp only [Act.put, List.setIfInBounds_toArray, List.set_cons_zero, List.set_cons_succ]
            refine wpAnyH_take (i := 9) (oi := ⟨some 35, _, _, _, _, _⟩) (v := undef) rfl (by kernel_rfl) (by kernel_rfl) (by kernel_rfl) (fun _ _ _ h => h) (.inr ⟨by kernel_rfl, rfl⟩) hS1 ?_
            simp only [Act.put, List.setIfInBounds_toArray, List.set_cons_zero, List.set_cons_succ]
            refine wpAnyH_take (i := 10) (oi := ⟨some 36, _, _, _, _, _⟩) (v := undef) rfl (by kernel_rfl) (by kernel_rfl) (by kernel_rfl) (fun _ _ _ h => h) (.inr ⟨by kernel_rfl, rfl⟩) hS1 ?_
            simp only [Act.put, List.setIfInBounds_toArray, List.set_cons_zero, List.set_cons_succ]
            refine wpAnyH_take (i := 11) (oi := ⟨some 37, _, _, _, _, _⟩) (v := undef) rfl (by kernel_rfl) (by kernel_rfl) (by kernel_rfl) (fun _ _ _ h => h) (.inr ⟨by kernel_rfl, rfl⟩) hS1 ?_
            simp only [Act.put, List.setIfInBounds_toArray, List.set_cons_zero, List.set_cons_succ]
            refine wpAnyH_take (i := 12) (oi := ⟨some 38, _, _, _, _, _⟩) (v := undef) rfl (by kernel_rfl) (by kernel_rfl) (by kernel_rfl) (fun _ _ _ h => h) (.inr ⟨by kernel_rfl, rfl⟩) hS1 ?_
            simp only [Act.put, List.setIfInBounds_toArray, List.set_cons_zero, List.set_cons_succ]
            refine wpAnyH_take (i := 13) (oi := ⟨some 39, _, _, _, _, _⟩) (v := undef) rfl (by kernel_rfl) (by kernel_rfl) (by kernel_rfl) (fun _ _ _ h => h) (.inr ⟨by kernel_rfl, rfl⟩) hS1 ?_
            simp only [Act.put, List.setIfInBounds_toArray, List.set_cons_zero, List.set_cons_succ]
            refine wpAnyH_take (i := 14) (oi := ⟨some 40, _, _, _, _, _⟩) (v := undef) rfl (by kernel_rfl) (by kernel_rfl) (by kernel_rfl) (fun _ _ _ h => h) (.inr ⟨by kernel_rfl, rfl⟩) hS1 ?_
            simp only [Act.put, List.setIfInBounds_toArray, List.set_cons_zero, List.set_cons_succ]
            refine wpAnyH_take (i := 15) (oi := ⟨some 41, _, _, _, _, _⟩) (v := undef) rfl (by kernel_rfl) (by kernel_rfl) (by kernel_rfl) (fun _ _ _ h => h) (.inr ⟨by kernel_rfl, rfl⟩) hS1 ?_
            simp only [Act.put, List.setIfInBounds_toArray, List.set_cons_zero, List.set_cons_succ]
            refine wpAnyH_take (i := 16) (oi := ⟨some 42, _, _, _, _, _⟩) (v := undef) rfl (by kernel_rfl) (by kernel_rfl) (by kernel_rfl) (fun _ _ _ h => h) (.inr ⟨by kernel_rfl, rfl⟩) hS1 ?_
            simp only [Act.put, List.setIfInBounds_toArray, List.set_cons_zero, List.set_cons_succ]
            refine wpAnyH_take (i := 17) (oi := ⟨some 43, _, _, _, _, _⟩) (v := .bool false) rfl (by kernel_rfl) (by kernel_rfl) (by kernel_rfl) (fun _ _ _ h => h) (.inl ⟨by kernel_rfl, fun V hS => by go_simp⟩) hS1 ?_
            simp only [Act.put, List.setIfInBounds_toArray, List.set_cons_zero, List.set_cons_succ]
            refine wpAnyH_take (i := 18) (oi := ⟨some 44, _, _, _, _, _⟩) (v := .bool false) rfl (by kernel_rfl) (by kernel_rfl) (by kernel_rfl) (fun _ _ _ h => h) (.inl ⟨by kernel_rfl, fun V hS => by go_simp⟩) hS1 ?_
            simp only [Act.put, List.setIfInBounds_toArray, List.set_cons_zero, List.set_cons_succ]
            refine wpAnyH_take (i := 19) (oi := ⟨some 45, _, _, _, _, _⟩) (v := .pointer (some ⟨w.heap.size, 4, none⟩)) rfl (by kernel_rfl) (by kernel_rfl) (by kernel_rfl) (fun _ _ _ h => h) (.inl ⟨by kernel_rfl, fun V hS => by go_simp⟩) hS1 ?_
            simp only [Act.put, List.setIfInBounds_toArray, List.set_cons_zero, List.set_cons_succ]
            refine wpAnyH_take (i := 20) (oi := ⟨some 46, _, _, _, _, _⟩) (v := .slice (some ⟨b, o, none⟩) nm mc) rfl (by kernel_rfl) (by kernel_rfl) (by kernel_rfl) (fun _ _ _ h => h) (.inl ⟨by kernel_rfl, fun V hS => by obtain ⟨h0, h1, ⟨h2, h3, h4, h5, h6, h7⟩⟩ := HSV.out V hS; go_simp⟩) hS1 ?_
            simp only [Act.put, List.setIfInBounds_toArray, List.set_cons_zero, List.set_cons_succ]
            refine wpAnyH_take (i := 21) (oi := ⟨some 47, _, _, _, _, _⟩) (v := .int .i64 (i : Int)) rfl (by kernel_rfl) (by kernel_rfl) (by kernel_rfl) (fun _ _ _ h => h) (.inl ⟨by kernel_rfl, fun V hS => by go_simp⟩) hS1 ?_
            simp only [Act.put, List.setIfInBounds_toArray, List.set_cons_zero, List.set_cons_succ]
            refine wpAnyH_take (i := 22) (oi := ⟨some 48, _, _, _, _, _⟩) (v := .pointer (some ⟨b, o + i * 6, none⟩)) rfl (by kernel_rfl) (by kernel_rfl) (by kernel_rfl) (fun _ _ _ h => h) (.inl ⟨by kernel_rfl, fun V hS => by go_simp⟩) hS1 ?_
            simp only [Act.put, List.setIfInBounds_toArray, List.set_cons_zero, List.set_cons_succ]
            refine wpAnyH_take (i := 23) (oi := ⟨some 49, _, _, _, _, _⟩) (v := .pointer (some ⟨b, o + i * 6 + 1, none⟩)) rfl (by kernel_rfl) (by kernel_rfl) (by kernel_rfl) (fun _ _ _ h => h) (.inl ⟨by kernel_rfl, fun V hS => by go_simp⟩) hS1 ?_
            simp only [Act.put, List.setIfInBounds_toArray, List.set_cons_zero, List.set_cons_succ]
            refine wpAnyH_take (i := 24) (oi := ⟨some 50, _, _, _, _, _⟩) (v := .agg #[.int .i64 x.k, .int .i64 x.n, .string x.s, .slice x.lA x.l.length x.lc, .slice x.mA x.m.length x.mc]) rfl (by kernel_rfl) (by kernel_rfl) (by kernel_rfl) (fun _ _ _ h => h) (.inl ⟨by kernel_rfl, fun V hS => by obtain ⟨h0, h1, ⟨h2, h3, h4, h5, h6, h7⟩⟩ := HSV.out V hS; go_simp⟩) hS1 ?_
            simp only [Act.put, List.setIfInBounds_toArray, List.set_cons_zero, List.set_cons_succ]
            refine wpAnyH_ready (rs := [25]) (by kernel_rfl) (by simp) ?_
            refine AllReadyH.cons rfl (fun K' hK => ?_) AllReadyH.nil
            go_simp
            refine (HCC.out _ hS1).mono ?_
            rintro e w3 ⟨rfl, hb3⟩
            go_simp
            refine hK.out _ _ ((hS1).trans (hb3.mono (hS1).size)) (fun hS2 => ?_)
            clear hK K' hS1
            refine wpAnyH_take (i := 26) (oi := ⟨some 52, _, _, _, _, _⟩) (v := .bool false) rfl (by kernel_rfl) (by kernel_rfl) (by kernel_rfl) (fun _ _ _ h => h) (.inl ⟨by kernel_rfl, fun V hS => by go_simp⟩) hS2 ?_
            simp only [Act.put, List.setIfInBounds_toArray, List.set_cons_zero, List.set_cons_succ]
            refine wpAnyH_take (i := 27) (oi := ⟨some 53, _, _, _, _, _⟩) (v := .bool false) rfl (by kernel_rfl) (by kernel_rfl) (by kernel_rfl) (fun _ _ _ h => h) (.inl ⟨by kernel_rfl, fun V hS => by go_simp⟩) hS2 ?_
            simp only [Act.put, List.setIfInBounds_toArray, List.set_cons_zero, List.set_cons_succ]
            refine wpAnyH_done (by kernel_rfl) ?_ _
            have HWN : Hid (Below wo.heap.size wo _) := Lib.hid (HWR.out.trans (hS2.mono HWR.out.size))
            clear hS2
            go_wp2
            go_roundw
            case rel => exact ⟨i + 1, by go_num, by omega, HWN⟩
            case measure => simp [intOf]; omega
          · have hpl : p < m.length := by omega
            obtain ⟨b', o', hA1, hbl', hc1⟩ := (HV.out.bel HW.out).ma (i := p) hpl
            have hA2 : some (⟨b, o, none⟩ : Addr) = some ⟨b', o', none⟩ := hA1
            injection hA2 with hA2
            injection hA2 with e1 e2 _
            subst e1
            subst e2
            obtain ⟨y, hy⟩ : ∃ y, y = m[p] := ⟨_, rfl⟩
            have hc2 : ∀ j, j < 6 → wr.cell? ⟨b, o + p * 6 + j, none⟩ = m[p].pcs[j]? := hc1
            rw [← hy] at hc2
            have hyk : bl y.key x.key = true := by
              have h9 := (List.pairwise_iff_getElem.1 HKS.out) p i (by rw [List.length_map]; exact hpl) (by rw [List.length_map]; exact hil) (by omega)
              simp only [List.getElem_map] at h9
              rw [← hx, ← hy] at h9
              exact h9
            have d1 : Op.bytesLess y.key.toList x.key.toList = true := hyk
            have d2 : Op.bytesLess x.key.toList y.key.toList = false := bl_asym hyk
            have d3 : (y.key.toList == x.key.toList) = false := by
              rw [nm_beq]
              exact decide_eq_false (fun e => by rw [e, bl_irr] at hyk; cases hyk)
            have q6 : decide ((0 : Int) < (i : Int)) = true := by rw [decide_eq_true_iff]; omega
            have q6' : decide (0 < i) = true := by rw [decide_eq_true_iff]; omega
            have hqn : ((i : Int) - 1).toNat = p := by omega
            have hq2 : (i : Int) - 1 < (nm : Int) := by omega
            have hq3 : (0 : Int) ≤ (i : Int) - 1 := by omega
            have hq4 : (1 : Int) ≤ (i : Int) := by omega
            have hwi : IntKind.i64.wrap ((i : Int) - 1) = (i : Int) - 1 := IntWalk.i64_in _ (by omega)
            have HSV : Hid (∀ V, Below wr.heap.size wr V → V.cell? ⟨b, o + p * 6, none⟩ = some (.string y.key) ∧ V.cell? ⟨w.heap.size, 4, none⟩ = some (.slice (some ⟨b, o, none⟩) nm mc) ∧ (V.cell? ⟨b, o + i * 6, none⟩ = some (.string x.key) ∧ V.cell? ⟨b, o + i * 6 + 1, none⟩ = some (.int .i64 x.k) ∧ V.cell? ⟨b, o + i * 6 + 1 + 1, none⟩ = some (.int .i64 x.n) ∧ V.cell? ⟨b, o + i * 6 + 1 + 2, none⟩ = some (.string x.s) ∧ V.cell? ⟨b, o + i * 6 + 1 + 3, none⟩ = some (.slice x.lA x.l.length x.lc) ∧ V.cell? ⟨b, o + i * 6 + 1 + 4, none⟩ = some (.slice x.mA x.m.length x.mc))) := Lib.hid (fun V hV => ⟨(hV.cell (p := ⟨b, _, none⟩) hbl).trans (hc2 0 (by omega)), (HK.out.below hV HK.out.lt).cell 4, HXC.out V hV⟩)
            clear hc hc1 hc2 hxm hx hcall hbl hbl' hil hpl hy hyk hp hA1
            go_wp2
            clear b0 b1 b2 b3 b4
            refine wp_region_held_drew (S := fun V => Below wr.heap.size wr V) (by kernel_rfl) ((Below.refl _ _).drew) (fun hS1 => ?_)
            refine wpAnyH_take (i := 0) (oi := ⟨some 26, _, _, _, _, _⟩) (v := .int .i64 (i : Int)) rfl (by kernel_rfl) (by kernel_rfl) (by kernel_rfl) (fun _ _ _ h => h) (.inl ⟨by kernel_rfl, fun V hS => by go_simp⟩) hS1 ?_
            simp only [Act.put, List.setIfInBounds_toArray, List.set_cons_zero, List.set_cons_succ]
            refine wpAnyH_take (i := 1) (oi := ⟨some 27, _, _, _, _, _⟩) (v := .bool true) rfl (by kernel_rfl) (by kernel_rfl) (by kernel_rfl) (fun _ _ _ h => h) (.inl ⟨by kernel_rfl, fun V hS => by go_simp⟩) hS1 ?_
            simp only [Act.put, List.setIfInBounds_toArray, List.set_cons_zero, List.set_cons_succ]
            refine wpAnyH_take (i := 2) (oi := ⟨some 28, _, _, _, _, _⟩) (v := .bool true) rfl (by kernel_rfl) (by kernel_rfl) (by kernel_rfl) (fun _ _ _ h => h) (.inl ⟨by kernel_rfl, fun V hS => by go_simp⟩) hS1 ?_
            simp only [Act.put, List.setIfInBounds_toArray, List.set_cons_zero, List.set_cons_succ]
            refine wpAnyH_take (i := 3) (oi := ⟨some 29, _, _, _, _, _⟩) (v := .pointer (some ⟨w.heap.size, 4, none⟩)) rfl (by kernel_rfl) (by kernel_rfl) (by kernel_rfl) (fun _ _ _ h => h) (.inl ⟨by kernel_rfl, fun V hS => by go_simp⟩) hS1 ?_
            simp only [Act.put, List.setIfInBounds_toArray, List.set_cons_zero, List.set_cons_succ]
            refine wpAnyH_take (i := 4) (oi := ⟨some 30, _, _, _, _, _⟩) (v := .slice (some ⟨b, o, none⟩) nm mc) rfl (by kernel_rfl) (by kernel_rfl) (by kernel_rfl) (fun _ _ _ h => h) (.inl ⟨by kernel_rfl, fun V hS => by obtain ⟨h0, h1, ⟨h2, h3, h4, h5, h6, h7⟩⟩ := HSV.out V hS; go_simp⟩) hS1 ?_
            simp only [Act.put, List.setIfInBounds_toArray, List.set_cons_zero, List.set_cons_succ]
            refine wpAnyH_take (i := 5) (oi := ⟨some 31, _, _, _, _, _⟩) (v := .int .i64 (i : Int)) rfl (by kernel_rfl) (by kernel_rfl) (by kernel_rfl) (fun _ _ _ h => h) (.inl ⟨by kernel_rfl, fun V hS => by go_simp⟩) hS1 ?_
            simp only [Act.put, List.setIfInBounds_toArray, List.set_cons_zero, List.set_cons_succ]
            refine wpAnyH_take (i := 6) (oi := ⟨some 32, _, _, _, _, _⟩) (v := .int .i64 ((i : Int) - 1)) rfl (by kernel_rfl) (by kernel_rfl) (by kernel_rfl) (fun _ _ _ h => h) (.inl ⟨by kernel_rfl, fun V hS => by go_simp⟩) hS1 ?_
            simp only [Act.put, List.setIfInBounds_toArray, List.set_cons_zero, List.set_cons_succ]
            refine wpAnyH_take (i := 7) (oi := ⟨some 33, _, _, _, _, _⟩) (v := .pointer (some ⟨b, o + p * 6, none⟩)) rfl (by kernel_rfl) (by kernel_rfl) (by kernel_rfl) (fun _ _ _ h => h) (.inl ⟨by kernel_rfl, fun V hS => by go_simp⟩) hS1 ?_
            simp only [Act.put, List.setIfInBounds_toArray, List.set_cons_zero, List.set_cons_succ]
            refine wpAnyH_take (i := 8) (oi := ⟨some 34, _, _, _, _, _⟩) (v := .pointer (some ⟨b, o + p * 6, none⟩)) rfl (by kernel_rfl) (by kernel_rfl) (by kernel_rfl) (fun _ _ _ h => h) (.inl ⟨by kernel_rfl, fun V hS => by go_simp⟩) hS1 ?_
            simp only [Act.put, List.setIfInBounds_toArray, List.set_cons_zero, List.set_cons_succ]
            refine wpAnyH_take (i := 9) (oi := ⟨some 35, _, _, _, _, _⟩) (v := .string y.key) rfl (by kernel_rfl) (by kernel_rfl) (by kernel_rfl) (fun _ _ _ h => h) (.inl ⟨by kernel_rfl, fun V hS => by obtain ⟨h0, h1, ⟨h2, h3, h4, h5, h6, h7⟩⟩ := HSV.out V hS; go_simp⟩) hS1 ?_
            simp only [Act.put, List.setIfInBounds_toArray, List.set_cons_zero, List.set_cons_succ]
            refine wpAnyH_take (i := 10) (oi := ⟨some 36, _, _, _, _, _⟩) (v := .pointer (some ⟨w.heap.size, 4, none⟩)) rfl (by kernel_rfl) (by kernel_rfl) (by kernel_rfl) (fun _ _ _ h => h) (.inl ⟨by kernel_rfl, fun V hS => by go_simp⟩) hS1 ?_
            simp only [Act.put, List.setIfInBounds_toArray, List.set_cons_zero, List.set_cons_succ]
            refine wpAnyH_take (i := 11) (oi := ⟨some 37, _, _, _, _, _⟩) (v := .slice (some ⟨b, o, none⟩) nm mc) rfl (by kernel_rfl) (by kernel_rfl) (by kernel_rfl) (fun _ _ _ h => h) (.inl ⟨by kernel_rfl, fun V hS => by obtain ⟨h0, h1, ⟨h2, h3, h4, h5, h6, h7⟩⟩ := HSV.out V hS; go_simp⟩) hS1 ?_
            simp only [Act.put, List.setIfInBounds_toArray, List.set_cons_zero, List.set_cons_succ]
            refine wpAnyH_take (i := 12) (oi := ⟨some 38, _, _, _, _, _⟩) (v := .int .i64 (i : Int)) rfl (by kernel_rfl) (by kernel_rfl) (by kernel_rfl) (fun _ _ _ h => h) (.inl ⟨by kernel_rfl, fun V hS => by go_simp⟩) hS1 ?_
            simp only [Act.put, List.setIfInBounds_toArray, List.set_cons_zero, List.set_cons_succ]
            refine wpAnyH_take (i := 13) (oi := ⟨some 39, _, _, _, _, _⟩) (v := .pointer (some ⟨b, o + i * 6, none⟩)) rfl (by kernel_rfl) (by kernel_rfl) (by kernel_rfl) (fun _ _ _ h => h) (.inl ⟨by kernel_rfl, fun V hS => by go_simp⟩) hS1 ?_
            simp only [Act.put, List.setIfInBounds_toArray, List.set_cons_zero, List.set_cons_succ]
            refine wpAnyH_take (i := 14) (oi := ⟨some 40, _, _, _, _, _⟩) (v := .pointer (some ⟨b, o + i * 6, none⟩)) rfl (by kernel_rfl) (by kernel_rfl) (by kernel_rfl) (fun _ _ _ h => h) (.inl ⟨by kernel_rfl, fun V hS => by go_simp⟩) hS1 ?_
            simp only [Act.put, List.setIfInBounds_toArray, List.set_cons_zero, List.set_cons_succ]
            refine wpAnyH_take (i := 15) (oi := ⟨some 41, _, _, _, _, _⟩) (v := .string x.key) rfl (by kernel_rfl) (by kernel_rfl) (by kernel_rfl) (fun _ _ _ h => h) (.inl ⟨by kernel_rfl, fun V hS => by obtain ⟨h0, h1, ⟨h2, h3, h4, h5, h6, h7⟩⟩ := HSV.out V hS; go_simp⟩) hS1 ?_
            simp only [Act.put, List.setIfInBounds_toArray, List.set_cons_zero, List.set_cons_succ]
            refine wpAnyH_take (i := 16) (oi := ⟨some 42, _, _, _, _, _⟩) (v := .bool false) rfl (by kernel_rfl) (by kernel_rfl) (by kernel_rfl) (fun _ _ _ h => h) (.inl ⟨by kernel_rfl, fun V hS => by go_simp⟩) hS1 ?_
            simp only [Act.put, List.setIfInBounds_toArray, List.set_cons_zero, List.set_cons_succ]
            refine wpAnyH_take (i := 17) (oi := ⟨some 43, _, _, _, _, _⟩) (v := .bool false) rfl (by kernel_rfl) (by kernel_rfl) (by kernel_rfl) (fun _ _ _ h => h) (.inl ⟨by kernel_rfl, fun V hS => by go_simp⟩) hS1 ?_
            simp only [Act.put, List.setIfInBounds_toArray, List.set_cons_zero, List.set_cons_succ]
            refine wpAnyH_take (i := 18) (oi := ⟨some 44, _, _, _, _, _⟩) (v := .bool false) rfl (by kernel_rfl) (by kernel_rfl) (by kernel_rfl) (fun _ _ _ h => h) (.inl ⟨by kernel_rfl, fun V hS => by go_simp⟩) hS1 ?_
            simp only [Act.put, List.setIfInBounds_toArray, List.set_cons_zero, List.set_cons_succ]
            refine wpAnyH_take (i := 19) (oi := ⟨some 45, _, _, _, _, _⟩) (v := .pointer (some ⟨w.heap.size, 4, none⟩)) rfl (by kernel_rfl) (by kernel_rfl) (by kernel_rfl) (fun _ _ _ h => h) (.inl ⟨by kernel_rfl, fun V hS => by go_simp⟩) hS1 ?_
            simp only [Act.put, List.setIfInBounds_toArray, List.set_cons_zero, List.set_cons_succ]
            refine wpAnyH_take (i := 20) (oi := ⟨some 46, _, _, _, _, _⟩) (v := .slice (some ⟨b, o, none⟩) nm mc) rfl (by kernel_rfl) (by kernel_rfl) (by kernel_rfl) (fun _ _ _ h => h) (.inl ⟨by kernel_rfl, fun V hS => by obtain ⟨h0, h1, ⟨h2, h3, h4, h5, h6, h7⟩⟩ := HSV.out V hS; go_simp⟩) hS1 ?_
            simp only [Act.put, List.setIfInBounds_toArray, List.set_cons_zero, List.set_cons_succ]
            refine wpAnyH_take (i := 21) (oi := ⟨some 47, _, _, _, _, _⟩) (v := .int .i64 (i : Int)) rfl (by kernel_rfl) (by kernel_rfl) (by kernel_rfl) (fun _ _ _ h => h) (.inl ⟨by kernel_rfl, fun V hS => by go_simp⟩) hS1 ?_
            simp only [Act.put, List.setIfInBounds_toArray, List.set_cons_zero, List.set_cons_succ]
            refine wpAnyH_take (i := 22) (oi := ⟨some 48, _, _, _, _, _⟩) (v := .pointer (some ⟨b, o + i * 6, none⟩)) rfl (by kernel_rfl) (by kernel_rfl) (by kernel_rfl) (fun _ _ _ h => h) (.inl ⟨by kernel_rfl, fun V hS => by go_simp⟩) hS1 ?_
            simp only [Act.put, List.setIfInBounds_toArray, List.set_cons_zero, List.set_cons_succ]
            refine wpAnyH_take (i := 23) (oi := ⟨some 49, _, _, _, _, _⟩) (v := .pointer (some ⟨b, o + i * 6 + 1, none⟩)) rfl (by kernel_rfl) (by kernel_rfl) (by kernel_rfl) (fun _ _ _ h => h) (.inl ⟨by kernel_rfl, fun V hS => by go_simp⟩) hS1 ?_
            simp only [Act.put, List.setIfInBounds_toArray, List.set_cons_zero, List.set_cons_succ]
            refine wpAnyH_take (i := 24) (oi := ⟨some 50, _, _, _, _, _⟩) (v := .agg #[.int .i64 x.k, .int .i64 x.n, .string x.s, .slice x.lA x.l.length x.lc, .slice x.mA x.m.length x.mc]) rfl (by kernel_rfl) (by kernel_rfl) (by kernel_rfl) (fun _ _ _ h => h) (.inl ⟨by kernel_rfl, fun V hS => by obtain ⟨h0, h1, ⟨h2, h3, h4, h5, h6, h7⟩⟩ := HSV.out V hS; go_simp⟩) hS1 ?_
            simp only [Act.put, List.setIfInBounds_toArray, List.set_cons_zero, List.set_cons_succ]
            refine wpAnyH_ready (rs := [25]) (by kernel_rfl) (by simp) ?_
            refine AllReadyH.cons rfl (fun K' hK => ?_) AllReadyH.nil
            go_simp
            refine (HCC.out _ hS1).mono ?_
            rintro e w3 ⟨rfl, hb3⟩
            go_simp
            refine hK.out _ _ ((hS1).trans (hb3.mono (hS1).size)) (fun hS2 => ?_)
            clear hK K' hS1
            refine wpAnyH_take (i := 26) (oi := ⟨some 52, _, _, _, _, _⟩) (v := .bool false) rfl (by kernel_rfl) (by kernel_rfl) (by kernel_rfl) (fun _ _ _ h => h) (.inl ⟨by kernel_rfl, fun V hS => by go_simp⟩) hS2 ?_
            simp only [Act.put, List.setIfInBounds_toArray, List.set_cons_zero, List.set_cons_succ]
            refine wpAnyH_take (i := 27) (oi := ⟨some 53, _, _, _, _, _⟩) (v := .bool false) rfl (by kernel_rfl) (by kernel_rfl) (by kernel_rfl) (fun _ _ _ h => h) (.inl ⟨by kernel_rfl, fun V hS => by go_simp⟩) hS2 ?_
            simp only [Act.put, List.setIfInBounds_toArray, List.set_cons_zero, List.set_cons_succ]
            refine wpAnyH_done (by kernel_rfl) ?_ _
            have HWN : Hid (Below wo.heap.size wo _) := Lib.hid (HWR.out.trans (hS2.mono HWR.out.size))
            clear hS2
            go_wp2
            go_roundw
            case rel => exact ⟨i + 1, by go_num, by omega, HWN⟩
            case measure => simp [intOf]; omega
        · have q5 : decide ((i : Int) < (nm : Int)) = false := by rw [decide_eq_false_iff_not]; omega
          have q5' : decide (i < nm) = false := by rw [decide_eq_false_iff_not]; omega
          clear heq
          go_wp2
          go_ret
          exact ⟨rfl, HW.out⟩
theorem rises_any {w0 : World} {v : MV} (h : VAt w0 v) : OkP v.pv → Ris v.pv → ∀ (w : World), Below w0.heap.size w0 w → Calls Tryd.prog 22 #[v.val] w fun e w' => PF (RiP true w) e w' := by
  induction h with
  | mk a b c d e f g h i j ih1 ih2 =>
    intro hok hr
    have hr' := hr
    rw [MV.pv] at hr'
    cases hr' with
    | mk r1 r2 r3 =>
      exact rises_one (.mk a b c d e f g h i j) hok.len r2 (fun x hx => (List.mem_append.1 hx).elim (fun hx => ih1 x hx (hok.l x hx) (r1 _ (pvL_mem.2 ⟨x, hx, rfl⟩))) (fun hx => ih2 x hx (hok.m x hx) (r3 _ (pvL_mem.2 ⟨x, hx, rfl⟩))))
end Go.Proofs.YteodigdcdhceiaaDoor
