/-
  The document's Exact: have two values the same fields?
-/
import Derived.Test.YteofdpogjnojnaaGreatDoorVa1
import Derived.Lib.Strings
namespace Go.Proofs.YteofdpogjnojnaaGreatDoor
open Go.RowKit
attribute [local go_sem ↓] Go.wp_at_zero Go.wp_at_succ
set_option linter.unusedVariables false
set_option linter.unusedSimpArgs false

noncomputable instance : DecidableEq PV := fun _ _ => Classical.propDecidable _
theorem toList_injV {a b : ByteArray} (h : a.toList = b.toList) : a = b := by
  rw [Lib.toList_data, Lib.toList_data] at h
  cases a; cases b
  simp only [ByteArray.mk.injEq]
  exact Array.toList_inj.1 h
theorem nm_beq (a b : ByteArray) : (a.toList == b.toList) = decide (a = b) := by
  by_cases h : a = b
  · subst h; simp
  · rw [decide_eq_false h, beq_eq_false_iff_ne]; exact fun e => h (toList_injV e)
def ExP (a b : MV) (w : World) (e : Ending) (w' : World) : Prop := e = .returned (.bool (decide (a.pv = b.pv))) ∧ Below w.heap.size w w'
theorem pvL_ne {l l' : List MV} (i : Nat) (hi : i < l.length) (hi' : i < l'.length) (h : l[i].pv ≠ l'[i].pv) : MV.pvL l ≠ MV.pvL l' := fun e => by
  rw [pvL_map, pvL_map] at e
  have := congrArg (fun x : List PV => x[i]?) e
  simp [hi, hi'] at this
  exact h this
theorem pvL_eq {l l' : List MV} (hl : l.length = l'.length) (h : ∀ i (hi : i < l.length) (hi' : i < l'.length), l[i].pv = l'[i].pv) : MV.pvL l = MV.pvL l' := by
  rw [pvL_map, pvL_map]
  apply List.ext_getElem (by simpa using hl)
  intro i h1 h2
  simp only [List.getElem_map]
  exact h i (by simpa using h1) (by simpa using h2)
theorem key_ne {l l' : List MV} (i : Nat) (hi : i < l.length) (hi' : i < l'.length) (h : l[i].key ≠ l'[i].key) : l.map MV.key ≠ l'.map MV.key := fun e => by
  have := congrArg (fun x : List ByteArray => x[i]?) e
  simp [hi, hi'] at this
  exact h this
theorem key_eq {l l' : List MV} (hl : l.length = l'.length) (h : ∀ i (hi : i < l.length) (hi' : i < l'.length), l[i].key = l'[i].key) : l.map MV.key = l'.map MV.key := by
  apply List.ext_getElem (by simpa using hl)
  intro i h1 h2
  simp only [List.getElem_map]
  exact h i (by simpa using h1) (by simpa using h2)
set_option maxRecDepth 100000 in
set_option maxHeartbeats 16000000 in
theorem rexact_any {w0 : World} {a : MV} (h : VAt w0 a) : ∀ (a' : MV) (w : World), Below w0.heap.size w0 w → VAt w0 a' →
    Calls Tryz.prog 9 #[a.val, a'.val] w fun e w' => ExP a a' w e w' := by
  induction h with
  | mk wk wn rl cl1 cl2 rm cm1 cm2 hl hm ih1 ih2 =>
  rename_i key k n s lA lc l mA mc m
  intro a' w hb hb'
  show Calls Tryz.prog 9 #[_, _] w fun e w' => PF (ExP (.mk key k n s lA lc l mA mc m) a' w) e w'
  have HV : Hid (VAt w (.mk key k n s lA lc l mA mc m)) := Lib.hid ((VAt.mk wk wn rl cl1 cl2 rm cm1 cm2 hl hm).bel hb)
  have HV' := Lib.hid (hb'.bel hb)
  have HB0 := Lib.hid hb
  have HI1 := Lib.hid ih1
  have HI2 := Lib.hid ih2
  have HC' : Hid ((∀ x ∈ a'.l, VAt w0 x) ∧ ∀ x ∈ a'.m, VAt w0 x) := Lib.hid ⟨hb'.l, hb'.m⟩
  have hcap' := hb'.caps
  obtain ⟨key', k', n', s', lA', lc', l', mA', mc', m'⟩ := a'
  unfold MV.val
  simp only [MV.k, MV.n, MV.s, MV.lA, MV.lc, MV.l, MV.mA, MV.mc, MV.m] at hcap' HC' ⊢
  have HENDF : Hid (∀ w', Below w.heap.size w w' → ¬ (k = k' ∧ n = n' ∧ s = s' ∧ MV.pvL l = MV.pvL l' ∧ m.map MV.key = m'.map MV.key ∧ MV.pvL m = MV.pvL m') → PF (ExP (.mk key k n s lA lc l mA mc m) (.mk key' k' n' s' lA' lc' l' mA' mc' m') w) (.returned (.bool false)) w') := Lib.hid (fun w' h1 h2 => ⟨by
    rw [decide_eq_false (fun e => h2 (by rw [MV.pv, MV.pv] at e; injection e with e1 e2 e3 e4 e5 e6; exact ⟨e1, e2, e3, e4, e5, e6⟩))], h1⟩)
  have HENDT : Hid (∀ w', Below w.heap.size w w' → k = k' ∧ n = n' ∧ s = s' ∧ MV.pvL l = MV.pvL l' ∧ m.map MV.key = m'.map MV.key ∧ MV.pvL m = MV.pvL m' → PF (ExP (.mk key k n s lA lc l mA mc m) (.mk key' k' n' s' lA' lc' l' mA' mc' m') w) (.returned (.bool true)) w') := Lib.hid (fun w' h1 ⟨e1, e2, e3, e4, e5, e6⟩ => ⟨by
    rw [decide_eq_true (by rw [MV.pv, MV.pv, e1, e2, e3, e4, e5, e6])], h1⟩)
  obtain ⟨nl, hnl⟩ : ∃ nl, nl = l.length := ⟨_, rfl⟩
  obtain ⟨nm, hnm⟩ : ∃ nm, nm = m.length := ⟨_, rfl⟩
  obtain ⟨nl', hnl'⟩ : ∃ nl, nl = l'.length := ⟨_, rfl⟩
  obtain ⟨nm', hnm'⟩ : ∃ nm, nm = m'.length := ⟨_, rfl⟩
  rw [← hnl, ← hnm, ← hnl', ← hnm']
  have HNL : Hid (l.length = nl) := Lib.hid hnl.symm
  have HNM : Hid (m.length = nm) := Lib.hid hnm.symm
  have HNL' : Hid (l'.length = nl') := Lib.hid hnl'.symm
  have HNM' : Hid (m'.length = nm') := Lib.hid hnm'.symm
  have bl1 : nl ≤ 9223372036854775807 := by unfold maxLen at cl2; omega
  have bm1 : nm ≤ 9223372036854775807 := by unfold maxLen at cm2; omega
  have bl2 : nl' ≤ 9223372036854775807 := by have := hcap'.2.1; unfold maxLen at this; omega
  have bm2 : nm' ≤ 9223372036854775807 := by have := hcap'.2.2.2; unfold maxLen at this; omega
  obtain ⟨W1, hW1⟩ : ∃ W1, W1 = (w.alloc (.cells #[.int .i64 k, .int .i64 n, .string s, .slice lA nl lc, .slice mA nm mc] 25)) := ⟨_, rfl⟩
  have hbx1 : Below w.heap.size w W1 := by rw [hW1]; exact (Below.refl _ _).alloc (Nat.le_refl _) _
  have hkx1 : Blk W1 w.heap.size 25 #[.int .i64 k, .int .i64 n, .string s, .slice lA nl lc, .slice mA nm mc] := by rw [hW1]; exact Blk.new _ _ _
  have hsz1 : W1.heap.size = w.heap.size + 1 := by rw [hW1]; simp
  have hbx2 : Below W1.heap.size W1 (W1.alloc (.cells #[.int .i64 k', .int .i64 n', .string s', .slice lA' nl' lc', .slice mA' nm' mc'] 25)) := (Below.refl _ _).alloc (Nat.le_refl _) _
  have hkx2 : Blk (W1.alloc (.cells #[.int .i64 k', .int .i64 n', .string s', .slice lA' nl' lc', .slice mA' nm' mc'] 25)) W1.heap.size 25 #[.int .i64 k', .int .i64 n', .string s', .slice lA' nl' lc', .slice mA' nm' mc'] := Blk.new _ _ _
  have hkx1' := hkx1.below hbx2 hkx1.lt
  have HBX := Lib.hid (hbx1.trans (hbx2.mono hbx1.size))
  rw [hsz1] at hkx2
  rw [hW1] at hkx1' hkx2 HBX
  have HK1 := Lib.hid hkx1'
  have HK2 := Lib.hid hkx2
  clear hbx1 hkx1 hsz1 hbx2 hkx2 hkx1' hW1 hb hb' ih1 ih2 hl hm rl rm wk wn hnl hnm hnl' hnm' cl1 cl2 cm1 cm2 hcap'
  have hs := nm_beq s s'
  by_cases hk : k = k'
  rotate_left
  · have q1 : (k == k') = false := by rw [beq_eq_false_iff_ne]; exact hk
    have q2 : (k != k') = true := by rw [bne_iff_ne]; exact hk
    have HR := Lib.hid (HENDF.out _ HBX.out (fun e => hk e.1))
    clear hk
    go_enter Tryz.func9, Tryz.ntmps9
    go_wp2
    go_ret
    exact HR.out
  have HKK := Lib.hid hk
  have q1 : (k == k') = true := by rw [hk]; exact beq_self_eq_true _
  have q2 : (k != k') = false := by rw [hk]; simp
  clear hk
  by_cases hn : n = n'
  rotate_left
  · have q3 : (n == n') = false := by rw [beq_eq_false_iff_ne]; exact hn
    have q4 : (n != n') = true := by rw [bne_iff_ne]; exact hn
    have HR := Lib.hid (HENDF.out _ HBX.out (fun e => hn e.2.1))
    clear hn
    go_enter Tryz.func9, Tryz.ntmps9
    go_wp2
    go_ret
    exact HR.out
  have HNN := Lib.hid hn
  have q3 : (n == n') = true := by rw [hn]; exact beq_self_eq_true _
  have q4 : (n != n') = false := by rw [hn]; simp
  clear hn
  by_cases hss : s = s'
  rotate_left
  · rw [decide_eq_false hss] at hs
    have HR := Lib.hid (HENDF.out _ HBX.out (fun e => hss e.2.2.1))
    clear hss
    go_enter Tryz.func9, Tryz.ntmps9
    go_wp2
    go_ret
    exact HR.out
  have HSS := Lib.hid hss
  rw [decide_eq_true hss] at hs
  clear hss
  by_cases hln : nl = nl'
  rotate_left
  · have q5 : ((nl : Int) == (nl' : Int)) = false := by rw [beq_eq_false_iff_ne]; omega
    have q6 : ((nl : Int) != (nl' : Int)) = true := by rw [bne_iff_ne]; omega
    have HR := Lib.hid (HENDF.out _ HBX.out (fun e => hln (by have := congrArg List.length e.2.2.2.1; rw [pvL_map, pvL_map, List.length_map, List.length_map] at this; rw [← HNL.out, ← HNL'.out]; exact this)))
    clear hln
    go_enter Tryz.func9, Tryz.ntmps9
    go_wp2
    go_ret
    exact HR.out
  by_cases hmn : nm = nm'
  rotate_left
  · subst hln
    have q5 : ((nl : Int) == (nl : Int)) = true := beq_self_eq_true _
    have q6 : ((nl : Int) != (nl : Int)) = false := by simp
    have q7 : ((nm : Int) == (nm' : Int)) = false := by rw [beq_eq_false_iff_ne]; omega
    have q8 : ((nm : Int) != (nm' : Int)) = true := by rw [bne_iff_ne]; omega
    have HR := Lib.hid (HENDF.out _ HBX.out (fun e => hmn (by have := congrArg List.length e.2.2.2.2.2; rw [pvL_map, pvL_map, List.length_map, List.length_map] at this; rw [← HNM.out, ← HNM'.out]; exact this)))
    clear hmn
    go_enter Tryz.func9, Tryz.ntmps9
    go_wp2
    go_ret
    exact HR.out
  subst hln
  subst hmn
  go_enter Tryz.func9, Tryz.ntmps9
  go_wp2
  obtain ⟨WX, hWX⟩ : ∃ WX, WX = ((w.alloc (.cells #[.int .i64 k, .int .i64 n, .string s, .slice lA nl lc, .slice mA nm mc] 25)).alloc (.cells #[.int .i64 k', .int .i64 n', .string s', .slice lA' nl lc', .slice mA' nm mc'] 25)) := ⟨_, rfl⟩
  rw [← hWX] at HK1 HK2 HBX ⊢
  clear hWX hs
  go_loopw [5] (fun y wr => ∃ i : Nat, y = .int .i64 (i : Int) ∧ i ≤ nl ∧ Hid (∀ j (hj : j < l.length) (hj' : j < l'.length), j < i → l[j].pv = l'[j].pv) ∧ Hid (Below WX.heap.size WX wr)) (fun y _ => nl - (intOf y).toNat)
  case atStart => exact ⟨0, rfl, Nat.zero_le _, Lib.hid (fun j _ _ h => by omega), Lib.hid (Below.refl _ _)⟩
  case round =>
    obtain ⟨i, rfl, hi, HJ, HW⟩ := hrel
    have HWB : Hid (Below w0.heap.size w0 wr) := Lib.hid (HB0.out.trans ((HBX.out.trans (HW.out.mono HBX.out.size)).mono HB0.out.size))
    have HWW : Hid (Below w.heap.size w wr) := Lib.hid (HBX.out.trans (HW.out.mono HBX.out.size))
    have HKR := Lib.hid (HK1.out.below HW.out HK1.out.lt)
    have HKS := Lib.hid (HK2.out.below HW.out HK2.out.lt)
    have b3 := HKR.out.cell 3
    simp only [List.getElem?_toArray, List.getElem?_cons_zero, List.getElem?_cons_succ] at b3
    rcases (by omega : i < nl ∨ i = nl) with hlt | heq
    · have q0 : decide ((i : Int) < (nl : Int)) = true := by rw [decide_eq_true_iff]; omega
      have q0' : decide (i < nl) = true := by rw [decide_eq_true_iff]; omega
      have hil : i < l.length := by rw [HNL.out]; exact hlt
      have hil' : i < l'.length := by rw [HNL'.out]; exact hlt
      obtain ⟨b, o, hA0, hbl, hc0⟩ := (HV.out.bel HWW.out).la (i := i) hil
      have hA : lA = some ⟨b, o, none⟩ := hA0
      have hc : ∀ j, j < 5 → wr.cell? ⟨b, o + i * 5 + j, none⟩ = l[i].cs[j]? := hc0
      obtain ⟨b', o', hA1, hbl', hc1⟩ := (HV'.out.bel HWW.out).la (i := i) hil'
      have hA' : lA' = some ⟨b', o', none⟩ := hA1
      have hc' : ∀ j, j < 5 → wr.cell? ⟨b', o' + i * 5 + j, none⟩ = l'[i].cs[j]? := hc1
      clear hA0 hc0 hA1 hc1
      subst hA
      subst hA'
      obtain ⟨x, hx⟩ : ∃ x, x = l[i] := ⟨_, rfl⟩
      obtain ⟨y, hy⟩ : ∃ y, y = l'[i] := ⟨_, rfl⟩
      have hxm : x ∈ l := by rw [hx]; exact List.getElem_mem hil
      have hym : y ∈ l' := by rw [hy]; exact List.getElem_mem hil'
      rw [← hx] at hc
      rw [← hy] at hc'
      have HSV : Hid (∀ V, Below wr.heap.size wr V → V.cell? ⟨w.heap.size, 3, none⟩ = some (.slice (some ⟨b, o, none⟩) nl lc) ∧ V.cell? ⟨w.heap.size + 1, 3, none⟩ = some (.slice (some ⟨b', o', none⟩) nl lc') ∧ (V.cell? ⟨b, o + i * 5, none⟩ = some (.int .i64 x.k) ∧ V.cell? ⟨b, o + i * 5 + 1, none⟩ = some (.int .i64 x.n) ∧ V.cell? ⟨b, o + i * 5 + 2, none⟩ = some (.string x.s) ∧ V.cell? ⟨b, o + i * 5 + 3, none⟩ = some (.slice x.lA x.l.length x.lc) ∧ V.cell? ⟨b, o + i * 5 + 4, none⟩ = some (.slice x.mA x.m.length x.mc)) ∧
          (V.cell? ⟨b', o' + i * 5, none⟩ = some (.int .i64 y.k) ∧ V.cell? ⟨b', o' + i * 5 + 1, none⟩ = some (.int .i64 y.n) ∧ V.cell? ⟨b', o' + i * 5 + 2, none⟩ = some (.string y.s) ∧ V.cell? ⟨b', o' + i * 5 + 3, none⟩ = some (.slice y.lA y.l.length y.lc) ∧ V.cell? ⟨b', o' + i * 5 + 4, none⟩ = some (.slice y.mA y.m.length y.mc))) := Lib.hid (fun V hV => by
        have hk3 := (HKR.out.below hV HKR.out.lt).cell 3
        have hk4 := (HKS.out.below hV HKS.out.lt).cell 3
        simp only [List.getElem?_toArray, List.getElem?_cons_zero, List.getElem?_cons_succ] at hk3 hk4
        have h9 : ∀ j, V.cell? ⟨b, j, none⟩ = wr.cell? ⟨b, j, none⟩ := fun j => hV.cell (p := ⟨b, j, none⟩) hbl
        have h8 : ∀ j, V.cell? ⟨b', j, none⟩ = wr.cell? ⟨b', j, none⟩ := fun j => hV.cell (p := ⟨b', j, none⟩) hbl'
        simp only [h9, h8]
        exact ⟨hk3, hk4, ⟨hc 0 (by omega), hc 1 (by omega), hc 2 (by omega), hc 3 (by omega), hc 4 (by omega)⟩, ⟨hc' 0 (by omega), hc' 1 (by omega), hc' 2 (by omega), hc' 3 (by omega), hc' 4 (by omega)⟩⟩)
      have hcall := fun V (hV : Below wr.heap.size wr V) => HI1.out x hxm y V (HWB.out.trans (hV.mono HWB.out.size)) (HC'.out.1 y hym)
      unfold ExP MV.val at hcall
      obtain ⟨q, hq⟩ : ∃ q, q = decide (x.pv = y.pv) := ⟨_, rfl⟩
      rw [← hq] at hcall
      have HCC := Lib.hid hcall
      have HQ := Lib.hid hq
      have HXX := Lib.hid (And.intro hx hy)
      have HIL := Lib.hid (And.intro hil hil')
      have hii : (i : Int) < (nl : Int) := by omega
      have hi0 : (0 : Int) ≤ (i : Int) := by omega
      clear hc hc' hxm hym hcall hx hy hbl hbl' hq
      go_wp2
      refine wp_region_held_drew (S := fun V => Below wr.heap.size wr V) (by kernel_rfl) ((Below.refl _ _).drew) (fun hS1 => ?_)
      refine wpAnyH_take (i := 0) (oi := ⟨some 51, _, _, _, _, _⟩) (v := .pointer (some ⟨w.heap.size, 3, none⟩)) rfl (by kernel_rfl) (by kernel_rfl) (by kernel_rfl) (fun _ _ _ h => h) (.inl ⟨by kernel_rfl, fun V hS => by go_simp⟩) hS1 ?_
      simp only [Act.put, List.setIfInBounds_toArray, List.set_cons_zero, List.set_cons_succ]
      refine wpAnyH_take (i := 1) (oi := ⟨some 52, _, _, _, _, _⟩) (v := .slice (some ⟨b, o, none⟩) nl lc) rfl (by kernel_rfl) (by kernel_rfl) (by kernel_rfl) (fun _ _ _ h => h) (.inl ⟨by kernel_rfl, fun V hS => by obtain ⟨h0, h1, ⟨h2, h3, h4, h5, h6⟩, ⟨k2, k3, k4, k5, k6⟩⟩ := HSV.out V hS; go_simp⟩) hS1 ?_
      simp only [Act.put, List.setIfInBounds_toArray, List.set_cons_zero, List.set_cons_succ]
      refine wpAnyH_take (i := 2) (oi := ⟨some 53, _, _, _, _, _⟩) (v := .int .i64 (i : Int)) rfl (by kernel_rfl) (by kernel_rfl) (by kernel_rfl) (fun _ _ _ h => h) (.inl ⟨by kernel_rfl, fun V hS => by go_simp⟩) hS1 ?_
      simp only [Act.put, List.setIfInBounds_toArray, List.set_cons_zero, List.set_cons_succ]
      refine wpAnyH_take (i := 3) (oi := ⟨some 54, _, _, _, _, _⟩) (v := .pointer (some ⟨b, o + i * 5, none⟩)) rfl (by kernel_rfl) (by kernel_rfl) (by kernel_rfl) (fun _ _ _ h => h) (.inl ⟨by kernel_rfl, fun V hS => by go_simp⟩) hS1 ?_
      simp only [Act.put, List.setIfInBounds_toArray, List.set_cons_zero, List.set_cons_succ]
      refine wpAnyH_take (i := 4) (oi := ⟨some 55, _, _, _, _, _⟩) (v := .agg #[.int .i64 x.k, .int .i64 x.n, .string x.s, .slice x.lA x.l.length x.lc, .slice x.mA x.m.length x.mc]) rfl (by kernel_rfl) (by kernel_rfl) (by kernel_rfl) (fun _ _ _ h => h) (.inl ⟨by kernel_rfl, fun V hS => by obtain ⟨h0, h1, ⟨h2, h3, h4, h5, h6⟩, ⟨k2, k3, k4, k5, k6⟩⟩ := HSV.out V hS; go_simp⟩) hS1 ?_
      simp only [Act.put, List.setIfInBounds_toArray, List.set_cons_zero, List.set_cons_succ]
      refine wpAnyH_take (i := 5) (oi := ⟨some 56, _, _, _, _, _⟩) (v := .pointer (some ⟨w.heap.size + 1, 3, none⟩)) rfl (by kernel_rfl) (by kernel_rfl) (by kernel_rfl) (fun _ _ _ h => h) (.inl ⟨by kernel_rfl, fun V hS => by go_simp⟩) hS1 ?_
      simp only [Act.put, List.setIfInBounds_toArray, List.set_cons_zero, List.set_cons_succ]
      refine wpAnyH_take (i := 6) (oi := ⟨some 57, _, _, _, _, _⟩) (v := (.slice (some ⟨b', o', none⟩) nl lc')) rfl (by kernel_rfl) (by kernel_rfl) (by kernel_rfl) (fun _ _ _ h => h) (.inl ⟨by kernel_rfl, fun V hS => by obtain ⟨h0, h1, ⟨h2, h3, h4, h5, h6⟩, ⟨k2, k3, k4, k5, k6⟩⟩ := HSV.out V hS; go_simp⟩) hS1 ?_
      simp only [Act.put, List.setIfInBounds_toArray, List.set_cons_zero, List.set_cons_succ]
      refine wpAnyH_take (i := 7) (oi := ⟨some 58, _, _, _, _, _⟩) (v := .int .i64 (i : Int)) rfl (by kernel_rfl) (by kernel_rfl) (by kernel_rfl) (fun _ _ _ h => h) (.inl ⟨by kernel_rfl, fun V hS => by go_simp⟩) hS1 ?_
      simp only [Act.put, List.setIfInBounds_toArray, List.set_cons_zero, List.set_cons_succ]
      refine wpAnyH_take (i := 8) (oi := ⟨some 59, _, _, _, _, _⟩) (v := (.pointer (some ⟨b', o' + i * 5, none⟩))) rfl (by kernel_rfl) (by kernel_rfl) (by kernel_rfl) (fun _ _ _ h => h) (.inl ⟨by kernel_rfl, fun V hS => by go_simp⟩) hS1 ?_
      simp only [Act.put, List.setIfInBounds_toArray, List.set_cons_zero, List.set_cons_succ]
      refine wpAnyH_take (i := 9) (oi := ⟨some 60, _, _, _, _, _⟩) (v := .agg #[.int .i64 y.k, .int .i64 y.n, .string y.s, .slice y.lA y.l.length y.lc, .slice y.mA y.m.length y.mc]) rfl (by kernel_rfl) (by kernel_rfl) (by kernel_rfl) (fun _ _ _ h => h) (.inl ⟨by kernel_rfl, fun V hS => by obtain ⟨h0, h1, ⟨h2, h3, h4, h5, h6⟩, ⟨k2, k3, k4, k5, k6⟩⟩ := HSV.out V hS; go_simp⟩) hS1 ?_
      simp only [Act.put, List.setIfInBounds_toArray, List.set_cons_zero, List.set_cons_succ]
      refine wpAnyH_ready (rs := [10]) (by kernel_rfl) (by simp) ?_
      refine AllReadyH.cons rfl (fun K' hK => ?_) AllReadyH.nil
      go_simp
      refine (HCC.out _ hS1).mono ?_
      rintro e w2 ⟨rfl, hb2⟩
      go_simp
      refine hK.out _ _ ((hS1).trans (hb2.mono (hS1).size)) (fun hS2 => ?_)
      clear hK K' hS1
      refine wpAnyH_take (i := 11) (oi := ⟨some 62, _, _, _, _, _⟩) (v := (.bool (!q))) rfl (by kernel_rfl) (by kernel_rfl) (by kernel_rfl) (fun _ _ _ h => h) (.inl ⟨by kernel_rfl, fun V hS => by go_simp⟩) hS2 ?_
      simp only [Act.put, List.setIfInBounds_toArray, List.set_cons_zero, List.set_cons_succ]
      refine wpAnyH_done (by kernel_rfl) ?_ _
      have HFF := Lib.hid hS2
      clear hS2
      cases q with
      | false =>
        have HR := Lib.hid (HENDF.out w2 (HWW.out.trans (HFF.out.mono HWW.out.size)) (fun e => pvL_ne i HIL.out.1 HIL.out.2 (by rw [← HXX.out.1, ← HXX.out.2]; exact of_decide_eq_false HQ.out.symm) e.2.2.2.1))
        go_wp2
        go_ret
        exact HR.out
      | true =>
        have HJ2 : Hid (∀ j (hj : j < l.length) (hj' : j < l'.length), j < i + 1 → l[j].pv = l'[j].pv) := Lib.hid (fun j hj hj' h => by
          rcases (by omega : j < i ∨ j = i) with h1 | h1
          · exact HJ.out j hj hj' h1
          · subst h1
            rw [← HXX.out.1, ← HXX.out.2]
            exact of_decide_eq_true HQ.out.symm)
        have HW2 := Lib.hid (HW.out.trans (HFF.out.mono HW.out.size))
        go_wp2
        go_roundw
        case rel => exact ⟨i + 1, by go_num, by omega, HJ2, HW2⟩
        case measure => simp [intOf]; omega
    · have q0 : decide ((i : Int) < (nl : Int)) = false := by rw [decide_eq_false_iff_not]; omega
      have q0' : decide (i < nl) = false := by rw [decide_eq_false_iff_not]; omega
      have HLL : Hid (MV.pvL l = MV.pvL l') := Lib.hid (pvL_eq (by rw [HNL.out, HNL'.out]) (fun j h1 h2 => HJ.out j h1 h2 (by rw [heq, ← HNL.out]; exact h1)))
      clear heq
      go_wp2
      go_loopw [6] (fun y wr => ∃ i : Nat, y = .int .i64 (i : Int) ∧ i ≤ nm ∧ Hid (∀ j (hj : j < m.length) (hj' : j < m'.length), j < i → m[j].key = m'[j].key ∧ m[j].pv = m'[j].pv) ∧ Hid (Below WX.heap.size WX wr)) (fun y _ => nm - (intOf y).toNat)
      case atStart => exact ⟨0, rfl, Nat.zero_le _, Lib.hid (fun j _ _ h => by omega), HW⟩
      case round =>
        clear HW HWB HWW HKR HKS HJ
        obtain ⟨i, rfl, hi, HJ, HW⟩ := hrel
        have HWB : Hid (Below w0.heap.size w0 wr) := Lib.hid (HB0.out.trans ((HBX.out.trans (HW.out.mono HBX.out.size)).mono HB0.out.size))
        have HWW : Hid (Below w.heap.size w wr) := Lib.hid (HBX.out.trans (HW.out.mono HBX.out.size))
        have HKR := Lib.hid (HK1.out.below HW.out HK1.out.lt)
        have HKS := Lib.hid (HK2.out.below HW.out HK2.out.lt)
        have b4 := HKR.out.cell 4
        simp only [List.getElem?_toArray, List.getElem?_cons_zero, List.getElem?_cons_succ] at b4
        rcases (by omega : i < nm ∨ i = nm) with hlt | heq
        · have q0 : decide ((i : Int) < (nm : Int)) = true := by rw [decide_eq_true_iff]; omega
          have q0' : decide (i < nm) = true := by rw [decide_eq_true_iff]; omega
          have hil : i < m.length := by rw [HNM.out]; exact hlt
          have hil' : i < m'.length := by rw [HNM'.out]; exact hlt
          obtain ⟨b, o, hA0, hbl, hc0⟩ := (HV.out.bel HWW.out).ma (i := i) hil
          have hA : mA = some ⟨b, o, none⟩ := hA0
          have hc : ∀ j, j < 6 → wr.cell? ⟨b, o + i * 6 + j, none⟩ = m[i].pcs[j]? := hc0
          obtain ⟨b', o', hA1, hbl', hc1⟩ := (HV'.out.bel HWW.out).ma (i := i) hil'
          have hA' : mA' = some ⟨b', o', none⟩ := hA1
          have hc' : ∀ j, j < 6 → wr.cell? ⟨b', o' + i * 6 + j, none⟩ = m'[i].pcs[j]? := hc1
          clear hA0 hc0 hA1 hc1
          subst hA
          subst hA'
          obtain ⟨x, hx⟩ : ∃ x, x = m[i] := ⟨_, rfl⟩
          obtain ⟨y, hy⟩ : ∃ y, y = m'[i] := ⟨_, rfl⟩
          have hxm : x ∈ m := by rw [hx]; exact List.getElem_mem hil
          have hym : y ∈ m' := by rw [hy]; exact List.getElem_mem hil'
          rw [← hx] at hc
          rw [← hy] at hc'
          have HSV : Hid (∀ V, Below wr.heap.size wr V → V.cell? ⟨w.heap.size, 4, none⟩ = some (.slice (some ⟨b, o, none⟩) nm mc) ∧ V.cell? ⟨w.heap.size + 1, 4, none⟩ = some (.slice (some ⟨b', o', none⟩) nm mc') ∧ (V.cell? ⟨b, o + i * 6, none⟩ = some (.string x.key) ∧ V.cell? ⟨b, o + i * 6 + 1, none⟩ = some (.int .i64 x.k) ∧ V.cell? ⟨b, o + i * 6 + 1 + 1, none⟩ = some (.int .i64 x.n) ∧ V.cell? ⟨b, o + i * 6 + 1 + 2, none⟩ = some (.string x.s) ∧ V.cell? ⟨b, o + i * 6 + 1 + 3, none⟩ = some (.slice x.lA x.l.length x.lc) ∧ V.cell? ⟨b, o + i * 6 + 1 + 4, none⟩ = some (.slice x.mA x.m.length x.mc)) ∧ (V.cell? ⟨b', o' + i * 6, none⟩ = some (.string y.key) ∧ V.cell? ⟨b', o' + i * 6 + 1, none⟩ = some (.int .i64 y.k) ∧ V.cell? ⟨b', o' + i * 6 + 1 + 1, none⟩ = some (.int .i64 y.n) ∧ V.cell? ⟨b', o' + i * 6 + 1 + 2, none⟩ = some (.string y.s) ∧ V.cell? ⟨b', o' + i * 6 + 1 + 3, none⟩ = some (.slice y.lA y.l.length y.lc) ∧ V.cell? ⟨b', o' + i * 6 + 1 + 4, none⟩ = some (.slice y.mA y.m.length y.mc))) := Lib.hid (fun V hV => by
            have hk3 := (HKR.out.below hV HKR.out.lt).cell 4
            have hk4 := (HKS.out.below hV HKS.out.lt).cell 4
            simp only [List.getElem?_toArray, List.getElem?_cons_zero, List.getElem?_cons_succ] at hk3 hk4
            have h9 : ∀ j, V.cell? ⟨b, j, none⟩ = wr.cell? ⟨b, j, none⟩ := fun j => hV.cell (p := ⟨b, j, none⟩) hbl
            have h8 : ∀ j, V.cell? ⟨b', j, none⟩ = wr.cell? ⟨b', j, none⟩ := fun j => hV.cell (p := ⟨b', j, none⟩) hbl'
            simp only [h9, h8]
            exact ⟨hk3, hk4, ⟨hc 0 (by omega), hc 1 (by omega), hc 2 (by omega), hc 3 (by omega), hc 4 (by omega), hc 5 (by omega)⟩, ⟨hc' 0 (by omega), hc' 1 (by omega), hc' 2 (by omega), hc' 3 (by omega), hc' 4 (by omega), hc' 5 (by omega)⟩⟩)
          have hcall := fun V (hV : Below wr.heap.size wr V) => HI2.out x hxm y V (HWB.out.trans (hV.mono HWB.out.size)) (HC'.out.2 y hym)
          unfold ExP MV.val at hcall
          obtain ⟨q, hq⟩ : ∃ q, q = decide (x.pv = y.pv) := ⟨_, rfl⟩
          rw [← hq] at hcall
          have HCC := Lib.hid hcall
          have HQ := Lib.hid hq
          have HXX := Lib.hid (And.intro hx hy)
          have HIL := Lib.hid (And.intro hil hil')
          have hii : (i : Int) < (nm : Int) := by omega
          have hi0 : (0 : Int) ≤ (i : Int) := by omega
          have hky := nm_beq x.key y.key
          clear hc hc' hxm hym hcall hx hy hbl hbl' hq
          by_cases hke : x.key = y.key
          rotate_left
          · rw [decide_eq_false hke] at hky
            have HKE := Lib.hid hke
            clear hke
            go_wp2
            refine wp_region_held_drew (S := fun V => Below wr.heap.size wr V) (by kernel_rfl) ((Below.refl _ _).drew) (fun hS1 => ?_)
            refine wpAnyH_take (i := 0) (oi := ⟨some 70, _, _, _, _, _⟩) (v := .pointer (some ⟨w.heap.size, 4, none⟩)) rfl (by kernel_rfl) (by kernel_rfl) (by kernel_rfl) (fun _ _ _ h => h) (.inl ⟨by kernel_rfl, fun V hS => by go_simp⟩) hS1 ?_
            simp only [Act.put, List.setIfInBounds_toArray, List.set_cons_zero, List.set_cons_succ]
            refine wpAnyH_take (i := 1) (oi := ⟨some 71, _, _, _, _, _⟩) (v := .slice (some ⟨b, o, none⟩) nm mc) rfl (by kernel_rfl) (by kernel_rfl) (by kernel_rfl) (fun _ _ _ h => h) (.inl ⟨by kernel_rfl, fun V hS => by obtain ⟨h0, h1, ⟨h7, h2, h3, h4, h5, h6⟩, ⟨k7, k2, k3, k4, k5, k6⟩⟩ := HSV.out V hS; go_simp⟩) hS1 ?_
            simp only [Act.put, List.setIfInBounds_toArray, List.set_cons_zero, List.set_cons_succ]
            refine wpAnyH_take (i := 2) (oi := ⟨some 72, _, _, _, _, _⟩) (v := .int .i64 (i : Int)) rfl (by kernel_rfl) (by kernel_rfl) (by kernel_rfl) (fun _ _ _ h => h) (.inl ⟨by kernel_rfl, fun V hS => by go_simp⟩) hS1 ?_
            simp only [Act.put, List.setIfInBounds_toArray, List.set_cons_zero, List.set_cons_succ]
            refine wpAnyH_take (i := 3) (oi := ⟨some 73, _, _, _, _, _⟩) (v := .pointer (some ⟨b, o + i * 6, none⟩)) rfl (by kernel_rfl) (by kernel_rfl) (by kernel_rfl) (fun _ _ _ h => h) (.inl ⟨by kernel_rfl, fun V hS => by go_simp⟩) hS1 ?_
            simp only [Act.put, List.setIfInBounds_toArray, List.set_cons_zero, List.set_cons_succ]
            refine wpAnyH_take (i := 4) (oi := ⟨some 74, _, _, _, _, _⟩) (v := .pointer (some ⟨b, o + i * 6, none⟩)) rfl (by kernel_rfl) (by kernel_rfl) (by kernel_rfl) (fun _ _ _ h => h) (.inl ⟨by kernel_rfl, fun V hS => by go_simp⟩) hS1 ?_
            simp only [Act.put, List.setIfInBounds_toArray, List.set_cons_zero, List.set_cons_succ]
            refine wpAnyH_take (i := 5) (oi := ⟨some 75, _, _, _, _, _⟩) (v := .string x.key) rfl (by kernel_rfl) (by kernel_rfl) (by kernel_rfl) (fun _ _ _ h => h) (.inl ⟨by kernel_rfl, fun V hS => by obtain ⟨h0, h1, ⟨h7, h2, h3, h4, h5, h6⟩, ⟨k7, k2, k3, k4, k5, k6⟩⟩ := HSV.out V hS; go_simp⟩) hS1 ?_
            simp only [Act.put, List.setIfInBounds_toArray, List.set_cons_zero, List.set_cons_succ]
            refine wpAnyH_take (i := 6) (oi := ⟨some 76, _, _, _, _, _⟩) (v := .pointer (some ⟨w.heap.size + 1, 4, none⟩)) rfl (by kernel_rfl) (by kernel_rfl) (by kernel_rfl) (fun _ _ _ h => h) (.inl ⟨by kernel_rfl, fun V hS => by go_simp⟩) hS1 ?_
            simp only [Act.put, List.setIfInBounds_toArray, List.set_cons_zero, List.set_cons_succ]
            refine wpAnyH_take (i := 7) (oi := ⟨some 77, _, _, _, _, _⟩) (v := (.slice (some ⟨b', o', none⟩) nm mc')) rfl (by kernel_rfl) (by kernel_rfl) (by kernel_rfl) (fun _ _ _ h => h) (.inl ⟨by kernel_rfl, fun V hS => by obtain ⟨h0, h1, ⟨h7, h2, h3, h4, h5, h6⟩, ⟨k7, k2, k3, k4, k5, k6⟩⟩ := HSV.out V hS; go_simp⟩) hS1 ?_
            simp only [Act.put, List.setIfInBounds_toArray, List.set_cons_zero, List.set_cons_succ]
            refine wpAnyH_take (i := 8) (oi := ⟨some 78, _, _, _, _, _⟩) (v := .int .i64 (i : Int)) rfl (by kernel_rfl) (by kernel_rfl) (by kernel_rfl) (fun _ _ _ h => h) (.inl ⟨by kernel_rfl, fun V hS => by go_simp⟩) hS1 ?_
            simp only [Act.put, List.setIfInBounds_toArray, List.set_cons_zero, List.set_cons_succ]
            refine wpAnyH_take (i := 9) (oi := ⟨some 79, _, _, _, _, _⟩) (v := (.pointer (some ⟨b', o' + i * 6, none⟩))) rfl (by kernel_rfl) (by kernel_rfl) (by kernel_rfl) (fun _ _ _ h => h) (.inl ⟨by kernel_rfl, fun V hS => by go_simp⟩) hS1 ?_
            simp only [Act.put, List.setIfInBounds_toArray, List.set_cons_zero, List.set_cons_succ]
            refine wpAnyH_take (i := 10) (oi := ⟨some 80, _, _, _, _, _⟩) (v := (.pointer (some ⟨b', o' + i * 6, none⟩))) rfl (by kernel_rfl) (by kernel_rfl) (by kernel_rfl) (fun _ _ _ h => h) (.inl ⟨by kernel_rfl, fun V hS => by go_simp⟩) hS1 ?_
            simp only [Act.put, List.setIfInBounds_toArray, List.set_cons_zero, List.set_cons_succ]
            refine wpAnyH_take (i := 11) (oi := ⟨some 81, _, _, _, _, _⟩) (v := .string y.key) rfl (by kernel_rfl) (by kernel_rfl) (by kernel_rfl) (fun _ _ _ h => h) (.inl ⟨by kernel_rfl, fun V hS => by obtain ⟨h0, h1, ⟨h7, h2, h3, h4, h5, h6⟩, ⟨k7, k2, k3, k4, k5, k6⟩⟩ := HSV.out V hS; go_simp⟩) hS1 ?_
            simp only [Act.put, List.setIfInBounds_toArray, List.set_cons_zero, List.set_cons_succ]
            refine wpAnyH_take (i := 12) (oi := ⟨some 82, _, _, _, _, _⟩) (v := .bool true) rfl (by kernel_rfl) (by kernel_rfl) (by kernel_rfl) (fun _ _ _ h => h) (.inl ⟨by kernel_rfl, fun V hS => by go_simp⟩) hS1 ?_
            simp only [Act.put, List.setIfInBounds_toArray, List.set_cons_zero, List.set_cons_succ]
            refine wpAnyH_take (i := 13) (oi := ⟨some 83, _, _, _, _, _⟩) (v := .bool true) rfl (by kernel_rfl) (by kernel_rfl) (by kernel_rfl) (fun _ _ _ h => h) (.inl ⟨by kernel_rfl, fun V hS => by go_simp⟩) hS1 ?_
            simp only [Act.put, List.setIfInBounds_toArray, List.set_cons_zero, List.set_cons_succ]
            refine wpAnyH_take (i := 14) (oi := ⟨some 84, _, _, _, _, _⟩) (v := undef) rfl (by kernel_rfl) (by kernel_rfl) (by kernel_rfl) (fun _ _ _ h => h) (.inr ⟨by kernel_rfl, rfl⟩) hS1 ?_
            simp only [Act.put, List.setIfInBounds_toArray, List.set_cons_zero, List.set_cons_succ]
            refine wpAnyH_take (i := 15) (oi := ⟨some 85, _, _, _, _, _⟩) (v := undef) rfl (by kernel_rfl) (by kernel_rfl) (by kernel_rfl) (fun _ _ _ h => h) (.inr ⟨by kernel_rfl, rfl⟩) hS1 ?_
            simp only [Act.put, List.setIfInBounds_toArray, List.set_cons_zero, List.set_cons_succ]
            refine wpAnyH_take (i := 16) (oi := ⟨some 86, _, _, _, _, _⟩) (v := undef) rfl (by kernel_rfl) (by kernel_rfl) (by kernel_rfl) (fun _ _ _ h => h) (.inr ⟨by kernel_rfl, rfl⟩) hS1 ?_
            simp only [Act.put, List.setIfInBounds_toArray, List.set_cons_zero, List.set_cons_succ]
            refine wpAnyH_take (i := 17) (oi := ⟨some 87, _, _, _, _, _⟩) (v := undef) rfl (by kernel_rfl) (by kernel_rfl) (by kernel_rfl) (fun _ _ _ h => h) (.inr ⟨by kernel_rfl, rfl⟩) hS1 ?_
            simp only [Act.put, List.setIfInBounds_toArray, List.set_cons_zero, List.set_cons_succ]
            refine wpAnyH_take (i := 18) (oi := ⟨some 88, _, _, _, _, _⟩) (v := undef) rfl (by kernel_rfl) (by kernel_rfl) (by kernel_rfl) (fun _ _ _ h => h) (.inr ⟨by kernel_rfl, rfl⟩) hS1 ?_
            simp only [Act.put, List.setIfInBounds_toArray, List.set_cons_zero, List.set_cons_succ]
            refine wpAnyH_take (i := 19) (oi := ⟨some 89, _, _, _, _, _⟩) (v := undef) rfl (by kernel_rfl) (by kernel_rfl) (by kernel_rfl) (fun _ _ _ h => h) (.inr ⟨by kernel_rfl, rfl⟩) hS1 ?_
            simp only [Act.put, List.setIfInBounds_toArray, List.set_cons_zero, List.set_cons_succ]
            refine wpAnyH_take (i := 20) (oi := ⟨some 90, _, _, _, _, _⟩) (v := undef) rfl (by kernel_rfl) (by kernel_rfl) (by kernel_rfl) (fun _ _ _ h => h) (.inr ⟨by kernel_rfl, rfl⟩) hS1 ?_
            simp only [Act.put, List.setIfInBounds_toArray, List.set_cons_zero, List.set_cons_succ]
            refine wpAnyH_take (i := 21) (oi := ⟨some 91, _, _, _, _, _⟩) (v := undef) rfl (by kernel_rfl) (by kernel_rfl) (by kernel_rfl) (fun _ _ _ h => h) (.inr ⟨by kernel_rfl, rfl⟩) hS1 ?_
            simp only [Act.put, List.setIfInBounds_toArray, List.set_cons_zero, List.set_cons_succ]
            refine wpAnyH_take (i := 22) (oi := ⟨some 92, _, _, _, _, _⟩) (v := undef) rfl (by kernel_rfl) (by kernel_rfl) (by kernel_rfl) (fun _ _ _ h => h) (.inr ⟨by kernel_rfl, rfl⟩) hS1 ?_
            simp only [Act.put, List.setIfInBounds_toArray, List.set_cons_zero, List.set_cons_succ]
            refine wpAnyH_take (i := 23) (oi := ⟨some 93, _, _, _, _, _⟩) (v := undef) rfl (by kernel_rfl) (by kernel_rfl) (by kernel_rfl) (fun _ _ _ h => h) (.inr ⟨by kernel_rfl, rfl⟩) hS1 ?_
            simp only [Act.put, List.setIfInBounds_toArray, List.set_cons_zero, List.set_cons_succ]
            refine wpAnyH_take (i := 24) (oi := ⟨some 94, _, _, _, _, _⟩) (v := undef) rfl (by kernel_rfl) (by kernel_rfl) (by kernel_rfl) (fun _ _ _ h => h) (.inr ⟨by kernel_rfl, rfl⟩) hS1 ?_
            simp only [Act.put, List.setIfInBounds_toArray, List.set_cons_zero, List.set_cons_succ]
            refine wpAnyH_take (i := 25) (oi := ⟨some 95, _, _, _, _, _⟩) (v := undef) rfl (by kernel_rfl) (by kernel_rfl) (by kernel_rfl) (fun _ _ _ h => h) (.inr ⟨by kernel_rfl, rfl⟩) hS1 ?_
            simp only [Act.put, List.setIfInBounds_toArray, List.set_cons_zero, List.set_cons_succ]
            refine wpAnyH_take (i := 26) (oi := ⟨some 96, _, _, _, _, _⟩) (v := undef) rfl (by kernel_rfl) (by kernel_rfl) (by kernel_rfl) (fun _ _ _ h => h) (.inr ⟨by kernel_rfl, rfl⟩) hS1 ?_
            simp only [Act.put, List.setIfInBounds_toArray, List.set_cons_zero, List.set_cons_succ]
            refine wpAnyH_take (i := 27) (oi := ⟨some 97, _, _, _, _, _⟩) (v := undef) rfl (by kernel_rfl) (by kernel_rfl) (by kernel_rfl) (fun _ _ _ h => h) (.inr ⟨by kernel_rfl, rfl⟩) hS1 ?_
            simp only [Act.put, List.setIfInBounds_toArray, List.set_cons_zero, List.set_cons_succ]
            refine wpAnyH_take (i := 28) (oi := ⟨some 98, _, _, _, _, _⟩) (v := .bool true) rfl (by kernel_rfl) (by kernel_rfl) (by kernel_rfl) (fun _ _ _ h => h) (.inl ⟨by kernel_rfl, fun V hS => by go_simp⟩) hS1 ?_
            simp only [Act.put, List.setIfInBounds_toArray, List.set_cons_zero, List.set_cons_succ]
            refine wpAnyH_done (by kernel_rfl) ?_ _
            have HFF := Lib.hid hS1
            clear hS1
            have HR := Lib.hid (HENDF.out wr.drew (HWW.out.trans (HFF.out.mono HWW.out.size)) (fun e => key_ne i HIL.out.1 HIL.out.2 (by rw [← HXX.out.1, ← HXX.out.2]; exact HKE.out) e.2.2.2.2.1))
            go_wp2
            go_ret
            exact HR.out
          rw [decide_eq_true hke] at hky
          have HKE := Lib.hid hke
          clear hke
          go_wp2
          refine wp_region_held_drew (S := fun V => Below wr.heap.size wr V) (by kernel_rfl) ((Below.refl _ _).drew) (fun hS1 => ?_)
          refine wpAnyH_take (i := 0) (oi := ⟨some 70, _, _, _, _, _⟩) (v := .pointer (some ⟨w.heap.size, 4, none⟩)) rfl (by kernel_rfl) (by kernel_rfl) (by kernel_rfl) (fun _ _ _ h => h) (.inl ⟨by kernel_rfl, fun V hS => by go_simp⟩) hS1 ?_
          simp only [Act.put, List.setIfInBounds_toArray, List.set_cons_zero, List.set_cons_succ]
          refine wpAnyH_take (i := 1) (oi := ⟨some 71, _, _, _, _, _⟩) (v := .slice (some ⟨b, o, none⟩) nm mc) rfl (by kernel_rfl) (by kernel_rfl) (by kernel_rfl) (fun _ _ _ h => h) (.inl ⟨by kernel_rfl, fun V hS => by obtain ⟨h0, h1, ⟨h7, h2, h3, h4, h5, h6⟩, ⟨k7, k2, k3, k4, k5, k6⟩⟩ := HSV.out V hS; go_simp⟩) hS1 ?_
          simp only [Act.put, List.setIfInBounds_toArray, List.set_cons_zero, List.set_cons_succ]
          refine wpAnyH_take (i := 2) (oi := ⟨some 72, _, _, _, _, _⟩) (v := .int .i64 (i : Int)) rfl (by kernel_rfl) (by kernel_rfl) (by kernel_rfl) (fun _ _ _ h => h) (.inl ⟨by kernel_rfl, fun V hS => by go_simp⟩) hS1 ?_
          simp only [Act.put, List.setIfInBounds_toArray, List.set_cons_zero, List.set_cons_succ]
          refine wpAnyH_take (i := 3) (oi := ⟨some 73, _, _, _, _, _⟩) (v := .pointer (some ⟨b, o + i * 6, none⟩)) rfl (by kernel_rfl) (by kernel_rfl) (by kernel_rfl) (fun _ _ _ h => h) (.inl ⟨by kernel_rfl, fun V hS => by go_simp⟩) hS1 ?_
          simp only [Act.put, List.setIfInBounds_toArray, List.set_cons_zero, List.set_cons_succ]
          refine wpAnyH_take (i := 4) (oi := ⟨some 74, _, _, _, _, _⟩) (v := .pointer (some ⟨b, o + i * 6, none⟩)) rfl (by kernel_rfl) (by kernel_rfl) (by kernel_rfl) (fun _ _ _ h => h) (.inl ⟨by kernel_rfl, fun V hS => by go_simp⟩) hS1 ?_
          simp only [Act.put, List.setIfInBounds_toArray, List.set_cons_zero, List.set_cons_succ]
          refine wpAnyH_take (i := 5) (oi := ⟨some 75, _, _, _, _, _⟩) (v := .string x.key) rfl (by kernel_rfl) (by kernel_rfl) (by kernel_rfl) (fun _ _ _ h => h) (.inl ⟨by kernel_rfl, fun V hS => by obtain ⟨h0, h1, ⟨h7, h2, h3, h4, h5, h6⟩, ⟨k7, k2, k3, k4, k5, k6⟩⟩ := HSV.out V hS; go_simp⟩) hS1 ?_
          simp only [Act.put, List.setIfInBounds_toArray, List.set_cons_zero, List.set_cons_succ]
          refine wpAnyH_take (i := 6) (oi := ⟨some 76, _, _, _, _, _⟩) (v := .pointer (some ⟨w.heap.size + 1, 4, none⟩)) rfl (by kernel_rfl) (by kernel_rfl) (by kernel_rfl) (fun _ _ _ h => h) (.inl ⟨by kernel_rfl, fun V hS => by go_simp⟩) hS1 ?_
          simp only [Act.put, List.setIfInBounds_toArray, List.set_cons_zero, List.set_cons_succ]
          refine wpAnyH_take (i := 7) (oi := ⟨some 77, _, _, _, _, _⟩) (v := (.slice (some ⟨b', o', none⟩) nm mc')) rfl (by kernel_rfl) (by kernel_rfl) (by kernel_rfl) (fun _ _ _ h => h) (.inl ⟨by kernel_rfl, fun V hS => by obtain ⟨h0, h1, ⟨h7, h2, h3, h4, h5, h6⟩, ⟨k7, k2, k3, k4, k5, k6⟩⟩ := HSV.out V hS; go_simp⟩) hS1 ?_
          simp only [Act.put, List.setIfInBounds_toArray, List.set_cons_zero, List.set_cons_succ]
          refine wpAnyH_take (i := 8) (oi := ⟨some 78, _, _, _, _, _⟩) (v := .int .i64 (i : Int)) rfl (by kernel_rfl) (by kernel_rfl) (by kernel_rfl) (fun _ _ _ h => h) (.inl ⟨by kernel_rfl, fun V hS => by go_simp⟩) hS1 ?_
          simp only [Act.put, List.setIfInBounds_toArray, List.set_cons_zero, List.set_cons_succ]
          refine wpAnyH_take (i := 9) (oi := ⟨some 79, _, _, _, _, _⟩) (v := (.pointer (some ⟨b', o' + i * 6, none⟩))) rfl (by kernel_rfl) (by kernel_rfl) (by kernel_rfl) (fun _ _ _ h => h) (.inl ⟨by kernel_rfl, fun V hS => by go_simp⟩) hS1 ?_
          simp only [Act.put, List.setIfInBounds_toArray, List.set_cons_zero, List.set_cons_succ]
          refine wpAnyH_take (i := 10) (oi := ⟨some 80, _, _, _, _, _⟩) (v := (.pointer (some ⟨b', o' + i * 6, none⟩))) rfl (by kernel_rfl) (by kernel_rfl) (by kernel_rfl) (fun _ _ _ h => h) (.inl ⟨by kernel_rfl, fun V hS => by go_simp⟩) hS1 ?_
          simp only [Act.put, List.setIfInBounds_toArray, List.set_cons_zero, List.set_cons_succ]
          refine wpAnyH_take (i := 11) (oi := ⟨some 81, _, _, _, _, _⟩) (v := .string y.key) rfl (by kernel_rfl) (by kernel_rfl) (by kernel_rfl) (fun _ _ _ h => h) (.inl ⟨by kernel_rfl, fun V hS => by obtain ⟨h0, h1, ⟨h7, h2, h3, h4, h5, h6⟩, ⟨k7, k2, k3, k4, k5, k6⟩⟩ := HSV.out V hS; go_simp⟩) hS1 ?_
          simp only [Act.put, List.setIfInBounds_toArray, List.set_cons_zero, List.set_cons_succ]
          refine wpAnyH_take (i := 12) (oi := ⟨some 82, _, _, _, _, _⟩) (v := .bool false) rfl (by kernel_rfl) (by kernel_rfl) (by kernel_rfl) (fun _ _ _ h => h) (.inl ⟨by kernel_rfl, fun V hS => by go_simp⟩) hS1 ?_
          simp only [Act.put, List.setIfInBounds_toArray, List.set_cons_zero, List.set_cons_succ]
          refine wpAnyH_take (i := 13) (oi := ⟨some 83, _, _, _, _, _⟩) (v := .bool false) rfl (by kernel_rfl) (by kernel_rfl) (by kernel_rfl) (fun _ _ _ h => h) (.inl ⟨by kernel_rfl, fun V hS => by go_simp⟩) hS1 ?_
          simp only [Act.put, List.setIfInBounds_toArray, List.set_cons_zero, List.set_cons_succ]
          refine wpAnyH_take (i := 14) (oi := ⟨some 84, _, _, _, _, _⟩) (v := .pointer (some ⟨w.heap.size, 4, none⟩)) rfl (by kernel_rfl) (by kernel_rfl) (by kernel_rfl) (fun _ _ _ h => h) (.inl ⟨by kernel_rfl, fun V hS => by go_simp⟩) hS1 ?_
          simp only [Act.put, List.setIfInBounds_toArray, List.set_cons_zero, List.set_cons_succ]
          refine wpAnyH_take (i := 15) (oi := ⟨some 85, _, _, _, _, _⟩) (v := .slice (some ⟨b, o, none⟩) nm mc) rfl (by kernel_rfl) (by kernel_rfl) (by kernel_rfl) (fun _ _ _ h => h) (.inl ⟨by kernel_rfl, fun V hS => by obtain ⟨h0, h1, ⟨h7, h2, h3, h4, h5, h6⟩, ⟨k7, k2, k3, k4, k5, k6⟩⟩ := HSV.out V hS; go_simp⟩) hS1 ?_
          simp only [Act.put, List.setIfInBounds_toArray, List.set_cons_zero, List.set_cons_succ]
          refine wpAnyH_take (i := 16) (oi := ⟨some 86, _, _, _, _, _⟩) (v := .int .i64 (i : Int)) rfl (by kernel_rfl) (by kernel_rfl) (by kernel_rfl) (fun _ _ _ h => h) (.inl ⟨by kernel_rfl, fun V hS => by go_simp⟩) hS1 ?_
          simp only [Act.put, List.setIfInBounds_toArray, List.set_cons_zero, List.set_cons_succ]
          refine wpAnyH_take (i := 17) (oi := ⟨some 87, _, _, _, _, _⟩) (v := .pointer (some ⟨b, o + i * 6, none⟩)) rfl (by kernel_rfl) (by kernel_rfl) (by kernel_rfl) (fun _ _ _ h => h) (.inl ⟨by kernel_rfl, fun V hS => by go_simp⟩) hS1 ?_
          simp only [Act.put, List.setIfInBounds_toArray, List.set_cons_zero, List.set_cons_succ]
          refine wpAnyH_take (i := 18) (oi := ⟨some 88, _, _, _, _, _⟩) (v := .pointer (some ⟨b, o + i * 6 + 1, none⟩)) rfl (by kernel_rfl) (by kernel_rfl) (by kernel_rfl) (fun _ _ _ h => h) (.inl ⟨by kernel_rfl, fun V hS => by go_simp⟩) hS1 ?_
          simp only [Act.put, List.setIfInBounds_toArray, List.set_cons_zero, List.set_cons_succ]
          refine wpAnyH_take (i := 19) (oi := ⟨some 89, _, _, _, _, _⟩) (v := .agg #[.int .i64 x.k, .int .i64 x.n, .string x.s, .slice x.lA x.l.length x.lc, .slice x.mA x.m.length x.mc]) rfl (by kernel_rfl) (by kernel_rfl) (by kernel_rfl) (fun _ _ _ h => h) (.inl ⟨by kernel_rfl, fun V hS => by obtain ⟨h0, h1, ⟨h7, h2, h3, h4, h5, h6⟩, ⟨k7, k2, k3, k4, k5, k6⟩⟩ := HSV.out V hS; go_simp⟩) hS1 ?_
          simp only [Act.put, List.setIfInBounds_toArray, List.set_cons_zero, List.set_cons_succ]
          refine wpAnyH_take (i := 20) (oi := ⟨some 90, _, _, _, _, _⟩) (v := .pointer (some ⟨w.heap.size + 1, 4, none⟩)) rfl (by kernel_rfl) (by kernel_rfl) (by kernel_rfl) (fun _ _ _ h => h) (.inl ⟨by kernel_rfl, fun V hS => by go_simp⟩) hS1 ?_
          simp only [Act.put, List.setIfInBounds_toArray, List.set_cons_zero, List.set_cons_succ]
          refine wpAnyH_take (i := 21) (oi := ⟨some 91, _, _, _, _, _⟩) (v := (.slice (some ⟨b', o', none⟩) nm mc')) rfl (by kernel_rfl) (by kernel_rfl) (by kernel_rfl) (fun _ _ _ h => h) (.inl ⟨by kernel_rfl, fun V hS => by obtain ⟨h0, h1, ⟨h7, h2, h3, h4, h5, h6⟩, ⟨k7, k2, k3, k4, k5, k6⟩⟩ := HSV.out V hS; go_simp⟩) hS1 ?_
          simp only [Act.put, List.setIfInBounds_toArray, List.set_cons_zero, List.set_cons_succ]
          refine wpAnyH_take (i := 22) (oi := ⟨some 92, _, _, _, _, _⟩) (v := .int .i64 (i : Int)) rfl (by kernel_rfl) (by kernel_rfl) (by kernel_rfl) (fun _ _ _ h => h) (.inl ⟨by kernel_rfl, fun V hS => by go_simp⟩) hS1 ?_
          simp only [Act.put, List.setIfInBounds_toArray, List.set_cons_zero, List.set_cons_succ]
          refine wpAnyH_take (i := 23) (oi := ⟨some 93, _, _, _, _, _⟩) (v := (.pointer (some ⟨b', o' + i * 6, none⟩))) rfl (by kernel_rfl) (by kernel_rfl) (by kernel_rfl) (fun _ _ _ h => h) (.inl ⟨by kernel_rfl, fun V hS => by go_simp⟩) hS1 ?_
          simp only [Act.put, List.setIfInBounds_toArray, List.set_cons_zero, List.set_cons_succ]
          refine wpAnyH_take (i := 24) (oi := ⟨some 94, _, _, _, _, _⟩) (v := (.pointer (some ⟨b', o' + i * 6 + 1, none⟩))) rfl (by kernel_rfl) (by kernel_rfl) (by kernel_rfl) (fun _ _ _ h => h) (.inl ⟨by kernel_rfl, fun V hS => by go_simp⟩) hS1 ?_
          simp only [Act.put, List.setIfInBounds_toArray, List.set_cons_zero, List.set_cons_succ]
          refine wpAnyH_take (i := 25) (oi := ⟨some 95, _, _, _, _, _⟩) (v := .agg #[.int .i64 y.k, .int .i64 y.n, .string y.s, .slice y.lA y.l.length y.lc, .slice y.mA y.m.length y.mc]) rfl (by kernel_rfl) (by kernel_rfl) (by kernel_rfl) (fun _ _ _ h => h) (.inl ⟨by kernel_rfl, fun V hS => by obtain ⟨h0, h1, ⟨h7, h2, h3, h4, h5, h6⟩, ⟨k7, k2, k3, k4, k5, k6⟩⟩ := HSV.out V hS; go_simp⟩) hS1 ?_
          simp only [Act.put, List.setIfInBounds_toArray, List.set_cons_zero, List.set_cons_succ]
          refine wpAnyH_ready (rs := [26]) (by kernel_rfl) (by simp) ?_
          refine AllReadyH.cons rfl (fun K' hK => ?_) AllReadyH.nil
          go_simp
          refine (HCC.out _ hS1).mono ?_
          rintro e w2 ⟨rfl, hb2⟩
          go_simp
          refine hK.out _ _ ((hS1).trans (hb2.mono (hS1).size)) (fun hS2 => ?_)
          clear hK K' hS1
          refine wpAnyH_take (i := 27) (oi := ⟨some 97, _, _, _, _, _⟩) (v := (.bool (!q))) rfl (by kernel_rfl) (by kernel_rfl) (by kernel_rfl) (fun _ _ _ h => h) (.inl ⟨by kernel_rfl, fun V hS => by go_simp⟩) hS2 ?_
          simp only [Act.put, List.setIfInBounds_toArray, List.set_cons_zero, List.set_cons_succ]
          refine wpAnyH_take (i := 28) (oi := ⟨some 98, _, _, _, _, _⟩) (v := (.bool (!q))) rfl (by kernel_rfl) (by kernel_rfl) (by kernel_rfl) (fun _ _ _ h => h) (.inl ⟨by kernel_rfl, fun V hS => by go_simp⟩) hS2 ?_
          simp only [Act.put, List.setIfInBounds_toArray, List.set_cons_zero, List.set_cons_succ]
          refine wpAnyH_done (by kernel_rfl) ?_ _
          have HFF := Lib.hid hS2
          clear hS2
          cases q with
          | false =>
            have HR := Lib.hid (HENDF.out w2 (HWW.out.trans (HFF.out.mono HWW.out.size)) (fun e => pvL_ne i HIL.out.1 HIL.out.2 (by rw [← HXX.out.1, ← HXX.out.2]; exact of_decide_eq_false HQ.out.symm) e.2.2.2.2.2))
            go_wp2
            go_ret
            exact HR.out
          | true =>
            have HJ2 : Hid (∀ j (hj : j < m.length) (hj' : j < m'.length), j < i + 1 → m[j].key = m'[j].key ∧ m[j].pv = m'[j].pv) := Lib.hid (fun j hj hj' h => by
              rcases (by omega : j < i ∨ j = i) with h1 | h1
              · exact HJ.out j hj hj' h1
              · subst h1
                rw [← HXX.out.1, ← HXX.out.2]
                exact ⟨HKE.out, of_decide_eq_true HQ.out.symm⟩)
            have HW2 := Lib.hid (HW.out.trans (HFF.out.mono HW.out.size))
            go_wp2
            go_roundw
            case rel => exact ⟨i + 1, by go_num, by omega, HJ2, HW2⟩
            case measure => simp [intOf]; omega
        · have q0 : decide ((i : Int) < (nm : Int)) = false := by rw [decide_eq_false_iff_not]; omega
          have q0' : decide (i < nm) = false := by rw [decide_eq_false_iff_not]; omega
          have hlm : m.length = m'.length := by rw [HNM.out, HNM'.out]
          have HR := Lib.hid (HENDT.out wr HWW.out ⟨HKK.out, HNN.out, HSS.out, HLL.out, key_eq hlm (fun j h1 h2 => (HJ.out j h1 h2 (by rw [heq, ← HNM.out]; exact h1)).1), pvL_eq hlm (fun j h1 h2 => (HJ.out j h1 h2 (by rw [heq, ← HNM.out]; exact h1)).2)⟩)
          clear heq
          go_wp2
          go_ret
          exact HR.out
end Go.Proofs.YteofdpogjnojnaaGreatDoor
