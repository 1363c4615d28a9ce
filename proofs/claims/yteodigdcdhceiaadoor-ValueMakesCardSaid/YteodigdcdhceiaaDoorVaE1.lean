/-
  value.equal.
-/
import Derived.Test.YteodigdcdhceiaaDoorVaP2
namespace Go.Proofs.YteodigdcdhceiaaDoor
open Go.RowKit
attribute [local go_sem ↓] Go.wp_at_zero Go.wp_at_succ
set_option linter.unusedVariables false
set_option linter.unusedSimpArgs false

set_option maxRecDepth 100000 in
set_option maxHeartbeats 1000000 in
theorem eqL_any {w : World} {a b : MV} (ha : VAt w a) (hb : VAt w b) (he : ∀ x ∈ a.l, ∀ y ∈ b.l, ∀ V, Below w.heap.size w V → Calls Tryd.prog 29 #[x.val, y.val] V fun e w' => PF (RiP (decide (x.pv = y.pv)) V) e w') :
    Calls Tryd.prog 41 #[.slice a.lA a.l.length a.lc, .slice b.lA b.l.length b.lc, .func (.func 29) #[] #[]] w fun e w' => PF (RiP (decide (MV.pvL a.l = MV.pvL b.l)) w) e w' := by
  have eg : ∀ args w, (callFunc 29 args).run Tryd.prog w = .ok (.enter 29 args) w := enters_of Tryd.func29 (by kernel_rfl) rfl
  have HVA := Lib.hid ha
  have HVB := Lib.hid hb
  have HE := Lib.hid he
  have hcap := ha.caps
  have hcap' := hb.caps
  have HENDF : Hid (∀ w', Below w.heap.size w w' → ¬ (MV.pvL a.l = MV.pvL b.l) → PF (RiP (decide (MV.pvL a.l = MV.pvL b.l)) w) (.returned (.bool false)) w') := Lib.hid (fun w' h1 h2 => ⟨by rw [decide_eq_false h2], h1⟩)
  have HENDT : Hid (∀ w', Below w.heap.size w w' → (MV.pvL a.l = MV.pvL b.l) → PF (RiP (decide (MV.pvL a.l = MV.pvL b.l)) w) (.returned (.bool true)) w') := Lib.hid (fun w' h1 h2 => ⟨by rw [decide_eq_true h2], h1⟩)
  obtain ⟨nl, hnl⟩ : ∃ nl, nl = a.l.length := ⟨_, rfl⟩
  obtain ⟨nl', hnl'⟩ : ∃ nl, nl = b.l.length := ⟨_, rfl⟩
  obtain ⟨lA, hlA⟩ : ∃ lA, lA = a.lA := ⟨_, rfl⟩
  obtain ⟨lA', hlA'⟩ : ∃ lA, lA = b.lA := ⟨_, rfl⟩
  have bl1 : nl ≤ 9223372036854775807 := by unfold maxLen at hcap; omega
  have bl2 : nl' ≤ 9223372036854775807 := by unfold maxLen at hcap'; omega
  rw [← hnl, ← hnl', ← hlA, ← hlA']
  obtain ⟨lc, hlc⟩ : ∃ lc, lc = a.lc := ⟨_, rfl⟩
  obtain ⟨lc', hlc'⟩ : ∃ lc, lc = b.lc := ⟨_, rfl⟩
  rw [← hlc, ← hlc']
  have HNL : Hid (a.l.length = nl) := Lib.hid hnl.symm
  have HNL' : Hid (b.l.length = nl') := Lib.hid hnl'.symm
  have HLA : Hid (a.lA = lA) := Lib.hid hlA.symm
  have HLA' : Hid (b.lA = lA') := Lib.hid hlA'.symm
  clear ha hb he hcap hcap' hnl hnl' hlA hlA' hlc hlc'
  by_cases hln : nl = nl'
  rotate_left
  · have q5 : ((nl : Int) == (nl' : Int)) = false := by rw [beq_eq_false_iff_ne]; omega
    have q6 : ((nl : Int) != (nl' : Int)) = true := by rw [bne_iff_ne]; omega
    have HR := Lib.hid (HENDF.out _ (Below.refl _ _) (fun e => hln (by have := congrArg List.length (e); rw [pvL_map, pvL_map, List.length_map, List.length_map] at this; rw [← HNL.out, ← HNL'.out]; exact this)))
    clear hln
    go_enter Tryd.func41, Tryd.ntmps41
    go_wp2
    go_ret
    exact HR.out
  subst hln
  have q5 : ((nl : Int) == (nl : Int)) = true := beq_self_eq_true _
  have q6 : ((nl : Int) != (nl : Int)) = false := by simp
  go_enter Tryd.func41, Tryd.ntmps41
  go_wp2
  clear q5 q6
  go_loopw [7, 8, 9, 17] (fun x y z t wr => ∃ (i : Nat) (z1 z2 z3 : Value), x = z1 ∧ y = z2 ∧ z = z3 ∧ t = .int .i64 (i : Int) ∧ i ≤ nl ∧ Hid (∀ j (hj : j < a.l.length) (hj' : j < b.l.length), j < i → a.l[j].pv = b.l[j].pv) ∧ Hid (Below w.heap.size w wr)) (fun _ _ _ t _ => nl - (intOf t).toNat)
  case atStart => exact ⟨0, _, _, _, rfl, rfl, rfl, rfl, Nat.zero_le _, Lib.hid (fun j _ _ h => by omega), Lib.hid (Below.refl _ _)⟩
  case round =>
    obtain ⟨i, z1, z2, z3, rfl, rfl, rfl, rfl, hi, HJ, HW⟩ := hrel
    rcases (by omega : i < nl ∨ i = nl) with hlt | heq
    · have q0 : decide ((i : Int) < (nl : Int)) = true := by rw [decide_eq_true_iff]; omega
      have q0' : decide (i < nl) = true := by rw [decide_eq_true_iff]; omega
      have hil : i < a.l.length := by rw [HNL.out]; exact hlt
      have hil' : i < b.l.length := by rw [HNL'.out]; exact hlt
      obtain ⟨g, o, hA, hbl, hc⟩ := (HVA.out.bel HW.out).la (i := i) hil
      obtain ⟨g', o', hA', hbl', hc'⟩ := (HVB.out.bel HW.out).la (i := i) hil'
      rw [HLA.out] at hA
      rw [HLA'.out] at hA'
      subst hA
      subst hA'
      obtain ⟨x, hx⟩ : ∃ x, x = a.l[i] := ⟨_, rfl⟩
      obtain ⟨y, hy⟩ : ∃ y, y = b.l[i] := ⟨_, rfl⟩
      have hxm : x ∈ a.l := by rw [hx]; exact List.getElem_mem hil
      have hym : y ∈ b.l := by rw [hy]; exact List.getElem_mem hil'
      rw [← hx] at hc
      rw [← hy] at hc'
      have d0 : wr.cell? ⟨g, o + i * 5, none⟩ = some (.int .i64 x.k) := hc 0 (by omega)
      have d1 : wr.cell? ⟨g, o + i * 5 + 1, none⟩ = some (.int .i64 x.n) := hc 1 (by omega)
      have d2 : wr.cell? ⟨g, o + i * 5 + 2, none⟩ = some (.string x.s) := hc 2 (by omega)
      have d3 : wr.cell? ⟨g, o + i * 5 + 3, none⟩ = some (.slice x.lA x.l.length x.lc) := hc 3 (by omega)
      have d4 : wr.cell? ⟨g, o + i * 5 + 4, none⟩ = some (.slice x.mA x.m.length x.mc) := hc 4 (by omega)
      have e0 : (wr.alloc (.cells #[.int .i64 x.k, .int .i64 x.n, .string x.s, .slice x.lA x.l.length x.lc, .slice x.mA x.m.length x.mc] 25)).cell? ⟨g', o' + i * 5, none⟩ = some (.int .i64 y.k) := ((below_new wr (.cells #[.int .i64 x.k, .int .i64 x.n, .string x.s, .slice x.lA x.l.length x.lc, .slice x.mA x.m.length x.mc] 25)).cell (p := ⟨g', _, none⟩) hbl').trans <| hc' 0 (by omega)
      have e1 : (wr.alloc (.cells #[.int .i64 x.k, .int .i64 x.n, .string x.s, .slice x.lA x.l.length x.lc, .slice x.mA x.m.length x.mc] 25)).cell? ⟨g', o' + i * 5 + 1, none⟩ = some (.int .i64 y.n) := ((below_new wr (.cells #[.int .i64 x.k, .int .i64 x.n, .string x.s, .slice x.lA x.l.length x.lc, .slice x.mA x.m.length x.mc] 25)).cell (p := ⟨g', _, none⟩) hbl').trans <| hc' 1 (by omega)
      have e2 : (wr.alloc (.cells #[.int .i64 x.k, .int .i64 x.n, .string x.s, .slice x.lA x.l.length x.lc, .slice x.mA x.m.length x.mc] 25)).cell? ⟨g', o' + i * 5 + 2, none⟩ = some (.string y.s) := ((below_new wr (.cells #[.int .i64 x.k, .int .i64 x.n, .string x.s, .slice x.lA x.l.length x.lc, .slice x.mA x.m.length x.mc] 25)).cell (p := ⟨g', _, none⟩) hbl').trans <| hc' 2 (by omega)
      have e3 : (wr.alloc (.cells #[.int .i64 x.k, .int .i64 x.n, .string x.s, .slice x.lA x.l.length x.lc, .slice x.mA x.m.length x.mc] 25)).cell? ⟨g', o' + i * 5 + 3, none⟩ = some (.slice y.lA y.l.length y.lc) := ((below_new wr (.cells #[.int .i64 x.k, .int .i64 x.n, .string x.s, .slice x.lA x.l.length x.lc, .slice x.mA x.m.length x.mc] 25)).cell (p := ⟨g', _, none⟩) hbl').trans <| hc' 3 (by omega)
      have e4 : (wr.alloc (.cells #[.int .i64 x.k, .int .i64 x.n, .string x.s, .slice x.lA x.l.length x.lc, .slice x.mA x.m.length x.mc] 25)).cell? ⟨g', o' + i * 5 + 4, none⟩ = some (.slice y.mA y.m.length y.mc) := ((below_new wr (.cells #[.int .i64 x.k, .int .i64 x.n, .string x.s, .slice x.lA x.l.length x.lc, .slice x.mA x.m.length x.mc] 25)).cell (p := ⟨g', _, none⟩) hbl').trans <| hc' 4 (by omega)
      have hcall := HE.out x hxm y hym
      unfold MV.val at hcall
      obtain ⟨r, hr⟩ : ∃ r, r = decide (x.pv = y.pv) := ⟨_, rfl⟩
      rw [← hr] at hcall
      have HR := Lib.hid hr
      have HCL := Lib.hid hcall
      have HBX : Hid (Below w.heap.size w ((wr.alloc (.cells #[.int .i64 x.k, .int .i64 x.n, .string x.s, .slice x.lA x.l.length x.lc, .slice x.mA x.m.length x.mc] 25)).alloc (.cells #[.int .i64 y.k, .int .i64 y.n, .string y.s, .slice y.lA y.l.length y.lc, .slice y.mA y.m.length y.mc] 25))) := Lib.hid (HW.out.trans ((below_al _ (below_new _ _)).mono HW.out.size))
      have HX := Lib.hid hx
      have HY := Lib.hid hy
      have HIL := Lib.hid (And.intro hil hil')
      have hii : (i : Int) < (nl : Int) := by omega
      have hi0 : (0 : Int) ≤ (i : Int) := by omega
      clear hc hc' hx hy hxm hym hbl hbl' hr hcall
      go_wp2_with fail
      go_at_fn 29
      refine (HCL.out _ HBX.out).mono ?_
      rintro e w2 ⟨rfl, hb2⟩
      have HW2 : Hid (Below w.heap.size w w2) := Lib.hid (HBX.out.trans (hb2.mono HBX.out.size))
      clear hb2 d0 e0 d1 e1 d2 e2 d3 e3 d4 e4
      cases r with
      | false =>
        have HF := Lib.hid (HENDF.out w2 HW2.out (fun e => of_decide_eq_false HR.out.symm (by rw [HX.out, HY.out]; exact Classical.byContradiction (fun hh => pvL_ne i HIL.out.1 HIL.out.2 hh e))))
        go_wp2
        go_ret
        exact HF.out
      | true =>
        have HJ2 : Hid (∀ j (hj : j < a.l.length) (hj' : j < b.l.length), j < i + 1 → a.l[j].pv = b.l[j].pv) := Lib.hid (fun j hj hj' h => by
          rcases (by omega : j < i ∨ j = i) with h1 | h1
          · exact HJ.out j hj hj' h1
          · subst h1
            have := of_decide_eq_true HR.out.symm
            rw [HX.out, HY.out] at this
            exact this)
        go_wp2
        go_roundw
        case rel => exact ⟨i + 1, _, _, _, rfl, rfl, rfl, by go_num, by omega, HJ2, HW2⟩
        case measure => simp [intOf]; omega
    · have q0 : decide ((i : Int) < (nl : Int)) = false := by rw [decide_eq_false_iff_not]; omega
      have q0' : decide (i < nl) = false := by rw [decide_eq_false_iff_not]; omega
      have HF := Lib.hid (HENDT.out wr HW.out (pvL_eq (by rw [HNL.out, HNL'.out]) (fun j hj hj' => HJ.out j hj hj' (by rw [HNL.out] at hj; omega))))
      clear heq
      go_wp2
      go_ret
      exact HF.out
set_option maxRecDepth 100000 in
set_option maxHeartbeats 1000000 in
theorem eqM_any {w : World} {a b : MV} (ha : VAt w a) (hb : VAt w b) (he : ∀ x ∈ a.m, ∀ y ∈ b.m, ∀ V, Below w.heap.size w V → Calls Tryd.prog 40 #[x.pval, y.pval] V fun e w' => PF (RiP (decide (x.key = y.key ∧ x.pv = y.pv)) V) e w') :
    Calls Tryd.prog 42 #[.slice a.mA a.m.length a.mc, .slice b.mA b.m.length b.mc, .func (.func 40) #[] #[]] w fun e w' => PF (RiP (decide (a.m.map MV.key = b.m.map MV.key ∧ MV.pvL a.m = MV.pvL b.m)) w) e w' := by
  have eg : ∀ args w, (callFunc 40 args).run Tryd.prog w = .ok (.enter 40 args) w := enters_of Tryd.func40 (by kernel_rfl) rfl
  have HVA := Lib.hid ha
  have HVB := Lib.hid hb
  have HE := Lib.hid he
  have hcap := ha.caps
  have hcap' := hb.caps
  have HENDF : Hid (∀ w', Below w.heap.size w w' → ¬ (a.m.map MV.key = b.m.map MV.key ∧ MV.pvL a.m = MV.pvL b.m) → PF (RiP (decide (a.m.map MV.key = b.m.map MV.key ∧ MV.pvL a.m = MV.pvL b.m)) w) (.returned (.bool false)) w') := Lib.hid (fun w' h1 h2 => ⟨by rw [decide_eq_false h2], h1⟩)
  have HENDT : Hid (∀ w', Below w.heap.size w w' → (a.m.map MV.key = b.m.map MV.key ∧ MV.pvL a.m = MV.pvL b.m) → PF (RiP (decide (a.m.map MV.key = b.m.map MV.key ∧ MV.pvL a.m = MV.pvL b.m)) w) (.returned (.bool true)) w') := Lib.hid (fun w' h1 h2 => ⟨by rw [decide_eq_true h2], h1⟩)
  obtain ⟨nl, hnl⟩ : ∃ nl, nl = a.m.length := ⟨_, rfl⟩
  obtain ⟨nl', hnl'⟩ : ∃ nl, nl = b.m.length := ⟨_, rfl⟩
  obtain ⟨lA, hlA⟩ : ∃ lA, lA = a.mA := ⟨_, rfl⟩
  obtain ⟨lA', hlA'⟩ : ∃ lA, lA = b.mA := ⟨_, rfl⟩
  have bl1 : nl ≤ 9223372036854775807 := by unfold maxLen at hcap; omega
  have bl2 : nl' ≤ 9223372036854775807 := by unfold maxLen at hcap'; omega
  rw [← hnl, ← hnl', ← hlA, ← hlA']
  obtain ⟨lc, hlc⟩ : ∃ lc, lc = a.mc := ⟨_, rfl⟩
  obtain ⟨lc', hlc'⟩ : ∃ lc, lc = b.mc := ⟨_, rfl⟩
  rw [← hlc, ← hlc']
  have HNL : Hid (a.m.length = nl) := Lib.hid hnl.symm
  have HNL' : Hid (b.m.length = nl') := Lib.hid hnl'.symm
  have HLA : Hid (a.mA = lA) := Lib.hid hlA.symm
  have HLA' : Hid (b.mA = lA') := Lib.hid hlA'.symm
  clear ha hb he hcap hcap' hnl hnl' hlA hlA' hlc hlc'
  by_cases hln : nl = nl'
  rotate_left
  · have q5 : ((nl : Int) == (nl' : Int)) = false := by rw [beq_eq_false_iff_ne]; omega
    have q6 : ((nl : Int) != (nl' : Int)) = true := by rw [bne_iff_ne]; omega
    have HR := Lib.hid (HENDF.out _ (Below.refl _ _) (fun e => hln (by have := congrArg List.length (e.2); rw [pvL_map, pvL_map, List.length_map, List.length_map] at this; rw [← HNL.out, ← HNL'.out]; exact this)))
    clear hln
    go_enter Tryd.func42, Tryd.ntmps42
    go_wp2
    go_ret
    exact HR.out
  subst hln
  have q5 : ((nl : Int) == (nl : Int)) = true := beq_self_eq_true _
  have q6 : ((nl : Int) != (nl : Int)) = false := by simp
  go_enter Tryd.func42, Tryd.ntmps42
  go_wp2
  clear q5 q6
  go_loopw [7, 8, 9, 17] (fun x y z t wr => ∃ (i : Nat) (z1 z2 z3 : Value), x = z1 ∧ y = z2 ∧ z = z3 ∧ t = .int .i64 (i : Int) ∧ i ≤ nl ∧ Hid (∀ j (hj : j < a.m.length) (hj' : j < b.m.length), j < i → a.m[j].key = b.m[j].key ∧ a.m[j].pv = b.m[j].pv) ∧ Hid (Below w.heap.size w wr)) (fun _ _ _ t _ => nl - (intOf t).toNat)
  case atStart => exact ⟨0, _, _, _, rfl, rfl, rfl, rfl, Nat.zero_le _, Lib.hid (fun j _ _ h => by omega), Lib.hid (Below.refl _ _)⟩
  case round =>
    obtain ⟨i, z1, z2, z3, rfl, rfl, rfl, rfl, hi, HJ, HW⟩ := hrel
    rcases (by omega : i < nl ∨ i = nl) with hlt | heq
    · have q0 : decide ((i : Int) < (nl : Int)) = true := by rw [decide_eq_true_iff]; omega
      have q0' : decide (i < nl) = true := by rw [decide_eq_true_iff]; omega
      have hil : i < a.m.length := by rw [HNL.out]; exact hlt
      have hil' : i < b.m.length := by rw [HNL'.out]; exact hlt
      obtain ⟨g, o, hA, hbl, hc⟩ := (HVA.out.bel HW.out).ma (i := i) hil
      obtain ⟨g', o', hA', hbl', hc'⟩ := (HVB.out.bel HW.out).ma (i := i) hil'
      rw [HLA.out] at hA
      rw [HLA'.out] at hA'
      subst hA
      subst hA'
      obtain ⟨x, hx⟩ : ∃ x, x = a.m[i] := ⟨_, rfl⟩
      obtain ⟨y, hy⟩ : ∃ y, y = b.m[i] := ⟨_, rfl⟩
      have hxm : x ∈ a.m := by rw [hx]; exact List.getElem_mem hil
      have hym : y ∈ b.m := by rw [hy]; exact List.getElem_mem hil'
      rw [← hx] at hc
      rw [← hy] at hc'
      have d0 : wr.cell? ⟨g, o + i * 6, none⟩ = some (.string x.key) := hc 0 (by omega)
      have d1 : wr.cell? ⟨g, o + i * 6 + 1, none⟩ = some (.int .i64 x.k) := hc 1 (by omega)
      have d2 : wr.cell? ⟨g, o + i * 6 + 2, none⟩ = some (.int .i64 x.n) := hc 2 (by omega)
      have d3 : wr.cell? ⟨g, o + i * 6 + 3, none⟩ = some (.string x.s) := hc 3 (by omega)
      have d4 : wr.cell? ⟨g, o + i * 6 + 4, none⟩ = some (.slice x.lA x.l.length x.lc) := hc 4 (by omega)
      have d5 : wr.cell? ⟨g, o + i * 6 + 5, none⟩ = some (.slice x.mA x.m.length x.mc) := hc 5 (by omega)
      have e0 : (wr.alloc (.cells #[.string x.key, .int .i64 x.k, .int .i64 x.n, .string x.s, .slice x.lA x.l.length x.lc, .slice x.mA x.m.length x.mc] 33)).cell? ⟨g', o' + i * 6, none⟩ = some (.string y.key) := ((below_new wr (.cells #[.string x.key, .int .i64 x.k, .int .i64 x.n, .string x.s, .slice x.lA x.l.length x.lc, .slice x.mA x.m.length x.mc] 33)).cell (p := ⟨g', _, none⟩) hbl').trans <| hc' 0 (by omega)
      have e1 : (wr.alloc (.cells #[.string x.key, .int .i64 x.k, .int .i64 x.n, .string x.s, .slice x.lA x.l.length x.lc, .slice x.mA x.m.length x.mc] 33)).cell? ⟨g', o' + i * 6 + 1, none⟩ = some (.int .i64 y.k) := ((below_new wr (.cells #[.string x.key, .int .i64 x.k, .int .i64 x.n, .string x.s, .slice x.lA x.l.length x.lc, .slice x.mA x.m.length x.mc] 33)).cell (p := ⟨g', _, none⟩) hbl').trans <| hc' 1 (by omega)
      have e2 : (wr.alloc (.cells #[.string x.key, .int .i64 x.k, .int .i64 x.n, .string x.s, .slice x.lA x.l.length x.lc, .slice x.mA x.m.length x.mc] 33)).cell? ⟨g', o' + i * 6 + 2, none⟩ = some (.int .i64 y.n) := ((below_new wr (.cells #[.string x.key, .int .i64 x.k, .int .i64 x.n, .string x.s, .slice x.lA x.l.length x.lc, .slice x.mA x.m.length x.mc] 33)).cell (p := ⟨g', _, none⟩) hbl').trans <| hc' 2 (by omega)
      have e3 : (wr.alloc (.cells #[.string x.key, .int .i64 x.k, .int .i64 x.n, .string x.s, .slice x.lA x.l.length x.lc, .slice x.mA x.m.length x.mc] 33)).cell? ⟨g', o' + i * 6 + 3, none⟩ = some (.string y.s) := ((below_new wr (.cells #[.string x.key, .int .i64 x.k, .int .i64 x.n, .string x.s, .slice x.lA x.l.length x.lc, .slice x.mA x.m.length x.mc] 33)).cell (p := ⟨g', _, none⟩) hbl').trans <| hc' 3 (by omega)
      have e4 : (wr.alloc (.cells #[.string x.key, .int .i64 x.k, .int .i64 x.n, .string x.s, .slice x.lA x.l.length x.lc, .slice x.mA x.m.length x.mc] 33)).cell? ⟨g', o' + i * 6 + 4, none⟩ = some (.slice y.lA y.l.length y.lc) := ((below_new wr (.cells #[.string x.key, .int .i64 x.k, .int .i64 x.n, .string x.s, .slice x.lA x.l.length x.lc, .slice x.mA x.m.length x.mc] 33)).cell (p := ⟨g', _, none⟩) hbl').trans <| hc' 4 (by omega)
      have e5 : (wr.alloc (.cells #[.string x.key, .int .i64 x.k, .int .i64 x.n, .string x.s, .slice x.lA x.l.length x.lc, .slice x.mA x.m.length x.mc] 33)).cell? ⟨g', o' + i * 6 + 5, none⟩ = some (.slice y.mA y.m.length y.mc) := ((below_new wr (.cells #[.string x.key, .int .i64 x.k, .int .i64 x.n, .string x.s, .slice x.lA x.l.length x.lc, .slice x.mA x.m.length x.mc] 33)).cell (p := ⟨g', _, none⟩) hbl').trans <| hc' 5 (by omega)
      have hcall := HE.out x hxm y hym
      unfold MV.pval at hcall
      obtain ⟨r, hr⟩ : ∃ r, r = decide (x.key = y.key ∧ x.pv = y.pv) := ⟨_, rfl⟩
      rw [← hr] at hcall
      have HR := Lib.hid hr
      have HCL := Lib.hid hcall
      have HBX : Hid (Below w.heap.size w ((wr.alloc (.cells #[.string x.key, .int .i64 x.k, .int .i64 x.n, .string x.s, .slice x.lA x.l.length x.lc, .slice x.mA x.m.length x.mc] 33)).alloc (.cells #[.string y.key, .int .i64 y.k, .int .i64 y.n, .string y.s, .slice y.lA y.l.length y.lc, .slice y.mA y.m.length y.mc] 33))) := Lib.hid (HW.out.trans ((below_al _ (below_new _ _)).mono HW.out.size))
      have HX := Lib.hid hx
      have HY := Lib.hid hy
      have HIL := Lib.hid (And.intro hil hil')
      have hii : (i : Int) < (nl : Int) := by omega
      have hi0 : (0 : Int) ≤ (i : Int) := by omega
      clear hc hc' hx hy hxm hym hbl hbl' hr hcall
      go_wp2_with fail
      go_at_fn 40
      refine (HCL.out _ HBX.out).mono ?_
      rintro e w2 ⟨rfl, hb2⟩
      have HW2 : Hid (Below w.heap.size w w2) := Lib.hid (HBX.out.trans (hb2.mono HBX.out.size))
      clear hb2 d0 e0 d1 e1 d2 e2 d3 e3 d4 e4 d5 e5
      cases r with
      | false =>
        have HF := Lib.hid (HENDF.out w2 HW2.out (fun e => of_decide_eq_false HR.out.symm (by rw [HX.out, HY.out]; exact ⟨Classical.byContradiction (fun hh => key_ne i HIL.out.1 HIL.out.2 hh e.1), Classical.byContradiction (fun hh => pvL_ne i HIL.out.1 HIL.out.2 hh e.2)⟩)))
        go_wp2
        go_ret
        exact HF.out
      | true =>
        have HJ2 : Hid (∀ j (hj : j < a.m.length) (hj' : j < b.m.length), j < i + 1 → a.m[j].key = b.m[j].key ∧ a.m[j].pv = b.m[j].pv) := Lib.hid (fun j hj hj' h => by
          rcases (by omega : j < i ∨ j = i) with h1 | h1
          · exact HJ.out j hj hj' h1
          · subst h1
            have := of_decide_eq_true HR.out.symm
            rw [HX.out, HY.out] at this
            exact this)
        go_wp2
        go_roundw
        case rel => exact ⟨i + 1, _, _, _, rfl, rfl, rfl, by go_num, by omega, HJ2, HW2⟩
        case measure => simp [intOf]; omega
    · have q0 : decide ((i : Int) < (nl : Int)) = false := by rw [decide_eq_false_iff_not]; omega
      have q0' : decide (i < nl) = false := by rw [decide_eq_false_iff_not]; omega
      have HF := Lib.hid (HENDT.out wr HW.out (⟨key_eq (by rw [HNL.out, HNL'.out]) (fun j hj hj' => (HJ.out j hj hj' (by rw [HNL.out] at hj; omega)).1), pvL_eq (by rw [HNL.out, HNL'.out]) (fun j hj hj' => (HJ.out j hj hj' (by rw [HNL.out] at hj; omega)).2)⟩))
      clear heq
      go_wp2
      go_ret
      exact HF.out
set_option maxRecDepth 100000 in
set_option maxHeartbeats 1000000 in
theorem eqp_any {w : World} {x y : MV} (he : ∀ V, Below w.heap.size w V → Calls Tryd.prog 29 #[x.val, y.val] V fun e w' => PF (RiP (decide (x.pv = y.pv)) V) e w') :
    Calls Tryd.prog 40 #[x.pval, y.pval] w fun e w' => PF (RiP (decide (x.key = y.key ∧ x.pv = y.pv)) w) e w' := by
  have hs := nm_beq x.key y.key
  have HBX : Hid (Below w.heap.size w ((w.alloc (.cells #[.string x.key, .int .i64 x.k, .int .i64 x.n, .string x.s, .slice x.lA x.l.length x.lc, .slice x.mA x.m.length x.mc] 33)).alloc (.cells #[.string y.key, .int .i64 y.k, .int .i64 y.n, .string y.s, .slice y.lA y.l.length y.lc, .slice y.mA y.m.length y.mc] 33))) := Lib.hid (below_al _ (below_new _ _))
  unfold MV.val at he
  unfold MV.pval
  by_cases hk : x.key = y.key
  rotate_left
  · rw [decide_eq_false (fun e => hk e.1)]
    rw [decide_eq_false hk] at hs
    clear hk he
    go_enter Tryd.func40, Tryd.ntmps40
    go_wp2
    go_ret
    exact ⟨rfl, HBX.out⟩
  rw [show decide (x.key = y.key ∧ x.pv = y.pv) = decide (x.pv = y.pv) from by simp [hk]]
  rw [decide_eq_true hk] at hs
  obtain ⟨r, hr⟩ : ∃ r, r = decide (x.pv = y.pv) := ⟨_, rfl⟩
  rw [← hr] at he ⊢
  have HCL := Lib.hid he
  clear hk he hr
  go_enter Tryd.func40, Tryd.ntmps40
  go_wp2_with fail
  refine (HCL.out _ HBX.out).mono ?_
  rintro e w2 ⟨rfl, hb2⟩
  have HW2 : Hid (Below w.heap.size w w2) := Lib.hid (HBX.out.trans (hb2.mono HBX.out.size))
  clear hb2
  cases r
  all_goals
    go_wp2
    go_ret
    exact ⟨rfl, HW2.out⟩
set_option maxRecDepth 100000 in
set_option maxHeartbeats 1000000 in
theorem equal_one {w : World} {a b : MV} (ha : VAt w a) (hb : VAt w b) (r1 r2 : Bool) (hr1 : r1 = true ↔ MV.pvL a.l = MV.pvL b.l) (hr2 : r2 = true ↔ (a.m.map MV.key = b.m.map MV.key ∧ MV.pvL a.m = MV.pvL b.m))
    (hL : ∀ V, Below w.heap.size w V → Calls Tryd.prog 41 #[.slice a.lA a.l.length a.lc, .slice b.lA b.l.length b.lc, .func (.func 29) #[] #[]] V fun e w' => PF (RiP r1 V) e w')
    (hM : ∀ V, Below w.heap.size w V → Calls Tryd.prog 42 #[.slice a.mA a.m.length a.mc, .slice b.mA b.m.length b.mc, .func (.func 40) #[] #[]] V fun e w' => PF (RiP r2 V) e w') :
    Calls Tryd.prog 29 #[a.val, b.val] w fun e w' => PF (RiP (decide (a.pv = b.pv)) w) e w' := by
  obtain ⟨key, k, n, s, lA, lc, l, mA, mc, m⟩ := a
  obtain ⟨key', k', n', s', lA', lc', l', mA', mc', m'⟩ := b
  unfold MV.val
  simp only [MV.k, MV.n, MV.s, MV.lA, MV.lc, MV.l, MV.mA, MV.mc, MV.m] at hr1 hr2 hL hM ⊢
  have hiff : ((MV.mk key k n s lA lc l mA mc m).pv = (MV.mk key' k' n' s' lA' lc' l' mA' mc' m').pv) ↔ (k = k' ∧ n = n' ∧ s = s' ∧ MV.pvL l = MV.pvL l' ∧ m.map MV.key = m'.map MV.key ∧ MV.pvL m = MV.pvL m') := by
    rw [MV.pv, MV.pv]
    constructor
    · intro e
      injection e with e1 e2 e3 e4 e5 e6
      exact ⟨e1, e2, e3, e4, e5, e6⟩
    · rintro ⟨e1, e2, e3, e4, e5, e6⟩
      rw [e1, e2, e3, e4, e5, e6]
  obtain ⟨R, hR⟩ : ∃ R, R = decide ((MV.mk key k n s lA lc l mA mc m).pv = (MV.mk key' k' n' s' lA' lc' l' mA' mc' m').pv) := ⟨_, rfl⟩
  rw [← hR]
  have HR : Hid (R = decide (k = k' ∧ n = n' ∧ s = s' ∧ MV.pvL l = MV.pvL l' ∧ m.map MV.key = m'.map MV.key ∧ MV.pvL m = MV.pvL m')) := Lib.hid (by rw [hR, Bool.eq_iff_iff, decide_eq_true_iff, decide_eq_true_iff]; exact hiff)
  have HR1 := Lib.hid hr1
  have HR2 := Lib.hid hr2
  obtain ⟨nl, hnl⟩ : ∃ nl, nl = l.length := ⟨_, rfl⟩
  obtain ⟨nm, hnm⟩ : ∃ nm, nm = m.length := ⟨_, rfl⟩
  obtain ⟨nl', hnl'⟩ : ∃ nl, nl = l'.length := ⟨_, rfl⟩
  obtain ⟨nm', hnm'⟩ : ∃ nm, nm = m'.length := ⟨_, rfl⟩
  rw [← hnl, ← hnl', ← hnm, ← hnm']
  rw [← hnl, ← hnl'] at hL
  rw [← hnm, ← hnm'] at hM
  have HL := Lib.hid hL
  have HM := Lib.hid hM
  have hs := nm_beq s s'
  obtain ⟨WX, hWX⟩ : ∃ WX, WX = ((w.alloc (.cells #[.int .i64 k, .int .i64 n, .string s, .slice lA nl lc, .slice mA nm mc] 25)).alloc (.cells #[.int .i64 k', .int .i64 n', .string s', .slice lA' nl' lc', .slice mA' nm' mc'] 25)) := ⟨_, rfl⟩
  have HBX : Hid (Below w.heap.size w WX) := Lib.hid (by rw [hWX]; exact below_al _ (below_new _ _))
  have HK1 : Hid (Blk WX w.heap.size 25 #[.int .i64 k, .int .i64 n, .string s, .slice lA nl lc, .slice mA nm mc]) := Lib.hid (by rw [hWX]; exact (Blk.new _ _ _).alloc _)
  have HK2 : Hid (Blk WX (w.heap.size + 1) 25 #[.int .i64 k', .int .i64 n', .string s', .slice lA' nl' lc', .slice mA' nm' mc']) := Lib.hid (by
    rw [hWX]
    have h2 := Blk.new (w.alloc (.cells #[.int .i64 k, .int .i64 n, .string s, .slice lA nl lc, .slice mA nm mc] 25)) 25 #[.int .i64 k', .int .i64 n', .string s', .slice lA' nl' lc', .slice mA' nm' mc']
    simpa using h2)
  have HWX := Lib.hid hWX
  clear ha hb hL hM hiff hR hr1 hr2 hnl hnl' hnm hnm' hWX
  by_cases hk : k = k'
  rotate_left
  · have q1 : (k == k') = false := by rw [beq_eq_false_iff_ne]; exact hk
    have HF : Hid (R = false) := Lib.hid (by rw [HR.out]; exact decide_eq_false (fun e => hk e.1))
    clear hk
    go_enter Tryd.func29, Tryd.ntmps29
    go_wp2
    go_ret
    exact ⟨by rw [HF.out]; rfl, by rw [← HWX.out]; exact HBX.out⟩
  have q1 : (k == k') = true := by rw [hk]; exact beq_self_eq_true _
  have HKK := Lib.hid hk
  clear hk
  by_cases hn : n = n'
  rotate_left
  · have q3 : (n == n') = false := by rw [beq_eq_false_iff_ne]; exact hn
    have HF : Hid (R = false) := Lib.hid (by rw [HR.out]; exact decide_eq_false (fun e => hn e.2.1))
    clear hn
    go_enter Tryd.func29, Tryd.ntmps29
    go_wp2
    go_ret
    exact ⟨by rw [HF.out]; rfl, by rw [← HWX.out]; exact HBX.out⟩
  have q3 : (n == n') = true := by rw [hn]; exact beq_self_eq_true _
  have HNN := Lib.hid hn
  clear hn
  by_cases hss : s = s'
  rotate_left
  · rw [decide_eq_false hss] at hs
    have HF : Hid (R = false) := Lib.hid (by rw [HR.out]; exact decide_eq_false (fun e => hss e.2.2.1))
    clear hss
    go_enter Tryd.func29, Tryd.ntmps29
    go_wp2
    go_ret
    exact ⟨by rw [HF.out]; rfl, by rw [← HWX.out]; exact HBX.out⟩
  rw [decide_eq_true hss] at hs
  have HRR : Hid (R = (r1 && r2)) := Lib.hid (by
    rw [HR.out, Bool.eq_iff_iff, Bool.and_eq_true, decide_eq_true_iff, HR1.out, HR2.out]
    exact ⟨fun ⟨_, _, _, e4, e5⟩ => ⟨e4, e5⟩, fun ⟨e4, e5⟩ => ⟨HKK.out, HNN.out, hss, e4, e5⟩⟩)
  clear hss
  go_enter Tryd.func29, Tryd.ntmps29
  go_wp2_with fail
  rw [← HWX.out]
  refine (HL.out _ HBX.out).mono ?_
  rintro e w2 ⟨rfl, hb2⟩
  have HW2 : Hid (Below w.heap.size w w2) := Lib.hid (HBX.out.trans (hb2.mono HBX.out.size))
  cases r1 with
  | false =>
    clear hb2
    go_wp2
    go_ret
    exact ⟨by rw [HRR.out]; rfl, HW2.out⟩
  | true =>
    have e4 := (HK1.out.below hb2 HK1.out.lt).cell 4
    have f4 := (HK2.out.below hb2 HK2.out.lt).cell 4
    simp only [List.getElem?_toArray, List.getElem?_cons_zero, List.getElem?_cons_succ] at e4 f4
    clear hb2
    go_wp2_with fail
    refine (HM.out _ HW2.out).mono ?_
    rintro e w3 ⟨rfl, hb3⟩
    have HW3 : Hid (Below w.heap.size w w3) := Lib.hid (HW2.out.trans (hb3.mono HW2.out.size))
    clear hb3 e4 f4
    cases r2
    all_goals
      go_wp2
      go_ret
      exact ⟨by rw [HRR.out]; rfl, HW3.out⟩
theorem equal_any : ∀ (D : Nat) (a b : MV) (w : World), a.dep < D → VAt w a → VAt w b → Calls Tryd.prog 29 #[a.val, b.val] w fun e w' => PF (RiP (decide (a.pv = b.pv)) w) e w'
  | 0, _, _, _, h, _, _ => absurd h (Nat.not_lt_zero _)
  | D + 1, a, b, w, h, ha, hb => by
    have hde := dep_eq a
    have hx : ∀ x ∈ a.l ++ a.m, x.dep < D := fun x hx => by
      have := depL_mem hx
      omega
    refine equal_one ha hb _ _ (decide_eq_true_iff) (decide_eq_true_iff) (fun V hV => ?_) (fun V hV => ?_)
    · exact eqL_any (ha.bel hV) (hb.bel hV) (fun x hxm y hym U hU => equal_any D x y U (hx x (List.mem_append_left _ hxm)) ((ha.bel hV).l x hxm |>.bel hU) ((hb.bel hV).l y hym |>.bel hU))
    · exact eqM_any (ha.bel hV) (hb.bel hV) (fun x hxm y hym U hU => eqp_any (fun U2 hU2 => equal_any D x y U2 (hx x (List.mem_append_right _ hxm)) (((ha.bel hV).m x hxm |>.bel hU).bel hU2) (((hb.bel hV).m y hym |>.bel hU).bel hU2)))
end Go.Proofs.YteodigdcdhceiaaDoor
