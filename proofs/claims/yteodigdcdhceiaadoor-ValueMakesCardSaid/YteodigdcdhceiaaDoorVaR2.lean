/-
  The document's right: what a list and what a map has.
-/
import Derived.Test.YteodigdcdhceiaaDoorVaR
namespace Go.Proofs.YteodigdcdhceiaaDoor
open Go.RowKit
attribute [local go_sem ↓] Go.wp_at_zero Go.wp_at_succ
set_option linter.unusedVariables false
set_option linter.unusedSimpArgs false

def RIH (w0 : World) (l : List MV) : Prop := ∀ x ∈ l, ∀ (w : World), Below w0.heap.size w0 w → Calls Tryd.prog 32 #[x.val] w fun e w' => PF (RiP x.pv.right w) e w'
theorem blk_al2 {w : World} {t t' : TypeId} {a c : Array Value} : Blk ((w.alloc (.cells a t)).alloc (.cells c t')) w.heap.size t a := (Blk.new w t a).alloc _
set_option maxRecDepth 100000 in
set_option maxHeartbeats 1000000 in
theorem right5_ok {w0 : World} {v : MV} (hv : VAt w0 v) (hih : RIH w0 v.l) (lA : Option Addr) (nl lc : Nat) (mA : Option Addr) (mc : Nat) (hA : lA = v.lA) (hn : nl = v.l.length) (hm : nl ≤ 3001) (w : World) (hb : Below w0.heap.size w0 w) :
    Calls Tryd.prog 32 #[.agg #[.int .i64 5, .int .i64 0, .string ⟨#[]⟩, .slice lA nl lc, .slice mA 0 mc]] w fun e w' => PF (RiP (PV.rightL (MV.pvL v.l)) w) e w' := by
  have HV := Lib.hid hv
  have HIH := Lib.hid hih
  have HA := Lib.hid hA
  have HN := Lib.hid hn
  have HB0 := Lib.hid hb
  clear hv hih hA hn hb
  go_enter Tryd.func32, Tryd.ntmps32
  go_wp2
  go_loopw [4, 102] (fun y z wr => ∃ (i : Nat) (z0 : Value), z = z0 ∧ y = .int .i64 (i : Int) ∧ i ≤ nl ∧ Hid (PV.rightL (MV.pvL (v.l.take i)) = true) ∧ Hid (Blk wr w.heap.size 25 #[.int .i64 5, .int .i64 0, .string ⟨#[]⟩, .slice lA nl lc, .slice mA 0 mc]) ∧ Hid (Below w.heap.size w wr)) (fun y _ _ => nl - (intOf y).toNat)
  case atStart => exact ⟨0, _, rfl, rfl, Nat.zero_le _, Lib.hid rfl, Lib.hid (blk_al2), Lib.hid (below_al _ (below_new _ _))⟩
  case round =>
    obtain ⟨i, z0, rfl, rfl, hi, HR, HBX, HW⟩ := hrel
    obtain ⟨a0, a1, a2, a3, a4⟩ := five_cells HBX.out
    rcases (by omega : i < nl ∨ i = nl) with hlt | heq
    · have q0 : decide ((i : Int) < (nl : Int)) = true := by rw [decide_eq_true_iff]; omega
      have q0' : decide (i < nl) = true := by rw [decide_eq_true_iff]; omega
      have hil : i < v.l.length := by rw [← HN.out]; exact hlt
      have HBW : Hid (Below w0.heap.size w0 wr) := Lib.hid (HB0.out.trans (HW.out.mono HB0.out.size))
      obtain ⟨b, o, hA, hbl, hc⟩ := (HV.out.bel HBW.out).la hil
      rw [← HA.out] at hA
      obtain ⟨x, hx⟩ : ∃ x, x = v.l[i]'hil := ⟨_, rfl⟩
      rw [← hx] at hc
      have d0 : wr.cell? ⟨b, o + i * 5, none⟩ = some (.int .i64 x.k) := hc 0 (by omega)
      have d1 : wr.cell? ⟨b, o + i * 5 + 1, none⟩ = some (.int .i64 x.n) := hc 1 (by omega)
      have d2 : wr.cell? ⟨b, o + i * 5 + 2, none⟩ = some (.string x.s) := hc 2 (by omega)
      have d3 : wr.cell? ⟨b, o + i * 5 + 3, none⟩ = some (.slice x.lA x.l.length x.lc) := hc 3 (by omega)
      have d4 : wr.cell? ⟨b, o + i * 5 + 4, none⟩ = some (.slice x.mA x.m.length x.mc) := hc 4 (by omega)
      have hxm : x ∈ v.l := by rw [hx]; exact List.getElem_mem hil
      have HCL := HIH.out x hxm wr HBW.out
      unfold MV.val at HCL
      obtain ⟨r, hr⟩ : ∃ r, r = x.pv.right := ⟨_, rfl⟩
      rw [← hr] at HCL
      have HNX : Hid (PV.rightL (MV.pvL (v.l.take (i + 1))) = r) := Lib.hid (by rw [rightL_next v.l i hil, HR.out, ← hx, ← hr, Bool.true_and])
      have HCL := Lib.hid HCL
      have HLW : Hid (w.heap.size < wr.heap.size) := Lib.hid HBX.out.lt
      have hii : (i : Int) < (nl : Int) := by omega
      have hi0 : (0 : Int) ≤ (i : Int) := by omega
      subst hA
      clear hc hx hbl hxm hr
      go_wp2_with fail
      refine HCL.out.mono ?_
      rintro e w2 ⟨rfl, hb2⟩
      have HW2 : Hid (Below w.heap.size w w2) := Lib.hid (HW.out.trans (hb2.mono HW.out.size))
      have HBX2 := Lib.hid (HBX.out.below hb2 HBX.out.lt)
      clear hb2 d0 d1 d2 d3 d4 a0 a1 a2 a3 a4
      cases r with
      | false =>
        go_wp2
        go_ret
        exact ⟨by rw [rightL_no v.l (i + 1) HNX.out]; rfl, HW2.out⟩
      | true =>
        go_wp2
        go_roundw
        case rel => exact ⟨i + 1, _, rfl, by go_num, by omega, HNX, HBX2, HW2⟩
        case measure => simp [intOf]; omega
    · have q0 : decide ((i : Int) < (nl : Int)) = false := by rw [decide_eq_false_iff_not]; omega
      have q0' : decide (i < nl) = false := by rw [decide_eq_false_iff_not]; omega
      have HE : Hid (PV.rightL (MV.pvL v.l) = true) := Lib.hid (by have := HR.out; rwa [heq, HN.out, List.take_length] at this)
      clear heq
      go_wp2
      refine wp_loop_rounds 1 ?_
      rw [rounds_succ]
      go_wp2
      go_ret
      exact ⟨by rw [HE.out]; rfl, HW.out⟩
set_option maxRecDepth 100000 in
set_option maxHeartbeats 1000000 in
theorem right6_ok {w0 : World} {v : MV} (hv : VAt w0 v) (hih : RIH w0 v.m) (hz : ∀ x ∈ v.m, x.key.size ≤ 140737488351232) (lA : Option Addr) (lc : Nat) (mA : Option Addr) (nm mc : Nat) (hA : mA = v.mA) (hn : nm = v.m.length) (hm : nm ≤ 3001) (w : World) (hb : Below w0.heap.size w0 w) :
    Calls Tryd.prog 32 #[.agg #[.int .i64 6, .int .i64 0, .string ⟨#[]⟩, .slice lA 0 lc, .slice mA nm mc]] w fun e w' => PF (RiP (rightM v.m) w) e w' := by
  have HV := Lib.hid hv
  have HIH := Lib.hid hih
  have HZ := Lib.hid hz
  have HA := Lib.hid hA
  have HN := Lib.hid hn
  have HB0 := Lib.hid hb
  clear hv hih hz hA hn hb
  go_enter Tryd.func32, Tryd.ntmps32
  go_wp2
  refine wp_loop_rounds 1 ?_
  rw [rounds_succ]
  go_wp2
  go_loopw [5, 6] (fun y z wr => ∃ (i : Nat) (z0 : Value), z = z0 ∧ y = .int .i64 (i : Int) ∧ i ≤ nm ∧ Hid (rightM (v.m.take i) = true) ∧ Hid (Blk wr w.heap.size 25 #[.int .i64 6, .int .i64 0, .string ⟨#[]⟩, .slice lA 0 lc, .slice mA nm mc]) ∧ Hid (Below w.heap.size w wr)) (fun y _ _ => nm - (intOf y).toNat)
  case atStart => exact ⟨0, _, rfl, rfl, Nat.zero_le _, Lib.hid rfl, Lib.hid (blk_al2), Lib.hid (below_al _ (below_new _ _))⟩
  case round =>
    obtain ⟨i, z0, rfl, rfl, hi, HR, HBX, HW⟩ := hrel
    obtain ⟨a0, a1, a2, a3, a4⟩ := five_cells HBX.out
    rcases (by omega : i < nm ∨ i = nm) with hlt | heq
    · have q0 : decide ((i : Int) < (nm : Int)) = true := by rw [decide_eq_true_iff]; omega
      have q0' : decide (i < nm) = true := by rw [decide_eq_true_iff]; omega
      have hil : i < v.m.length := by rw [← HN.out]; exact hlt
      have HBW : Hid (Below w0.heap.size w0 wr) := Lib.hid (HB0.out.trans (HW.out.mono HB0.out.size))
      obtain ⟨b, o, hA, hbl, hc⟩ := (HV.out.bel HBW.out).ma hil
      rw [← HA.out] at hA
      obtain ⟨x, hx⟩ : ∃ x, x = v.m[i]'hil := ⟨_, rfl⟩
      rw [← hx] at hc
      have d0 : wr.cell? ⟨b, o + i * 6, none⟩ = some (.string x.key) := hc 0 (by omega)
      have hxm : x ∈ v.m := by rw [hx]; exact List.getElem_mem hil
      have hxs : x.key.size ≤ 9223372036854775807 := by have := HZ.out x hxm; omega
      have HVA := rvalid_any x.key wr hxs
      obtain ⟨rv, hrv⟩ : ∃ r, r = Lib.validD x.key.data.toList := ⟨_, rfl⟩
      rw [← hrv] at HVA
      obtain ⟨r, hr⟩ : ∃ r, r = x.pv.right := ⟨_, rfl⟩
      have HNX : Hid (rightM (v.m.take (i + 1)) = (rv && (r && !((v.m.take i).map MV.key).any (fun y => decide (y = x.key))))) := Lib.hid (by rw [rightM_next v.m i hil, HR.out, ← hx, ← hr, ← hrv, Bool.true_and])
      have HRR := Lib.hid hr
      have HX := Lib.hid hx
      have HXM := Lib.hid hxm
      have HVA := Lib.hid HVA
      have HLW : Hid (w.heap.size < wr.heap.size) := Lib.hid HBX.out.lt
      have hii : (i : Int) < (nm : Int) := by omega
      have hi0 : (0 : Int) ≤ (i : Int) := by omega
      subst hA
      clear hx hbl hxm hr hrv hxs
      have HCC := Lib.hid hc
      clear hc
      go_wp2_with fail
      refine HVA.out.mono ?_
      rintro e w2 ⟨rfl, hb2⟩
      have HW2 : Hid (Below w.heap.size w w2) := Lib.hid (HW.out.trans (hb2.mono HW.out.size))
      have HBX2 := Lib.hid (HBX.out.below hb2 HBX.out.lt)
      have HBW2 : Hid (Below w0.heap.size w0 w2) := Lib.hid (HB0.out.trans (HW2.out.mono HB0.out.size))
      clear hb2 d0 a0 a1 a2 a3 a4
      obtain ⟨a0, a1, a2, a3, a4⟩ := five_cells HBX2.out
      cases rv with
      | false =>
        go_wp2
        go_ret
        exact ⟨by rw [rightM_no v.m (i + 1) (by rw [HNX.out]; rfl)]; rfl, HW2.out⟩
      | true =>
        have HCD : Hid (∀ V, Below w0.heap.size w0 V → ∀ (k : Nat) (hk : k < v.m.length), ∀ j, j < 6 → V.cell? ⟨b, o + k * 6 + j, none⟩ = (v.m[k]'hk).pcs[j]?) := Lib.hid (fun V hV k hk j hj => by
          obtain ⟨b', o', hA', _, hc'⟩ := (HV.out.bel hV).ma hk
          rw [← HA.out] at hA'
          cases hA'
          exact hc' j hj)
        have d1 : w2.cell? ⟨b, o + i * 6 + 1, none⟩ = some (.int .i64 x.k) := by have := HCD.out w2 HBW2.out i hil 1 (by omega); rw [← HX.out] at this; exact this
        have d2 : w2.cell? ⟨b, o + i * 6 + 1 + 1, none⟩ = some (.int .i64 x.n) := by have := HCD.out w2 HBW2.out i hil 2 (by omega); rw [← HX.out] at this; exact this
        have d3 : w2.cell? ⟨b, o + i * 6 + 1 + 2, none⟩ = some (.string x.s) := by have := HCD.out w2 HBW2.out i hil 3 (by omega); rw [← HX.out] at this; exact this
        have d4 : w2.cell? ⟨b, o + i * 6 + 1 + 3, none⟩ = some (.slice x.lA x.l.length x.lc) := by have := HCD.out w2 HBW2.out i hil 4 (by omega); rw [← HX.out] at this; exact this
        have d5 : w2.cell? ⟨b, o + i * 6 + 1 + 4, none⟩ = some (.slice x.mA x.m.length x.mc) := by have := HCD.out w2 HBW2.out i hil 5 (by omega); rw [← HX.out] at this; exact this
        have HCL := HIH.out x HXM.out w2 HBW2.out
        unfold MV.val at HCL
        rw [← HRR.out] at HCL
        have HCL := Lib.hid HCL
        go_wp2_with fail
        refine HCL.out.mono ?_
        rintro e w3 ⟨rfl, hb3⟩
        have HW3 : Hid (Below w.heap.size w w3) := Lib.hid (HW2.out.trans (hb3.mono HW2.out.size))
        have HBX3 := Lib.hid (HBX2.out.below hb3 HBX2.out.lt)
        clear hb3 d1 d2 d3 d4 d5 a0 a1 a2 a3 a4
        cases r with
        | false =>
          go_wp2
          go_ret
          exact ⟨by rw [rightM_no v.m (i + 1) (by rw [HNX.out]; rfl)]; rfl, HW3.out⟩
        | true =>
          go_wp2
          go_loopw [6] (fun u wr => ∃ (k : Nat), u = .int .i64 (k : Int) ∧ k ≤ i ∧ Hid (((v.m.take k).map MV.key).any (fun y => decide (y = x.key)) = false) ∧ Hid (Blk wr w.heap.size 25 #[.int .i64 6, .int .i64 0, .string ⟨#[]⟩, .slice lA 0 lc, .slice (some ⟨b, o, none⟩) nm mc]) ∧ Hid (Below w.heap.size w wr)) (fun u _ => i - (intOf u).toNat)
          case atStart => exact ⟨0, rfl, Nat.zero_le _, Lib.hid rfl, HBX3, HW3⟩
          case round =>
            obtain ⟨k, rfl, hk, HS, HBX4, HW4⟩ := hrel
            obtain ⟨a0, a1, a2, a3, a4⟩ := five_cells HBX4.out
            rcases (by omega : k < i ∨ k = i) with hki | hke
            · have q2 : decide ((k : Int) < (i : Int)) = true := by rw [decide_eq_true_iff]; omega
              have q2' : decide (k < i) = true := by rw [decide_eq_true_iff]; omega
              have hkl : k < v.m.length := by omega
              have HBW4 : Hid (Below w0.heap.size w0 wr) := Lib.hid (HB0.out.trans (HW4.out.mono HB0.out.size))
              obtain ⟨y, hy⟩ : ∃ y, y = v.m[k]'hkl := ⟨_, rfl⟩
              have d0 : wr.cell? ⟨b, o + k * 6, none⟩ = some (.string y.key) := by have := HCD.out wr HBW4.out k hkl 0 (by omega); rw [← hy] at this; exact this
              have e0 : wr.cell? ⟨b, o + i * 6, none⟩ = some (.string x.key) := by have := HCD.out wr HBW4.out i hil 0 (by omega); rw [← HX.out] at this; exact this
              have HYN : Hid (((v.m.take (k + 1)).map MV.key).any (fun y => decide (y = x.key)) = decide (y.key = x.key)) := Lib.hid (by
                rw [List.take_succ_eq_append_getElem hkl, ← hy, List.map_append, List.any_append, HS.out, Bool.false_or]
                simp)
              have hk1 : (k : Int) < (nm : Int) := by omega
              have hk0 : (0 : Int) ≤ (k : Int) := by omega
              clear hy
              obtain ⟨yk, hyk⟩ : ∃ yk, yk = y.key := ⟨_, rfl⟩
              obtain ⟨xk, hxk⟩ : ∃ xk, xk = x.key := ⟨_, rfl⟩
              rw [← hyk] at d0 HYN
              rw [← hxk] at e0 HYN
              have HXK := Lib.hid hxk
              clear hyk hxk
              rcases Classical.em (yk = xk) with heq2 | hne2
              · have HNO : Hid (rightM (v.m.take (i + 1)) = false) := Lib.hid (by
                  rw [HNX.out]
                  have h2 : ((v.m.take i).map MV.key).any (fun y => decide (y = x.key)) = true := by
                    rw [List.any_eq_true]
                    refine ⟨yk, ?_, by rw [decide_eq_true_iff, heq2]; exact HXK.out⟩
                    have h3 := HYN.out
                    rw [decide_eq_true heq2, List.any_eq_true] at h3
                    obtain ⟨z, hz1, hz2⟩ := h3
                    rw [decide_eq_true_iff] at hz2
                    rw [heq2, ← hz2]
                    rw [List.mem_map] at hz1 ⊢
                    obtain ⟨u, hu, rfl⟩ := hz1
                    exact ⟨u, (List.take_subset_take_left _ (by omega : k + 1 ≤ i)) hu, rfl⟩
                  rw [h2]; rfl)
                subst heq2
                go_wp2
                go_region
                go_wp2
                go_ret
                exact ⟨by rw [rightM_no v.m (i + 1) HNO.out]; rfl, dnU HW4.out _⟩
              · have HN2 : Hid (decide (yk = xk) = false) := Lib.hid (decide_eq_false hne2)
                have hq1 := nm_beq yk xk
                rw [decide_eq_false hne2] at hq1
                have hq2 : ¬ yk.toList = xk.toList := fun e => hne2 (toList_injV e)
                clear hne2
                go_wp2
                go_region
                go_wp2
                go_roundw
                case rel => exact ⟨k + 1, by go_num, by omega, Lib.hid (by rw [← HXK.out, HYN.out, HN2.out]), Lib.hid (HBX4.out.drewN _), Lib.hid (dnU HW4.out _)⟩
                case measure => simp [intOf]; omega
            · have q2 : decide ((k : Int) < (i : Int)) = false := by rw [decide_eq_false_iff_not]; omega
              have q2' : decide (k < i) = false := by rw [decide_eq_false_iff_not]; omega
              have HQ2 : Hid (rightM (v.m.take (i + 1)) = true) := Lib.hid (by rw [HNX.out]; have := HS.out; rw [hke] at this; rw [this]; rfl)
              clear hke
              go_wp2
              go_roundw
              case rel => exact ⟨i + 1, _, rfl, by go_num, by omega, HQ2, HBX4, HW4⟩
              case measure => simp [intOf]; omega
    · have q0 : decide ((i : Int) < (nm : Int)) = false := by rw [decide_eq_false_iff_not]; omega
      have q0' : decide (i < nm) = false := by rw [decide_eq_false_iff_not]; omega
      have HE : Hid (rightM v.m = true) := Lib.hid (by have := HR.out; rwa [heq, HN.out, List.take_length] at this)
      clear heq
      go_wp2
      go_ret
      exact ⟨by rw [HE.out]; rfl, HW.out⟩
end Go.Proofs.YteodigdcdhceiaaDoor
