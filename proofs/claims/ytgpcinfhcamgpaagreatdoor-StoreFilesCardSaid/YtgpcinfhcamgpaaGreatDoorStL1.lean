/-
  The document's Large at states: what is not large is small.
-/
import Derived.Test.YtgpcinfhcamgpaaGreatDoorStO1
import Derived.Deep.RegionHeld3
import Derived.Deep.DrawnRows
import Derived.Handy
namespace Go.Proofs.YtgpcinfhcamgpaaGreatDoor
open Go.RowKit
attribute [local go_sem ↓] Go.wp_at_zero Go.wp_at_succ
set_option linter.unusedVariables false
set_option linter.unusedSimpArgs false

/-- a state's sizes are within reach -/
structure SBd (x : SV) : Prop where
  r : x.r.l.length ≤ 140737488355328
  t : x.t.l.length ≤ 140737488355328
  s : x.s.l.length ≤ 140737488355328
  tl : x.tg.length ≤ 140737488355328
  il : x.ins.length ≤ 140737488355328
  tn : ∀ f ∈ x.tg, f.nm.size ≤ 140737488355328 ∧ f.b.length ≤ 140737488355328
  inn : ∀ f ∈ x.ins, f.nm.size ≤ 140737488355328 ∧ f.b.length ≤ 140737488355328
/-- the sizes of the first files -/
def szL (l : List FV) : Nat → Nat
  | 0 => 0
  | k + 1 => szL l k + (match l[k]? with | some f => f.nm.size + f.b.length | none => 0)
theorem szL_at {l : List FV} {k : Nat} (h : k < l.length) : szL l (k + 1) = szL l k + l[k].nm.size + l[k].b.length := by
  rw [szL, List.getElem?_eq_getElem h]; simp only; omega
theorem szL_le (l : List FV) : ∀ (k i : Nat), i < k → (h : i < l.length) → l[i].nm.size + l[i].b.length ≤ szL l k
  | 0, i, h, _ => by omega
  | k + 1, i, h, hl => by
    rcases (by omega : i = k ∨ i < k) with rfl | h2
    · rw [szL_at hl]; omega
    · have := szL_le l k i h2 hl
      rw [szL]; omega
theorem fl_len : ∀ (l : List FV) (k : Nat), k ≤ l.length → (((fiL l).take k).flatMap fiB).length = 8 * k + szL l k
  | l, 0, _ => by simp [szL]
  | l, k + 1, h => by
    have := fl_len l k (by omega)
    have h2 : k < (fiL l).length := by rw [fiL_len]; omega
    rw [List.take_succ_eq_append_getElem h2, List.flatMap_append, List.length_append, this, szL_at (by omega)]
    have e : (fiL l)[k] = l[k].fi := fiL_at (by omega)
    rw [e]
    simp only [List.flatMap_cons, List.flatMap_nil, List.append_nil, fiB, List.length_append, textBytes_length, FV.fi]
    have e2 : l[k].nm.data.toList.length = l[k].nm.size := by rw [Array.length_toList]; rfl
    omega
theorem fisB_len (l : List FV) : (fisB (fiL l)).length = 2 + 8 * l.length + szL l l.length := by
  have := fl_len l l.length (Nat.le_refl _)
  rw [List.take_of_length_le (by rw [fiL_len]; exact Nat.le_refl _)] at this
  unfold fisB
  rw [List.length_append, this, beBytes_length]; omega
/-- what a state that is not large is -/
structure SSm (x : SV) : Prop where
  m : SM x
  l : (stB x.sta).length ≤ 100000
  tl : x.tg.length ≤ 90
  il : x.ins.length ≤ 90
  tb : ∀ f ∈ x.tg, f.b.length ≤ 50000
  ib : ∀ f ∈ x.ins, f.b.length ≤ 50000
theorem ssm_of {x : SV} (h1 : x.r.l.length + x.t.l.length + x.s.l.length + szL x.tg x.tg.length + szL x.ins x.ins.length < 50000) (h2 : x.tg.length ≤ 90) (h3 : x.ins.length ≤ 90) : SSm x := by
  have ht : ∀ f ∈ x.tg, f.nm.size + f.b.length < 50000 := fun f hf => by
    obtain ⟨i, hi, rfl⟩ := List.getElem_of_mem hf
    have := szL_le x.tg _ i hi hi
    omega
  have hi : ∀ f ∈ x.ins, f.nm.size + f.b.length < 50000 := fun f hf => by
    obtain ⟨i, hi, rfl⟩ := List.getElem_of_mem hf
    have := szL_le x.ins _ i hi hi
    omega
  refine ⟨⟨by omega, by omega, by omega, by omega, by omega, fun f hf => ?_, fun f hf => ?_⟩, ?_, h2, h3, fun f hf => ?_, fun f hf => ?_⟩
  · have := ht f hf; omega
  · have := hi f hf; omega
  · unfold stB SV.sta
    simp only [List.length_append, textBytes_length, fisB_len]
    omega
  · have := ht f hf; omega
  · have := hi f hf; omega
def LgPost (x : SV) (w : World) (e : Ending) (w' : World) : Prop := ∃ b, e = .returned (.bool b) ∧ Below w.heap.size w w' ∧ (b = false → SSm x)
def PW (P : Ending → World → Prop) (e : Ending) (w : World) : Prop := P e w
set_option maxRecDepth 100000 in
set_option maxHeartbeats 16000000 in
theorem large_any (x : SV) (w : World) (h : SAt w x) (hb : SBd x) :
    Calls Tryz.prog 8 #[x.v] w fun e w' => LgPost x w e w' := by
  show Calls Tryz.prog 8 #[x.v] w fun e w' => PW (LgPost x w) e w'
  have HT : Hid (Fls w x.tA x.tg) := Lib.hid h.tg
  have HI : Hid (Fls w x.iA x.ins) := Lib.hid h.ins
  have HLG : Hid (∀ f ∈ x.tg, f.nm.size ≤ 140737488355328 ∧ f.b.length ≤ 140737488355328) := Lib.hid hb.tn
  have HLI : Hid (∀ f ∈ x.ins, f.nm.size ≤ 140737488355328 ∧ f.b.length ≤ 140737488355328) := Lib.hid hb.inn
  have HP1 : Hid (∀ w', Below w.heap.size w w' → PW (LgPost x w) (.returned (.bool true)) w') := Lib.hid (fun w' hw => ⟨true, rfl, hw, fun e => by cases e⟩)
  have HP0 : Hid (∀ w', Below w.heap.size w w' → x.r.l.length + x.t.l.length + x.s.l.length + szL x.tg x.tg.length + szL x.ins x.ins.length < 50000 → x.tg.length ≤ 90 → x.ins.length ≤ 90 → PW (LgPost x w) (.returned (.bool false)) w') := Lib.hid (fun w' hw h1 h2 h3 => ⟨false, rfl, hw, fun _ => ssm_of h1 h2 h3⟩)
  have hb0 := hb.r
  have hb1 := hb.t
  have hb2 := hb.s
  have hb3 := hb.tl
  have hb4 := hb.il
  have hsv : x.v = .agg #[.slice x.r.A x.r.l.length x.r.c, .slice x.t.A x.t.l.length x.t.c, .slice x.s.A x.s.l.length x.s.c, .slice x.tA x.tg.length x.tc, .slice x.iA x.ins.length x.ic] := rfl
  rw [hsv]
  clear hsv hb h
  generalize LgPost x w = POST at HP1 HP0 ⊢
  obtain ⟨xr, xt, xs, a3, c3, tg, a4, c4, ins⟩ := x
  obtain ⟨a0, c0, l0⟩ := xr
  obtain ⟨a1, c1, l1⟩ := xt
  obtain ⟨a2, c2, l2⟩ := xs
  simp only at HT HI HLG HLI HP0 hb0 hb1 hb2 hb3 hb4 ⊢
  obtain ⟨n0, hn0⟩ : ∃ z, z = l0.length := ⟨_, rfl⟩
  obtain ⟨n1, hn1⟩ : ∃ z, z = l1.length := ⟨_, rfl⟩
  obtain ⟨n2, hn2⟩ : ∃ z, z = l2.length := ⟨_, rfl⟩
  obtain ⟨n3, hn3⟩ : ∃ z, z = tg.length := ⟨_, rfl⟩
  obtain ⟨n4, hn4⟩ : ∃ z, z = ins.length := ⟨_, rfl⟩
  rw [← hn0] at HP0 hb0 ⊢
  rw [← hn1] at HP0 hb1 ⊢
  rw [← hn2] at HP0 hb2 ⊢
  rw [← hn3] at HP0 hb3 ⊢
  rw [← hn4] at HP0 hb4 ⊢
  have HN3 := Lib.hid hn3
  have HN4 := Lib.hid hn4
  clear hn0 hn1 hn2 hn3 hn4
  obtain ⟨N0, hN0⟩ : ∃ z, z = n0 + n1 + n2 := ⟨_, rfl⟩
  have hN0i : (n0 : Int) + (n1 : Int) + (n2 : Int) = (N0 : Int) := by omega
  have hN0b : N0 ≤ 1000000000000000 := by omega
  rw [← hN0] at HP0
  have HWB : Hid (Below w.heap.size w (w.alloc (.cells #[.slice a0 n0 c0, .slice a1 n1 c1, .slice a2 n2 c2, .slice a3 n3 c3, .slice a4 n4 c4] 25))) := Lib.hid ((Below.refl _ _).alloc (Nat.le_refl _) _)
  have HW3 : Hid ((w.alloc (.cells #[.slice a0 n0 c0, .slice a1 n1 c1, .slice a2 n2 c2, .slice a3 n3 c3, .slice a4 n4 c4] 25)).cell? ⟨w.heap.size, 3, none⟩ = some (.slice a3 n3 c3)) := Lib.hid ((Blk.new w 25 #[.slice a0 n0 c0, .slice a1 n1 c1, .slice a2 n2 c2, .slice a3 n3 c3, .slice a4 n4 c4]).cell 3)
  have HW4 : Hid ((w.alloc (.cells #[.slice a0 n0 c0, .slice a1 n1 c1, .slice a2 n2 c2, .slice a3 n3 c3, .slice a4 n4 c4] 25)).cell? ⟨w.heap.size, 4, none⟩ = some (.slice a4 n4 c4)) := Lib.hid ((Blk.new w 25 #[.slice a0 n0 c0, .slice a1 n1 c1, .slice a2 n2 c2, .slice a3 n3 c3, .slice a4 n4 c4]).cell 4)
  have HWZ : Hid (w.heap.size < (w.alloc (.cells #[.slice a0 n0 c0, .slice a1 n1 c1, .slice a2 n2 c2, .slice a3 n3 c3, .slice a4 n4 c4] 25)).heap.size) := Lib.hid (by simp)
  have HT' := Lib.hid (HT.out.below HWB.out)
  have HI' := Lib.hid (HI.out.below HWB.out)
  clear hN0 hb0 hb1 hb2 HT HI
  go_enter Tryz.func8, Tryz.ntmps8
  go_wp2
  clear hN0i
  generalize w.alloc (.cells #[.slice a0 n0 c0, .slice a1 n1 c1, .slice a2 n2 c2, .slice a3 n3 c3, .slice a4 n4 c4] 25) = WA at HWB HW3 HW4 HWZ HT' HI' ⊢
  go_loopw [3, 4] (fun s3 s4 wr => ∃ k N : Nat, k ≤ n3 ∧ s3 = .int .i64 (N : Int) ∧ s4 = .int .i64 (k : Int) ∧ N = N0 + szL tg k ∧ N ≤ 1000000000000000 ∧ Hid (Below WA.heap.size WA wr)) (fun _ i _ => n3 - (intOf i).toNat)
  case atStart => exact ⟨0, N0, Nat.zero_le _, rfl, rfl, by simp [szL], by omega, Lib.hid (Below.refl _ _)⟩
  case round =>
    obtain ⟨k1, N1, hk, rfl, rfl, hNk, hNb, HB1⟩ := hrel
    rcases (by omega : k1 = n3 ∨ (k1 < n3 ∧ 100 ≤ k1) ∨ (k1 < n3 ∧ k1 < 100 ∧ 50000 ≤ N1) ∨ (k1 < n3 ∧ k1 < 100 ∧ N1 < 50000)) with hx | ⟨hx, hx2⟩ | ⟨hx, hx2, hx3⟩ | ⟨hx, hx2, hx3⟩
    · have HWs : Hid (wr.cell? ⟨w.heap.size, 3, none⟩ = some (.slice a3 n3 c3)) := Lib.hid ((HB1.out.cell (p := ⟨w.heap.size, 3, none⟩) HWZ.out).trans HW3.out)
      have ws := HWs.out
      have q0 : decide ((k1 : Int) < (n3 : Int)) = false := by first | (rw [decide_eq_true_iff]; omega) | (rw [decide_eq_false_iff_not]; omega)
      have q0' : decide (k1 < n3) = false := by first | (rw [decide_eq_true_iff]; omega) | (rw [decide_eq_false_iff_not]; omega)
      have HF1 : Hid (N1 = N0 + szL tg k1 ∧ (k1 = n3 ∨ 100 ≤ k1 ∨ 50000 ≤ N1)) := Lib.hid ⟨hNk, by omega⟩
      clear hNk
      go_wp2
      clear ws HWs q0 q0'
      go_loopw [3, 5] (fun s3 s4 wr => ∃ k N : Nat, k ≤ n4 ∧ s3 = .int .i64 (N : Int) ∧ s4 = .int .i64 (k : Int) ∧ N = N1 + szL ins k ∧ N ≤ 1000000000000000 ∧ Hid (Below WA.heap.size WA wr)) (fun _ i _ => n4 - (intOf i).toNat)
      case atStart => exact ⟨0, N1, Nat.zero_le _, rfl, rfl, by simp [szL], by omega, HB1⟩
      case round =>
        obtain ⟨k2, N2, hk, rfl, rfl, hNk, hNb, HB2⟩ := hrel
        rcases (by omega : k2 = n4 ∨ (k2 < n4 ∧ 100 ≤ k2) ∨ (k2 < n4 ∧ k2 < 100 ∧ 50000 ≤ N2) ∨ (k2 < n4 ∧ k2 < 100 ∧ N2 < 50000)) with hx | ⟨hx, hx2⟩ | ⟨hx, hx2, hx3⟩ | ⟨hx, hx2, hx3⟩
        · have HWs : Hid (wr.cell? ⟨w.heap.size, 4, none⟩ = some (.slice a4 n4 c4)) := Lib.hid ((HB2.out.cell (p := ⟨w.heap.size, 4, none⟩) HWZ.out).trans HW4.out)
          have ws := HWs.out
          have q0 : decide ((k2 : Int) < (n4 : Int)) = false := by first | (rw [decide_eq_true_iff]; omega) | (rw [decide_eq_false_iff_not]; omega)
          have q0' : decide (k2 < n4) = false := by first | (rw [decide_eq_true_iff]; omega) | (rw [decide_eq_false_iff_not]; omega)
          have HW3r : Hid (wr.cell? ⟨w.heap.size, 3, none⟩ = some (.slice a3 n3 c3)) := Lib.hid ((HB2.out.cell (p := ⟨w.heap.size, 3, none⟩) HWZ.out).trans HW3.out)
          have w3 := HW3r.out
          have HNK := Lib.hid hNk
          have HRT : Hid (PW POST (.returned (.bool true)) wr) := Lib.hid (HP1.out _ (HWB.out.trans (HB2.out.mono HWB.out.size)))
          have HRF : Hid (N2 < 50000 → n3 ≤ 90 → n4 ≤ 90 → PW POST (.returned (.bool false)) wr) := Lib.hid (fun g1 g2 g3 => HP0.out wr (HWB.out.trans (HB2.out.mono HWB.out.size)) (by
            have h1 := HNK.out
            obtain ⟨h2, h5⟩ := HF1.out
            have e4 := HN4.out
            have e3 := HN3.out
            obtain ⟨h3, h4⟩ : k1 = n3 ∧ k2 = n4 := by omega
            rw [← h3, ← h4]
            omega) g2 g3)
          clear hNk
          by_cases g1 : 50000 ≤ N2
          · first
            | (exfalso; omega)
            | (
              have q5 : decide (50000 ≤ (N2 : Int)) = true := by first | (rw [decide_eq_true_iff]; omega) | (rw [decide_eq_false_iff_not]; omega)
              have q5' : decide (50000 ≤ N2) = true := by first | (rw [decide_eq_true_iff]; omega) | (rw [decide_eq_false_iff_not]; omega)
              go_wp2
              go_ret
              exact HRT.out
              )
          · by_cases g2 : 90 < n3
            · first
              | (exfalso; omega)
              | (
                have q5 : decide (50000 ≤ (N2 : Int)) = false := by first | (rw [decide_eq_true_iff]; omega) | (rw [decide_eq_false_iff_not]; omega)
                have q5' : decide (50000 ≤ N2) = false := by first | (rw [decide_eq_true_iff]; omega) | (rw [decide_eq_false_iff_not]; omega)
                have q6 : decide (90 < (n3 : Int)) = true := by first | (rw [decide_eq_true_iff]; omega) | (rw [decide_eq_false_iff_not]; omega)
                have q6' : decide (90 < n3) = true := by first | (rw [decide_eq_true_iff]; omega) | (rw [decide_eq_false_iff_not]; omega)
                go_wp2
                go_ret
                exact HRT.out
                )
            · by_cases g3 : 90 < n4
              · first
                | (exfalso; omega)
                | (
                  have q5 : decide (50000 ≤ (N2 : Int)) = false := by first | (rw [decide_eq_true_iff]; omega) | (rw [decide_eq_false_iff_not]; omega)
                  have q5' : decide (50000 ≤ N2) = false := by first | (rw [decide_eq_true_iff]; omega) | (rw [decide_eq_false_iff_not]; omega)
                  have q6 : decide (90 < (n3 : Int)) = false := by first | (rw [decide_eq_true_iff]; omega) | (rw [decide_eq_false_iff_not]; omega)
                  have q6' : decide (90 < n3) = false := by first | (rw [decide_eq_true_iff]; omega) | (rw [decide_eq_false_iff_not]; omega)
                  have q7 : decide (90 < (n4 : Int)) = true := by first | (rw [decide_eq_true_iff]; omega) | (rw [decide_eq_false_iff_not]; omega)
                  have q7' : decide (90 < n4) = true := by first | (rw [decide_eq_true_iff]; omega) | (rw [decide_eq_false_iff_not]; omega)
                  go_wp2
                  go_ret
                  exact HRT.out
                  )
              · first
                | (exfalso; omega)
                | (
                  have q5 : decide (50000 ≤ (N2 : Int)) = false := by first | (rw [decide_eq_true_iff]; omega) | (rw [decide_eq_false_iff_not]; omega)
                  have q5' : decide (50000 ≤ N2) = false := by first | (rw [decide_eq_true_iff]; omega) | (rw [decide_eq_false_iff_not]; omega)
                  have q6 : decide (90 < (n3 : Int)) = false := by first | (rw [decide_eq_true_iff]; omega) | (rw [decide_eq_false_iff_not]; omega)
                  have q6' : decide (90 < n3) = false := by first | (rw [decide_eq_true_iff]; omega) | (rw [decide_eq_false_iff_not]; omega)
                  have q7 : decide (90 < (n4 : Int)) = false := by first | (rw [decide_eq_true_iff]; omega) | (rw [decide_eq_false_iff_not]; omega)
                  have q7' : decide (90 < n4) = false := by first | (rw [decide_eq_true_iff]; omega) | (rw [decide_eq_false_iff_not]; omega)
                  have HRET := Lib.hid (HRF.out (by omega) (by omega) (by omega))
                  go_wp2
                  go_ret
                  exact HRET.out
                  )
        · have HWs : Hid (wr.cell? ⟨w.heap.size, 4, none⟩ = some (.slice a4 n4 c4)) := Lib.hid ((HB2.out.cell (p := ⟨w.heap.size, 4, none⟩) HWZ.out).trans HW4.out)
          have ws := HWs.out
          have q0 : decide ((k2 : Int) < (n4 : Int)) = true := by first | (rw [decide_eq_true_iff]; omega) | (rw [decide_eq_false_iff_not]; omega)
          have q0' : decide (k2 < n4) = true := by first | (rw [decide_eq_true_iff]; omega) | (rw [decide_eq_false_iff_not]; omega)
          have q1 : decide ((k2 : Int) < 100) = false := by first | (rw [decide_eq_true_iff]; omega) | (rw [decide_eq_false_iff_not]; omega)
          have q1' : decide (k2 < 100) = false := by first | (rw [decide_eq_true_iff]; omega) | (rw [decide_eq_false_iff_not]; omega)
          have HW3r : Hid (wr.cell? ⟨w.heap.size, 3, none⟩ = some (.slice a3 n3 c3)) := Lib.hid ((HB2.out.cell (p := ⟨w.heap.size, 3, none⟩) HWZ.out).trans HW3.out)
          have w3 := HW3r.out
          have HNK := Lib.hid hNk
          have HRT : Hid (PW POST (.returned (.bool true)) wr) := Lib.hid (HP1.out _ (HWB.out.trans (HB2.out.mono HWB.out.size)))
          have HRF : Hid (N2 < 50000 → n3 ≤ 90 → n4 ≤ 90 → PW POST (.returned (.bool false)) wr) := Lib.hid (fun g1 g2 g3 => HP0.out wr (HWB.out.trans (HB2.out.mono HWB.out.size)) (by
            have h1 := HNK.out
            obtain ⟨h2, h5⟩ := HF1.out
            have e4 := HN4.out
            have e3 := HN3.out
            obtain ⟨h3, h4⟩ : k1 = n3 ∧ k2 = n4 := by omega
            rw [← h3, ← h4]
            omega) g2 g3)
          clear hNk
          by_cases g1 : 50000 ≤ N2
          · first
            | (exfalso; omega)
            | (
              have q5 : decide (50000 ≤ (N2 : Int)) = true := by first | (rw [decide_eq_true_iff]; omega) | (rw [decide_eq_false_iff_not]; omega)
              have q5' : decide (50000 ≤ N2) = true := by first | (rw [decide_eq_true_iff]; omega) | (rw [decide_eq_false_iff_not]; omega)
              go_wp2
              go_ret
              exact HRT.out
              )
          · by_cases g2 : 90 < n3
            · first
              | (exfalso; omega)
              | (
                have q5 : decide (50000 ≤ (N2 : Int)) = false := by first | (rw [decide_eq_true_iff]; omega) | (rw [decide_eq_false_iff_not]; omega)
                have q5' : decide (50000 ≤ N2) = false := by first | (rw [decide_eq_true_iff]; omega) | (rw [decide_eq_false_iff_not]; omega)
                have q6 : decide (90 < (n3 : Int)) = true := by first | (rw [decide_eq_true_iff]; omega) | (rw [decide_eq_false_iff_not]; omega)
                have q6' : decide (90 < n3) = true := by first | (rw [decide_eq_true_iff]; omega) | (rw [decide_eq_false_iff_not]; omega)
                go_wp2
                go_ret
                exact HRT.out
                )
            · by_cases g3 : 90 < n4
              · first
                | (exfalso; omega)
                | (
                  have q5 : decide (50000 ≤ (N2 : Int)) = false := by first | (rw [decide_eq_true_iff]; omega) | (rw [decide_eq_false_iff_not]; omega)
                  have q5' : decide (50000 ≤ N2) = false := by first | (rw [decide_eq_true_iff]; omega) | (rw [decide_eq_false_iff_not]; omega)
                  have q6 : decide (90 < (n3 : Int)) = false := by first | (rw [decide_eq_true_iff]; omega) | (rw [decide_eq_false_iff_not]; omega)
                  have q6' : decide (90 < n3) = false := by first | (rw [decide_eq_true_iff]; omega) | (rw [decide_eq_false_iff_not]; omega)
                  have q7 : decide (90 < (n4 : Int)) = true := by first | (rw [decide_eq_true_iff]; omega) | (rw [decide_eq_false_iff_not]; omega)
                  have q7' : decide (90 < n4) = true := by first | (rw [decide_eq_true_iff]; omega) | (rw [decide_eq_false_iff_not]; omega)
                  go_wp2
                  go_ret
                  exact HRT.out
                  )
              · first
                | (exfalso; omega)
                | (
                  have q5 : decide (50000 ≤ (N2 : Int)) = false := by first | (rw [decide_eq_true_iff]; omega) | (rw [decide_eq_false_iff_not]; omega)
                  have q5' : decide (50000 ≤ N2) = false := by first | (rw [decide_eq_true_iff]; omega) | (rw [decide_eq_false_iff_not]; omega)
                  have q6 : decide (90 < (n3 : Int)) = false := by first | (rw [decide_eq_true_iff]; omega) | (rw [decide_eq_false_iff_not]; omega)
                  have q6' : decide (90 < n3) = false := by first | (rw [decide_eq_true_iff]; omega) | (rw [decide_eq_false_iff_not]; omega)
                  have q7 : decide (90 < (n4 : Int)) = false := by first | (rw [decide_eq_true_iff]; omega) | (rw [decide_eq_false_iff_not]; omega)
                  have q7' : decide (90 < n4) = false := by first | (rw [decide_eq_true_iff]; omega) | (rw [decide_eq_false_iff_not]; omega)
                  have HRET := Lib.hid (HRF.out (by omega) (by omega) (by omega))
                  go_wp2
                  go_ret
                  exact HRET.out
                  )
        · have HWs : Hid (wr.cell? ⟨w.heap.size, 4, none⟩ = some (.slice a4 n4 c4)) := Lib.hid ((HB2.out.cell (p := ⟨w.heap.size, 4, none⟩) HWZ.out).trans HW4.out)
          have ws := HWs.out
          have q0 : decide ((k2 : Int) < (n4 : Int)) = true := by first | (rw [decide_eq_true_iff]; omega) | (rw [decide_eq_false_iff_not]; omega)
          have q0' : decide (k2 < n4) = true := by first | (rw [decide_eq_true_iff]; omega) | (rw [decide_eq_false_iff_not]; omega)
          have q1 : decide ((k2 : Int) < 100) = true := by first | (rw [decide_eq_true_iff]; omega) | (rw [decide_eq_false_iff_not]; omega)
          have q1' : decide (k2 < 100) = true := by first | (rw [decide_eq_true_iff]; omega) | (rw [decide_eq_false_iff_not]; omega)
          have q2 : decide ((N2 : Int) < 50000) = false := by first | (rw [decide_eq_true_iff]; omega) | (rw [decide_eq_false_iff_not]; omega)
          have q2' : decide (N2 < 50000) = false := by first | (rw [decide_eq_true_iff]; omega) | (rw [decide_eq_false_iff_not]; omega)
          have HW3r : Hid (wr.cell? ⟨w.heap.size, 3, none⟩ = some (.slice a3 n3 c3)) := Lib.hid ((HB2.out.cell (p := ⟨w.heap.size, 3, none⟩) HWZ.out).trans HW3.out)
          have w3 := HW3r.out
          have HNK := Lib.hid hNk
          have HRT : Hid (PW POST (.returned (.bool true)) wr) := Lib.hid (HP1.out _ (HWB.out.trans (HB2.out.mono HWB.out.size)))
          have HRF : Hid (N2 < 50000 → n3 ≤ 90 → n4 ≤ 90 → PW POST (.returned (.bool false)) wr) := Lib.hid (fun g1 g2 g3 => HP0.out wr (HWB.out.trans (HB2.out.mono HWB.out.size)) (by
            have h1 := HNK.out
            obtain ⟨h2, h5⟩ := HF1.out
            have e4 := HN4.out
            have e3 := HN3.out
            obtain ⟨h3, h4⟩ : k1 = n3 ∧ k2 = n4 := by omega
            rw [← h3, ← h4]
            omega) g2 g3)
          clear hNk
          by_cases g1 : 50000 ≤ N2
          · first
            | (exfalso; omega)
            | (
              have q5 : decide (50000 ≤ (N2 : Int)) = true := by first | (rw [decide_eq_true_iff]; omega) | (rw [decide_eq_false_iff_not]; omega)
              have q5' : decide (50000 ≤ N2) = true := by first | (rw [decide_eq_true_iff]; omega) | (rw [decide_eq_false_iff_not]; omega)
              go_wp2
              go_ret
              exact HRT.out
              )
          · by_cases g2 : 90 < n3
            · first
              | (exfalso; omega)
              | (
                have q5 : decide (50000 ≤ (N2 : Int)) = false := by first | (rw [decide_eq_true_iff]; omega) | (rw [decide_eq_false_iff_not]; omega)
                have q5' : decide (50000 ≤ N2) = false := by first | (rw [decide_eq_true_iff]; omega) | (rw [decide_eq_false_iff_not]; omega)
                have q6 : decide (90 < (n3 : Int)) = true := by first | (rw [decide_eq_true_iff]; omega) | (rw [decide_eq_false_iff_not]; omega)
                have q6' : decide (90 < n3) = true := by first | (rw [decide_eq_true_iff]; omega) | (rw [decide_eq_false_iff_not]; omega)
                go_wp2
                go_ret
                exact HRT.out
                )
            · by_cases g3 : 90 < n4
              · first
                | (exfalso; omega)
                | (
                  have q5 : decide (50000 ≤ (N2 : Int)) = false := by first | (rw [decide_eq_true_iff]; omega) | (rw [decide_eq_false_iff_not]; omega)
                  have q5' : decide (50000 ≤ N2) = false := by first | (rw [decide_eq_true_iff]; omega) | (rw [decide_eq_false_iff_not]; omega)
                  have q6 : decide (90 < (n3 : Int)) = false := by first | (rw [decide_eq_true_iff]; omega) | (rw [decide_eq_false_iff_not]; omega)
                  have q6' : decide (90 < n3) = false := by first | (rw [decide_eq_true_iff]; omega) | (rw [decide_eq_false_iff_not]; omega)
                  have q7 : decide (90 < (n4 : Int)) = true := by first | (rw [decide_eq_true_iff]; omega) | (rw [decide_eq_false_iff_not]; omega)
                  have q7' : decide (90 < n4) = true := by first | (rw [decide_eq_true_iff]; omega) | (rw [decide_eq_false_iff_not]; omega)
                  go_wp2
                  go_ret
                  exact HRT.out
                  )
              · first
                | (exfalso; omega)
                | (
                  have q5 : decide (50000 ≤ (N2 : Int)) = false := by first | (rw [decide_eq_true_iff]; omega) | (rw [decide_eq_false_iff_not]; omega)
                  have q5' : decide (50000 ≤ N2) = false := by first | (rw [decide_eq_true_iff]; omega) | (rw [decide_eq_false_iff_not]; omega)
                  have q6 : decide (90 < (n3 : Int)) = false := by first | (rw [decide_eq_true_iff]; omega) | (rw [decide_eq_false_iff_not]; omega)
                  have q6' : decide (90 < n3) = false := by first | (rw [decide_eq_true_iff]; omega) | (rw [decide_eq_false_iff_not]; omega)
                  have q7 : decide (90 < (n4 : Int)) = false := by first | (rw [decide_eq_true_iff]; omega) | (rw [decide_eq_false_iff_not]; omega)
                  have q7' : decide (90 < n4) = false := by first | (rw [decide_eq_true_iff]; omega) | (rw [decide_eq_false_iff_not]; omega)
                  have HRET := Lib.hid (HRF.out (by omega) (by omega) (by omega))
                  go_wp2
                  go_ret
                  exact HRET.out
                  )
        · have hkl : k2 < ins.length := by rw [← HN4.out]; exact hx
          obtain ⟨b, o, hA, hbb, y0, y1, -, -, -⟩ := (HI'.out.below HB2.out).at_ hkl
          subst hA
          obtain ⟨y, hy⟩ : ∃ y, y = ins[k2] := ⟨_, rfl⟩
          rw [← hy] at y0 y1
          have HY0 := Lib.hid y0
          have HY1 := Lib.hid y1
          have HBL := Lib.hid hbb
          have HWL : Hid (w.heap.size < wr.heap.size) := Lib.hid (Nat.lt_of_lt_of_le HWZ.out HB2.out.size)
          have HWC : Hid (wr.cell? ⟨w.heap.size, 4, none⟩ = some (.slice (some ⟨b, o, none⟩) n4 c4)) := Lib.hid ((HB2.out.cell (p := ⟨w.heap.size, 4, none⟩) HWZ.out).trans HW4.out)
          have wc := HWC.out
          have hys : y.nm.size ≤ 140737488355328 ∧ y.b.length ≤ 140737488355328 := by rw [hy]; exact HLI.out _ (List.getElem_mem hkl)
          obtain ⟨hys1, hys2⟩ := hys
          have hsz := szL_at hkl
          rw [← hy] at hsz
          have hki : (k2 : Int) < (n4 : Int) := by omega
          have hk0 : (0 : Int) ≤ (k2 : Int) := by omega
          have hw1 : IntKind.i64.wrap ((N2 : Int) + (y.nm.size : Int)) = (N2 : Int) + (y.nm.size : Int) := IntWalk.i64_in _ (by omega)
          have hw2 : IntKind.i64.wrap ((N2 : Int) + (y.nm.size : Int) + (y.b.length : Int)) = (N2 : Int) + (y.nm.size : Int) + (y.b.length : Int) := IntWalk.i64_in _ (by omega)
          have HSZ := Lib.hid hsz
          have HNK := Lib.hid hNk
          clear hy y0 y1 hbb hsz hNk
          have q0 : decide ((k2 : Int) < (n4 : Int)) = true := by first | (rw [decide_eq_true_iff]; omega) | (rw [decide_eq_false_iff_not]; omega)
          have q0' : decide (k2 < n4) = true := by first | (rw [decide_eq_true_iff]; omega) | (rw [decide_eq_false_iff_not]; omega)
          have q1 : decide ((k2 : Int) < 100) = true := by first | (rw [decide_eq_true_iff]; omega) | (rw [decide_eq_false_iff_not]; omega)
          have q1' : decide (k2 < 100) = true := by first | (rw [decide_eq_true_iff]; omega) | (rw [decide_eq_false_iff_not]; omega)
          have q2 : decide ((N2 : Int) < 50000) = true := by first | (rw [decide_eq_true_iff]; omega) | (rw [decide_eq_false_iff_not]; omega)
          have q2' : decide (N2 < 50000) = true := by first | (rw [decide_eq_true_iff]; omega) | (rw [decide_eq_false_iff_not]; omega)
          go_wp2
          refine wp_region_held_drew (S := fun V => Below wr.heap.size wr V) (by kernel_rfl) ((Below.refl _ _).drew) (fun hS1 => ?_)
          refine wpAnyH_take (i := 0) (oi := ⟨some 64, _, _, _, _, _⟩) (v := .int .i64 (N2 : Int)) rfl (by kernel_rfl) (by kernel_rfl) (by kernel_rfl) (fun _ _ _ h => h) (.inl ⟨by kernel_rfl, fun V hS => by go_simp⟩) hS1 ?_
          simp only [Act.put, List.setIfInBounds_toArray, List.set_cons_zero, List.set_cons_succ]
          refine wpAnyH_take (i := 1) (oi := ⟨some 65, _, _, _, _, _⟩) (v := .pointer (some ⟨w.heap.size, 4, none⟩)) rfl (by kernel_rfl) (by kernel_rfl) (by kernel_rfl) (fun _ _ _ h => h) (.inl ⟨by kernel_rfl, fun V hS => by go_simp⟩) hS1 ?_
          simp only [Act.put, List.setIfInBounds_toArray, List.set_cons_zero, List.set_cons_succ]
          refine wpAnyH_take (i := 2) (oi := ⟨some 66, _, _, _, _, _⟩) (v := .slice (some ⟨b, o, none⟩) n4 c4) rfl (by kernel_rfl) (by kernel_rfl) (by kernel_rfl) (fun _ _ _ h => h) (.inl ⟨by kernel_rfl, fun V hS => by have hc := (hS.cell (p := ⟨w.heap.size, 4, none⟩) HWL.out).trans HWC.out; go_simp⟩) hS1 ?_
          simp only [Act.put, List.setIfInBounds_toArray, List.set_cons_zero, List.set_cons_succ]
          refine wpAnyH_take (i := 3) (oi := ⟨some 67, _, _, _, _, _⟩) (v := .int .i64 (k2 : Int)) rfl (by kernel_rfl) (by kernel_rfl) (by kernel_rfl) (fun _ _ _ h => h) (.inl ⟨by kernel_rfl, fun V hS => by go_simp⟩) hS1 ?_
          simp only [Act.put, List.setIfInBounds_toArray, List.set_cons_zero, List.set_cons_succ]
          refine wpAnyH_take (i := 4) (oi := ⟨some 68, _, _, _, _, _⟩) (v := .pointer (some ⟨b, o + k2 * 2, none⟩)) rfl (by kernel_rfl) (by kernel_rfl) (by kernel_rfl) (fun _ _ _ h => h) (.inl ⟨by kernel_rfl, fun V hS => by go_simp⟩) hS1 ?_
          simp only [Act.put, List.setIfInBounds_toArray, List.set_cons_zero, List.set_cons_succ]
          refine wpAnyH_take (i := 5) (oi := ⟨some 69, _, _, _, _, _⟩) (v := .pointer (some ⟨b, o + k2 * 2, none⟩)) rfl (by kernel_rfl) (by kernel_rfl) (by kernel_rfl) (fun _ _ _ h => h) (.inl ⟨by kernel_rfl, fun V hS => by go_simp⟩) hS1 ?_
          simp only [Act.put, List.setIfInBounds_toArray, List.set_cons_zero, List.set_cons_succ]
          refine wpAnyH_take (i := 6) (oi := ⟨some 70, _, _, _, _, _⟩) (v := .string y.nm) rfl (by kernel_rfl) (by kernel_rfl) (by kernel_rfl) (fun _ _ _ h => h) (.inl ⟨by kernel_rfl, fun V hS => by have hc := (hS.cell (p := ⟨b, o + k2 * 2, none⟩) HBL.out).trans HY0.out; go_simp⟩) hS1 ?_
          simp only [Act.put, List.setIfInBounds_toArray, List.set_cons_zero, List.set_cons_succ]
          refine wpAnyH_take (i := 7) (oi := ⟨some 71, _, _, _, _, _⟩) (v := .int .i64 (y.nm.size : Int)) rfl (by kernel_rfl) (by kernel_rfl) (by kernel_rfl) (fun _ _ _ h => h) (.inl ⟨by kernel_rfl, fun V hS => by go_simp⟩) hS1 ?_
          simp only [Act.put, List.setIfInBounds_toArray, List.set_cons_zero, List.set_cons_succ]
          refine wpAnyH_take (i := 8) (oi := ⟨some 72, _, _, _, _, _⟩) (v := .int .i64 ((N2 : Int) + (y.nm.size : Int))) rfl (by kernel_rfl) (by kernel_rfl) (by kernel_rfl) (fun _ _ _ h => h) (.inl ⟨by kernel_rfl, fun V hS => by go_simp⟩) hS1 ?_
          simp only [Act.put, List.setIfInBounds_toArray, List.set_cons_zero, List.set_cons_succ]
          refine wpAnyH_take (i := 9) (oi := ⟨some 73, _, _, _, _, _⟩) (v := .pointer (some ⟨w.heap.size, 4, none⟩)) rfl (by kernel_rfl) (by kernel_rfl) (by kernel_rfl) (fun _ _ _ h => h) (.inl ⟨by kernel_rfl, fun V hS => by go_simp⟩) hS1 ?_
          simp only [Act.put, List.setIfInBounds_toArray, List.set_cons_zero, List.set_cons_succ]
          refine wpAnyH_take (i := 10) (oi := ⟨some 74, _, _, _, _, _⟩) (v := .slice (some ⟨b, o, none⟩) n4 c4) rfl (by kernel_rfl) (by kernel_rfl) (by kernel_rfl) (fun _ _ _ h => h) (.inl ⟨by kernel_rfl, fun V hS => by have hc := (hS.cell (p := ⟨w.heap.size, 4, none⟩) HWL.out).trans HWC.out; go_simp⟩) hS1 ?_
          simp only [Act.put, List.setIfInBounds_toArray, List.set_cons_zero, List.set_cons_succ]
          refine wpAnyH_take (i := 11) (oi := ⟨some 75, _, _, _, _, _⟩) (v := .int .i64 (k2 : Int)) rfl (by kernel_rfl) (by kernel_rfl) (by kernel_rfl) (fun _ _ _ h => h) (.inl ⟨by kernel_rfl, fun V hS => by go_simp⟩) hS1 ?_
          simp only [Act.put, List.setIfInBounds_toArray, List.set_cons_zero, List.set_cons_succ]
          refine wpAnyH_take (i := 12) (oi := ⟨some 76, _, _, _, _, _⟩) (v := .pointer (some ⟨b, o + k2 * 2, none⟩)) rfl (by kernel_rfl) (by kernel_rfl) (by kernel_rfl) (fun _ _ _ h => h) (.inl ⟨by kernel_rfl, fun V hS => by go_simp⟩) hS1 ?_
          simp only [Act.put, List.setIfInBounds_toArray, List.set_cons_zero, List.set_cons_succ]
          refine wpAnyH_take (i := 13) (oi := ⟨some 77, _, _, _, _, _⟩) (v := .pointer (some ⟨b, o + k2 * 2 + 1, none⟩)) rfl (by kernel_rfl) (by kernel_rfl) (by kernel_rfl) (fun _ _ _ h => h) (.inl ⟨by kernel_rfl, fun V hS => by go_simp⟩) hS1 ?_
          simp only [Act.put, List.setIfInBounds_toArray, List.set_cons_zero, List.set_cons_succ]
          refine wpAnyH_take (i := 14) (oi := ⟨some 78, _, _, _, _, _⟩) (v := .slice y.A y.b.length y.c) rfl (by kernel_rfl) (by kernel_rfl) (by kernel_rfl) (fun _ _ _ h => h) (.inl ⟨by kernel_rfl, fun V hS => by have hc := (hS.cell (p := ⟨b, o + k2 * 2 + 1, none⟩) HBL.out).trans HY1.out; go_simp⟩) hS1 ?_
          simp only [Act.put, List.setIfInBounds_toArray, List.set_cons_zero, List.set_cons_succ]
          refine wpAnyH_take (i := 15) (oi := ⟨some 79, _, _, _, _, _⟩) (v := .int .i64 (y.b.length : Int)) rfl (by kernel_rfl) (by kernel_rfl) (by kernel_rfl) (fun _ _ _ h => h) (.inl ⟨by kernel_rfl, fun V hS => by go_simp⟩) hS1 ?_
          simp only [Act.put, List.setIfInBounds_toArray, List.set_cons_zero, List.set_cons_succ]
          refine wpAnyH_take (i := 16) (oi := ⟨some 80, _, _, _, _, _⟩) (v := .int .i64 ((N2 : Int) + (y.nm.size : Int) + (y.b.length : Int))) rfl (by kernel_rfl) (by kernel_rfl) (by kernel_rfl) (fun _ _ _ h => h) (.inl ⟨by kernel_rfl, fun V hS => by go_simp⟩) hS1 ?_
          simp only [Act.put, List.setIfInBounds_toArray, List.set_cons_zero, List.set_cons_succ]
          refine wpAnyH_take (i := 17) (oi := ⟨some 3, _, _, _, _, _⟩) (v := .int .i64 ((N2 : Int) + (y.nm.size : Int) + (y.b.length : Int))) rfl (by kernel_rfl) (by kernel_rfl) (by kernel_rfl) (fun _ _ _ h => h) (.inl ⟨by kernel_rfl, fun V hS => by go_simp⟩) hS1 ?_
          simp only [Act.put, List.setIfInBounds_toArray, List.set_cons_zero, List.set_cons_succ]
          refine wpAnyH_done (by kernel_rfl) ?_ _
          go_wp2
          refine ⟨⟨k2 + 1, N2 + y.nm.size + y.b.length, by omega, by push_cast; rfl, by push_cast; rfl, by have h1 := HSZ.out; have h2 := HNK.out; omega, by omega, Lib.hid (HB2.out.trans (hS1.mono HB2.out.size))⟩, ?_⟩
          simp [intOf]
          omega
    · have HWs : Hid (wr.cell? ⟨w.heap.size, 3, none⟩ = some (.slice a3 n3 c3)) := Lib.hid ((HB1.out.cell (p := ⟨w.heap.size, 3, none⟩) HWZ.out).trans HW3.out)
      have ws := HWs.out
      have q0 : decide ((k1 : Int) < (n3 : Int)) = true := by first | (rw [decide_eq_true_iff]; omega) | (rw [decide_eq_false_iff_not]; omega)
      have q0' : decide (k1 < n3) = true := by first | (rw [decide_eq_true_iff]; omega) | (rw [decide_eq_false_iff_not]; omega)
      have q1 : decide ((k1 : Int) < 100) = false := by first | (rw [decide_eq_true_iff]; omega) | (rw [decide_eq_false_iff_not]; omega)
      have q1' : decide (k1 < 100) = false := by first | (rw [decide_eq_true_iff]; omega) | (rw [decide_eq_false_iff_not]; omega)
      have HF1 : Hid (N1 = N0 + szL tg k1 ∧ (k1 = n3 ∨ 100 ≤ k1 ∨ 50000 ≤ N1)) := Lib.hid ⟨hNk, by omega⟩
      clear hNk
      go_wp2
      clear ws HWs q0 q0' q1 q1'
      go_loopw [3, 5] (fun s3 s4 wr => ∃ k N : Nat, k ≤ n4 ∧ s3 = .int .i64 (N : Int) ∧ s4 = .int .i64 (k : Int) ∧ N = N1 + szL ins k ∧ N ≤ 1000000000000000 ∧ Hid (Below WA.heap.size WA wr)) (fun _ i _ => n4 - (intOf i).toNat)
      case atStart => exact ⟨0, N1, Nat.zero_le _, rfl, rfl, by simp [szL], by omega, HB1⟩
      case round =>
        obtain ⟨k2, N2, hk, rfl, rfl, hNk, hNb, HB2⟩ := hrel
        rcases (by omega : k2 = n4 ∨ (k2 < n4 ∧ 100 ≤ k2) ∨ (k2 < n4 ∧ k2 < 100 ∧ 50000 ≤ N2) ∨ (k2 < n4 ∧ k2 < 100 ∧ N2 < 50000)) with hx | ⟨hx, hx2⟩ | ⟨hx, hx2, hx3⟩ | ⟨hx, hx2, hx3⟩
        · have HWs : Hid (wr.cell? ⟨w.heap.size, 4, none⟩ = some (.slice a4 n4 c4)) := Lib.hid ((HB2.out.cell (p := ⟨w.heap.size, 4, none⟩) HWZ.out).trans HW4.out)
          have ws := HWs.out
          have q0 : decide ((k2 : Int) < (n4 : Int)) = false := by first | (rw [decide_eq_true_iff]; omega) | (rw [decide_eq_false_iff_not]; omega)
          have q0' : decide (k2 < n4) = false := by first | (rw [decide_eq_true_iff]; omega) | (rw [decide_eq_false_iff_not]; omega)
          have HW3r : Hid (wr.cell? ⟨w.heap.size, 3, none⟩ = some (.slice a3 n3 c3)) := Lib.hid ((HB2.out.cell (p := ⟨w.heap.size, 3, none⟩) HWZ.out).trans HW3.out)
          have w3 := HW3r.out
          have HNK := Lib.hid hNk
          have HRT : Hid (PW POST (.returned (.bool true)) wr) := Lib.hid (HP1.out _ (HWB.out.trans (HB2.out.mono HWB.out.size)))
          have HRF : Hid (N2 < 50000 → n3 ≤ 90 → n4 ≤ 90 → PW POST (.returned (.bool false)) wr) := Lib.hid (fun g1 g2 g3 => HP0.out wr (HWB.out.trans (HB2.out.mono HWB.out.size)) (by
            have h1 := HNK.out
            obtain ⟨h2, h5⟩ := HF1.out
            have e4 := HN4.out
            have e3 := HN3.out
            obtain ⟨h3, h4⟩ : k1 = n3 ∧ k2 = n4 := by omega
            rw [← h3, ← h4]
            omega) g2 g3)
          clear hNk
          by_cases g1 : 50000 ≤ N2
          · first
            | (exfalso; omega)
            | (
              have q5 : decide (50000 ≤ (N2 : Int)) = true := by first | (rw [decide_eq_true_iff]; omega) | (rw [decide_eq_false_iff_not]; omega)
              have q5' : decide (50000 ≤ N2) = true := by first | (rw [decide_eq_true_iff]; omega) | (rw [decide_eq_false_iff_not]; omega)
              go_wp2
              go_ret
              exact HRT.out
              )
          · by_cases g2 : 90 < n3
            · first
              | (exfalso; omega)
              | (
                have q5 : decide (50000 ≤ (N2 : Int)) = false := by first | (rw [decide_eq_true_iff]; omega) | (rw [decide_eq_false_iff_not]; omega)
                have q5' : decide (50000 ≤ N2) = false := by first | (rw [decide_eq_true_iff]; omega) | (rw [decide_eq_false_iff_not]; omega)
                have q6 : decide (90 < (n3 : Int)) = true := by first | (rw [decide_eq_true_iff]; omega) | (rw [decide_eq_false_iff_not]; omega)
                have q6' : decide (90 < n3) = true := by first | (rw [decide_eq_true_iff]; omega) | (rw [decide_eq_false_iff_not]; omega)
                go_wp2
                go_ret
                exact HRT.out
                )
            · by_cases g3 : 90 < n4
              · first
                | (exfalso; omega)
                | (
                  have q5 : decide (50000 ≤ (N2 : Int)) = false := by first | (rw [decide_eq_true_iff]; omega) | (rw [decide_eq_false_iff_not]; omega)
                  have q5' : decide (50000 ≤ N2) = false := by first | (rw [decide_eq_true_iff]; omega) | (rw [decide_eq_false_iff_not]; omega)
                  have q6 : decide (90 < (n3 : Int)) = false := by first | (rw [decide_eq_true_iff]; omega) | (rw [decide_eq_false_iff_not]; omega)
                  have q6' : decide (90 < n3) = false := by first | (rw [decide_eq_true_iff]; omega) | (rw [decide_eq_false_iff_not]; omega)
                  have q7 : decide (90 < (n4 : Int)) = true := by first | (rw [decide_eq_true_iff]; omega) | (rw [decide_eq_false_iff_not]; omega)
                  have q7' : decide (90 < n4) = true := by first | (rw [decide_eq_true_iff]; omega) | (rw [decide_eq_false_iff_not]; omega)
                  go_wp2
                  go_ret
                  exact HRT.out
                  )
              · first
                | (exfalso; omega)
                | (
                  have q5 : decide (50000 ≤ (N2 : Int)) = false := by first | (rw [decide_eq_true_iff]; omega) | (rw [decide_eq_false_iff_not]; omega)
                  have q5' : decide (50000 ≤ N2) = false := by first | (rw [decide_eq_true_iff]; omega) | (rw [decide_eq_false_iff_not]; omega)
                  have q6 : decide (90 < (n3 : Int)) = false := by first | (rw [decide_eq_true_iff]; omega) | (rw [decide_eq_false_iff_not]; omega)
                  have q6' : decide (90 < n3) = false := by first | (rw [decide_eq_true_iff]; omega) | (rw [decide_eq_false_iff_not]; omega)
                  have q7 : decide (90 < (n4 : Int)) = false := by first | (rw [decide_eq_true_iff]; omega) | (rw [decide_eq_false_iff_not]; omega)
                  have q7' : decide (90 < n4) = false := by first | (rw [decide_eq_true_iff]; omega) | (rw [decide_eq_false_iff_not]; omega)
                  have HRET := Lib.hid (HRF.out (by omega) (by omega) (by omega))
                  go_wp2
                  go_ret
                  exact HRET.out
                  )
        · have HWs : Hid (wr.cell? ⟨w.heap.size, 4, none⟩ = some (.slice a4 n4 c4)) := Lib.hid ((HB2.out.cell (p := ⟨w.heap.size, 4, none⟩) HWZ.out).trans HW4.out)
          have ws := HWs.out
          have q0 : decide ((k2 : Int) < (n4 : Int)) = true := by first | (rw [decide_eq_true_iff]; omega) | (rw [decide_eq_false_iff_not]; omega)
          have q0' : decide (k2 < n4) = true := by first | (rw [decide_eq_true_iff]; omega) | (rw [decide_eq_false_iff_not]; omega)
          have q1 : decide ((k2 : Int) < 100) = false := by first | (rw [decide_eq_true_iff]; omega) | (rw [decide_eq_false_iff_not]; omega)
          have q1' : decide (k2 < 100) = false := by first | (rw [decide_eq_true_iff]; omega) | (rw [decide_eq_false_iff_not]; omega)
          have HW3r : Hid (wr.cell? ⟨w.heap.size, 3, none⟩ = some (.slice a3 n3 c3)) := Lib.hid ((HB2.out.cell (p := ⟨w.heap.size, 3, none⟩) HWZ.out).trans HW3.out)
          have w3 := HW3r.out
          have HNK := Lib.hid hNk
          have HRT : Hid (PW POST (.returned (.bool true)) wr) := Lib.hid (HP1.out _ (HWB.out.trans (HB2.out.mono HWB.out.size)))
          have HRF : Hid (N2 < 50000 → n3 ≤ 90 → n4 ≤ 90 → PW POST (.returned (.bool false)) wr) := Lib.hid (fun g1 g2 g3 => HP0.out wr (HWB.out.trans (HB2.out.mono HWB.out.size)) (by
            have h1 := HNK.out
            obtain ⟨h2, h5⟩ := HF1.out
            have e4 := HN4.out
            have e3 := HN3.out
            obtain ⟨h3, h4⟩ : k1 = n3 ∧ k2 = n4 := by omega
            rw [← h3, ← h4]
            omega) g2 g3)
          clear hNk
          by_cases g1 : 50000 ≤ N2
          · first
            | (exfalso; omega)
            | (
              have q5 : decide (50000 ≤ (N2 : Int)) = true := by first | (rw [decide_eq_true_iff]; omega) | (rw [decide_eq_false_iff_not]; omega)
              have q5' : decide (50000 ≤ N2) = true := by first | (rw [decide_eq_true_iff]; omega) | (rw [decide_eq_false_iff_not]; omega)
              go_wp2
              go_ret
              exact HRT.out
              )
          · by_cases g2 : 90 < n3
            · first
              | (exfalso; omega)
              | (
                have q5 : decide (50000 ≤ (N2 : Int)) = false := by first | (rw [decide_eq_true_iff]; omega) | (rw [decide_eq_false_iff_not]; omega)
                have q5' : decide (50000 ≤ N2) = false := by first | (rw [decide_eq_true_iff]; omega) | (rw [decide_eq_false_iff_not]; omega)
                have q6 : decide (90 < (n3 : Int)) = true := by first | (rw [decide_eq_true_iff]; omega) | (rw [decide_eq_false_iff_not]; omega)
                have q6' : decide (90 < n3) = true := by first | (rw [decide_eq_true_iff]; omega) | (rw [decide_eq_false_iff_not]; omega)
                go_wp2
                go_ret
                exact HRT.out
                )
            · by_cases g3 : 90 < n4
              · first
                | (exfalso; omega)
                | (
                  have q5 : decide (50000 ≤ (N2 : Int)) = false := by first | (rw [decide_eq_true_iff]; omega) | (rw [decide_eq_false_iff_not]; omega)
                  have q5' : decide (50000 ≤ N2) = false := by first | (rw [decide_eq_true_iff]; omega) | (rw [decide_eq_false_iff_not]; omega)
                  have q6 : decide (90 < (n3 : Int)) = false := by first | (rw [decide_eq_true_iff]; omega) | (rw [decide_eq_false_iff_not]; omega)
                  have q6' : decide (90 < n3) = false := by first | (rw [decide_eq_true_iff]; omega) | (rw [decide_eq_false_iff_not]; omega)
                  have q7 : decide (90 < (n4 : Int)) = true := by first | (rw [decide_eq_true_iff]; omega) | (rw [decide_eq_false_iff_not]; omega)
                  have q7' : decide (90 < n4) = true := by first | (rw [decide_eq_true_iff]; omega) | (rw [decide_eq_false_iff_not]; omega)
                  go_wp2
                  go_ret
                  exact HRT.out
                  )
              · first
                | (exfalso; omega)
                | (
                  have q5 : decide (50000 ≤ (N2 : Int)) = false := by first | (rw [decide_eq_true_iff]; omega) | (rw [decide_eq_false_iff_not]; omega)
                  have q5' : decide (50000 ≤ N2) = false := by first | (rw [decide_eq_true_iff]; omega) | (rw [decide_eq_false_iff_not]; omega)
                  have q6 : decide (90 < (n3 : Int)) = false := by first | (rw [decide_eq_true_iff]; omega) | (rw [decide_eq_false_iff_not]; omega)
                  have q6' : decide (90 < n3) = false := by first | (rw [decide_eq_true_iff]; omega) | (rw [decide_eq_false_iff_not]; omega)
                  have q7 : decide (90 < (n4 : Int)) = false := by first | (rw [decide_eq_true_iff]; omega) | (rw [decide_eq_false_iff_not]; omega)
                  have q7' : decide (90 < n4) = false := by first | (rw [decide_eq_true_iff]; omega) | (rw [decide_eq_false_iff_not]; omega)
                  have HRET := Lib.hid (HRF.out (by omega) (by omega) (by omega))
                  go_wp2
                  go_ret
                  exact HRET.out
                  )
        · have HWs : Hid (wr.cell? ⟨w.heap.size, 4, none⟩ = some (.slice a4 n4 c4)) := Lib.hid ((HB2.out.cell (p := ⟨w.heap.size, 4, none⟩) HWZ.out).trans HW4.out)
          have ws := HWs.out
          have q0 : decide ((k2 : Int) < (n4 : Int)) = true := by first | (rw [decide_eq_true_iff]; omega) | (rw [decide_eq_false_iff_not]; omega)
          have q0' : decide (k2 < n4) = true := by first | (rw [decide_eq_true_iff]; omega) | (rw [decide_eq_false_iff_not]; omega)
          have q1 : decide ((k2 : Int) < 100) = true := by first | (rw [decide_eq_true_iff]; omega) | (rw [decide_eq_false_iff_not]; omega)
          have q1' : decide (k2 < 100) = true := by first | (rw [decide_eq_true_iff]; omega) | (rw [decide_eq_false_iff_not]; omega)
          have q2 : decide ((N2 : Int) < 50000) = false := by first | (rw [decide_eq_true_iff]; omega) | (rw [decide_eq_false_iff_not]; omega)
          have q2' : decide (N2 < 50000) = false := by first | (rw [decide_eq_true_iff]; omega) | (rw [decide_eq_false_iff_not]; omega)
          have HW3r : Hid (wr.cell? ⟨w.heap.size, 3, none⟩ = some (.slice a3 n3 c3)) := Lib.hid ((HB2.out.cell (p := ⟨w.heap.size, 3, none⟩) HWZ.out).trans HW3.out)
          have w3 := HW3r.out
          have HNK := Lib.hid hNk
          have HRT : Hid (PW POST (.returned (.bool true)) wr) := Lib.hid (HP1.out _ (HWB.out.trans (HB2.out.mono HWB.out.size)))
          have HRF : Hid (N2 < 50000 → n3 ≤ 90 → n4 ≤ 90 → PW POST (.returned (.bool false)) wr) := Lib.hid (fun g1 g2 g3 => HP0.out wr (HWB.out.trans (HB2.out.mono HWB.out.size)) (by
            have h1 := HNK.out
            obtain ⟨h2, h5⟩ := HF1.out
            have e4 := HN4.out
            have e3 := HN3.out
            obtain ⟨h3, h4⟩ : k1 = n3 ∧ k2 = n4 := by omega
            rw [← h3, ← h4]
            omega) g2 g3)
          clear hNk
          by_cases g1 : 50000 ≤ N2
          · first
            | (exfalso; omega)
            | (
              have q5 : decide (50000 ≤ (N2 : Int)) = true := by first | (rw [decide_eq_true_iff]; omega) | (rw [decide_eq_false_iff_not]; omega)
              have q5' : decide (50000 ≤ N2) = true := by first | (rw [decide_eq_true_iff]; omega) | (rw [decide_eq_false_iff_not]; omega)
              go_wp2
              go_ret
              exact HRT.out
              )
          · by_cases g2 : 90 < n3
            · first
              | (exfalso; omega)
              | (
                have q5 : decide (50000 ≤ (N2 : Int)) = false := by first | (rw [decide_eq_true_iff]; omega) | (rw [decide_eq_false_iff_not]; omega)
                have q5' : decide (50000 ≤ N2) = false := by first | (rw [decide_eq_true_iff]; omega) | (rw [decide_eq_false_iff_not]; omega)
                have q6 : decide (90 < (n3 : Int)) = true := by first | (rw [decide_eq_true_iff]; omega) | (rw [decide_eq_false_iff_not]; omega)
                have q6' : decide (90 < n3) = true := by first | (rw [decide_eq_true_iff]; omega) | (rw [decide_eq_false_iff_not]; omega)
                go_wp2
                go_ret
                exact HRT.out
                )
            · by_cases g3 : 90 < n4
              · first
                | (exfalso; omega)
                | (
                  have q5 : decide (50000 ≤ (N2 : Int)) = false := by first | (rw [decide_eq_true_iff]; omega) | (rw [decide_eq_false_iff_not]; omega)
                  have q5' : decide (50000 ≤ N2) = false := by first | (rw [decide_eq_true_iff]; omega) | (rw [decide_eq_false_iff_not]; omega)
                  have q6 : decide (90 < (n3 : Int)) = false := by first | (rw [decide_eq_true_iff]; omega) | (rw [decide_eq_false_iff_not]; omega)
                  have q6' : decide (90 < n3) = false := by first | (rw [decide_eq_true_iff]; omega) | (rw [decide_eq_false_iff_not]; omega)
                  have q7 : decide (90 < (n4 : Int)) = true := by first | (rw [decide_eq_true_iff]; omega) | (rw [decide_eq_false_iff_not]; omega)
                  have q7' : decide (90 < n4) = true := by first | (rw [decide_eq_true_iff]; omega) | (rw [decide_eq_false_iff_not]; omega)
                  go_wp2
                  go_ret
                  exact HRT.out
                  )
              · first
                | (exfalso; omega)
                | (
                  have q5 : decide (50000 ≤ (N2 : Int)) = false := by first | (rw [decide_eq_true_iff]; omega) | (rw [decide_eq_false_iff_not]; omega)
                  have q5' : decide (50000 ≤ N2) = false := by first | (rw [decide_eq_true_iff]; omega) | (rw [decide_eq_false_iff_not]; omega)
                  have q6 : decide (90 < (n3 : Int)) = false := by first | (rw [decide_eq_true_iff]; omega) | (rw [decide_eq_false_iff_not]; omega)
                  have q6' : decide (90 < n3) = false := by first | (rw [decide_eq_true_iff]; omega) | (rw [decide_eq_false_iff_not]; omega)
                  have q7 : decide (90 < (n4 : Int)) = false := by first | (rw [decide_eq_true_iff]; omega) | (rw [decide_eq_false_iff_not]; omega)
                  have q7' : decide (90 < n4) = false := by first | (rw [decide_eq_true_iff]; omega) | (rw [decide_eq_false_iff_not]; omega)
                  have HRET := Lib.hid (HRF.out (by omega) (by omega) (by omega))
                  go_wp2
                  go_ret
                  exact HRET.out
                  )
        · have hkl : k2 < ins.length := by rw [← HN4.out]; exact hx
          obtain ⟨b, o, hA, hbb, y0, y1, -, -, -⟩ := (HI'.out.below HB2.out).at_ hkl
          subst hA
          obtain ⟨y, hy⟩ : ∃ y, y = ins[k2] := ⟨_, rfl⟩
          rw [← hy] at y0 y1
          have HY0 := Lib.hid y0
          have HY1 := Lib.hid y1
          have HBL := Lib.hid hbb
          have HWL : Hid (w.heap.size < wr.heap.size) := Lib.hid (Nat.lt_of_lt_of_le HWZ.out HB2.out.size)
          have HWC : Hid (wr.cell? ⟨w.heap.size, 4, none⟩ = some (.slice (some ⟨b, o, none⟩) n4 c4)) := Lib.hid ((HB2.out.cell (p := ⟨w.heap.size, 4, none⟩) HWZ.out).trans HW4.out)
          have wc := HWC.out
          have hys : y.nm.size ≤ 140737488355328 ∧ y.b.length ≤ 140737488355328 := by rw [hy]; exact HLI.out _ (List.getElem_mem hkl)
          obtain ⟨hys1, hys2⟩ := hys
          have hsz := szL_at hkl
          rw [← hy] at hsz
          have hki : (k2 : Int) < (n4 : Int) := by omega
          have hk0 : (0 : Int) ≤ (k2 : Int) := by omega
          have hw1 : IntKind.i64.wrap ((N2 : Int) + (y.nm.size : Int)) = (N2 : Int) + (y.nm.size : Int) := IntWalk.i64_in _ (by omega)
          have hw2 : IntKind.i64.wrap ((N2 : Int) + (y.nm.size : Int) + (y.b.length : Int)) = (N2 : Int) + (y.nm.size : Int) + (y.b.length : Int) := IntWalk.i64_in _ (by omega)
          have HSZ := Lib.hid hsz
          have HNK := Lib.hid hNk
          clear hy y0 y1 hbb hsz hNk
          have q0 : decide ((k2 : Int) < (n4 : Int)) = true := by first | (rw [decide_eq_true_iff]; omega) | (rw [decide_eq_false_iff_not]; omega)
          have q0' : decide (k2 < n4) = true := by first | (rw [decide_eq_true_iff]; omega) | (rw [decide_eq_false_iff_not]; omega)
          have q1 : decide ((k2 : Int) < 100) = true := by first | (rw [decide_eq_true_iff]; omega) | (rw [decide_eq_false_iff_not]; omega)
          have q1' : decide (k2 < 100) = true := by first | (rw [decide_eq_true_iff]; omega) | (rw [decide_eq_false_iff_not]; omega)
          have q2 : decide ((N2 : Int) < 50000) = true := by first | (rw [decide_eq_true_iff]; omega) | (rw [decide_eq_false_iff_not]; omega)
          have q2' : decide (N2 < 50000) = true := by first | (rw [decide_eq_true_iff]; omega) | (rw [decide_eq_false_iff_not]; omega)
          go_wp2
          refine wp_region_held_drew (S := fun V => Below wr.heap.size wr V) (by kernel_rfl) ((Below.refl _ _).drew) (fun hS1 => ?_)
          refine wpAnyH_take (i := 0) (oi := ⟨some 64, _, _, _, _, _⟩) (v := .int .i64 (N2 : Int)) rfl (by kernel_rfl) (by kernel_rfl) (by kernel_rfl) (fun _ _ _ h => h) (.inl ⟨by kernel_rfl, fun V hS => by go_simp⟩) hS1 ?_
          simp only [Act.put, List.setIfInBounds_toArray, List.set_cons_zero, List.set_cons_succ]
          refine wpAnyH_take (i := 1) (oi := ⟨some 65, _, _, _, _, _⟩) (v := .pointer (some ⟨w.heap.size, 4, none⟩)) rfl (by kernel_rfl) (by kernel_rfl) (by kernel_rfl) (fun _ _ _ h => h) (.inl ⟨by kernel_rfl, fun V hS => by go_simp⟩) hS1 ?_
          simp only [Act.put, List.setIfInBounds_toArray, List.set_cons_zero, List.set_cons_succ]
          refine wpAnyH_take (i := 2) (oi := ⟨some 66, _, _, _, _, _⟩) (v := .slice (some ⟨b, o, none⟩) n4 c4) rfl (by kernel_rfl) (by kernel_rfl) (by kernel_rfl) (fun _ _ _ h => h) (.inl ⟨by kernel_rfl, fun V hS => by have hc := (hS.cell (p := ⟨w.heap.size, 4, none⟩) HWL.out).trans HWC.out; go_simp⟩) hS1 ?_
          simp only [Act.put, List.setIfInBounds_toArray, List.set_cons_zero, List.set_cons_succ]
          refine wpAnyH_take (i := 3) (oi := ⟨some 67, _, _, _, _, _⟩) (v := .int .i64 (k2 : Int)) rfl (by kernel_rfl) (by kernel_rfl) (by kernel_rfl) (fun _ _ _ h => h) (.inl ⟨by kernel_rfl, fun V hS => by go_simp⟩) hS1 ?_
          simp only [Act.put, List.setIfInBounds_toArray, List.set_cons_zero, List.set_cons_succ]
          refine wpAnyH_take (i := 4) (oi := ⟨some 68, _, _, _, _, _⟩) (v := .pointer (some ⟨b, o + k2 * 2, none⟩)) rfl (by kernel_rfl) (by kernel_rfl) (by kernel_rfl) (fun _ _ _ h => h) (.inl ⟨by kernel_rfl, fun V hS => by go_simp⟩) hS1 ?_
          simp only [Act.put, List.setIfInBounds_toArray, List.set_cons_zero, List.set_cons_succ]
          refine wpAnyH_take (i := 5) (oi := ⟨some 69, _, _, _, _, _⟩) (v := .pointer (some ⟨b, o + k2 * 2, none⟩)) rfl (by kernel_rfl) (by kernel_rfl) (by kernel_rfl) (fun _ _ _ h => h) (.inl ⟨by kernel_rfl, fun V hS => by go_simp⟩) hS1 ?_
          simp only [Act.put, List.setIfInBounds_toArray, List.set_cons_zero, List.set_cons_succ]
          refine wpAnyH_take (i := 6) (oi := ⟨some 70, _, _, _, _, _⟩) (v := .string y.nm) rfl (by kernel_rfl) (by kernel_rfl) (by kernel_rfl) (fun _ _ _ h => h) (.inl ⟨by kernel_rfl, fun V hS => by have hc := (hS.cell (p := ⟨b, o + k2 * 2, none⟩) HBL.out).trans HY0.out; go_simp⟩) hS1 ?_
          simp only [Act.put, List.setIfInBounds_toArray, List.set_cons_zero, List.set_cons_succ]
          refine wpAnyH_take (i := 7) (oi := ⟨some 71, _, _, _, _, _⟩) (v := .int .i64 (y.nm.size : Int)) rfl (by kernel_rfl) (by kernel_rfl) (by kernel_rfl) (fun _ _ _ h => h) (.inl ⟨by kernel_rfl, fun V hS => by go_simp⟩) hS1 ?_
          simp only [Act.put, List.setIfInBounds_toArray, List.set_cons_zero, List.set_cons_succ]
          refine wpAnyH_take (i := 8) (oi := ⟨some 72, _, _, _, _, _⟩) (v := .int .i64 ((N2 : Int) + (y.nm.size : Int))) rfl (by kernel_rfl) (by kernel_rfl) (by kernel_rfl) (fun _ _ _ h => h) (.inl ⟨by kernel_rfl, fun V hS => by go_simp⟩) hS1 ?_
          simp only [Act.put, List.setIfInBounds_toArray, List.set_cons_zero, List.set_cons_succ]
          refine wpAnyH_take (i := 9) (oi := ⟨some 73, _, _, _, _, _⟩) (v := .pointer (some ⟨w.heap.size, 4, none⟩)) rfl (by kernel_rfl) (by kernel_rfl) (by kernel_rfl) (fun _ _ _ h => h) (.inl ⟨by kernel_rfl, fun V hS => by go_simp⟩) hS1 ?_
          simp only [Act.put, List.setIfInBounds_toArray, List.set_cons_zero, List.set_cons_succ]
          refine wpAnyH_take (i := 10) (oi := ⟨some 74, _, _, _, _, _⟩) (v := .slice (some ⟨b, o, none⟩) n4 c4) rfl (by kernel_rfl) (by kernel_rfl) (by kernel_rfl) (fun _ _ _ h => h) (.inl ⟨by kernel_rfl, fun V hS => by have hc := (hS.cell (p := ⟨w.heap.size, 4, none⟩) HWL.out).trans HWC.out; go_simp⟩) hS1 ?_
          simp only [Act.put, List.setIfInBounds_toArray, List.set_cons_zero, List.set_cons_succ]
          refine wpAnyH_take (i := 11) (oi := ⟨some 75, _, _, _, _, _⟩) (v := .int .i64 (k2 : Int)) rfl (by kernel_rfl) (by kernel_rfl) (by kernel_rfl) (fun _ _ _ h => h) (.inl ⟨by kernel_rfl, fun V hS => by go_simp⟩) hS1 ?_
          simp only [Act.put, List.setIfInBounds_toArray, List.set_cons_zero, List.set_cons_succ]
          refine wpAnyH_take (i := 12) (oi := ⟨some 76, _, _, _, _, _⟩) (v := .pointer (some ⟨b, o + k2 * 2, none⟩)) rfl (by kernel_rfl) (by kernel_rfl) (by kernel_rfl) (fun _ _ _ h => h) (.inl ⟨by kernel_rfl, fun V hS => by go_simp⟩) hS1 ?_
          simp only [Act.put, List.setIfInBounds_toArray, List.set_cons_zero, List.set_cons_succ]
          refine wpAnyH_take (i := 13) (oi := ⟨some 77, _, _, _, _, _⟩) (v := .pointer (some ⟨b, o + k2 * 2 + 1, none⟩)) rfl (by kernel_rfl) (by kernel_rfl) (by kernel_rfl) (fun _ _ _ h => h) (.inl ⟨by kernel_rfl, fun V hS => by go_simp⟩) hS1 ?_
          simp only [Act.put, List.setIfInBounds_toArray, List.set_cons_zero, List.set_cons_succ]
          refine wpAnyH_take (i := 14) (oi := ⟨some 78, _, _, _, _, _⟩) (v := .slice y.A y.b.length y.c) rfl (by kernel_rfl) (by kernel_rfl) (by kernel_rfl) (fun _ _ _ h => h) (.inl ⟨by kernel_rfl, fun V hS => by have hc := (hS.cell (p := ⟨b, o + k2 * 2 + 1, none⟩) HBL.out).trans HY1.out; go_simp⟩) hS1 ?_
          simp only [Act.put, List.setIfInBounds_toArray, List.set_cons_zero, List.set_cons_succ]
          refine wpAnyH_take (i := 15) (oi := ⟨some 79, _, _, _, _, _⟩) (v := .int .i64 (y.b.length : Int)) rfl (by kernel_rfl) (by kernel_rfl) (by kernel_rfl) (fun _ _ _ h => h) (.inl ⟨by kernel_rfl, fun V hS => by go_simp⟩) hS1 ?_
          simp only [Act.put, List.setIfInBounds_toArray, List.set_cons_zero, List.set_cons_succ]
          refine wpAnyH_take (i := 16) (oi := ⟨some 80, _, _, _, _, _⟩) (v := .int .i64 ((N2 : Int) + (y.nm.size : Int) + (y.b.length : Int))) rfl (by kernel_rfl) (by kernel_rfl) (by kernel_rfl) (fun _ _ _ h => h) (.inl ⟨by kernel_rfl, fun V hS => by go_simp⟩) hS1 ?_
          simp only [Act.put, List.setIfInBounds_toArray, List.set_cons_zero, List.set_cons_succ]
          refine wpAnyH_take (i := 17) (oi := ⟨some 3, _, _, _, _, _⟩) (v := .int .i64 ((N2 : Int) + (y.nm.size : Int) + (y.b.length : Int))) rfl (by kernel_rfl) (by kernel_rfl) (by kernel_rfl) (fun _ _ _ h => h) (.inl ⟨by kernel_rfl, fun V hS => by go_simp⟩) hS1 ?_
          simp only [Act.put, List.setIfInBounds_toArray, List.set_cons_zero, List.set_cons_succ]
          refine wpAnyH_done (by kernel_rfl) ?_ _
          go_wp2
          refine ⟨⟨k2 + 1, N2 + y.nm.size + y.b.length, by omega, by push_cast; rfl, by push_cast; rfl, by have h1 := HSZ.out; have h2 := HNK.out; omega, by omega, Lib.hid (HB2.out.trans (hS1.mono HB2.out.size))⟩, ?_⟩
          simp [intOf]
          omega
    · have HWs : Hid (wr.cell? ⟨w.heap.size, 3, none⟩ = some (.slice a3 n3 c3)) := Lib.hid ((HB1.out.cell (p := ⟨w.heap.size, 3, none⟩) HWZ.out).trans HW3.out)
      have ws := HWs.out
      have q0 : decide ((k1 : Int) < (n3 : Int)) = true := by first | (rw [decide_eq_true_iff]; omega) | (rw [decide_eq_false_iff_not]; omega)
      have q0' : decide (k1 < n3) = true := by first | (rw [decide_eq_true_iff]; omega) | (rw [decide_eq_false_iff_not]; omega)
      have q1 : decide ((k1 : Int) < 100) = true := by first | (rw [decide_eq_true_iff]; omega) | (rw [decide_eq_false_iff_not]; omega)
      have q1' : decide (k1 < 100) = true := by first | (rw [decide_eq_true_iff]; omega) | (rw [decide_eq_false_iff_not]; omega)
      have q2 : decide ((N1 : Int) < 50000) = false := by first | (rw [decide_eq_true_iff]; omega) | (rw [decide_eq_false_iff_not]; omega)
      have q2' : decide (N1 < 50000) = false := by first | (rw [decide_eq_true_iff]; omega) | (rw [decide_eq_false_iff_not]; omega)
      have HF1 : Hid (N1 = N0 + szL tg k1 ∧ (k1 = n3 ∨ 100 ≤ k1 ∨ 50000 ≤ N1)) := Lib.hid ⟨hNk, by omega⟩
      clear hNk
      go_wp2
      clear ws HWs q0 q0' q1 q1' q2 q2'
      go_loopw [3, 5] (fun s3 s4 wr => ∃ k N : Nat, k ≤ n4 ∧ s3 = .int .i64 (N : Int) ∧ s4 = .int .i64 (k : Int) ∧ N = N1 + szL ins k ∧ N ≤ 1000000000000000 ∧ Hid (Below WA.heap.size WA wr)) (fun _ i _ => n4 - (intOf i).toNat)
      case atStart => exact ⟨0, N1, Nat.zero_le _, rfl, rfl, by simp [szL], by omega, HB1⟩
      case round =>
        obtain ⟨k2, N2, hk, rfl, rfl, hNk, hNb, HB2⟩ := hrel
        rcases (by omega : k2 = n4 ∨ (k2 < n4 ∧ 100 ≤ k2) ∨ (k2 < n4 ∧ k2 < 100 ∧ 50000 ≤ N2) ∨ (k2 < n4 ∧ k2 < 100 ∧ N2 < 50000)) with hx | ⟨hx, hx2⟩ | ⟨hx, hx2, hx3⟩ | ⟨hx, hx2, hx3⟩
        · have HWs : Hid (wr.cell? ⟨w.heap.size, 4, none⟩ = some (.slice a4 n4 c4)) := Lib.hid ((HB2.out.cell (p := ⟨w.heap.size, 4, none⟩) HWZ.out).trans HW4.out)
          have ws := HWs.out
          have q0 : decide ((k2 : Int) < (n4 : Int)) = false := by first | (rw [decide_eq_true_iff]; omega) | (rw [decide_eq_false_iff_not]; omega)
          have q0' : decide (k2 < n4) = false := by first | (rw [decide_eq_true_iff]; omega) | (rw [decide_eq_false_iff_not]; omega)
          have HW3r : Hid (wr.cell? ⟨w.heap.size, 3, none⟩ = some (.slice a3 n3 c3)) := Lib.hid ((HB2.out.cell (p := ⟨w.heap.size, 3, none⟩) HWZ.out).trans HW3.out)
          have w3 := HW3r.out
          have HNK := Lib.hid hNk
          have HRT : Hid (PW POST (.returned (.bool true)) wr) := Lib.hid (HP1.out _ (HWB.out.trans (HB2.out.mono HWB.out.size)))
          have HRF : Hid (N2 < 50000 → n3 ≤ 90 → n4 ≤ 90 → PW POST (.returned (.bool false)) wr) := Lib.hid (fun g1 g2 g3 => HP0.out wr (HWB.out.trans (HB2.out.mono HWB.out.size)) (by
            have h1 := HNK.out
            obtain ⟨h2, h5⟩ := HF1.out
            have e4 := HN4.out
            have e3 := HN3.out
            obtain ⟨h3, h4⟩ : k1 = n3 ∧ k2 = n4 := by omega
            rw [← h3, ← h4]
            omega) g2 g3)
          clear hNk
          by_cases g1 : 50000 ≤ N2
          · first
            | (exfalso; omega)
            | (
              have q5 : decide (50000 ≤ (N2 : Int)) = true := by first | (rw [decide_eq_true_iff]; omega) | (rw [decide_eq_false_iff_not]; omega)
              have q5' : decide (50000 ≤ N2) = true := by first | (rw [decide_eq_true_iff]; omega) | (rw [decide_eq_false_iff_not]; omega)
              go_wp2
              go_ret
              exact HRT.out
              )
          · by_cases g2 : 90 < n3
            · first
              | (exfalso; omega)
              | (
                have q5 : decide (50000 ≤ (N2 : Int)) = false := by first | (rw [decide_eq_true_iff]; omega) | (rw [decide_eq_false_iff_not]; omega)
                have q5' : decide (50000 ≤ N2) = false := by first | (rw [decide_eq_true_iff]; omega) | (rw [decide_eq_false_iff_not]; omega)
                have q6 : decide (90 < (n3 : Int)) = true := by first | (rw [decide_eq_true_iff]; omega) | (rw [decide_eq_false_iff_not]; omega)
                have q6' : decide (90 < n3) = true := by first | (rw [decide_eq_true_iff]; omega) | (rw [decide_eq_false_iff_not]; omega)
                go_wp2
                go_ret
                exact HRT.out
                )
            · by_cases g3 : 90 < n4
              · first
                | (exfalso; omega)
                | (
                  have q5 : decide (50000 ≤ (N2 : Int)) = false := by first | (rw [decide_eq_true_iff]; omega) | (rw [decide_eq_false_iff_not]; omega)
                  have q5' : decide (50000 ≤ N2) = false := by first | (rw [decide_eq_true_iff]; omega) | (rw [decide_eq_false_iff_not]; omega)
                  have q6 : decide (90 < (n3 : Int)) = false := by first | (rw [decide_eq_true_iff]; omega) | (rw [decide_eq_false_iff_not]; omega)
                  have q6' : decide (90 < n3) = false := by first | (rw [decide_eq_true_iff]; omega) | (rw [decide_eq_false_iff_not]; omega)
                  have q7 : decide (90 < (n4 : Int)) = true := by first | (rw [decide_eq_true_iff]; omega) | (rw [decide_eq_false_iff_not]; omega)
                  have q7' : decide (90 < n4) = true := by first | (rw [decide_eq_true_iff]; omega) | (rw [decide_eq_false_iff_not]; omega)
                  go_wp2
                  go_ret
                  exact HRT.out
                  )
              · first
                | (exfalso; omega)
                | (
                  have q5 : decide (50000 ≤ (N2 : Int)) = false := by first | (rw [decide_eq_true_iff]; omega) | (rw [decide_eq_false_iff_not]; omega)
                  have q5' : decide (50000 ≤ N2) = false := by first | (rw [decide_eq_true_iff]; omega) | (rw [decide_eq_false_iff_not]; omega)
                  have q6 : decide (90 < (n3 : Int)) = false := by first | (rw [decide_eq_true_iff]; omega) | (rw [decide_eq_false_iff_not]; omega)
                  have q6' : decide (90 < n3) = false := by first | (rw [decide_eq_true_iff]; omega) | (rw [decide_eq_false_iff_not]; omega)
                  have q7 : decide (90 < (n4 : Int)) = false := by first | (rw [decide_eq_true_iff]; omega) | (rw [decide_eq_false_iff_not]; omega)
                  have q7' : decide (90 < n4) = false := by first | (rw [decide_eq_true_iff]; omega) | (rw [decide_eq_false_iff_not]; omega)
                  have HRET := Lib.hid (HRF.out (by omega) (by omega) (by omega))
                  go_wp2
                  go_ret
                  exact HRET.out
                  )
        · have HWs : Hid (wr.cell? ⟨w.heap.size, 4, none⟩ = some (.slice a4 n4 c4)) := Lib.hid ((HB2.out.cell (p := ⟨w.heap.size, 4, none⟩) HWZ.out).trans HW4.out)
          have ws := HWs.out
          have q0 : decide ((k2 : Int) < (n4 : Int)) = true := by first | (rw [decide_eq_true_iff]; omega) | (rw [decide_eq_false_iff_not]; omega)
          have q0' : decide (k2 < n4) = true := by first | (rw [decide_eq_true_iff]; omega) | (rw [decide_eq_false_iff_not]; omega)
          have q1 : decide ((k2 : Int) < 100) = false := by first | (rw [decide_eq_true_iff]; omega) | (rw [decide_eq_false_iff_not]; omega)
          have q1' : decide (k2 < 100) = false := by first | (rw [decide_eq_true_iff]; omega) | (rw [decide_eq_false_iff_not]; omega)
          have HW3r : Hid (wr.cell? ⟨w.heap.size, 3, none⟩ = some (.slice a3 n3 c3)) := Lib.hid ((HB2.out.cell (p := ⟨w.heap.size, 3, none⟩) HWZ.out).trans HW3.out)
          have w3 := HW3r.out
          have HNK := Lib.hid hNk
          have HRT : Hid (PW POST (.returned (.bool true)) wr) := Lib.hid (HP1.out _ (HWB.out.trans (HB2.out.mono HWB.out.size)))
          have HRF : Hid (N2 < 50000 → n3 ≤ 90 → n4 ≤ 90 → PW POST (.returned (.bool false)) wr) := Lib.hid (fun g1 g2 g3 => HP0.out wr (HWB.out.trans (HB2.out.mono HWB.out.size)) (by
            have h1 := HNK.out
            obtain ⟨h2, h5⟩ := HF1.out
            have e4 := HN4.out
            have e3 := HN3.out
            obtain ⟨h3, h4⟩ : k1 = n3 ∧ k2 = n4 := by omega
            rw [← h3, ← h4]
            omega) g2 g3)
          clear hNk
          by_cases g1 : 50000 ≤ N2
          · first
            | (exfalso; omega)
            | (
              have q5 : decide (50000 ≤ (N2 : Int)) = true := by first | (rw [decide_eq_true_iff]; omega) | (rw [decide_eq_false_iff_not]; omega)
              have q5' : decide (50000 ≤ N2) = true := by first | (rw [decide_eq_true_iff]; omega) | (rw [decide_eq_false_iff_not]; omega)
              go_wp2
              go_ret
              exact HRT.out
              )
          · by_cases g2 : 90 < n3
            · first
              | (exfalso; omega)
              | (
                have q5 : decide (50000 ≤ (N2 : Int)) = false := by first | (rw [decide_eq_true_iff]; omega) | (rw [decide_eq_false_iff_not]; omega)
                have q5' : decide (50000 ≤ N2) = false := by first | (rw [decide_eq_true_iff]; omega) | (rw [decide_eq_false_iff_not]; omega)
                have q6 : decide (90 < (n3 : Int)) = true := by first | (rw [decide_eq_true_iff]; omega) | (rw [decide_eq_false_iff_not]; omega)
                have q6' : decide (90 < n3) = true := by first | (rw [decide_eq_true_iff]; omega) | (rw [decide_eq_false_iff_not]; omega)
                go_wp2
                go_ret
                exact HRT.out
                )
            · by_cases g3 : 90 < n4
              · first
                | (exfalso; omega)
                | (
                  have q5 : decide (50000 ≤ (N2 : Int)) = false := by first | (rw [decide_eq_true_iff]; omega) | (rw [decide_eq_false_iff_not]; omega)
                  have q5' : decide (50000 ≤ N2) = false := by first | (rw [decide_eq_true_iff]; omega) | (rw [decide_eq_false_iff_not]; omega)
                  have q6 : decide (90 < (n3 : Int)) = false := by first | (rw [decide_eq_true_iff]; omega) | (rw [decide_eq_false_iff_not]; omega)
                  have q6' : decide (90 < n3) = false := by first | (rw [decide_eq_true_iff]; omega) | (rw [decide_eq_false_iff_not]; omega)
                  have q7 : decide (90 < (n4 : Int)) = true := by first | (rw [decide_eq_true_iff]; omega) | (rw [decide_eq_false_iff_not]; omega)
                  have q7' : decide (90 < n4) = true := by first | (rw [decide_eq_true_iff]; omega) | (rw [decide_eq_false_iff_not]; omega)
                  go_wp2
                  go_ret
                  exact HRT.out
                  )
              · first
                | (exfalso; omega)
                | (
                  have q5 : decide (50000 ≤ (N2 : Int)) = false := by first | (rw [decide_eq_true_iff]; omega) | (rw [decide_eq_false_iff_not]; omega)
                  have q5' : decide (50000 ≤ N2) = false := by first | (rw [decide_eq_true_iff]; omega) | (rw [decide_eq_false_iff_not]; omega)
                  have q6 : decide (90 < (n3 : Int)) = false := by first | (rw [decide_eq_true_iff]; omega) | (rw [decide_eq_false_iff_not]; omega)
                  have q6' : decide (90 < n3) = false := by first | (rw [decide_eq_true_iff]; omega) | (rw [decide_eq_false_iff_not]; omega)
                  have q7 : decide (90 < (n4 : Int)) = false := by first | (rw [decide_eq_true_iff]; omega) | (rw [decide_eq_false_iff_not]; omega)
                  have q7' : decide (90 < n4) = false := by first | (rw [decide_eq_true_iff]; omega) | (rw [decide_eq_false_iff_not]; omega)
                  have HRET := Lib.hid (HRF.out (by omega) (by omega) (by omega))
                  go_wp2
                  go_ret
                  exact HRET.out
                  )
        · have HWs : Hid (wr.cell? ⟨w.heap.size, 4, none⟩ = some (.slice a4 n4 c4)) := Lib.hid ((HB2.out.cell (p := ⟨w.heap.size, 4, none⟩) HWZ.out).trans HW4.out)
          have ws := HWs.out
          have q0 : decide ((k2 : Int) < (n4 : Int)) = true := by first | (rw [decide_eq_true_iff]; omega) | (rw [decide_eq_false_iff_not]; omega)
          have q0' : decide (k2 < n4) = true := by first | (rw [decide_eq_true_iff]; omega) | (rw [decide_eq_false_iff_not]; omega)
          have q1 : decide ((k2 : Int) < 100) = true := by first | (rw [decide_eq_true_iff]; omega) | (rw [decide_eq_false_iff_not]; omega)
          have q1' : decide (k2 < 100) = true := by first | (rw [decide_eq_true_iff]; omega) | (rw [decide_eq_false_iff_not]; omega)
          have q2 : decide ((N2 : Int) < 50000) = false := by first | (rw [decide_eq_true_iff]; omega) | (rw [decide_eq_false_iff_not]; omega)
          have q2' : decide (N2 < 50000) = false := by first | (rw [decide_eq_true_iff]; omega) | (rw [decide_eq_false_iff_not]; omega)
          have HW3r : Hid (wr.cell? ⟨w.heap.size, 3, none⟩ = some (.slice a3 n3 c3)) := Lib.hid ((HB2.out.cell (p := ⟨w.heap.size, 3, none⟩) HWZ.out).trans HW3.out)
          have w3 := HW3r.out
          have HNK := Lib.hid hNk
          have HRT : Hid (PW POST (.returned (.bool true)) wr) := Lib.hid (HP1.out _ (HWB.out.trans (HB2.out.mono HWB.out.size)))
          have HRF : Hid (N2 < 50000 → n3 ≤ 90 → n4 ≤ 90 → PW POST (.returned (.bool false)) wr) := Lib.hid (fun g1 g2 g3 => HP0.out wr (HWB.out.trans (HB2.out.mono HWB.out.size)) (by
            have h1 := HNK.out
            obtain ⟨h2, h5⟩ := HF1.out
            have e4 := HN4.out
            have e3 := HN3.out
            obtain ⟨h3, h4⟩ : k1 = n3 ∧ k2 = n4 := by omega
            rw [← h3, ← h4]
            omega) g2 g3)
          clear hNk
          by_cases g1 : 50000 ≤ N2
          · first
            | (exfalso; omega)
            | (
              have q5 : decide (50000 ≤ (N2 : Int)) = true := by first | (rw [decide_eq_true_iff]; omega) | (rw [decide_eq_false_iff_not]; omega)
              have q5' : decide (50000 ≤ N2) = true := by first | (rw [decide_eq_true_iff]; omega) | (rw [decide_eq_false_iff_not]; omega)
              go_wp2
              go_ret
              exact HRT.out
              )
          · by_cases g2 : 90 < n3
            · first
              | (exfalso; omega)
              | (
                have q5 : decide (50000 ≤ (N2 : Int)) = false := by first | (rw [decide_eq_true_iff]; omega) | (rw [decide_eq_false_iff_not]; omega)
                have q5' : decide (50000 ≤ N2) = false := by first | (rw [decide_eq_true_iff]; omega) | (rw [decide_eq_false_iff_not]; omega)
                have q6 : decide (90 < (n3 : Int)) = true := by first | (rw [decide_eq_true_iff]; omega) | (rw [decide_eq_false_iff_not]; omega)
                have q6' : decide (90 < n3) = true := by first | (rw [decide_eq_true_iff]; omega) | (rw [decide_eq_false_iff_not]; omega)
                go_wp2
                go_ret
                exact HRT.out
                )
            · by_cases g3 : 90 < n4
              · first
                | (exfalso; omega)
                | (
                  have q5 : decide (50000 ≤ (N2 : Int)) = false := by first | (rw [decide_eq_true_iff]; omega) | (rw [decide_eq_false_iff_not]; omega)
                  have q5' : decide (50000 ≤ N2) = false := by first | (rw [decide_eq_true_iff]; omega) | (rw [decide_eq_false_iff_not]; omega)
                  have q6 : decide (90 < (n3 : Int)) = false := by first | (rw [decide_eq_true_iff]; omega) | (rw [decide_eq_false_iff_not]; omega)
                  have q6' : decide (90 < n3) = false := by first | (rw [decide_eq_true_iff]; omega) | (rw [decide_eq_false_iff_not]; omega)
                  have q7 : decide (90 < (n4 : Int)) = true := by first | (rw [decide_eq_true_iff]; omega) | (rw [decide_eq_false_iff_not]; omega)
                  have q7' : decide (90 < n4) = true := by first | (rw [decide_eq_true_iff]; omega) | (rw [decide_eq_false_iff_not]; omega)
                  go_wp2
                  go_ret
                  exact HRT.out
                  )
              · first
                | (exfalso; omega)
                | (
                  have q5 : decide (50000 ≤ (N2 : Int)) = false := by first | (rw [decide_eq_true_iff]; omega) | (rw [decide_eq_false_iff_not]; omega)
                  have q5' : decide (50000 ≤ N2) = false := by first | (rw [decide_eq_true_iff]; omega) | (rw [decide_eq_false_iff_not]; omega)
                  have q6 : decide (90 < (n3 : Int)) = false := by first | (rw [decide_eq_true_iff]; omega) | (rw [decide_eq_false_iff_not]; omega)
                  have q6' : decide (90 < n3) = false := by first | (rw [decide_eq_true_iff]; omega) | (rw [decide_eq_false_iff_not]; omega)
                  have q7 : decide (90 < (n4 : Int)) = false := by first | (rw [decide_eq_true_iff]; omega) | (rw [decide_eq_false_iff_not]; omega)
                  have q7' : decide (90 < n4) = false := by first | (rw [decide_eq_true_iff]; omega) | (rw [decide_eq_false_iff_not]; omega)
                  have HRET := Lib.hid (HRF.out (by omega) (by omega) (by omega))
                  go_wp2
                  go_ret
                  exact HRET.out
                  )
        · have hkl : k2 < ins.length := by rw [← HN4.out]; exact hx
          obtain ⟨b, o, hA, hbb, y0, y1, -, -, -⟩ := (HI'.out.below HB2.out).at_ hkl
          subst hA
          obtain ⟨y, hy⟩ : ∃ y, y = ins[k2] := ⟨_, rfl⟩
          rw [← hy] at y0 y1
          have HY0 := Lib.hid y0
          have HY1 := Lib.hid y1
          have HBL := Lib.hid hbb
          have HWL : Hid (w.heap.size < wr.heap.size) := Lib.hid (Nat.lt_of_lt_of_le HWZ.out HB2.out.size)
          have HWC : Hid (wr.cell? ⟨w.heap.size, 4, none⟩ = some (.slice (some ⟨b, o, none⟩) n4 c4)) := Lib.hid ((HB2.out.cell (p := ⟨w.heap.size, 4, none⟩) HWZ.out).trans HW4.out)
          have wc := HWC.out
          have hys : y.nm.size ≤ 140737488355328 ∧ y.b.length ≤ 140737488355328 := by rw [hy]; exact HLI.out _ (List.getElem_mem hkl)
          obtain ⟨hys1, hys2⟩ := hys
          have hsz := szL_at hkl
          rw [← hy] at hsz
          have hki : (k2 : Int) < (n4 : Int) := by omega
          have hk0 : (0 : Int) ≤ (k2 : Int) := by omega
          have hw1 : IntKind.i64.wrap ((N2 : Int) + (y.nm.size : Int)) = (N2 : Int) + (y.nm.size : Int) := IntWalk.i64_in _ (by omega)
          have hw2 : IntKind.i64.wrap ((N2 : Int) + (y.nm.size : Int) + (y.b.length : Int)) = (N2 : Int) + (y.nm.size : Int) + (y.b.length : Int) := IntWalk.i64_in _ (by omega)
          have HSZ := Lib.hid hsz
          have HNK := Lib.hid hNk
          clear hy y0 y1 hbb hsz hNk
          have q0 : decide ((k2 : Int) < (n4 : Int)) = true := by first | (rw [decide_eq_true_iff]; omega) | (rw [decide_eq_false_iff_not]; omega)
          have q0' : decide (k2 < n4) = true := by first | (rw [decide_eq_true_iff]; omega) | (rw [decide_eq_false_iff_not]; omega)
          have q1 : decide ((k2 : Int) < 100) = true := by first | (rw [decide_eq_true_iff]; omega) | (rw [decide_eq_false_iff_not]; omega)
          have q1' : decide (k2 < 100) = true := by first | (rw [decide_eq_true_iff]; omega) | (rw [decide_eq_false_iff_not]; omega)
          have q2 : decide ((N2 : Int) < 50000) = true := by first | (rw [decide_eq_true_iff]; omega) | (rw [decide_eq_false_iff_not]; omega)
          have q2' : decide (N2 < 50000) = true := by first | (rw [decide_eq_true_iff]; omega) | (rw [decide_eq_false_iff_not]; omega)
          go_wp2
          refine wp_region_held_drew (S := fun V => Below wr.heap.size wr V) (by kernel_rfl) ((Below.refl _ _).drew) (fun hS1 => ?_)
          refine wpAnyH_take (i := 0) (oi := ⟨some 64, _, _, _, _, _⟩) (v := .int .i64 (N2 : Int)) rfl (by kernel_rfl) (by kernel_rfl) (by kernel_rfl) (fun _ _ _ h => h) (.inl ⟨by kernel_rfl, fun V hS => by go_simp⟩) hS1 ?_
          simp only [Act.put, List.setIfInBounds_toArray, List.set_cons_zero, List.set_cons_succ]
          refine wpAnyH_take (i := 1) (oi := ⟨some 65, _, _, _, _, _⟩) (v := .pointer (some ⟨w.heap.size, 4, none⟩)) rfl (by kernel_rfl) (by kernel_rfl) (by kernel_rfl) (fun _ _ _ h => h) (.inl ⟨by kernel_rfl, fun V hS => by go_simp⟩) hS1 ?_
          simp only [Act.put, List.setIfInBounds_toArray, List.set_cons_zero, List.set_cons_succ]
          refine wpAnyH_take (i := 2) (oi := ⟨some 66, _, _, _, _, _⟩) (v := .slice (some ⟨b, o, none⟩) n4 c4) rfl (by kernel_rfl) (by kernel_rfl) (by kernel_rfl) (fun _ _ _ h => h) (.inl ⟨by kernel_rfl, fun V hS => by have hc := (hS.cell (p := ⟨w.heap.size, 4, none⟩) HWL.out).trans HWC.out; go_simp⟩) hS1 ?_
          simp only [Act.put, List.setIfInBounds_toArray, List.set_cons_zero, List.set_cons_succ]
          refine wpAnyH_take (i := 3) (oi := ⟨some 67, _, _, _, _, _⟩) (v := .int .i64 (k2 : Int)) rfl (by kernel_rfl) (by kernel_rfl) (by kernel_rfl) (fun _ _ _ h => h) (.inl ⟨by kernel_rfl, fun V hS => by go_simp⟩) hS1 ?_
          simp only [Act.put, List.setIfInBounds_toArray, List.set_cons_zero, List.set_cons_succ]
          refine wpAnyH_take (i := 4) (oi := ⟨some 68, _, _, _, _, _⟩) (v := .pointer (some ⟨b, o + k2 * 2, none⟩)) rfl (by kernel_rfl) (by kernel_rfl) (by kernel_rfl) (fun _ _ _ h => h) (.inl ⟨by kernel_rfl, fun V hS => by go_simp⟩) hS1 ?_
          simp only [Act.put, List.setIfInBounds_toArray, List.set_cons_zero, List.set_cons_succ]
          refine wpAnyH_take (i := 5) (oi := ⟨some 69, _, _, _, _, _⟩) (v := .pointer (some ⟨b, o + k2 * 2, none⟩)) rfl (by kernel_rfl) (by kernel_rfl) (by kernel_rfl) (fun _ _ _ h => h) (.inl ⟨by kernel_rfl, fun V hS => by go_simp⟩) hS1 ?_
          simp only [Act.put, List.setIfInBounds_toArray, List.set_cons_zero, List.set_cons_succ]
          refine wpAnyH_take (i := 6) (oi := ⟨some 70, _, _, _, _, _⟩) (v := .string y.nm) rfl (by kernel_rfl) (by kernel_rfl) (by kernel_rfl) (fun _ _ _ h => h) (.inl ⟨by kernel_rfl, fun V hS => by have hc := (hS.cell (p := ⟨b, o + k2 * 2, none⟩) HBL.out).trans HY0.out; go_simp⟩) hS1 ?_
          simp only [Act.put, List.setIfInBounds_toArray, List.set_cons_zero, List.set_cons_succ]
          refine wpAnyH_take (i := 7) (oi := ⟨some 71, _, _, _, _, _⟩) (v := .int .i64 (y.nm.size : Int)) rfl (by kernel_rfl) (by kernel_rfl) (by kernel_rfl) (fun _ _ _ h => h) (.inl ⟨by kernel_rfl, fun V hS => by go_simp⟩) hS1 ?_
          simp only [Act.put, List.setIfInBounds_toArray, List.set_cons_zero, List.set_cons_succ]
          refine wpAnyH_take (i := 8) (oi := ⟨some 72, _, _, _, _, _⟩) (v := .int .i64 ((N2 : Int) + (y.nm.size : Int))) rfl (by kernel_rfl) (by kernel_rfl) (by kernel_rfl) (fun _ _ _ h => h) (.inl ⟨by kernel_rfl, fun V hS => by go_simp⟩) hS1 ?_
          simp only [Act.put, List.setIfInBounds_toArray, List.set_cons_zero, List.set_cons_succ]
          refine wpAnyH_take (i := 9) (oi := ⟨some 73, _, _, _, _, _⟩) (v := .pointer (some ⟨w.heap.size, 4, none⟩)) rfl (by kernel_rfl) (by kernel_rfl) (by kernel_rfl) (fun _ _ _ h => h) (.inl ⟨by kernel_rfl, fun V hS => by go_simp⟩) hS1 ?_
          simp only [Act.put, List.setIfInBounds_toArray, List.set_cons_zero, List.set_cons_succ]
          refine wpAnyH_take (i := 10) (oi := ⟨some 74, _, _, _, _, _⟩) (v := .slice (some ⟨b, o, none⟩) n4 c4) rfl (by kernel_rfl) (by kernel_rfl) (by kernel_rfl) (fun _ _ _ h => h) (.inl ⟨by kernel_rfl, fun V hS => by have hc := (hS.cell (p := ⟨w.heap.size, 4, none⟩) HWL.out).trans HWC.out; go_simp⟩) hS1 ?_
          simp only [Act.put, List.setIfInBounds_toArray, List.set_cons_zero, List.set_cons_succ]
          refine wpAnyH_take (i := 11) (oi := ⟨some 75, _, _, _, _, _⟩) (v := .int .i64 (k2 : Int)) rfl (by kernel_rfl) (by kernel_rfl) (by kernel_rfl) (fun _ _ _ h => h) (.inl ⟨by kernel_rfl, fun V hS => by go_simp⟩) hS1 ?_
          simp only [Act.put, List.setIfInBounds_toArray, List.set_cons_zero, List.set_cons_succ]
          refine wpAnyH_take (i := 12) (oi := ⟨some 76, _, _, _, _, _⟩) (v := .pointer (some ⟨b, o + k2 * 2, none⟩)) rfl (by kernel_rfl) (by kernel_rfl) (by kernel_rfl) (fun _ _ _ h => h) (.inl ⟨by kernel_rfl, fun V hS => by go_simp⟩) hS1 ?_
          simp only [Act.put, List.setIfInBounds_toArray, List.set_cons_zero, List.set_cons_succ]
          refine wpAnyH_take (i := 13) (oi := ⟨some 77, _, _, _, _, _⟩) (v := .pointer (some ⟨b, o + k2 * 2 + 1, none⟩)) rfl (by kernel_rfl) (by kernel_rfl) (by kernel_rfl) (fun _ _ _ h => h) (.inl ⟨by kernel_rfl, fun V hS => by go_simp⟩) hS1 ?_
          simp only [Act.put, List.setIfInBounds_toArray, List.set_cons_zero, List.set_cons_succ]
          refine wpAnyH_take (i := 14) (oi := ⟨some 78, _, _, _, _, _⟩) (v := .slice y.A y.b.length y.c) rfl (by kernel_rfl) (by kernel_rfl) (by kernel_rfl) (fun _ _ _ h => h) (.inl ⟨by kernel_rfl, fun V hS => by have hc := (hS.cell (p := ⟨b, o + k2 * 2 + 1, none⟩) HBL.out).trans HY1.out; go_simp⟩) hS1 ?_
          simp only [Act.put, List.setIfInBounds_toArray, List.set_cons_zero, List.set_cons_succ]
          refine wpAnyH_take (i := 15) (oi := ⟨some 79, _, _, _, _, _⟩) (v := .int .i64 (y.b.length : Int)) rfl (by kernel_rfl) (by kernel_rfl) (by kernel_rfl) (fun _ _ _ h => h) (.inl ⟨by kernel_rfl, fun V hS => by go_simp⟩) hS1 ?_
          simp only [Act.put, List.setIfInBounds_toArray, List.set_cons_zero, List.set_cons_succ]
          refine wpAnyH_take (i := 16) (oi := ⟨some 80, _, _, _, _, _⟩) (v := .int .i64 ((N2 : Int) + (y.nm.size : Int) + (y.b.length : Int))) rfl (by kernel_rfl) (by kernel_rfl) (by kernel_rfl) (fun _ _ _ h => h) (.inl ⟨by kernel_rfl, fun V hS => by go_simp⟩) hS1 ?_
          simp only [Act.put, List.setIfInBounds_toArray, List.set_cons_zero, List.set_cons_succ]
          refine wpAnyH_take (i := 17) (oi := ⟨some 3, _, _, _, _, _⟩) (v := .int .i64 ((N2 : Int) + (y.nm.size : Int) + (y.b.length : Int))) rfl (by kernel_rfl) (by kernel_rfl) (by kernel_rfl) (fun _ _ _ h => h) (.inl ⟨by kernel_rfl, fun V hS => by go_simp⟩) hS1 ?_
          simp only [Act.put, List.setIfInBounds_toArray, List.set_cons_zero, List.set_cons_succ]
          refine wpAnyH_done (by kernel_rfl) ?_ _
          go_wp2
          refine ⟨⟨k2 + 1, N2 + y.nm.size + y.b.length, by omega, by push_cast; rfl, by push_cast; rfl, by have h1 := HSZ.out; have h2 := HNK.out; omega, by omega, Lib.hid (HB2.out.trans (hS1.mono HB2.out.size))⟩, ?_⟩
          simp [intOf]
          omega
    · have hkl : k1 < tg.length := by rw [← HN3.out]; exact hx
      obtain ⟨b, o, hA, hbb, y0, y1, -, -, -⟩ := (HT'.out.below HB1.out).at_ hkl
      subst hA
      obtain ⟨y, hy⟩ : ∃ y, y = tg[k1] := ⟨_, rfl⟩
      rw [← hy] at y0 y1
      have HY0 := Lib.hid y0
      have HY1 := Lib.hid y1
      have HBL := Lib.hid hbb
      have HWL : Hid (w.heap.size < wr.heap.size) := Lib.hid (Nat.lt_of_lt_of_le HWZ.out HB1.out.size)
      have HWC : Hid (wr.cell? ⟨w.heap.size, 3, none⟩ = some (.slice (some ⟨b, o, none⟩) n3 c3)) := Lib.hid ((HB1.out.cell (p := ⟨w.heap.size, 3, none⟩) HWZ.out).trans HW3.out)
      have wc := HWC.out
      have hys : y.nm.size ≤ 140737488355328 ∧ y.b.length ≤ 140737488355328 := by rw [hy]; exact HLG.out _ (List.getElem_mem hkl)
      obtain ⟨hys1, hys2⟩ := hys
      have hsz := szL_at hkl
      rw [← hy] at hsz
      have hki : (k1 : Int) < (n3 : Int) := by omega
      have hk0 : (0 : Int) ≤ (k1 : Int) := by omega
      have hw1 : IntKind.i64.wrap ((N1 : Int) + (y.nm.size : Int)) = (N1 : Int) + (y.nm.size : Int) := IntWalk.i64_in _ (by omega)
      have hw2 : IntKind.i64.wrap ((N1 : Int) + (y.nm.size : Int) + (y.b.length : Int)) = (N1 : Int) + (y.nm.size : Int) + (y.b.length : Int) := IntWalk.i64_in _ (by omega)
      have HSZ := Lib.hid hsz
      have HNK := Lib.hid hNk
      clear hy y0 y1 hbb hsz hNk
      have q0 : decide ((k1 : Int) < (n3 : Int)) = true := by first | (rw [decide_eq_true_iff]; omega) | (rw [decide_eq_false_iff_not]; omega)
      have q0' : decide (k1 < n3) = true := by first | (rw [decide_eq_true_iff]; omega) | (rw [decide_eq_false_iff_not]; omega)
      have q1 : decide ((k1 : Int) < 100) = true := by first | (rw [decide_eq_true_iff]; omega) | (rw [decide_eq_false_iff_not]; omega)
      have q1' : decide (k1 < 100) = true := by first | (rw [decide_eq_true_iff]; omega) | (rw [decide_eq_false_iff_not]; omega)
      have q2 : decide ((N1 : Int) < 50000) = true := by first | (rw [decide_eq_true_iff]; omega) | (rw [decide_eq_false_iff_not]; omega)
      have q2' : decide (N1 < 50000) = true := by first | (rw [decide_eq_true_iff]; omega) | (rw [decide_eq_false_iff_not]; omega)
      go_wp2
      refine wp_region_held_drew (S := fun V => Below wr.heap.size wr V) (by kernel_rfl) ((Below.refl _ _).drew) (fun hS1 => ?_)
      refine wpAnyH_take (i := 0) (oi := ⟨some 32, _, _, _, _, _⟩) (v := .int .i64 (N1 : Int)) rfl (by kernel_rfl) (by kernel_rfl) (by kernel_rfl) (fun _ _ _ h => h) (.inl ⟨by kernel_rfl, fun V hS => by go_simp⟩) hS1 ?_
      simp only [Act.put, List.setIfInBounds_toArray, List.set_cons_zero, List.set_cons_succ]
      refine wpAnyH_take (i := 1) (oi := ⟨some 33, _, _, _, _, _⟩) (v := .pointer (some ⟨w.heap.size, 3, none⟩)) rfl (by kernel_rfl) (by kernel_rfl) (by kernel_rfl) (fun _ _ _ h => h) (.inl ⟨by kernel_rfl, fun V hS => by go_simp⟩) hS1 ?_
      simp only [Act.put, List.setIfInBounds_toArray, List.set_cons_zero, List.set_cons_succ]
      refine wpAnyH_take (i := 2) (oi := ⟨some 34, _, _, _, _, _⟩) (v := .slice (some ⟨b, o, none⟩) n3 c3) rfl (by kernel_rfl) (by kernel_rfl) (by kernel_rfl) (fun _ _ _ h => h) (.inl ⟨by kernel_rfl, fun V hS => by have hc := (hS.cell (p := ⟨w.heap.size, 3, none⟩) HWL.out).trans HWC.out; go_simp⟩) hS1 ?_
      simp only [Act.put, List.setIfInBounds_toArray, List.set_cons_zero, List.set_cons_succ]
      refine wpAnyH_take (i := 3) (oi := ⟨some 35, _, _, _, _, _⟩) (v := .int .i64 (k1 : Int)) rfl (by kernel_rfl) (by kernel_rfl) (by kernel_rfl) (fun _ _ _ h => h) (.inl ⟨by kernel_rfl, fun V hS => by go_simp⟩) hS1 ?_
      simp only [Act.put, List.setIfInBounds_toArray, List.set_cons_zero, List.set_cons_succ]
      refine wpAnyH_take (i := 4) (oi := ⟨some 36, _, _, _, _, _⟩) (v := .pointer (some ⟨b, o + k1 * 2, none⟩)) rfl (by kernel_rfl) (by kernel_rfl) (by kernel_rfl) (fun _ _ _ h => h) (.inl ⟨by kernel_rfl, fun V hS => by go_simp⟩) hS1 ?_
      simp only [Act.put, List.setIfInBounds_toArray, List.set_cons_zero, List.set_cons_succ]
      refine wpAnyH_take (i := 5) (oi := ⟨some 37, _, _, _, _, _⟩) (v := .pointer (some ⟨b, o + k1 * 2, none⟩)) rfl (by kernel_rfl) (by kernel_rfl) (by kernel_rfl) (fun _ _ _ h => h) (.inl ⟨by kernel_rfl, fun V hS => by go_simp⟩) hS1 ?_
      simp only [Act.put, List.setIfInBounds_toArray, List.set_cons_zero, List.set_cons_succ]
      refine wpAnyH_take (i := 6) (oi := ⟨some 38, _, _, _, _, _⟩) (v := .string y.nm) rfl (by kernel_rfl) (by kernel_rfl) (by kernel_rfl) (fun _ _ _ h => h) (.inl ⟨by kernel_rfl, fun V hS => by have hc := (hS.cell (p := ⟨b, o + k1 * 2, none⟩) HBL.out).trans HY0.out; go_simp⟩) hS1 ?_
      simp only [Act.put, List.setIfInBounds_toArray, List.set_cons_zero, List.set_cons_succ]
      refine wpAnyH_take (i := 7) (oi := ⟨some 39, _, _, _, _, _⟩) (v := .int .i64 (y.nm.size : Int)) rfl (by kernel_rfl) (by kernel_rfl) (by kernel_rfl) (fun _ _ _ h => h) (.inl ⟨by kernel_rfl, fun V hS => by go_simp⟩) hS1 ?_
      simp only [Act.put, List.setIfInBounds_toArray, List.set_cons_zero, List.set_cons_succ]
      refine wpAnyH_take (i := 8) (oi := ⟨some 40, _, _, _, _, _⟩) (v := .int .i64 ((N1 : Int) + (y.nm.size : Int))) rfl (by kernel_rfl) (by kernel_rfl) (by kernel_rfl) (fun _ _ _ h => h) (.inl ⟨by kernel_rfl, fun V hS => by go_simp⟩) hS1 ?_
      simp only [Act.put, List.setIfInBounds_toArray, List.set_cons_zero, List.set_cons_succ]
      refine wpAnyH_take (i := 9) (oi := ⟨some 41, _, _, _, _, _⟩) (v := .pointer (some ⟨w.heap.size, 3, none⟩)) rfl (by kernel_rfl) (by kernel_rfl) (by kernel_rfl) (fun _ _ _ h => h) (.inl ⟨by kernel_rfl, fun V hS => by go_simp⟩) hS1 ?_
      simp only [Act.put, List.setIfInBounds_toArray, List.set_cons_zero, List.set_cons_succ]
      refine wpAnyH_take (i := 10) (oi := ⟨some 42, _, _, _, _, _⟩) (v := .slice (some ⟨b, o, none⟩) n3 c3) rfl (by kernel_rfl) (by kernel_rfl) (by kernel_rfl) (fun _ _ _ h => h) (.inl ⟨by kernel_rfl, fun V hS => by have hc := (hS.cell (p := ⟨w.heap.size, 3, none⟩) HWL.out).trans HWC.out; go_simp⟩) hS1 ?_
      simp only [Act.put, List.setIfInBounds_toArray, List.set_cons_zero, List.set_cons_succ]
      refine wpAnyH_take (i := 11) (oi := ⟨some 43, _, _, _, _, _⟩) (v := .int .i64 (k1 : Int)) rfl (by kernel_rfl) (by kernel_rfl) (by kernel_rfl) (fun _ _ _ h => h) (.inl ⟨by kernel_rfl, fun V hS => by go_simp⟩) hS1 ?_
      simp only [Act.put, List.setIfInBounds_toArray, List.set_cons_zero, List.set_cons_succ]
      refine wpAnyH_take (i := 12) (oi := ⟨some 44, _, _, _, _, _⟩) (v := .pointer (some ⟨b, o + k1 * 2, none⟩)) rfl (by kernel_rfl) (by kernel_rfl) (by kernel_rfl) (fun _ _ _ h => h) (.inl ⟨by kernel_rfl, fun V hS => by go_simp⟩) hS1 ?_
      simp only [Act.put, List.setIfInBounds_toArray, List.set_cons_zero, List.set_cons_succ]
      refine wpAnyH_take (i := 13) (oi := ⟨some 45, _, _, _, _, _⟩) (v := .pointer (some ⟨b, o + k1 * 2 + 1, none⟩)) rfl (by kernel_rfl) (by kernel_rfl) (by kernel_rfl) (fun _ _ _ h => h) (.inl ⟨by kernel_rfl, fun V hS => by go_simp⟩) hS1 ?_
      simp only [Act.put, List.setIfInBounds_toArray, List.set_cons_zero, List.set_cons_succ]
      refine wpAnyH_take (i := 14) (oi := ⟨some 46, _, _, _, _, _⟩) (v := .slice y.A y.b.length y.c) rfl (by kernel_rfl) (by kernel_rfl) (by kernel_rfl) (fun _ _ _ h => h) (.inl ⟨by kernel_rfl, fun V hS => by have hc := (hS.cell (p := ⟨b, o + k1 * 2 + 1, none⟩) HBL.out).trans HY1.out; go_simp⟩) hS1 ?_
      simp only [Act.put, List.setIfInBounds_toArray, List.set_cons_zero, List.set_cons_succ]
      refine wpAnyH_take (i := 15) (oi := ⟨some 47, _, _, _, _, _⟩) (v := .int .i64 (y.b.length : Int)) rfl (by kernel_rfl) (by kernel_rfl) (by kernel_rfl) (fun _ _ _ h => h) (.inl ⟨by kernel_rfl, fun V hS => by go_simp⟩) hS1 ?_
      simp only [Act.put, List.setIfInBounds_toArray, List.set_cons_zero, List.set_cons_succ]
      refine wpAnyH_take (i := 16) (oi := ⟨some 48, _, _, _, _, _⟩) (v := .int .i64 ((N1 : Int) + (y.nm.size : Int) + (y.b.length : Int))) rfl (by kernel_rfl) (by kernel_rfl) (by kernel_rfl) (fun _ _ _ h => h) (.inl ⟨by kernel_rfl, fun V hS => by go_simp⟩) hS1 ?_
      simp only [Act.put, List.setIfInBounds_toArray, List.set_cons_zero, List.set_cons_succ]
      refine wpAnyH_take (i := 17) (oi := ⟨some 3, _, _, _, _, _⟩) (v := .int .i64 ((N1 : Int) + (y.nm.size : Int) + (y.b.length : Int))) rfl (by kernel_rfl) (by kernel_rfl) (by kernel_rfl) (fun _ _ _ h => h) (.inl ⟨by kernel_rfl, fun V hS => by go_simp⟩) hS1 ?_
      simp only [Act.put, List.setIfInBounds_toArray, List.set_cons_zero, List.set_cons_succ]
      refine wpAnyH_done (by kernel_rfl) ?_ _
      go_wp2
      refine ⟨⟨k1 + 1, N1 + y.nm.size + y.b.length, by omega, by push_cast; rfl, by push_cast; rfl, by have h1 := HSZ.out; have h2 := HNK.out; omega, by omega, Lib.hid (HB1.out.trans (hS1.mono HB1.out.size))⟩, ?_⟩
      simp [intOf]
      omega
end Go.Proofs.YtgpcinfhcamgpaaGreatDoor
