/-
  The document's Covers.
-/
import Derived.Test.YthidjdjcjjbpbaaGreatDoorSeR2
import Derived.Test.YthidjdjcjjbpbaaGreatDoorSeW2
namespace Go.Proofs.YthidjdjcjjbpbaaGreatDoor
open Go.RowKit Sea Glob
set_option linter.unusedVariables false
set_option linter.unusedSimpArgs false

theorem cov_hit1 {path : ByteArray} {d : PD} {k : Nat} (hk : k < d.paths.length) (h : (fun p : ByteArray => matchL p.data.toList path.data.toList) (d.paths[k]) = true) : covP path d = true := by
  unfold covP
  rw [Bool.or_eq_true, List.any_eq_true]
  exact .inl ⟨_, List.getElem_mem hk, h⟩
theorem cov_hit2 {path : ByteArray} {d : PD} {k : Nat} (hk : k < d.prefs.length) (h : (fun p : ByteArray => underL p.data.toList path.data.toList) (d.prefs[k]) = true) : covP path d = true := by
  unfold covP
  rw [Bool.or_eq_true, List.any_eq_true, List.any_eq_true]
  exact .inr ⟨_, List.getElem_mem hk, h⟩
theorem cov_no {path : ByteArray} {d : PD} (h : ∀ j (hj : j < d.paths.length), (fun p : ByteArray => matchL p.data.toList path.data.toList) (d.paths[j]) = false) (h' : ∀ j (hj : j < d.prefs.length), (fun p : ByteArray => underL p.data.toList path.data.toList) (d.prefs[j]) = false) : covP path d = false := by
  unfold covP
  rw [Bool.or_eq_false_iff]
  constructor
  · rw [List.any_eq_false]; intro x hx
    obtain ⟨j, hj, e⟩ := List.getElem_of_mem hx
    have := h j hj
    rw [e] at this
    simpa using this
  · rw [List.any_eq_false]; intro x hx
    obtain ⟨j, hj, e⟩ := List.getElem_of_mem hx
    have := h' j hj
    rw [e] at this
    simpa using this
set_option maxRecDepth 100000 in
set_option maxHeartbeats 4000000 in
theorem rcovers_any (X : Nat → Prop) (d : PD) (a : DA) (path : ByteArray) (w : World) (h : DOk X w d a) (hp : path.size ≤ 1000) : Calls Tryz.prog 33 #[d.val a, .string path] w fun e w' => PF (BoP (covP path d) w) e w' := by
  obtain ⟨W1, hW1⟩ : ∃ W1, W1 = (w.alloc (.cells #[.string d.name, .slice a.kA d.rk.length a.kc, .int .i64 d.thr, .bool d.term, .slice a.pA d.paths.length a.pc, .slice a.xA d.prefs.length a.xc] 59)) := ⟨_, rfl⟩
  have hb1 : Below w.heap.size w W1 := by rw [hW1]; exact (Below.refl _ _).alloc (Nat.le_refl _) _
  have hk1 : Blk W1 w.heap.size 59 #[.string d.name, .slice a.kA d.rk.length a.kc, .int .i64 d.thr, .bool d.term, .slice a.pA d.paths.length a.pc, .slice a.xA d.prefs.length a.xc] := by rw [hW1]; exact Blk.new _ _ _
  obtain ⟨r, hr⟩ : ∃ r, r = covP path d := ⟨_, rfl⟩
  rw [← hr]
  have HR := Lib.hid hr
  have HV := Lib.hid (h.bel hb1)
  have HLIM : Hid (d.paths.length ≤ maxLen ∧ d.prefs.length ≤ maxLen) := Lib.hid ⟨Nat.le_trans h.cp.1 h.cp.2, Nat.le_trans h.cx.1 h.cx.2⟩
  have HB1 := Lib.hid hb1
  have HW1 := Lib.hid hW1
  have HK1 := Lib.hid hk1
  have HP := Lib.hid hp
  unfold Sea.PD.val Sea.PD.cs
  clear h hb1 hk1 hW1 hr hp
  go_enter Tryz.func33, Tryz.ntmps33
  go_wp2
  rw [← HW1.out]
  go_loopw [5] (fun i wr => ∃ k : Nat, k ≤ d.paths.length ∧ i = .int .i64 k ∧ Hid (∀ j (hj : j < d.paths.length), j < k → (fun p : ByteArray => matchL p.data.toList path.data.toList) (d.paths[j]) = false) ∧ Hid (Below W1.heap.size W1 wr)) (fun i _ => d.paths.length - (intOf i).toNat)
  case atStart => exact ⟨0, Nat.zero_le _, rfl, Lib.hid (fun j hj h => by omega), Lib.hid (Below.refl _ _)⟩
  case round =>
    obtain ⟨k, hk, rfl, HB, HW⟩ := hrel
    have e2 : wr.cell? ⟨w.heap.size, 4, none⟩ = some (.slice a.pA d.paths.length a.pc) := (HK1.out.below HW.out HK1.out.lt).cell 4
    rcases (by omega : k < d.paths.length ∨ k = d.paths.length) with hlt | heq
    · have q5 : decide ((k : Int) < (d.paths.length : Int)) = true := by rw [decide_eq_true_iff]; omega
      have q5' : decide (k < d.paths.length) = true := by rw [decide_eq_true_iff]; omega
      obtain ⟨ad, hA, hbl, hc0⟩ := (HV.out.rp.1.below HW.out).at_ hlt
      obtain ⟨x, hx, hc⟩ : ∃ x, x = d.paths[k] ∧ wr.cell? (ad.add k) = some (.string x) := ⟨_, rfl, hc0⟩
      have hcc := rmatch_all x path wr (by have := HP.out; omega)
      rw [hA] at e2
      have hki : (k : Int) < (d.paths.length : Int) := by omega
      have hk0 : (0 : Int) ≤ (k : Int) := by omega
      have hk9 : (k : Int) + 1 ≤ 9223372036854775807 := by
        have h9 := HLIM.out
        simp only [maxLen] at h9
        omega
      have HX := Lib.hid hx
      have HLT := Lib.hid hlt
      clear hA hbl hx hc0
      cases hd : (fun p : ByteArray => matchL p.data.toList path.data.toList) x with
      | true =>
        have HI : Hid (r = true) := by
          show _ = _
          have h0 := HX.out
          subst h0
          rw [HR.out, cov_hit1 HLT.out hd]
        rw [show matchL x.data.toList path.data.toList = true from hd] at hcc
        have HCC := Lib.hid hcc
        clear hd hcc
        go_wp2_with fail
        refine HCC.out.mono ?_
        rintro e w3 ⟨rfl, hb3⟩
        have HW3 := Lib.hid (HW.out.trans (hb3.mono HW.out.size))
        clear hb3
        go_wp2
        go_ret
        exact ⟨by rw [HI.out]; rfl, HB1.out.trans (HW3.out.mono HB1.out.size)⟩
      | false =>
        have HD := Lib.hid hd
        rw [show matchL x.data.toList path.data.toList = false from hd] at hcc
        have HCC := Lib.hid hcc
        clear hd hcc
        go_wp2_with fail
        refine HCC.out.mono ?_
        rintro e w3 ⟨rfl, hb3⟩
        have HW3 := Lib.hid (HW.out.trans (hb3.mono HW.out.size))
        clear hb3
        go_wp2
        go_roundw
        case rel => exact ⟨k + 1, by omega, by go_num, Lib.hid (fun j hj h => by
          rcases (by omega : j < k ∨ j = k) with h1 | h1
          · exact HB.out j hj h1
          · subst h1; have h0 := HX.out; have h9 := HD.out; subst h0; exact h9), HW3⟩
        case measure => simp [intOf]; omega
    · have q5 : decide ((k : Int) < (d.paths.length : Int)) = false := by rw [decide_eq_false_iff_not]; omega
      have q5' : decide (k < d.paths.length) = false := by rw [decide_eq_false_iff_not]; omega
      have HNO : Hid (∀ j (hj : j < d.paths.length), (fun p : ByteArray => matchL p.data.toList path.data.toList) (d.paths[j]) = false) := Lib.hid (fun j hj => HB.out j hj (by omega))
      clear heq HB
      go_wp2
      have HNO0 := HNO
      have HW0 := HW
      clear HNO q5 q5' e2 HW
      go_loopw [6] (fun i wr => ∃ k : Nat, k ≤ d.prefs.length ∧ i = .int .i64 k ∧ Hid (∀ j (hj : j < d.prefs.length), j < k → (fun p : ByteArray => underL p.data.toList path.data.toList) (d.prefs[j]) = false) ∧ Hid (Below W1.heap.size W1 wr)) (fun i _ => d.prefs.length - (intOf i).toNat)
      case atStart => exact ⟨0, Nat.zero_le _, rfl, Lib.hid (fun j hj h => by omega), HW0⟩
      case round =>
        obtain ⟨k, hk, rfl, HB, HW⟩ := hrel
        have e2 : wr.cell? ⟨w.heap.size, 5, none⟩ = some (.slice a.xA d.prefs.length a.xc) := (HK1.out.below HW.out HK1.out.lt).cell 5
        rcases (by omega : k < d.prefs.length ∨ k = d.prefs.length) with hlt | heq
        · have q5 : decide ((k : Int) < (d.prefs.length : Int)) = true := by rw [decide_eq_true_iff]; omega
          have q5' : decide (k < d.prefs.length) = true := by rw [decide_eq_true_iff]; omega
          obtain ⟨ad, hA, hbl, hc0⟩ := (HV.out.rx.1.below HW.out).at_ hlt
          obtain ⟨x, hx, hc⟩ : ∃ x, x = d.prefs[k] ∧ wr.cell? (ad.add k) = some (.string x) := ⟨_, rfl, hc0⟩
          have hcc := runder_all x path wr (by have := HP.out; omega)
          rw [hA] at e2
          have hki : (k : Int) < (d.prefs.length : Int) := by omega
          have hk0 : (0 : Int) ≤ (k : Int) := by omega
          have hk9 : (k : Int) + 1 ≤ 9223372036854775807 := by
            have h9 := HLIM.out
            simp only [maxLen] at h9
            omega
          have HX := Lib.hid hx
          have HLT := Lib.hid hlt
          clear hA hbl hx hc0
          cases hd : (fun p : ByteArray => underL p.data.toList path.data.toList) x with
          | true =>
            have HI : Hid (r = true) := by
              show _ = _
              have h0 := HX.out
              subst h0
              rw [HR.out, cov_hit2 HLT.out hd]
            rw [show underL x.data.toList path.data.toList = true from hd] at hcc
            have HCC := Lib.hid hcc
            clear hd hcc
            go_wp2_with fail
            refine HCC.out.mono ?_
            rintro e w3 ⟨rfl, hb3⟩
            have HW3 := Lib.hid (HW.out.trans (hb3.mono HW.out.size))
            clear hb3
            go_wp2
            go_ret
            exact ⟨by rw [HI.out]; rfl, HB1.out.trans (HW3.out.mono HB1.out.size)⟩
          | false =>
            have HD := Lib.hid hd
            rw [show underL x.data.toList path.data.toList = false from hd] at hcc
            have HCC := Lib.hid hcc
            clear hd hcc
            go_wp2_with fail
            refine HCC.out.mono ?_
            rintro e w3 ⟨rfl, hb3⟩
            have HW3 := Lib.hid (HW.out.trans (hb3.mono HW.out.size))
            clear hb3
            go_wp2
            go_roundw
            case rel => exact ⟨k + 1, by omega, by go_num, Lib.hid (fun j hj h => by
              rcases (by omega : j < k ∨ j = k) with h1 | h1
              · exact HB.out j hj h1
              · subst h1; have h0 := HX.out; have h9 := HD.out; subst h0; exact h9), HW3⟩
            case measure => simp [intOf]; omega
        · have q5 : decide ((k : Int) < (d.prefs.length : Int)) = false := by rw [decide_eq_false_iff_not]; omega
          have q5' : decide (k < d.prefs.length) = false := by rw [decide_eq_false_iff_not]; omega
          have HNO : Hid (∀ j (hj : j < d.prefs.length), (fun p : ByteArray => underL p.data.toList path.data.toList) (d.prefs[j]) = false) := Lib.hid (fun j hj => HB.out j hj (by omega))
          clear heq HB
          go_wp2
          go_ret
          exact ⟨by rw [show r = false from by rw [HR.out]; exact cov_no HNO0.out HNO.out]; rfl, HB1.out.trans (HW.out.mono HB1.out.size)⟩
end Go.Proofs.YthidjdjcjjbpbaaGreatDoor
