/-
  The document's may, Path, Pattern, Prefix.
-/
import Derived.Test.YtcndkkagnobpmaaDoorGlobR1
import Derived.Test.YtcndkkagnobpmaaDoorHexPlain
namespace Go.Proofs.YtcndkkagnobpmaaDoor
open Go.RowKit Glob
set_option linter.unusedVariables false

namespace Glob
def barS : List UInt8 := [91, 93, 123, 125, 92]
def okW (wild : Bool) (c : UInt8) : Bool := okB c && (!barS.contains c && (wild || !([42, 63] : List UInt8).contains c))
def mayL (wild : Bool) (s : List UInt8) : Bool := !s.isEmpty && (decide (s.length ≤ 128) && (s.all (okW wild) && segsL s))
theorem plainL_all (t s : List UInt8) : plainL t s = (s.all (fun c => okB c && !t.contains c) && (!s.isEmpty && decide (s.length ≤ 128))) := by
  unfold plainL
  rw [← Bool.and_assoc]
  congr 1
  rw [Bool.eq_iff_iff, Bool.and_eq_true, List.all_eq_true, List.all_eq_true, List.all_eq_true]
  simp only [Bool.and_eq_true, Bool.not_eq_true', List.contains_eq_mem, decide_eq_false_iff_not]
  constructor
  · rintro ⟨h1, h2⟩ x hx
    exact ⟨h1 x hx, fun ht => h2 x ht hx⟩
  · intro h
    exact ⟨fun x hx => (h x hx).1, fun x hx hs => (h x hs).2 hx⟩
theorem may_pat (s : List UInt8) : mayL true s = patL s := by
  unfold mayL patL
  rw [plainL_all]
  have : s.all (okW true) = s.all (fun c => okB c && !([91, 93, 123, 125, 92] : List UInt8).contains c) := by
    congr 1; funext c; unfold okW barS; simp
  rw [this]
  cases s.isEmpty <;> cases decide (s.length ≤ 128) <;> cases s.all (fun c => okB c && !([91, 93, 123, 125, 92] : List UInt8).contains c) <;> rfl
theorem may_path (s : List UInt8) : mayL false s = pathL s := by
  unfold mayL pathL
  rw [plainL_all]
  have : s.all (okW false) = s.all (fun c => okB c && !([91, 93, 123, 125, 92, 42, 63] : List UInt8).contains c) := by
    congr 1; funext c; unfold okW barS
    simp only [List.contains_cons, List.contains_nil, Bool.or_false, Bool.false_or]
    cases okB c <;> cases (c == 91) <;> cases (c == 93) <;> cases (c == 123) <;> cases (c == 125) <;> cases (c == 92) <;> cases (c == 42) <;> cases (c == 63) <;> rfl
  rw [this]
  cases s.isEmpty <;> cases decide (s.length ≤ 128) <;> cases s.all (fun c => okB c && !([91, 93, 123, 125, 92, 42, 63] : List UInt8).contains c) <;> rfl
theorem path_pat (s : List UInt8) (h : pathL s = true) : patL s = true := by
  rw [← may_path] at h
  rw [← may_pat]
  unfold mayL at h ⊢
  simp only [Bool.and_eq_true, List.all_eq_true] at h ⊢
  refine ⟨h.1, h.2.1, fun x hx => ?_, h.2.2.2⟩
  have := h.2.2.1 x hx
  unfold okW at this ⊢
  simp only [Bool.and_eq_true] at this ⊢
  exact ⟨this.1, this.2.1, by simp⟩
/-- why a byte may not be -/
theorem okW_why (wild : Bool) (c : UInt8) (h : okW wild c = false) : c.toNat < 33 ∨ 126 < c.toNat ∨ c.toNat = 91 ∨ c.toNat = 93 ∨ c.toNat = 123 ∨ c.toNat = 125 ∨ c.toNat = 92 ∨ (wild = false ∧ (c.toNat = 42 ∨ c.toNat = 63)) := by
  revert wild
  refine all_u8 (p := fun c => ∀ wild : Bool, okW wild c = false → c.toNat < 33 ∨ 126 < c.toNat ∨ c.toNat = 91 ∨ c.toNat = 93 ∨ c.toNat = 123 ∨ c.toNat = 125 ∨ c.toNat = 92 ∨ (wild = false ∧ (c.toNat = 42 ∨ c.toNat = 63))) ?_ c
  decide +kernel
theorem okW_yes (wild : Bool) (c : UInt8) (h : okW wild c = true) : 33 ≤ c.toNat ∧ c.toNat ≤ 126 ∧ c.toNat ≠ 91 ∧ c.toNat ≠ 93 ∧ c.toNat ≠ 123 ∧ c.toNat ≠ 125 ∧ c.toNat ≠ 92 ∧ (wild = false → c.toNat ≠ 42 ∧ c.toNat ≠ 63) := by
  revert wild
  refine all_u8 (p := fun c => ∀ wild : Bool, okW wild c = true → 33 ≤ c.toNat ∧ c.toNat ≤ 126 ∧ c.toNat ≠ 91 ∧ c.toNat ≠ 93 ∧ c.toNat ≠ 123 ∧ c.toNat ≠ 125 ∧ c.toNat ≠ 92 ∧ (wild = false → c.toNat ≠ 42 ∧ c.toNat ≠ 63)) ?_ c
  decide +kernel
end Glob
set_option maxRecDepth 100000 in
set_option maxHeartbeats 4000000 in
theorem may_any (s : ByteArray) (wild : Bool) (w : World) (hs : s.size ≤ 100000) : Calls Tryd.prog 72 #[.string s, .bool wild] w fun e w' => e = .returned (.bool (mayL wild s.data.toList)) ∧ Below w.heap.size w w' := by
  have hsl : s.data.toList.length = s.size := by cases s; simp [ByteArray.size]
  have HS := Lib.hid hsl
  obtain ⟨r, hr⟩ : ∃ r, r = mayL wild s.data.toList := ⟨_, rfl⟩
  have HR := Lib.hid hr
  rw [← hr]
  clear hr
  rcases (by omega : s.size < 1 ∨ 128 < s.size ∨ (1 ≤ s.size ∧ s.size ≤ 128)) with g | g | ⟨g1, g2⟩
  · have HI : Hid (r = false) := by
      show _ = _
      rw [HR.out, List.eq_nil_of_length_eq_zero (by omega : s.data.toList.length = 0)]; rfl
    have e1 : decide ((s.size : Int) < 1) = true := by rw [decide_eq_true_iff]; omega
    clear hsl
    go_enter Tryd.func72, Tryd.ntmps72
    go_wp2
    go_ret
    exact ⟨by rw [HI.out]; rfl, Below.refl _ _⟩
  · have HI : Hid (r = false) := by
      show _ = _
      rw [HR.out]; unfold mayL; rw [decide_eq_false (by omega : ¬ s.data.toList.length ≤ 128)]; simp
    have e1 : decide ((s.size : Int) < 1) = false := by rw [decide_eq_false_iff_not]; omega
    have e2 : decide (128 < (s.size : Int)) = true := by rw [decide_eq_true_iff]; omega
    clear hsl
    go_enter Tryd.func72, Tryd.ntmps72
    go_wp2
    go_ret
    exact ⟨by rw [HI.out]; rfl, Below.refl _ _⟩
  · have HI : Hid (r = (s.data.toList.all (okW wild) && segsL s.data.toList)) := by
      show _ = _
      rw [HR.out]; unfold mayL
      rw [decide_eq_true (by omega : s.data.toList.length ≤ 128), show s.data.toList.isEmpty = false from by rw [List.isEmpty_eq_false_iff]; intro e; rw [e] at hsl; simp at hsl; omega]
      rfl
    have e1 : decide ((s.size : Int) < 1) = false := by rw [decide_eq_false_iff_not]; omega
    have e2 : decide (128 < (s.size : Int)) = false := by rw [decide_eq_false_iff_not]; omega
    have HP := Lib.hid (rsplit_any s w hs)
    clear hsl
    go_enter Tryd.func72, Tryd.ntmps72
    go_wp2
    go_loop [5] (fun i => ∃ k : Nat, k ≤ s.size ∧ i = .int .i64 k ∧ Hid ((s.data.toList.take k).all (okW wild) = true)) (fun i => s.size - (intOf i).toNat)
    case atStart => exact ⟨0, Nat.zero_le _, rfl, Lib.hid rfl⟩
    case round =>
      obtain ⟨k, hk, rfl, HK⟩ := hrel
      rcases (by omega : k < s.size ∨ k = s.size) with hlt | heq
      · obtain ⟨c, hc⟩ : ∃ c, c = s[k] := ⟨_, rfl⟩
        have hc' := hc.symm
        have HC := Lib.hid hc
        clear hc
        have hkk : (k : Int) < (s.size : Int) := by omega
        cases ho : okW wild c with
        | true =>
          obtain ⟨a1, a2, a3, a4, a5, a6, a7, a8⟩ := okW_yes wild c ho
          have HK' : Hid ((s.data.toList.take (k + 1)).all (okW wild) = true) := by
            show _ = _
            rw [List.take_succ_eq_append_getElem (by rw [HS.out]; exact hlt), List.all_append, HK.out]
            show (okW wild s[k] && true) = true
            rw [← HC.out, ho]; rfl
          have f1 : decide ((c.toNat : Int) < 33) = false := by rw [decide_eq_false_iff_not]; omega
          have f2 : decide (126 < (c.toNat : Int)) = false := by rw [decide_eq_false_iff_not]; omega
          have f3 : ((c.toNat : Int) == 91) = false := by rw [beq_eq_false_iff_ne]; omega
          have f4 : ((c.toNat : Int) == 93) = false := by rw [beq_eq_false_iff_ne]; omega
          have f5 : ((c.toNat : Int) == 123) = false := by rw [beq_eq_false_iff_ne]; omega
          have f6 : ((c.toNat : Int) == 125) = false := by rw [beq_eq_false_iff_ne]; omega
          have f7 : ((c.toNat : Int) == 92) = false := by rw [beq_eq_false_iff_ne]; omega
          clear ho
          cases wild with
          | true =>
            clear a8
            go_wp2
            go_round
            case rel => exact ⟨k + 1, by omega, by go_num, HK'⟩
            case measure => simp [intOf]; omega
          | false =>
            obtain ⟨a9, a10⟩ := a8 rfl
            clear a8
            have f8 : ((c.toNat : Int) == 42) = false := by rw [beq_eq_false_iff_ne]; omega
            have f9 : ((c.toNat : Int) == 63) = false := by rw [beq_eq_false_iff_ne]; omega
            go_wp2
            go_round
            case rel => exact ⟨k + 1, by omega, by go_num, HK'⟩
            case measure => simp [intOf]; omega
        | false =>
          have hy := okW_why wild c ho
          have HF : Hid (r = false) := by
            show _ = _
            rw [HI.out, Bool.and_eq_false_iff]
            refine .inl (List.all_eq_false.2 ⟨s[k], mem_at s k hlt, ?_⟩)
            rw [← HC.out, ho]; simp
          clear ho HK HC HR HI HS
          rcases hy with hy | hy | hy | hy | hy | hy | hy | ⟨rfl, hy | hy⟩
          · have f1 : decide ((c.toNat : Int) < 33) = true := by rw [decide_eq_true_iff]; omega
            go_wp2; go_ret; exact ⟨by rw [HF.out]; rfl, Below.refl _ _⟩
          · have f1 : decide ((c.toNat : Int) < 33) = false := by rw [decide_eq_false_iff_not]; omega
            have f2 : decide (126 < (c.toNat : Int)) = true := by rw [decide_eq_true_iff]; omega
            go_wp2; go_ret; exact ⟨by rw [HF.out]; rfl, Below.refl _ _⟩
          · have hi : (c.toNat : Int) = 91 := by omega
            clear hy; go_wp2; go_ret; exact ⟨by rw [HF.out]; rfl, Below.refl _ _⟩
          · have hi : (c.toNat : Int) = 93 := by omega
            clear hy; go_wp2; go_ret; exact ⟨by rw [HF.out]; rfl, Below.refl _ _⟩
          · have hi : (c.toNat : Int) = 123 := by omega
            clear hy; go_wp2; go_ret; exact ⟨by rw [HF.out]; rfl, Below.refl _ _⟩
          · have hi : (c.toNat : Int) = 125 := by omega
            clear hy; go_wp2; go_ret; exact ⟨by rw [HF.out]; rfl, Below.refl _ _⟩
          · have hi : (c.toNat : Int) = 92 := by omega
            clear hy; go_wp2; go_ret; exact ⟨by rw [HF.out]; rfl, Below.refl _ _⟩
          · have hi : (c.toNat : Int) = 42 := by omega
            clear hy; go_wp2; go_ret; exact ⟨by rw [HF.out]; rfl, Below.refl _ _⟩
          · have hi : (c.toNat : Int) = 63 := by omega
            clear hy; go_wp2; go_ret; exact ⟨by rw [HF.out]; rfl, Below.refl _ _⟩
      · have hkk : ¬ (k : Int) < (s.size : Int) := by omega
        have HA : Hid (r = segsL s.data.toList) := by
          show _ = _
          rw [HI.out]
          have := HK.out
          rw [List.take_of_length_le (by rw [HS.out]; omega)] at this
          rw [this]; rfl
        clear heq HK HI HR
        go_wp2_with fail
        refine HP.out.mono ?_
        rintro e w' ⟨A, cp, l, hl, rfl, hA, hb⟩
        have hll : l.length ≤ 100001 := by
          have h1 := cutS_len 47 s.data.toList
          rw [← hl, List.length_map, HS.out] at h1
          omega
        have HL : Hid (r = !(l.any (fun x => segBad x.data.toList))) := by show _ = _; rw [HA.out, any_map, hl]; rfl
        clear hl HA HP
        obtain ⟨n, hn⟩ : ∃ n, n = l.length := ⟨_, rfl⟩
        rw [← hn] at hll ⊢
        have HN := Lib.hid hn
        clear hn
        go_wp2
        go_loop [8] (fun i => ∃ j : Nat, j ≤ n ∧ i = .int .i64 j ∧ Hid ((l.take j).any (fun x => segBad x.data.toList) = false)) (fun i => n - (intOf i).toNat)
        case atStart => exact ⟨0, Nat.zero_le _, rfl, Lib.hid rfl⟩
        case round =>
          obtain ⟨j, hj, rfl, HJ⟩ := hrel
          rcases (by omega : j < n ∨ j = n) with hlt | heq
          · have hjl : j < l.length := by rw [← HN.out]; exact hlt
            obtain ⟨ad, rfl, _, hc⟩ := hA.at_ hjl
            clear hA
            have hji : (j : Int) < (n : Int) := by omega
            obtain ⟨x, hx⟩ : ∃ x, x = l[j] := ⟨_, rfl⟩
            rw [← hx] at hc
            have HX := Lib.hid hx
            clear hx
            have hv := seg_val x
            have HBad : Hid (segBad x.data.toList = true → r = false) := fun h => by
              rw [HL.out]
              have : l.any (fun x => segBad x.data.toList) = true := List.any_eq_true.2 ⟨l[j], List.getElem_mem hjl, by rw [← HX.out]; exact h⟩
              rw [this]; rfl
            have HGood : Hid (segBad x.data.toList = false → (l.take (j + 1)).any (fun x => segBad x.data.toList) = false) := fun h => by
              rw [List.take_succ_eq_append_getElem hjl, List.any_append, HJ.out, ← HX.out]
              show (false || (segBad x.data.toList || false)) = false
              rw [h]; rfl
            by_cases h0 : x.toList = []
            · have HV := Lib.hid (HBad.out (by rw [hv, h0]; rfl))
              have hb0 : x.toList.isEmpty = true := by rw [h0]; rfl
              clear hv HBad HGood
              go_wp2; go_ret; exact ⟨by rw [HV.out]; rfl, hb⟩
            · have h0' : (x.toList == []) = false := beq_eq_false_iff_ne.2 h0
              have hb0 : x.toList.isEmpty = false := by rw [List.isEmpty_eq_false_iff]; exact h0
              cases h1 : (x.toList == [46]) with
              | true =>
                have HV := Lib.hid (HBad.out (by rw [hv, h0', h1]; rfl))
                clear hv HBad HGood
                go_wp2; go_ret; exact ⟨by rw [HV.out]; rfl, hb⟩
              | false =>
                cases h2 : (x.toList == [46, 46]) with
                | true =>
                  have HV := Lib.hid (HBad.out (by rw [hv, h0', h1, h2]; rfl))
                  clear hv HBad HGood
                  go_wp2; go_ret; exact ⟨by rw [HV.out]; rfl, hb⟩
                | false =>
                  have HV := Lib.hid (HGood.out (by rw [hv, h0', h1, h2]; rfl))
                  clear hv HBad HGood
                  go_wp2
                  go_round
                  case rel => exact ⟨j + 1, by omega, by go_num, HV⟩
                  case measure => simp [intOf]; omega
          · have hji : ¬ (j : Int) < (n : Int) := by omega
            have HV : Hid (r = true) := by
              show _ = _
              have := HJ.out
              rw [List.take_of_length_le (by rw [← HN.out]; omega)] at this
              rw [HL.out, this]; rfl
            clear heq hA
            go_wp2; go_ret; exact ⟨by rw [HV.out]; rfl, hb⟩
theorem rpath_any (s : ByteArray) (w : World) (hs : s.size ≤ 100000) : Calls Tryd.prog 46 #[.string s] w fun e w' => e = .returned (.bool (pathL s.data.toList)) ∧ Below w.heap.size w w' := by
  have HP := may_any s false w hs
  rw [may_path] at HP
  obtain ⟨r, hr⟩ : ∃ r, r = pathL s.data.toList := ⟨_, rfl⟩
  rw [← hr] at HP ⊢
  clear hr
  have HP := Lib.hid HP
  go_enter Tryd.func46, Tryd.ntmps46
  go_wp2_with fail
  refine HP.out.mono ?_
  rintro e w' ⟨rfl, hb⟩
  go_wp2
  go_ret
  exact ⟨rfl, hb⟩
theorem rpattern_any (s : ByteArray) (w : World) (hs : s.size ≤ 100000) : Calls Tryd.prog 45 #[.string s] w fun e w' => e = .returned (.bool (patL s.data.toList)) ∧ Below w.heap.size w w' := by
  have HP := may_any s true w hs
  rw [may_pat] at HP
  obtain ⟨r, hr⟩ : ∃ r, r = patL s.data.toList := ⟨_, rfl⟩
  rw [← hr] at HP ⊢
  clear hr
  have HP := Lib.hid HP
  go_enter Tryd.func45, Tryd.ntmps45
  go_wp2_with fail
  refine HP.out.mono ?_
  rintro e w' ⟨rfl, hb⟩
  go_wp2
  go_ret
  exact ⟨rfl, hb⟩
end Go.Proofs.YtcndkkagnobpmaaDoor
