/-
  pursuivantref01.digit and Unhex: what they return.
-/
import Derived.Test.YtleancgkincenaaDoorAppend
import Derived.Test.YtleancgkincenaaDoorUnhex2
import Derived.Deep.RegionHeld3
import Derived.Deep.AppendLies
import Derived.Handy
namespace Go.Proofs.YtleancgkincenaaDoor
open Go.RowKit
set_option linter.unusedVariables false

set_option maxRecDepth 100000 in
set_option maxHeartbeats 400000 in
theorem digit_any (x : UInt8) (w : World) : Calls Tryd.prog 63 #[.int .u8 (x.toNat : Int)] w fun e w' => e = .returned (.int .i64 (hexI x)) ∧ w = w' := by
  have hlt := x.toNat_lt
  rcases (by omega : x.toNat < 48 ∨ (48 ≤ x.toNat ∧ x.toNat ≤ 57) ∨ (57 < x.toNat ∧ x.toNat < 97) ∨ (97 ≤ x.toNat ∧ x.toNat ≤ 102) ∨ 102 < x.toNat) with h | h | h | h | h
  · have e : hexI x = -1 := all_u8 (p := fun x => x.toNat < 48 → hexI x = -1) (by decide +kernel) x h
    have HE := Lib.hid e
    clear e
    have d1 : decide (48 ≤ (x.toNat : Int)) = false := by rw [decide_eq_false_iff_not]; omega
    have d2 : decide (97 ≤ (x.toNat : Int)) = false := by rw [decide_eq_false_iff_not]; omega
    go_enter Tryd.func63, Tryd.ntmps63
    go_wp2
    go_ret
    exact ⟨ret_int HE.out.symm, rfl⟩
  · have e : hexI x = (x.toNat : Int) - 48 := all_u8 (p := fun x => 48 ≤ x.toNat ∧ x.toNat ≤ 57 → hexI x = (x.toNat : Int) - 48) (by decide +kernel) x h
    have HE := Lib.hid e
    clear e
    obtain ⟨h1, h2⟩ := h
    have d1 : decide (48 ≤ (x.toNat : Int)) = true := by rw [decide_eq_true_iff]; omega
    have d2 : decide ((x.toNat : Int) ≤ 57) = true := by rw [decide_eq_true_iff]; omega
    go_enter Tryd.func63, Tryd.ntmps63
    go_wp2
    go_ret
    exact ⟨ret_int HE.out.symm, rfl⟩
  · have e : hexI x = -1 := all_u8 (p := fun x => 57 < x.toNat ∧ x.toNat < 97 → hexI x = -1) (by decide +kernel) x h
    have HE := Lib.hid e
    clear e
    obtain ⟨h1, h2⟩ := h
    have d1 : decide (48 ≤ (x.toNat : Int)) = true := by rw [decide_eq_true_iff]; omega
    have d2 : decide ((x.toNat : Int) ≤ 57) = false := by rw [decide_eq_false_iff_not]; omega
    have d3 : decide (97 ≤ (x.toNat : Int)) = false := by rw [decide_eq_false_iff_not]; omega
    go_enter Tryd.func63, Tryd.ntmps63
    go_wp2
    go_ret
    exact ⟨ret_int HE.out.symm, rfl⟩
  · have e : hexI x = (x.toNat : Int) - 97 + 10 := all_u8 (p := fun x => 97 ≤ x.toNat ∧ x.toNat ≤ 102 → hexI x = (x.toNat : Int) - 97 + 10) (by decide +kernel) x h
    have HE := Lib.hid e
    clear e
    obtain ⟨h1, h2⟩ := h
    have d1 : decide (48 ≤ (x.toNat : Int)) = true := by rw [decide_eq_true_iff]; omega
    have d2 : decide ((x.toNat : Int) ≤ 57) = false := by rw [decide_eq_false_iff_not]; omega
    have d3 : decide (97 ≤ (x.toNat : Int)) = true := by rw [decide_eq_true_iff]; omega
    have d4 : decide ((x.toNat : Int) ≤ 102) = true := by rw [decide_eq_true_iff]; omega
    go_enter Tryd.func63, Tryd.ntmps63
    go_wp2
    go_ret
    exact ⟨ret_int HE.out.symm, rfl⟩
  · have e : hexI x = -1 := all_u8 (p := fun x => 102 < x.toNat → hexI x = -1) (by decide +kernel) x h
    have HE := Lib.hid e
    clear e
    have d1 : decide (48 ≤ (x.toNat : Int)) = true := by rw [decide_eq_true_iff]; omega
    have d2 : decide ((x.toNat : Int) ≤ 57) = false := by rw [decide_eq_false_iff_not]; omega
    have d3 : decide (97 ≤ (x.toNat : Int)) = true := by rw [decide_eq_true_iff]; omega
    have d4 : decide ((x.toNat : Int) ≤ 102) = false := by rw [decide_eq_false_iff_not]; omega
    go_enter Tryd.func63, Tryd.ntmps63
    go_wp2
    go_ret
    exact ⟨ret_int HE.out.symm, rfl⟩


theorem okHex_parts {l : List UInt8} (h : okHex l = true) : l.length % 2 = 0 ∧ l.all isHex = true := by
  simpa only [okHex, Bool.and_eq_true, decide_eq_true_iff] using h

set_option maxRecDepth 100000 in
set_option maxHeartbeats 1000000 in
theorem refUnhex_ok (s : ByteArray) (w : World) (hs : s.size ≤ 70368744177664) (hn : okHex s.data.toList = true) :
    Calls Tryd.prog 29 #[.string s] w fun e w' => ∃ v, e = .returned (.tuple #[v, .bool true]) ∧ OB w' w.heap.size v (unhexL s.data.toList) ∧ Below w.heap.size w w' := by
  have hsz : s.data.toList.length = s.size := rfl
  obtain ⟨h1, h2⟩ := okHex_parts hn
  obtain ⟨m, hm⟩ : ∃ m, s.size = 2 * m := ⟨s.size / 2, by omega⟩
  have HM := Lib.hid hm
  have H2 := Lib.hid h2
  clear h1 hm h2 hn
  go_enter Tryd.func29, Tryd.ntmps29
  go_wp2
  go_loopw [4, 5] (fun v i wr => ∃ k : Nat, 2 * k ≤ s.size ∧ i = .int .i64 (2 * (k : Int)) ∧ OB wr w.heap.size v (unhexL (s.data.toList.take (2 * k))) ∧ Below w.heap.size w wr) (fun _ i _ => s.size - (intOf i).toNat)
  case atStart => exact ⟨0, Nat.zero_le _, rfl, OB.nil _ _, Below.refl _ _⟩
  case round =>
    obtain ⟨k, hk, rfl, hown, hbr⟩ := hrel
    have HO := Lib.hid hown
    clear hown
    have hbs := hbr.size
    by_cases hlt : 2 * k < s.size
    · have hlt2 : 2 * k + 1 < s.size := by have := HM.out; omega
      have ha := all_getElem H2.out (2 * k) (by rw [hsz]; omega)
      have hb := all_getElem H2.out (2 * k + 1) (by rw [hsz]; omega)
      have HS := Lib.hid (unhexL_take s.data.toList k (by rw [hsz]; omega))
      have ex : hexI (s[2 * k]'hlt) = (hexV s.data.toList[2 * k] : Int) := hexI_yes _ ha
      have ey : hexI (s[2 * k + 1]'hlt2) = (hexV s.data.toList[2 * k + 1] : Int) := hexI_yes _ hb
      have ha16 := hexV_lt _ ha
      have hb16 := hexV_lt _ hb
      generalize hexV s.data.toList[2 * k] = x at *
      generalize hexV s.data.toList[2 * k + 1] = y at *
      have hz : ((UInt8.ofNat (16 * x + y)).toNat : Int) = 16 * (x : Int) + (y : Int) := by
        rw [UInt8.toNat_ofNat']
        omega
      generalize UInt8.ofNat (16 * x + y) = z at *
      have HZ := Lib.hid hz
      have d2 : decide ((x : Int) < 0) = false := by simp
      have d3 : decide ((y : Int) < 0) = false := by simp
      have d4 : decide ((s.size : Int) ≤ 2 * (k : Int) + 1) = false := by rw [decide_eq_false_iff_not]; omega
      clear ha hb hz
      go_wp2_with (go_at_call 63; refine (digit_any _ _).mono ?_; rintro e w' ⟨rfl, rfl⟩)
      have hle : (unhexL (s.data.toList.take (2 * k))).length + 1 ≤ 140737488355328 := by rw [unhexL_length, List.length_take]; omega
      have q1 : IntKind.i64.wrap (16 * (x : Int)) = 16 * (x : Int) := IntWalk.i64_in _ (by omega)
      have q2 : IntKind.i64.wrap (16 * (x : Int) + (y : Int)) = 16 * (x : Int) + (y : Int) := IntWalk.i64_in _ (by omega)
      have q3 : IntKind.u8.wrap (16 * (x : Int) + (y : Int)) = 16 * (x : Int) + (y : Int) := IntWalk.u8_in _ (by omega)
      have q4 : IntKind.i64.wrap (2 * (k : Int) + 1) = 2 * (k : Int) + 1 := IntWalk.i64_in _ (by omega)
      have b1 : (0 : Int) ≤ 2 * (k : Int) + 1 := by omega
      have b2 : 2 * (k : Int) + 1 < (s.size : Int) := by omega
      have b3 : (0 : Int) ≤ 2 * (k : Int) := by omega
      have b4 : 2 * (k : Int) < (s.size : Int) := by omega
      have t1 : (2 * (k : Int) + 1).toNat = 2 * k + 1 := by omega
      have t2 : (2 * (k : Int)).toNat = 2 * k := by omega
      go_region_held3 (fun w' => True)
        (first | trivial)
        (first | (go_at_call 63; refine (digit_any _ _).mono ?_; rintro e w' ⟨rfl, rfl⟩)
               | (refine step_app_bytes _ (by rfl) _ _ (by rfl) w.heap.size u4 _ (by rfl) (HO.out.alloc _).drew (some ⟨wr.heap.size, 0, none⟩) 1 1 [z] (by rfl) (by rfl) (lit_rb wr [z] _ (by rw [Lib.byteCells, List.map_singleton, HZ.out])).drew' hle (by simp; omega) ?_; intro v1 w2 ho1 hg1 hat))
      all_goals
        have hbl : Below w.heap.size w w2 := ((hbr.alloc hbs _).drew).grown hg1 (by simp; omega) (fun j hj => HO.out.grown_ge j hj)
        have HO1 := Lib.hid ho1
        clear ho1 hg1 hat
        go_wp2
        clear q1 q2 q3 q4 t1 t2
        go_roundw
        case rel => exact ⟨k + 1, by omega, by go_num, by rw [show 2 * (k + 1) = 2 * k + 2 from by omega, HS.out]; exact HO1.out, hbl⟩
        case measure => simp [intOf]; omega
    · have hk2 : 2 * k = s.size := by omega
      have HK := Lib.hid hk2
      clear hk2
      go_wp2
      go_ret2
      refine ⟨u4, rfl, ?_, hbr⟩
      have := HO.out
      rw [HK.out, List.take_of_length_le (by rw [hsz]; exact Nat.le_refl _)] at this
      exact this


theorem take_all (l : List UInt8) (k : Nat) (h : (l.take k).all isHex = true) (hk : k < l.length) (hx : isHex l[k] = true) : (l.take (k + 1)).all isHex = true := by
  rw [List.take_succ_eq_append_getElem hk, List.all_append, h]
  simp [hx]
set_option maxRecDepth 100000 in
set_option maxHeartbeats 1000000 in
theorem refUnhex_no (s : ByteArray) (w : World) (hs : s.size ≤ 70368744177664) (hn : okHex s.data.toList = false) :
    Calls Tryd.prog 29 #[.string s] w fun e w' => e = .returned (.tuple #[.slice none 0 0, .bool false]) ∧ Below w.heap.size w w' := by
  have hsz : s.data.toList.length = s.size := rfl
  have HN := Lib.hid hn
  clear hn
  go_enter Tryd.func29, Tryd.ntmps29
  go_wp2
  go_loopw [4, 5] (fun v i wr => ∃ k : Nat, 2 * k ≤ s.size ∧ i = .int .i64 (2 * (k : Int)) ∧ (OB wr w.heap.size v (unhexL (s.data.toList.take (2 * k))) ∧ (s.data.toList.take (2 * k)).all isHex = true) ∧ Below w.heap.size w wr) (fun _ i _ => s.size - (intOf i).toNat)
  case atStart => exact ⟨0, Nat.zero_le _, rfl, ⟨OB.nil _ _, rfl⟩, Below.refl _ _⟩
  case round =>
    obtain ⟨k, hk, rfl, ⟨hown, hall⟩, hbr⟩ := hrel
    have HO := Lib.hid hown
    have HAL := Lib.hid hall
    clear hown hall
    have hbs := hbr.size
    by_cases hlt : 2 * k < s.size
    · by_cases hlt2 : 2 * k + 1 < s.size
      · have d4 : decide ((s.size : Int) ≤ 2 * (k : Int) + 1) = false := by rw [decide_eq_false_iff_not]; omega
        cases hA : isHex s.data.toList[2 * k] with
        | false =>
          have ex : hexI (s[2 * k]'hlt) = -1 := hexI_no _ hA
          clear hA
          go_wp2_with (go_at_call 63; refine (digit_any _ _).mono ?_; rintro e w' ⟨rfl, rfl⟩)
          go_ret2
          exact ⟨rfl, hbr⟩
        | true =>
          cases hB : isHex s.data.toList[2 * k + 1] with
          | false =>
            have ex : hexI (s[2 * k]'hlt) = (hexV s.data.toList[2 * k] : Int) := hexI_yes _ hA
            have ey : hexI (s[2 * k + 1]'hlt2) = -1 := hexI_no _ hB
            generalize hexV s.data.toList[2 * k] = x at *
            have d2 : decide ((x : Int) < 0) = false := by simp
            clear hA hB
            go_wp2_with (go_at_call 63; refine (digit_any _ _).mono ?_; rintro e w' ⟨rfl, rfl⟩)
            go_ret2
            exact ⟨rfl, hbr⟩
          | true =>
            have HALL := Lib.hid (take_all _ (2 * k + 1) (take_all _ (2 * k) HAL.out (by rw [hsz]; omega) hA) (by rw [hsz]; omega) hB)
            have ha := hA
            have hb := hB
            clear hA hB
            have HS := Lib.hid (unhexL_take s.data.toList k (by rw [hsz]; omega))
            have ex : hexI (s[2 * k]'hlt) = (hexV s.data.toList[2 * k] : Int) := hexI_yes _ ha
            have ey : hexI (s[2 * k + 1]'hlt2) = (hexV s.data.toList[2 * k + 1] : Int) := hexI_yes _ hb
            have ha16 := hexV_lt _ ha
            have hb16 := hexV_lt _ hb
            generalize hexV s.data.toList[2 * k] = x at *
            generalize hexV s.data.toList[2 * k + 1] = y at *
            have hz : ((UInt8.ofNat (16 * x + y)).toNat : Int) = 16 * (x : Int) + (y : Int) := by
              rw [UInt8.toNat_ofNat']
              omega
            generalize UInt8.ofNat (16 * x + y) = z at *
            have HZ := Lib.hid hz
            have d2 : decide ((x : Int) < 0) = false := by simp
            have d3 : decide ((y : Int) < 0) = false := by simp
            clear ha hb hz
            go_wp2_with (go_at_call 63; refine (digit_any _ _).mono ?_; rintro e w' ⟨rfl, rfl⟩)
            have hle : (unhexL (s.data.toList.take (2 * k))).length + 1 ≤ 140737488355328 := by rw [unhexL_length, List.length_take]; omega
            have q1 : IntKind.i64.wrap (16 * (x : Int)) = 16 * (x : Int) := IntWalk.i64_in _ (by omega)
            have q2 : IntKind.i64.wrap (16 * (x : Int) + (y : Int)) = 16 * (x : Int) + (y : Int) := IntWalk.i64_in _ (by omega)
            have q3 : IntKind.u8.wrap (16 * (x : Int) + (y : Int)) = 16 * (x : Int) + (y : Int) := IntWalk.u8_in _ (by omega)
            have q4 : IntKind.i64.wrap (2 * (k : Int) + 1) = 2 * (k : Int) + 1 := IntWalk.i64_in _ (by omega)
            have b1 : (0 : Int) ≤ 2 * (k : Int) + 1 := by omega
            have b2 : 2 * (k : Int) + 1 < (s.size : Int) := by omega
            have b3 : (0 : Int) ≤ 2 * (k : Int) := by omega
            have b4 : 2 * (k : Int) < (s.size : Int) := by omega
            have t1 : (2 * (k : Int) + 1).toNat = 2 * k + 1 := by omega
            have t2 : (2 * (k : Int)).toNat = 2 * k := by omega
            go_region_held3 (fun w' => True)
              (first | trivial)
              (first | (go_at_call 63; refine (digit_any _ _).mono ?_; rintro e w' ⟨rfl, rfl⟩)
                     | (refine step_app_bytes _ (by rfl) _ _ (by rfl) w.heap.size u4 _ (by rfl) (HO.out.alloc _).drew (some ⟨wr.heap.size, 0, none⟩) 1 1 [z] (by rfl) (by rfl) (lit_rb wr [z] _ (by rw [Lib.byteCells, List.map_singleton, HZ.out])).drew' hle (by simp; omega) ?_; intro v1 w2 ho1 hg1 hat))
            all_goals
              have hbl : Below w.heap.size w w2 := ((hbr.alloc hbs _).drew).grown hg1 (by simp; omega) (fun j hj => HO.out.grown_ge j hj)
              have HO1 := Lib.hid ho1
              clear ho1 hg1 hat
              go_wp2
              clear q1 q2 q3 q4 t1 t2
              go_roundw
              case rel => exact ⟨k + 1, by omega, by go_num, ⟨by rw [show 2 * (k + 1) = 2 * k + 2 from by omega, HS.out]; exact HO1.out, by rw [show 2 * (k + 1) = 2 * k + 1 + 1 from by omega]; exact HALL.out⟩, hbl⟩
              case measure => simp [intOf]; omega
      · have d4 : decide ((s.size : Int) ≤ 2 * (k : Int) + 1) = true := by rw [decide_eq_true_iff]; omega
        go_wp2_with (go_at_call 63; refine (digit_any _ _).mono ?_; rintro e w' ⟨rfl, rfl⟩)
        go_ret2
        exact ⟨rfl, hbr⟩
    · exfalso
      have hk2 : 2 * k = s.size := by omega
      have h1 := HN.out
      have h2 := HAL.out
      rw [hk2, List.take_of_length_le (by rw [hsz]; exact Nat.le_refl _)] at h2
      simp [okHex, h2] at h1
      omega

end Go.Proofs.YtleancgkincenaaDoor
