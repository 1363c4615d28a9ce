/-
  glob.First, and the document's.
-/
import Derived.Test.YtodkjhbnodcbhaaDoorGlobT9
namespace Go.Proofs.YtodkjhbnodcbhaaDoor
open Go.RowKit Glob
set_option linter.unusedVariables false

theorem infoInt : (Tryd.prog.info? 3).map (fun i => (i.zero, i.size, i.bytes)) = some (some (.int .i64 0), 1, 8) := by kernel_rfl
def overS (a b : ByteArray) : Bool := overL a.data.toList b.data.toList
/-- is the one at k overlapped by none ahead? -/
def firstOk (l : List ByteArray) (k : Nat) : Bool := match l[k]? with
  | none => false
  | some x => patL x.data.toList && !(l.take k).any (fun q => overS q x)
def firstTo (l : List ByteArray) (k : Nat) : List Nat := (List.range k).filter (firstOk l)
def natV (k : Nat) : Value := .int .i64 (k : Int)
theorem firstTo_succ (l : List ByteArray) (k : Nat) : firstTo l (k + 1) = if firstOk l k then firstTo l k ++ [k] else firstTo l k := by
  unfold firstTo
  rw [List.range_succ, List.filter_append]
  cases h : firstOk l k <;> simp [h]
theorem firstTo_len (l : List ByteArray) (k : Nat) : (firstTo l k).length ≤ k := by
  unfold firstTo
  have := List.length_filter_le (firstOk l) (List.range k)
  simpa using this
theorem firstOk_at {l : List ByteArray} {k : Nat} (h : k < l.length) : firstOk l k = (patL l[k].data.toList && !(l.take k).any (fun q => overS q l[k])) := by unfold firstOk; rw [List.getElem?_eq_getElem h]
theorem SS.take {w : World} {A : Option Addr} {l : List ByteArray} (h : SS w A l) (k : Nat) (hk : k ≤ l.length) : SS w A (l.take k) := by
  refine ⟨by simp, fun hn => ?_⟩
  have hlt : (l.take k).length = k := by rw [List.length_take]; omega
  rw [hlt] at hn
  obtain ⟨ad, e, hb, hc⟩ := h.2 (by omega)
  refine ⟨ad, e, hb, fun j u hu => hc j u ?_⟩
  rw [List.getElem?_map] at hu ⊢
  rcases Nat.lt_or_ge j k with h1 | h1
  · rw [List.getElem?_take_of_lt h1] at hu; exact hu
  · rw [List.getElem?_eq_none (by omega)] at hu; cases hu
set_option maxHeartbeats 1000000 in
theorem firstc_any (p x : ByteArray) (B : Nat) (w : World) (hp : p.size ≤ 1000) (hs : x.size ≤ 1000) (hT : Tab w) (hB : w.cell? ⟨B, 0, none⟩ = some (.string x)) :
    Calls Tryd.prog 36 #[.string p, .pointer (some ⟨B, 0, none⟩)] w fun e w' => e = .returned (.bool (overS p x)) ∧ Below w.heap.size w w' := by
  obtain ⟨r, hr⟩ : ∃ r, r = overS p x := ⟨_, rfl⟩
  have HM := overlap_any p x w hp hs hT
  rw [show overL p.data.toList x.data.toList = r from hr.symm] at HM
  rw [← hr]
  clear hr
  have HM := Lib.hid HM
  go_enter Tryd.func36, Tryd.ntmps36
  go_wp2_with fail
  refine HM.out.mono ?_
  rintro e w' ⟨rfl, hb⟩
  go_wp2
  go_ret
  exact ⟨rfl, hb⟩
set_option maxRecDepth 100000 in
set_option maxHeartbeats 4000000 in
theorem first_any (A : Option Addr) (n c : Nat) (l : List ByteArray) (w : World) (hl : SS w A l) (hn : l.length = n) (hbig : n ≤ 1000) (hnc : n ≤ c) (hc : c ≤ 9223372036854775807) (hls : ∀ a ∈ l, a.size ≤ 1000) (hT : Tab w) :
    Calls Tryd.prog 22 #[.slice A n c] w fun e w' => ∃ v, e = .returned v ∧ OR 3 w' w.heap.size v ((firstTo l n).map natV) ∧ Below w.heap.size w w' := by
  have HN := Lib.hid hn
  clear hn
  go_enter Tryd.func22, Tryd.ntmps22
  go_wp2
  go_loopw [3, 4, 5, 6, 9] (fun v _ _ _ i wr => ∃ k : Nat, k ≤ n ∧ i = .int .i64 k ∧ Hid (OR 3 wr w.heap.size v ((firstTo l k).map natV)) ∧ Hid (Below w.heap.size w wr)) (fun _ _ _ _ i _ => n - (intOf i).toNat)
  case atStart => exact ⟨0, Nat.zero_le _, rfl, Lib.hid (OR.nil _ _ _), Lib.hid (Below.refl _ _)⟩
  case round =>
    obtain ⟨k, hk, rfl, HO, HB⟩ := hrel
    rcases (by omega : k < n ∨ k = n) with hlt | heq
    · have hkl : k < l.length := by rw [HN.out]; exact hlt
      have hSw := hl.below HB.out
      obtain ⟨ad, rfl, hadl, hcl⟩ := hSw.at_ hkl
      obtain ⟨x, hx⟩ : ∃ x, x = l[k] := ⟨_, rfl⟩
      have hxz : x.size ≤ 1000 := by rw [hx]; exact hls _ (List.getElem_mem hkl)
      have hok := firstOk_at hkl
      have hst := firstTo_succ l k
      have hfl := firstTo_len l k
      rw [← hx] at hcl hok
      clear hx hl
      have HOK := Lib.hid hok
      have HST := Lib.hid hst
      clear hok hst
      have hki : (k : Int) < (n : Int) := by omega
      have hk0 : (0 : Int) ≤ (k : Int) := by omega
      have hkc : (k : Int) ≤ (c : Int) := by omega
      have hb0 : Below wr.heap.size wr (wr.alloc (.cells #[.string x] 9)) := (Below.refl _ _).alloc (Nat.le_refl _) _
      have hTw := hT.below HB.out
      have hc0 : (wr.alloc (.cells #[.string x] 9)).cell? ⟨wr.heap.size, 0, none⟩ = some (.string x) := (Blk.new wr 9 #[.string x]).cell 0
      have HC := containsFunc_any 36 #[.pointer (some ⟨wr.heap.size, 0, none⟩)] (enters_of Tryd.func36 (by kernel_rfl) rfl) (some ad) k c (l.take k) (wr.alloc (.cells #[.string x] 9)) (fun q => overS q x) ((hSw.take k (by omega)).below hb0) (by rw [List.length_take]; omega) (by omega)
        (fun j h1 W hb => (firstc_any (l.take k)[j] x wr.heap.size W (hls _ (List.mem_of_mem_take (List.getElem_mem h1))) hxz ((hTw.below hb0).below hb) ((hb.cell (p := ⟨wr.heap.size, 0, none⟩) (by simp)).trans hc0)).mono fun e w' ⟨he, hw⟩ => ⟨he, hb.trans (hw.mono hb.size)⟩)
      obtain ⟨o, ho⟩ : ∃ o, o = (l.take k).any (fun q => overS q x) := ⟨_, rfl⟩
      rw [← ho] at HC
      have HOK2 : Hid (firstOk l k = (patL x.data.toList && !o)) := by show _ = _; rw [HOK.out, ← ho]
      have HC := Lib.hid HC
      have HP := fun w h => Lib.hid (pattern_any x w (by omega) h)
      have HSW := Lib.hid hSw
      clear ho HOK hSw
      have heg := enters_of Tryd.func36 (by kernel_rfl) rfl
      go_wp2_with fail
      refine HC.out.mono ?_
      rintro e w2 ⟨rfl, hb2⟩
      have hb02 : Below wr.heap.size wr w2 := hb0.trans (hb2.mono (by simp))
      have hbox : w2.cell? ⟨wr.heap.size, 0, none⟩ = some (.string x) := (hb2.cell (p := ⟨wr.heap.size, 0, none⟩) (by simp)).trans hc0
      obtain ⟨pt, hpt⟩ : ∃ pt, pt = patL x.data.toList := ⟨_, rfl⟩
      rw [← hpt] at HOK2 HP
      clear hpt hc0
      go_wp2_with fail
      refine (HP _ (hTw.below hb02)).out.mono ?_
      rintro e w3 ⟨rfl, hb3⟩
      have hb03 : Below wr.heap.size wr w3 := hb02.trans (hb3.mono hb02.size)
      have HO3 := Lib.hid (HO.out.below hb03)
      have HB3 : Hid (Below w.heap.size w w3) := Lib.hid (HB.out.trans (hb03.mono HB.out.size))
      clear hbox HO HB
      have hszB := HB3.out.size
      cases pt with
      | false =>
        have HF : Hid (firstTo l (k + 1) = firstTo l k) := by show _ = _; rw [HST.out, HOK2.out]; rfl
        go_wp2
        go_roundw
        case rel => exact ⟨k + 1, by omega, by go_num, Lib.hid (by rw [HF.out]; exact HO3.out), HB3⟩
        case measure => simp [intOf]; omega
      | true =>
        cases o with
        | true =>
          have HF : Hid (firstTo l (k + 1) = firstTo l k) := by show _ = _; rw [HST.out, HOK2.out]; rfl
          go_wp2
          go_roundw
          case rel => exact ⟨k + 1, by omega, by go_num, Lib.hid (by rw [HF.out]; exact HO3.out), HB3⟩
          case measure => simp [intOf]; omega
        | false =>
          have HF : Hid (firstTo l (k + 1) = firstTo l k ++ [k]) := by show _ = _; rw [HST.out, HOK2.out]; rfl
          go_wp2_with (at_builtin; refine app_cell w3 rfl _ _ 29 3 _ 8 Tryd.underlying29 infoInt rfl rfl w.heap.size u3 _ rfl HO3.out _ rfl rfl (by rw [List.length_map]; simp only [maxLen]; omega) (by rw [List.length_map]; omega) hszB ?_)
          intro v' w' hO hG hv'
          have HO' : Hid (OR 3 w' w.heap.size v' ((firstTo l (k + 1)).map natV)) := by rw [HF.out, List.map_append]; exact hO
          have HB' : Hid (Below w.heap.size w w') := below_grown (HB3.out.alloc hszB _) hG (by simp; omega) HO3.out.ge
          clear hO hG hv' HO3 HB3
          go_wp2
          go_roundw
          case rel => exact ⟨k + 1, by omega, by go_num, HO', HB'⟩
          case measure => simp [intOf]; omega
    · have hki : ¬ (k : Int) < (n : Int) := by omega
      subst heq
      go_wp2
      go_ret
      exact ⟨_, rfl, HO.out, HB.out⟩
theorem any_to {l : List ByteArray} {x : ByteArray} {j : Nat} (h : j < l.length) : (l.take (j + 1)).any (fun q => overS q x) = ((l.take j).any (fun q => overS q x) || overS l[j] x) := by
  rw [List.take_succ_eq_append_getElem h, List.any_append]; simp
set_option maxRecDepth 100000 in
set_option maxHeartbeats 8000000 in
theorem rfirst_any (A : Option Addr) (n c : Nat) (l : List ByteArray) (w : World) (hl : SS w A l) (hn : l.length = n) (hbig : n ≤ 1000) (hls : ∀ a ∈ l, a.size ≤ 1000) :
    Calls Tryd.prog 23 #[.slice A n c] w fun e w' => ∃ v, e = .returned v ∧ OR 3 w' w.heap.size v ((firstTo l n).map natV) ∧ Below w.heap.size w w' := by
  have HN := Lib.hid hn
  clear hn
  go_enter Tryd.func23, Tryd.ntmps23
  go_wp2
  go_loopw [3, 4, 5, 6] (fun v i _ _ wr => ∃ k : Nat, k ≤ n ∧ i = .int .i64 k ∧ Hid (OR 3 wr w.heap.size v ((firstTo l k).map natV)) ∧ Hid (Below w.heap.size w wr)) (fun _ i _ _ _ => n - (intOf i).toNat)
  case atStart => exact ⟨0, Nat.zero_le _, rfl, Lib.hid (OR.nil _ _ _), Lib.hid (Below.refl _ _)⟩
  case round =>
    obtain ⟨k, hk, rfl, HO, HB⟩ := hrel
    rcases (by omega : k < n ∨ k = n) with hlt | heq
    · have hkl : k < l.length := by rw [HN.out]; exact hlt
      obtain ⟨ad, rfl, hadl, hcl⟩ := (hl.below HB.out).at_ hkl
      obtain ⟨x, hx⟩ : ∃ x, x = l[k] := ⟨_, rfl⟩
      have hxz : x.size ≤ 1000 := by rw [hx]; exact hls _ (List.getElem_mem hkl)
      have hok := firstOk_at hkl
      have hst := firstTo_succ l k
      have hfl := firstTo_len l k
      have HX := Lib.hid hx
      rw [← hx] at hcl hok
      clear hx
      have HL := Lib.hid hl
      have HOK := Lib.hid hok
      have HST := Lib.hid hst
      clear hok hst hl
      have hki : (k : Int) < (n : Int) := by omega
      have hk0 : (0 : Int) ≤ (k : Int) := by omega
      have HP := fun w => (rpattern_any x w (by omega))
      obtain ⟨pt, hpt⟩ : ∃ pt, pt = patL x.data.toList := ⟨_, rfl⟩
      rw [← hpt] at HP
      have HP := Lib.hid HP
      have HOK2 : Hid (firstOk l k = (pt && !(l.take k).any (fun q => overS q x))) := by show _ = _; rw [HOK.out, ← hpt]
      clear hpt HOK
      go_wp2_with fail
      refine (HP.out _).mono ?_
      rintro e w2 ⟨rfl, hb2⟩
      have HO2 := Lib.hid (HO.out.below hb2)
      have HB2 : Hid (Below w.heap.size w w2) := Lib.hid (HB.out.trans (hb2.mono HB.out.size))
      clear HO HB hcl hb2
      go_wp2
      go_loopw [5, 6] (fun o i wr => ∃ (j : Nat) (b : Bool), j ≤ k ∧ i = .int .i64 j ∧ o = .bool b ∧ Hid (b = (pt && !(l.take j).any (fun q => overS q x))) ∧ Hid (Below w2.heap.size w2 wr)) (fun _ i _ => k - (intOf i).toNat)
      case atStart => exact ⟨0, pt, Nat.zero_le _, rfl, rfl, Lib.hid (by simp), Lib.hid (Below.refl _ _)⟩
      case round =>
        obtain ⟨j, b, hj, rfl, rfl, HV, HW⟩ := hrel
        have hB3 : Hid (Below w.heap.size w wr) := Lib.hid (HB2.out.trans (HW.out.mono HB2.out.size))
        rcases (by omega : j < k ∨ j = k) with hjk | hjk
        · have hjl : j < l.length := by omega
          have hji : (j : Int) < (k : Int) := by omega
          have hjn : (j : Int) < (n : Int) := by omega
          have hj0 : (0 : Int) ≤ (j : Int) := by omega
          have hstep := any_to (x := x) hjl
          cases b with
          | false =>
            have HV2 : Hid (false = (pt && !(l.take (j + 1)).any (fun q => overS q x))) := by
              have := HV.out
              show _ = _
              rw [hstep]
              cases pt with
              | false => rfl
              | true =>
                simp only [Bool.true_and] at this ⊢
                rw [Bool.not_or, ← this]; rfl
            clear hstep HV
            go_wp2
            go_quiet (fail)
            have HW2 : Hid (Below w2.heap.size w2 (wr.drewN nq)) := Lib.hid (HW.out.trans (below_drewN _ _ _))
            go_wp2
            go_roundw
            case rel => exact ⟨j + 1, false, by omega, by go_num, rfl, HV2, HW2⟩
            case measure => simp [intOf]; omega
          | true =>
            obtain ⟨ad', e', hadl2, hcx⟩ := (HL.out.below hB3.out).at_ hkl
            obtain rfl : ad = ad' := by injection e'
            obtain ⟨ad', e2, hadl3, hcy⟩ := (HL.out.below hB3.out).at_ hjl
            obtain rfl : ad = ad' := by injection e2
            obtain ⟨y, hy⟩ : ∃ y, y = l[j] := ⟨_, rfl⟩
            have hyz : y.size ≤ 1000 := by rw [hy]; exact hls _ (List.getElem_mem hjl)
            rw [← hy] at hcy hstep
            rw [← HX.out] at hcx
            have HC := fun w => roverlap_any y x w hyz hxz
            obtain ⟨o, ho⟩ : ∃ o, o = overS y x := ⟨_, rfl⟩
            rw [show overL y.data.toList x.data.toList = o from ho.symm] at HC
            have HV2 : Hid ((!o) = (pt && !(l.take (j + 1)).any (fun q => overS q x))) := by
              have := HV.out
              show _ = _
              rw [hstep, ← ho]
              cases pt with
              | false => simp at this
              | true =>
                simp only [Bool.true_and] at this ⊢
                rw [Bool.not_or, ← this]; rfl
            have HC := Lib.hid HC
            clear hstep HV ho hy e' e2
            go_wp2
            refine wp_region_still_tail 10 (by kernel_rfl) (by kernel_rfl) ?_
            simp only [List.take_succ_cons, List.take_zero, List.drop_succ_cons, List.drop_zero]
            repeat (with_reducible refine wpStill_step (fun K hK => ?_); go_simp; with_reducible refine hK _ ?_; clear hK K)
            with_reducible refine wpStill_nil ?_
            change wpList _ _ _ _ _ (World.drew _)
            go_wp2_with fail
            refine (HC.out _).mono ?_
            rintro e w5 ⟨rfl, hb5⟩
            have HW5 : Hid (Below w2.heap.size w2 w5) := Lib.hid (HW.out.trans ((below_drew1 _ _).trans (hb5.mono (show w2.heap.size ≤ wr.drew.heap.size from HW.out.size))))
            go_wp2
            go_roundw
            case rel => exact ⟨j + 1, !o, by omega, by go_num, rfl, HV2, HW5⟩
            case measure => simp [intOf]; omega
        · have hji : ¬ (j : Int) < (k : Int) := by omega
          have HF : Hid (firstTo l (k + 1) = if b then firstTo l k ++ [k] else firstTo l k) := by
            show _ = _
            rw [HST.out, HOK2.out, ← hjk, ← HV.out]
          have HO3 := Lib.hid (HO2.out.below HW.out)
          have hszB := hB3.out.size
          clear hjk HV HO2
          cases b with
          | false =>
            go_wp2
            go_roundw
            case rel => exact ⟨k + 1, by omega, by go_num, Lib.hid (by rw [HF.out]; exact HO3.out), hB3⟩
            case measure => simp [intOf]; omega
          | true =>
            go_wp2_with (at_builtin; refine app_cell wr rfl _ _ 29 3 _ 8 Tryd.underlying29 infoInt rfl rfl w.heap.size u3 _ rfl HO3.out _ rfl rfl (by rw [List.length_map]; simp only [maxLen]; omega) (by rw [List.length_map]; omega) hszB ?_)
            intro v' w' hO hG hv'
            have HO' : Hid (OR 3 w' w.heap.size v' ((firstTo l (k + 1)).map natV)) := by rw [HF.out]; simp only [if_true]; rw [List.map_append]; exact hO
            have HB' : Hid (Below w.heap.size w w') := below_grown (hB3.out.alloc hszB _) hG (by simp; omega) HO3.out.ge
            clear hO hG hv' HO3
            go_wp2
            go_roundw
            case rel => exact ⟨k + 1, by omega, by go_num, HO', HB'⟩
            case measure => simp [intOf]; omega
    · have hki : ¬ (k : Int) < (n : Int) := by omega
      subst heq
      go_wp2
      go_ret
      exact ⟨_, rfl, HO.out, HB.out⟩
end Go.Proofs.YtodkjhbnodcbhaaDoor
