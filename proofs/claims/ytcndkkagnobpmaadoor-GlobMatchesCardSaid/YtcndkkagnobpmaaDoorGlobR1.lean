/-
  The document's Split.
-/
import Derived.Test.YtcndkkagnobpmaaDoorGlobW5
import Derived.Test.YtcndkkagnobpmaaDoorOwnR
namespace Go.Proofs.YtcndkkagnobpmaaDoor
open Go.RowKit Glob
set_option linter.unusedVariables false

theorem infoStr : (Tryd.prog.info? 9).map (fun i => (i.zero, i.size, i.bytes)) = some (some (.string ⟨#[]⟩), 1, 16) := by kernel_rfl
theorem cut_hit_at (S : List UInt8) (f k : Nat) (hf : f ≤ k) (hk : k < S.length) (hc : S[k] = 47) (hno : (47 : UInt8) ∉ (S.drop f).take (k - f)) : cutS 47 (S.drop f) = (S.drop f).take (k - f) :: cutS 47 (S.drop (k + 1)) := by
  have h1 : S.drop f = (S.drop f).take (k - f) ++ 47 :: S.drop (k + 1) := by
    conv => lhs; rw [← List.take_append_drop (k - f) (S.drop f)]
    rw [List.drop_drop, show f + (k - f) = k from by omega, List.drop_eq_getElem_cons hk, hc]
  conv => lhs; rw [h1]
  exact cutS_hit 47 _ _ hno
theorem no_more (S : List UInt8) (f k : Nat) (hf : f ≤ k) (hk : k < S.length) (hc : S[k] ≠ 47) (hno : (47 : UInt8) ∉ (S.drop f).take (k - f)) : (47 : UInt8) ∉ (S.drop f).take (k + 1 - f) := by
  rw [show k + 1 - f = (k - f) + 1 from by omega, List.take_succ_eq_append_getElem (by rw [List.length_drop]; omega), List.mem_append]
  rintro (h | h)
  · exact hno h
  · rw [List.mem_singleton, List.getElem_drop] at h
    simp only [show f + (k - f) = k from by omega] at h
    exact hc h.symm
set_option maxHeartbeats 2000000 in
theorem rsplit_any (s : ByteArray) (w : World) (hs : s.size ≤ 100000) : Calls Tryd.prog 47 #[.string s] w fun e w' =>
    ∃ (A : Option Addr) (c : Nat) (l : List ByteArray), l.map (·.data.toList) = cutS 47 s.data.toList ∧ e = .returned (.slice A l.length c) ∧ SS w' A l ∧ Below w.heap.size w w' := by
  have hsl : s.data.toList.length = s.size := by cases s; simp [ByteArray.size]
  have HS := Lib.hid hsl
  clear hsl
  go_enter Tryd.func47, Tryd.ntmps47
  go_wp2
  go_loopw [3, 4, 5] (fun v f i wr => ∃ (k g : Nat) (l : List ByteArray), k ≤ s.size + 1 ∧ i = .int .i64 k ∧ f = .int .i64 g ∧ g ≤ k ∧ l.length ≤ k ∧ Hid (OR 9 wr w.heap.size v (l.map Value.string)) ∧ Hid (Below w.heap.size w wr) ∧
      Hid (k = s.size + 1 → l.map (·.data.toList) = cutS 47 s.data.toList) ∧ Hid (k ≤ s.size → cutS 47 s.data.toList = l.map (·.data.toList) ++ cutS 47 (s.data.toList.drop g) ∧ (47 : UInt8) ∉ (s.data.toList.drop g).take (k - g))) (fun _ _ i _ => s.size + 1 - (intOf i).toNat)
  case atStart => exact ⟨0, 0, [], Nat.zero_le _, rfl, rfl, Nat.le_refl _, Nat.le_refl _, Lib.hid (OR.nil _ _ _), Lib.hid (Below.refl _ _), Lib.hid (fun h => by omega), Lib.hid (fun _ => ⟨rfl, by simp⟩)⟩
  case round =>
    obtain ⟨k, g, l, hk, rfl, rfl, hg, hl, HO, HB, HE, HC⟩ := hrel
    rcases (by omega : k = s.size + 1 ∨ k = s.size ∨ k < s.size) with heq | heq | hlt
    · have e1 : decide (k ≤ s.size) = false := by rw [decide_eq_false_iff_not]; omega
      have hkk : ¬ ((k : Int) ≤ (s.size : Int)) := by omega
      have HE' := Lib.hid (HE.out heq)
      clear heq HE HC
      obtain ⟨A, c, rfl, _, _, hR, _⟩ := HO.out.shape
      have HR := Lib.hid hR
      clear hR HO
      go_wp2
      go_ret
      exact ⟨A, c, l, HE'.out, by simp, by have := HR.out; unfold SS; rw [List.length_map] at this; exact this, HB.out⟩
    · have HC' := Lib.hid (HC.out (by omega))
      clear HC HE
      have e1 : decide (k ≤ s.size) = true := by rw [decide_eq_true_iff]; omega
      have hkk : ((k : Int) ≤ (s.size : Int)) := by omega
      have e2 : ((k : Int) == (s.size : Int)) = true := by rw [beq_iff_eq]; omega
      have hgk : (g : Int) ≤ (k : Int) := by omega
      have HKK := Lib.hid heq
      clear heq
      have hszB := HB.out.size
      have hx : (s.extract g k).data.toList = s.data.toList.drop g := by simp [List.extract]; rw [List.take_of_length_le (by rw [List.length_drop, HS.out, HKK.out]; omega)]
      have HX := Lib.hid hx
      clear hx
      go_wp2_with (at_builtin; refine app_cell wr rfl _ _ 49 9 _ 16 Tryd.underlying49 infoStr rfl rfl w.heap.size u3 _ rfl HO.out _ rfl rfl (by rw [List.length_map]; simp only [maxLen]; omega) (by rw [List.length_map]; omega) hszB ?_)
      intro v' w' hO hG hv'
      have HO' : Hid (OR 9 w' w.heap.size v' ((l ++ [s.extract g k]).map Value.string)) := by rw [List.map_append]; exact hO
      have HB' : Hid (Below w.heap.size w w') := below_grown (HB.out.alloc hszB _) hG (by simp; omega) HO.out.ge
      have HE' : Hid (k + 1 = s.size + 1 → (l ++ [s.extract g k]).map (·.data.toList) = cutS 47 s.data.toList) := fun _ => by
        obtain ⟨h1, h2⟩ := HC'.out
        rw [h1, List.map_append, List.map_cons, List.map_nil, HX.out, cutS_miss 47 (s.data.toList.drop g)]
        rwa [List.take_of_length_le (by rw [List.length_drop, HS.out, HKK.out]; exact Nat.le_refl _)] at h2
      have HK1 : Hid (¬ k + 1 ≤ s.size) := by show ¬ _; rw [HKK.out]; omega
      clear hO hG hv' HO HB HC'
      go_wp2
      go_roundw
      case rel => exact ⟨k + 1, k + 1, l ++ [s.extract g k], by omega, by go_num, by go_num, Nat.le_refl _, by simp; omega, HO', HB', HE', Lib.hid (fun h => absurd h HK1.out)⟩
      case measure => simp [intOf]; omega
    · have HC' := Lib.hid (HC.out (by omega))
      clear HC HE
      have hkl : k < s.data.toList.length := by rw [HS.out]; exact hlt
      have e1 : decide (k ≤ s.size) = true := by rw [decide_eq_true_iff]; omega
      have hkk : ((k : Int) ≤ (s.size : Int)) := by omega
      have hkk2 : ((k : Int) < (s.size : Int)) := by omega
      have e2 : ((k : Int) == (s.size : Int)) = false := by rw [beq_eq_false_iff_ne]; omega
      have hgk : (g : Int) ≤ (k : Int) := by omega
      obtain ⟨c, hc⟩ : ∃ c, c = s[k] := ⟨_, rfl⟩
      have hc2 : s.data.toList[k] = c := hc.symm
      have hc' := hc.symm
      have HC2 := Lib.hid hc2
      clear hc hc2
      have hszB := HB.out.size
      by_cases h47 : c = 47
      · subst h47
        have hx : (s.extract g k).data.toList = (s.data.toList.drop g).take (k - g) := by simp [List.extract]
        have HX := Lib.hid hx
        clear hx
        go_wp2_with (at_builtin; refine app_cell wr rfl _ _ 49 9 _ 16 Tryd.underlying49 infoStr rfl rfl w.heap.size u3 _ rfl HO.out _ rfl rfl (by rw [List.length_map]; simp only [maxLen]; omega) (by rw [List.length_map]; omega) hszB ?_)
        intro v' w' hO hG hv'
        have HO' : Hid (OR 9 w' w.heap.size v' ((l ++ [s.extract g k]).map Value.string)) := by rw [List.map_append]; exact hO
        have HB' : Hid (Below w.heap.size w w') := below_grown (HB.out.alloc hszB _) hG (by simp; omega) HO.out.ge
        have HC3 : Hid (k + 1 ≤ s.size → cutS 47 s.data.toList = (l ++ [s.extract g k]).map (·.data.toList) ++ cutS 47 (s.data.toList.drop (k + 1)) ∧ (47 : UInt8) ∉ (s.data.toList.drop (k + 1)).take (k + 1 - (k + 1))) := fun _ => by
          obtain ⟨h1, h2⟩ := HC'.out
          refine ⟨?_, by simp⟩
          rw [h1, cut_hit_at _ g k hg hkl HC2.out h2, List.map_append, List.map_cons, List.map_nil, HX.out, List.append_assoc]
          rfl
        have HK1 : Hid (¬ k + 1 = s.size + 1) := by show ¬ _; omega
        clear hO hG hv' HO HB HC'
        go_wp2
        go_roundw
        case rel => exact ⟨k + 1, k + 1, l ++ [s.extract g k], by omega, by go_num, by go_num, Nat.le_refl _, by simp; omega, HO', HB', Lib.hid (fun h => absurd h HK1.out), HC3⟩
        case measure => simp [intOf]; omega
      · have e3 : ((c.toNat : Int) == 47) = false := by
          rw [beq_eq_false_iff_ne]
          intro e
          exact h47 (UInt8.toNat_inj.1 (by show _ = 47; omega))
        have HC3 : Hid (k + 1 ≤ s.size → cutS 47 s.data.toList = l.map (·.data.toList) ++ cutS 47 (s.data.toList.drop g) ∧ (47 : UInt8) ∉ (s.data.toList.drop g).take (k + 1 - g)) := fun _ => by
          obtain ⟨h1, h2⟩ := HC'.out
          exact ⟨h1, no_more _ g k hg hkl (by rw [HC2.out]; exact h47) h2⟩
        have HK1 : Hid (¬ k + 1 = s.size + 1) := by show ¬ _; omega
        clear h47 HC'
        go_wp2
        go_roundw
        case rel => exact ⟨k + 1, g, l, by omega, by go_num, rfl, by omega, by omega, HO, HB, Lib.hid (fun h => absurd h HK1.out), HC3⟩
        case measure => simp [intOf]; omega
end Go.Proofs.YtcndkkagnobpmaaDoor
