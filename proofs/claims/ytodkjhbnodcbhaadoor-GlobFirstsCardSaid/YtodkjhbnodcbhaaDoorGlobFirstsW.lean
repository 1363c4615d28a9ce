/-
  The walk of the law GlobFirsts.
-/
import Derived.Test.YtodkjhbnodcbhaaDoorGlobLives
import Derived.Test.YtodkjhbnodcbhaaDoorGlobT10
namespace Go.Proofs.YtodkjhbnodcbhaaDoor
open Go.RowKit Glob
set_option linter.unusedVariables false

theorem ints_at {w : World} {base : Nat} {A : Option Addr} {n : Nat} {xs : List Nat} (h : Reads w base 1 A n (xs.map natV)) (hn : xs.length = n) {k : Nat} (hk : k < n) : ∃ ad, A = some ad ∧ w.cell? (ad.add k) = some (.int .i64 ((xs.getD k 0 : Nat) : Int)) := by
  obtain ⟨ad, u, e, _, hx, hc⟩ := h.at_ hk
  refine ⟨ad, e, ?_⟩
  rw [hc]
  rw [List.getElem?_map, List.getElem?_eq_getElem (by omega)] at hx
  rw [List.getD_eq_getElem?_getD, List.getElem?_eq_getElem (by omega)]
  exact hx.symm
theorem globFirsts_many (A : Option Addr) (n c : Nat) (w : World) (hT : Tab w) (h : 20 < n) (hn : n ≤ 9223372036854775807) : Calls Tryd.prog 8 #[.slice A n c] w fun e w' => e = .returned (.bool true) ∧ Below w.heap.size w w' := by
  have e1 : decide (20 < (n : Int)) = true := by rw [decide_eq_true_iff]; omega
  go_enter Tryd.func8, Tryd.ntmps8
  go_wp2_with fail
  refine (lives_any _ hT).mono ?_
  rintro e w' ⟨rfl, hb⟩
  go_wp2
  go_ret
  exact ⟨rfl, hb⟩
set_option maxRecDepth 100000 in
set_option maxHeartbeats 4000000 in
theorem globFirsts_few (A : Option Addr) (n c : Nat) (l : List ByteArray) (w : World) (hT : Tab w) (hl : SS w A l) (hn : l.length = n) (hnc : n ≤ c) (hc : c ≤ 9223372036854775807) (hsz : ∀ s ∈ l, s.size ≤ 9223372036854775807) (h : n ≤ 20) :
    Calls Tryd.prog 8 #[.slice A n c] w fun e w' => e = .returned (.bool true) ∧ Below w.heap.size w w' := by
  have e1 : decide (20 < (n : Int)) = false := by rw [decide_eq_false_iff_not]; omega
  have HN := Lib.hid hn
  clear hn
  go_enter Tryd.func8, Tryd.ntmps8
  go_wp2
  go_loopw [3] (fun i wr => ∃ k : Nat, k ≤ n ∧ i = .int .i64 k ∧ Hid (∀ a ∈ l.take k, a.size ≤ 1000) ∧ wr = w) (fun i _ => n - (intOf i).toNat)
  case atStart => exact ⟨0, Nat.zero_le _, rfl, Lib.hid (by simp), rfl⟩
  case round =>
    obtain ⟨k, hk, rfl, HK, rfl⟩ := hrel
    rcases (by omega : k < n ∨ k = n) with hlt | heq
    · have hkl : k < l.length := by rw [HN.out]; exact hlt
      obtain ⟨ad, rfl, hadl, hcl⟩ := hl.at_ hkl
      obtain ⟨x, hx⟩ : ∃ x, x = l[k] := ⟨_, rfl⟩
      have hxz : x.size ≤ 9223372036854775807 := by rw [hx]; exact hsz _ (List.getElem_mem hkl)
      rw [← hx] at hcl
      have HX := Lib.hid hx
      clear hx hl
      have hki : (k : Int) < (n : Int) := by omega
      have hk0 : (0 : Int) ≤ (k : Int) := by omega
      rcases (by omega : 1000 < x.size ∨ x.size ≤ 1000) with g | g
      · have e2 : decide (1000 < (x.size : Int)) = true := by rw [decide_eq_true_iff]; omega
        go_wp2_with fail
        refine (lives_any _ hT).mono ?_
        rintro e w' ⟨rfl, hb⟩
        go_wp2
        go_ret
        exact ⟨rfl, hb⟩
      · have e2 : decide (1000 < (x.size : Int)) = false := by rw [decide_eq_false_iff_not]; omega
        have HK2 : Hid (∀ a ∈ l.take (k + 1), a.size ≤ 1000) := fun a ha => by
          rw [List.take_succ_eq_append_getElem hkl, List.mem_append, List.mem_singleton] at ha
          rcases ha with ha | ha
          · exact HK.out a ha
          · rw [ha, ← HX.out]; exact g
        go_wp2
        go_roundw
        case rel => exact ⟨k + 1, by omega, by go_num, HK2, trivial⟩
        case measure => simp [intOf]; omega
    · have hki : ¬ (k : Int) < (n : Int) := by omega
      have hls : ∀ a ∈ l, a.size ≤ 1000 := by
        have := HK.out
        rwa [heq, ← HN.out, List.take_length] at this
      have HF := Lib.hid (first_any A n c l _ hl HN.out (by omega) hnc hc hls hT)
      have HR := fun w1 h1 => Lib.hid (rfirst_any A n c l w1 h1 HN.out (by omega) hls)
      clear heq HK
      go_wp2_with fail
      refine HF.out.mono ?_
      rintro e w1 ⟨v1, rfl, hO1, hb1⟩
      have hT1 := hT.below hb1
      go_wp2_with fail
      refine (HR _ (hl.below hb1)).out.mono ?_
      rintro e w2 ⟨v2, rfl, hO2, hb2⟩
      have hT2 := hT1.below hb2
      have a2 := hb1.trans (hb2.mono hb1.size)
      go_wp2_with fail
      refine (lives_any _ hT2).mono ?_
      rintro e w3 ⟨rfl, hb3⟩
      have a3 := a2.trans (hb3.mono a2.size)
      replace hO1 := (hO1.below hb2).below hb3
      replace hO2 := hO2.below hb3
      obtain ⟨A1, c1, rfl, -, -, hr1, -⟩ := hO1.shape
      obtain ⟨A2, c2, rfl, -, -, hr2, -⟩ := hO2.shape
      have hfl := firstTo_len l n
      obtain ⟨m, hm⟩ : ∃ m, m = ((firstTo l n).map natV).length := ⟨_, rfl⟩
      have hml : (firstTo l n).length = m := by rw [hm, List.length_map]
      rw [← hm] at hr1 hr2 ⊢
      have hmz : m ≤ 20 := by omega
      have HML := Lib.hid hml
      have HR1 := Lib.hid hr1
      have HR2 := Lib.hid hr2
      have hne : ((m : Int) != (m : Int)) = false := by simp
      clear hm hml hO1 hO2 hr1 hr2 hfl hl hb3 hb2 hb1 HF HR hls hsz hki hT1 hT2
      go_wp2
      go_loopw [6] (fun i wr => ∃ k : Nat, k ≤ m ∧ i = .int .i64 k ∧ ∃ q, wr = w3.drewN q) (fun i _ => m - (intOf i).toNat)
      case atStart => exact ⟨0, Nat.zero_le _, rfl, 0, rfl⟩
      case round =>
        obtain ⟨k2, hk2, rfl, q, rfl⟩ := hrel
        rcases (by omega : k2 < m ∨ k2 = m) with hlt | heq
        · obtain ⟨ad, rfl, hcl⟩ := ints_at HR1.out HML.out hlt
          obtain ⟨bd, rfl, hdl⟩ := ints_at HR2.out HML.out hlt
          obtain ⟨x, hx⟩ : ∃ x, x = (firstTo l n).getD k2 0 := ⟨_, rfl⟩
          rw [← hx] at hcl hdl
          have hki2 : (k2 : Int) < (m : Int) := by omega
          have hk20 : (0 : Int) ≤ (k2 : Int) := by omega
          have hxx : ((x : Int) != (x : Int)) = false := by simp
          clear hx HR1 HR2
          go_wp2
          go_quiet (fail)
          go_wp2
          go_roundw
          case rel => exact ⟨k2 + 1, by omega, by go_num, _, by first | rfl | rw [World.drewN_drewN]⟩
          case measure => simp [intOf]; omega
        · have hki2 : ¬ (k2 : Int) < (m : Int) := by omega
          clear heq HR1 HR2
          go_wp2
          go_ret
          exact ⟨rfl, a3.trans (below_drewN _ _ _)⟩
theorem globFirsts_walk (A : Option Addr) (n c : Nat) (l : List ByteArray) (w : World) (hT : Tab w) (hl : SS w A l) (hn : l.length = n) (hnc : n ≤ c) (hc : c ≤ maxLen) (hsz : ∀ s ∈ l, s.size ≤ maxLen) :
    Calls Tryd.prog 8 #[.slice A n c] w fun e w' => e = .returned (.bool true) ∧ Below w.heap.size w w' := by
  unfold maxLen at hc hsz
  rcases (by omega : 20 < n ∨ n ≤ 20) with h | h
  · exact globFirsts_many A n c w hT h (by omega)
  · exact globFirsts_few A n c l w hT hl hn hnc hc hsz h
end Go.Proofs.YtodkjhbnodcbhaaDoor
