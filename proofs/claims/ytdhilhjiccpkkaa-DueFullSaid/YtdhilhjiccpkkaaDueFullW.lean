/-
  The walk of the law DueFull.
-/
import Derived.Test.YtdhilhjiccpkkaaDueL1
import Derived.Test.YtdhilhjiccpkkaaDueNum
namespace Go.Proofs.Ytdhilhjiccpkkaa
open Go.RowKit
set_option linter.unusedVariables false

theorem nm_drop {X : List Du} {s t : ByteArray} : t ∈ Nm (dropX X s) ↔ t ∈ Nm X ∧ t ≠ s := by
  unfold Nm dropX
  simp only [List.mem_map, List.mem_filter, Bool.not_eq_true', decide_eq_false_iff_not]
  constructor
  · rintro ⟨d, ⟨h1, h2⟩, rfl⟩
    exact ⟨⟨d, h1, rfl⟩, h2⟩
  · rintro ⟨⟨d, h1, rfl⟩, h2⟩
    exact ⟨d, ⟨h1, h2⟩, rfl⟩
theorem nm_setX {X : List Du} {s t : ByteArray} {a : Int} : t ∈ Nm (setX X s a) ↔ t = s ∨ t ∈ Nm X := by
  have h1 := (nm_perm (ins_perm (dropX X s) (s, a))).mem_iff (a := t)
  unfold setX
  rw [h1]
  show t ∈ s :: Nm (dropX X s) ↔ _
  rw [List.mem_cons, nm_drop]
  by_cases h : t = s <;> simp [h]
theorem len_drop_out {X : List Du} {s : ByteArray} (h : s ∉ Nm X) : (dropX X s).length = X.length := by rw [drop_none h]
theorem len_drop_in {X : List Du} (hn : (Nm X).Nodup) {s : ByteArray} (h : s ∈ Nm X) : (dropX X s).length + 1 = X.length := by
  cases e : idxL X s with
  | none => exact absurd h (idx_none.1 e)
  | some i =>
    obtain ⟨hi, hs⟩ := (idx_iff hn).1 e
    rw [← erase_filter hn hi hs, List.length_eraseIdx, if_pos hi]
    omega
theorem len_set {X : List Du} {s : ByteArray} {a : Int} : (setX X s a).length = (dropX X s).length + 1 := by
  unfold setX
  rw [(ins_perm _ _).length_eq]
  rfl
/-- what the queue holds behind so many calls -/
structure FullX (X : List Du) (m : Nat) : Prop where
  len : X.length = m
  nd : (Nm X).Nodup
  nms : ∀ s, s ∈ Nm X ↔ ∃ j, j < m ∧ s = nmF j
theorem FullX.nil : FullX [] 0 := ⟨rfl, by simp [Nm], fun s => by simp [Nm]⟩
theorem okF {i : Nat} (h : i < 300) {a : Int} (ha : 0 ≤ a ∧ a ≤ 2000) : okSet (nmF i) a = true := by
  obtain ⟨_, h1, h2⟩ := valF_nm h
  unfold okSet
  simp only [Bool.and_eq_true, decide_eq_true_eq]
  omega
theorem FullX.out {X : List Du} {m i : Nat} (h : FullX X m) (hi : i < 300) (hm : m ≤ i) : nmF i ∉ Nm X := by
  rw [h.nms]
  rintro ⟨j, hj, e⟩
  have := nmF_inj hi (by omega) e
  omega
theorem FullX.inn {X : List Du} {m i : Nat} (h : FullX X m) (hi : i < m) : nmF i ∈ Nm X := (h.nms _).2 ⟨i, hi, rfl⟩
theorem FullX.more {X : List Du} {m : Nat} (h : FullX X m) (hm : m < 256) {a : Int} (ha : 0 ≤ a ∧ a ≤ 2000) : setE X (nmF m) a = 0 ∧ setR X (nmF m) a = setX X (nmF m) a ∧ FullX (setX X (nmF m) a) (m + 1) := by
  have hok := okF (i := m) (by omega) ha
  have ho := h.out (i := m) (by omega) (Nat.le_refl _)
  have hc : ¬ (idxL X (nmF m) = none ∧ 256 ≤ X.length) := fun x => by have := x.2; rw [h.len] at this; omega
  unfold setE setR
  rw [if_neg (by rw [hok]; simp), if_neg hc, if_neg (by rw [hok]; simp), if_neg hc]
  refine ⟨rfl, rfl, by rw [len_set, len_drop_out ho, h.len], nd_ins (nd_drop h.nd _) drop_not_mem, fun s => ?_⟩
  rw [nm_setX, h.nms]
  constructor
  · rintro (rfl | ⟨j, hj, rfl⟩)
    · exact ⟨m, by omega, rfl⟩
    · exact ⟨j, by omega, rfl⟩
  · rintro ⟨j, hj, rfl⟩
    rcases (by omega : j = m ∨ j < m) with rfl | h1
    · exact .inl rfl
    · exact .inr ⟨j, h1, rfl⟩
theorem FullX.full {X : List Du} {i : Nat} (h : FullX X 256) (h1 : 256 ≤ i) (h2 : i < 300) {a : Int} (ha : 0 ≤ a ∧ a ≤ 2000) : setE X (nmF i) a = 2 ∧ setR X (nmF i) a = X := by
  have hok := okF (i := i) (by omega) ha
  have hc : idxL X (nmF i) = none ∧ 256 ≤ X.length := ⟨idx_none.2 (h.out h2 h1), by rw [h.len]; exact Nat.le_refl _⟩
  unfold setE setR
  rw [if_neg (by rw [hok]; simp), if_pos hc, if_neg (by rw [hok]; simp), if_pos hc]
  exact ⟨rfl, rfl⟩
/-- the three calls behind a full queue -/
theorem FullX.last {X : List Du} (h : FullX X 256) :
    (setE X ⟨#[110, 53]⟩ 2 = 0 ∧ setR X ⟨#[110, 53]⟩ 2 = setX X ⟨#[110, 53]⟩ 2) ∧ dropE (setX X ⟨#[110, 53]⟩ 2) ⟨#[110, 51]⟩ = 0 ∧
    (setE (dropX (setX X ⟨#[110, 53]⟩ 2) ⟨#[110, 51]⟩) ⟨#[109, 111, 114, 101]⟩ 1 = 0 ∧ setR (dropX (setX X ⟨#[110, 53]⟩ 2) ⟨#[110, 51]⟩) ⟨#[109, 111, 114, 101]⟩ 1 = setX (dropX (setX X ⟨#[110, 53]⟩ 2) ⟨#[110, 51]⟩) ⟨#[109, 111, 114, 101]⟩ 1) ∧
    (setX (dropX (setX X ⟨#[110, 53]⟩ 2) ⟨#[110, 51]⟩) ⟨#[109, 111, 114, 101]⟩ 1).length = 256 := by
  have e5 : (⟨#[110, 53]⟩ : ByteArray) = nmF 5 := by decide +kernel
  have e3 : (⟨#[110, 51]⟩ : ByteArray) = nmF 3 := by decide +kernel
  have em : ∀ j, j < 256 → (⟨#[109, 111, 114, 101]⟩ : ByteArray) ≠ nmF j := fun j hj e => by
    have h1 := (valF_nm (i := j) (by omega)).1
    rw [← e] at h1
    have h2 : valF ⟨#[109, 111, 114, 101]⟩ = 7013 := by decide +kernel
    omega
  have o5 : okSet (nmF 5) 2 = true := okF (by omega) (by omega)
  have om : okSet ⟨#[109, 111, 114, 101]⟩ 1 = true := by decide +kernel
  have i5 := h.inn (i := 5) (by omega)
  have i3 := h.inn (i := 3) (by omega)
  rw [e5, e3]
  have n5 : idxL X (nmF 5) ≠ none := fun x => idx_none.1 x i5
  have i3' : nmF 3 ∈ Nm (setX X (nmF 5) 2) := nm_setX.2 (.inr i3)
  have nd5 : (Nm (setX X (nmF 5) 2)).Nodup := nd_ins (nd_drop h.nd _) drop_not_mem
  have l5 : (setX X (nmF 5) 2).length = 256 := by rw [len_set, len_drop_in h.nd i5, h.len]
  have l3 : (dropX (setX X (nmF 5) 2) (nmF 3)).length + 1 = 256 := by rw [len_drop_in nd5 i3', l5]
  have nm : (⟨#[109, 111, 114, 101]⟩ : ByteArray) ∉ Nm (dropX (setX X (nmF 5) 2) (nmF 3)) := by
    rw [nm_drop, nm_setX]
    rintro ⟨h1 | h1, _⟩
    · exact em 5 (by omega) h1
    · obtain ⟨j, hj, e⟩ := (h.nms _).1 h1
      exact em j hj e
  refine ⟨?_, ?_, ?_, ?_⟩
  · unfold setE setR
    rw [if_neg (by rw [o5]; simp), if_neg (fun x => n5 x.1), if_neg (by rw [o5]; simp), if_neg (fun x => n5 x.1)]
    exact ⟨rfl, rfl⟩
  · unfold dropE
    rw [if_neg (fun x => idx_none.1 x i3')]
  · unfold setE setR
    rw [if_neg (by rw [om]; simp), if_neg (fun x => by have := x.2; omega), if_neg (by rw [om]; simp), if_neg (fun x => by have := x.2; omega)]
    exact ⟨rfl, rfl⟩
  · rw [len_set, len_drop_out nm, l3]
def FullI (W w : World) (q : Nat) (m : Nat) : Prop := ∃ X S, QI W.heap.size w q X S ∧ FullX X m ∧ Below W.heap.size W w
theorem ffull_any {W : World} {q m i : Nat} (w : World) (h : FullI W w q m) (hm : m = min i 256) (hi : i < 300) {a : Int} (ha : 0 ≤ a ∧ a ≤ 2000) :
    Calls Try.prog 14 #[.pointer (some ⟨q, 0, none⟩), .string (nmF i), .int .i64 a] w fun e w' => e = .returned (.int .i64 (if 256 ≤ i then 2 else 0)) ∧ FullI W w' q (min (i + 1) 256) := by
  obtain ⟨X, S, h1, h2, h3⟩ := h
  by_cases hc : 256 ≤ i
  · have hm2 : m = 256 := by omega
    subst hm2
    obtain ⟨e1, e2⟩ := h2.full hc hi ha
    refine (iset_any w h1 _ _ e1 e2).mono ?_
    rintro e w' ⟨S', rfl, k1, _, _, k2⟩
    rw [if_pos hc, show min (i + 1) 256 = 256 from by omega]
    exact ⟨rfl, X, S', k1, h2, h3.trans k2⟩
  · have hm2 : m = i := by omega
    subst hm2
    obtain ⟨e1, e2, e3⟩ := h2.more (by omega) ha
    refine (iset_any w h1 _ _ e1 e2).mono ?_
    rintro e w' ⟨S', rfl, k1, _, _, k2⟩
    rw [if_neg hc, show min (m + 1) 256 = m + 1 from by omega]
    exact ⟨rfl, _, S', k1, e3, h3.trans k2⟩
set_option maxRecDepth 100000 in
set_option maxHeartbeats 2000000 in
theorem dueFull_walk (n a : Int) (W : World) : Calls Try.prog 4 #[.int .i64 n, .int .i64 a] W fun e w' => e = .returned (.bool true) ∧ Below W.heap.size W w' := by
  by_cases hb : n < 0 ∨ 300 < n ∨ a < 0 ∨ 1000 < a
  · have hor : (decide (n < 0) || decide (300 < n) || decide (a < 0) || decide (1000 < a)) = true := by
      simp only [Bool.or_eq_true, decide_eq_true_eq]
      omega
    clear hb
    obtain ⟨b1, h1⟩ : ∃ b, b = decide (n < 0) := ⟨_, rfl⟩
    obtain ⟨b2, h2⟩ : ∃ b, b = decide (300 < n) := ⟨_, rfl⟩
    obtain ⟨b3, h3⟩ : ∃ b, b = decide (a < 0) := ⟨_, rfl⟩
    obtain ⟨b4, h4⟩ : ∃ b, b = decide (1000 < a) := ⟨_, rfl⟩
    rw [← h1, ← h2, ← h3, ← h4] at hor
    have g1 := h1.symm
    have g2 := h2.symm
    have g3 := h3.symm
    have g4 := h4.symm
    clear h1 h2 h3 h4
    rcases (by cases b1 <;> cases b2 <;> cases b3 <;> simp_all : b1 = true ∨ (b1 = false ∧ b2 = true) ∨ (b1 = false ∧ b2 = false ∧ b3 = true) ∨ (b1 = false ∧ b2 = false ∧ b3 = false ∧ b4 = true)) with rfl | ⟨rfl, rfl⟩ | ⟨rfl, rfl, rfl⟩ | ⟨rfl, rfl, rfl, rfl⟩
    all_goals
      clear hor
      go_enter Try.func4, Try.ntmps4
      go_wp2_with fail
      refine (lives_any _).mono ?_
      rintro e w1 ⟨rfl, hb1⟩
      have HB1 := Lib.hid hb1
      clear hb1
      go_wp2
      go_ret
      exact ⟨rfl, HB1.out⟩
  · have q1 : decide (n < 0) = false := by rw [decide_eq_false_iff_not]; omega
    have q2 : decide (300 < n) = false := by rw [decide_eq_false_iff_not]; omega
    have q3 : decide (a < 0) = false := by rw [decide_eq_false_iff_not]; omega
    have q4 : decide (1000 < a) = false := by rw [decide_eq_false_iff_not]; omega
    obtain ⟨N, rfl⟩ : ∃ N : Nat, n = (N : Int) := ⟨n.toNat, by omega⟩
    have hN : N ≤ 300 := by omega
    have ha : 0 ≤ a ∧ a ≤ 1000 := by omega
    clear hb
    go_enter Try.func4, Try.ntmps4
    go_wp2_with fail
    refine (inew_any _).mono ?_
    rintro e w1 ⟨q, S1, rfl, h1, hb1⟩
    have HQ1 := Lib.hid h1
    have HB1 := Lib.hid hb1
    clear h1 hb1
    go_wp2_with fail
    refine (lives_any _).mono ?_
    rintro e w2 ⟨rfl, hb2⟩
    have HI0 : Hid (FullI W w2 q (min 0 256)) := Lib.hid ⟨[], S1, HQ1.out.below hb2, FullX.nil, HB1.out.trans (hb2.mono HQ1.out.size)⟩
    clear hb2
    go_wp2_with fail
    have HQ := hN
    go_loopw [6] (fun o wr => ∃ k : Nat, k ≤ N ∧ o = .int .i64 (k : Int) ∧ Hid (FullI W wr q (min k 256))) (fun o _ => N - (intOf o).toNat)
    case atStart => exact ⟨0, Nat.zero_le _, rfl, HI0⟩
    case round =>
      obtain ⟨k, hk, rfl, HI⟩ := hrel
      rcases (by omega : k < N ∨ k = N) with hlt | heq
      · have c0 : decide ((k : Int) < (N : Int)) = true := by rw [decide_eq_true_iff]; omega
        have c0' : decide (k < N) = true := by rw [decide_eq_true_iff]; omega
        have HNA := Lib.hid (fun w => number_any k (by omega) w)
        obtain ⟨r, hr⟩ : ∃ r, r = ((k : Int) * 7) % 11 := ⟨_, rfl⟩
        have hr2 : 0 ≤ r ∧ r < 11 := by omega
        have m0 : wrap64 ((k : Int) * 7) = (k : Int) * 7 := IntWalk.wrap64_in _ (by omega)
        have m1 : ((k : Int) * 7).tmod 11 = r := by rw [hr]; exact Int.tmod_eq_emod_of_nonneg (by omega)
        have m2 : ((k : Int) * 7) % 11 = r := hr.symm
        have m3 : wrap64 r = r := IntWalk.wrap64_in _ (by omega)
        have m4 : wrap64 (a + r) = a + r := IntWalk.wrap64_in _ (by omega)
        have hsz : (numS k).size ≤ 3 := by
          have := (valF_nm (i := k) (by omega)).2.1
          unfold nmF at this
          rw [ByteArray.size_append] at this
          have e1 : (⟨#[110]⟩ : ByteArray).size = 1 := rfl
          omega
        have HFS := Lib.hid (fun w h => ffull_any (a := a + r) w h (by rfl) (by omega : k < 300) (by omega) : ∀ w, FullI W w q (min k 256) → _)
        obtain ⟨s, hs⟩ : ∃ s, s = numS k := ⟨_, rfl⟩
        unfold nmF at HFS
        rw [← hs] at HNA HFS hsz
        have hsz2 : (⟨#[110]⟩ : ByteArray).size + s.size ≤ maxLen := by unfold maxLen; have e1 : (⟨#[110]⟩ : ByteArray).size = 1 := rfl; omega
        clear hr hr2 hs HI0
        by_cases h256 : 256 ≤ k
        · have c1 : decide (256 ≤ (k : Int)) = true := by rw [decide_eq_true_iff]; omega
          have c1' : decide (256 ≤ k) = true := by rw [decide_eq_true_iff]; omega
          rw [if_pos h256] at HFS
          clear h256
          go_wp2_with fail
          refine (HNA.out _).mono ?_
          rintro e w3 ⟨rfl, rfl⟩
          go_wp2_with fail
          refine (HFS.out _ HI.out).mono ?_
          rintro e w4 ⟨rfl, hi4⟩
          have HI4 := Lib.hid hi4
          clear hi4
          go_wp2
          go_roundw
          case rel => exact ⟨k + 1, by omega, by go_num, HI4⟩
          case measure => simp [intOf]; omega
        · have c1 : decide (256 ≤ (k : Int)) = false := by rw [decide_eq_false_iff_not]; omega
          have c1' : decide (256 ≤ k) = false := by rw [decide_eq_false_iff_not]; omega
          rw [if_neg h256] at HFS
          clear h256
          go_wp2_with fail
          refine (HNA.out _).mono ?_
          rintro e w3 ⟨rfl, rfl⟩
          go_wp2_with fail
          refine (HFS.out _ HI.out).mono ?_
          rintro e w4 ⟨rfl, hi4⟩
          have HI4 := Lib.hid hi4
          clear hi4
          go_wp2
          go_roundw
          case rel => exact ⟨k + 1, by omega, by go_num, HI4⟩
          case measure => simp [intOf]; omega
      · have c0 : decide ((k : Int) < (N : Int)) = false := by rw [decide_eq_false_iff_not]; omega
        have c0' : decide (k < N) = false := by rw [decide_eq_false_iff_not]; omega
        rw [heq] at HI
        clear heq HI0
        obtain ⟨X, S, h1, h2, h3⟩ := HI.out
        have HQI := Lib.hid h1
        have HFX := Lib.hid h2
        have HBW := Lib.hid h3
        clear HI h1 h2 h3
        by_cases hs : N ≤ 256
        · have c1 : decide ((N : Int) ≤ 256) = true := by rw [decide_eq_true_iff]; omega
          have c1' : decide (N ≤ 256) = true := by rw [decide_eq_true_iff]; omega
          have HL := ilen_any _ HQI.out
          rw [HFX.out.len, show min N 256 = N from by omega] at HL
          have HL := Lib.hid HL
          clear hs
          go_wp2_with fail
          refine HL.out.mono ?_
          rintro e w4 ⟨rfl, rfl⟩
          go_wp2
          go_ret
          exact ⟨rfl, HBW.out⟩
        · have c1 : decide ((N : Int) ≤ 256) = false := by rw [decide_eq_false_iff_not]; omega
          have c1' : decide (N ≤ 256) = false := by rw [decide_eq_false_iff_not]; omega
          rw [show min N 256 = 256 from by omega] at HFX
          have HL := ilen_any _ HQI.out
          rw [HFX.out.len] at HL
          have HL := Lib.hid HL
          obtain ⟨l1, l2, l3, l4⟩ := HFX.out.last
          have H1 := Lib.hid l1
          have H2 := Lib.hid l2
          have H3 := Lib.hid l3
          have H4 := Lib.hid l4
          clear hs l1 l2 l3 l4
          go_wp2_with fail
          refine HL.out.mono ?_
          rintro e w4 ⟨rfl, rfl⟩
          go_wp2_with fail
          refine (iset_any _ HQI.out _ _ H1.out.1 H1.out.2).mono ?_
          rintro e w5 ⟨S5, rfl, k5, _, _, b5⟩
          have HQ5 := Lib.hid k5
          have HB5 := Lib.hid (HBW.out.trans b5)
          clear k5 b5
          go_wp2_with fail
          refine (idrop_any _ HQ5.out _ (by decide) H2.out rfl).mono ?_
          rintro e w6 ⟨S6, rfl, k5, _, _, b5⟩
          have HQ6 := Lib.hid k5
          have HB6 := Lib.hid (HB5.out.trans b5)
          clear k5 b5
          go_wp2_with fail
          refine (iset_any _ HQ6.out _ _ H3.out.1 H3.out.2).mono ?_
          rintro e w7 ⟨S7, rfl, k5, _, _, b5⟩
          have HQ7 := Lib.hid k5
          have HB7 := Lib.hid (HB6.out.trans b5)
          have HL7 := ilen_any _ k5
          rw [H4.out] at HL7
          have HL7 := Lib.hid HL7
          clear k5 b5
          go_wp2_with fail
          refine HL7.out.mono ?_
          rintro e w8 ⟨rfl, rfl⟩
          go_wp2
          go_ret
          exact ⟨rfl, HB7.out⟩
end Go.Proofs.Ytdhilhjiccpkkaa
