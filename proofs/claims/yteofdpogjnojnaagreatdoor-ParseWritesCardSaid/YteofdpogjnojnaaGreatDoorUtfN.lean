/-
  utf.Next, utf.Valid, utf.Encode; the reference's Valid.
-/
import Derived.Test.YteofdpogjnojnaaGreatDoorUtfR
import Derived.Test.YteofdpogjnojnaaGreatDoorShelf
namespace Go.Proofs.YteofdpogjnojnaaGreatDoor
open Go.RowKit Utf
set_option linter.unusedVariables false

def tabU (w : World) : Prop := Lib.Utf8Tabs 1 2 w
theorem lt_of_cell {w : World} {a : Addr} {v : Value} (h : w.cell? a = some v) : a.block < w.heap.size := by
  rcases Nat.lt_or_ge a.block w.heap.size with h1 | h1
  · exact h1
  · simp [World.cell?, Array.getElem?_eq_none h1] at h
theorem tabU.below {w w' : World} (h : tabU w) (hb : Below w.heap.size w w') : tabU w' := by
  refine ⟨fun c hc => ?_, fun i hi => ⟨?_, ?_⟩⟩
  · have := h.1 c hc
    rw [hb.cell (lt_of_cell this)]; exact this
  · have := (h.2 i hi).1
    rw [hb.cell (lt_of_cell this)]; exact this
  · have := (h.2 i hi).2
    rw [hb.cell (lt_of_cell this)]; exact this
theorem tabU.drew {w : World} (h : tabU w) : tabU w.drew := h
theorem dec_bd (l : List UInt8) : (decL l).1 ≤ 1114111 ∧ (decL l).2 ≤ 4 ∧ 1 ≤ (decL l).2 := by
  have c0 := g_lt l 0; have c1 := g_lt l 1; have c2 := g_lt l 2; have c3 := g_lt l 3
  unfold decL
  split
  · simp; omega
  · split
    · split <;> simp; omega
    · split
      · split <;> simp; omega
      · split
        · split
          · rename_i h; have := may_iff.1 h.2; simp; omega
          · simp
        · simp
set_option maxHeartbeats 800000 in
theorem next_any (s : ByteArray) (w : World) (ht : tabU w) : Calls Tryz.prog 82 #[.string s] w fun e w' => e = .returned (.tuple #[.int .i64 (nxt s.data.toList).1, .int .i64 ((nxt s.data.toList).2 : Nat)]) ∧ Below w.heap.size w w' := by
  have HT := Lib.hid ht
  clear ht
  have hD := fun w ht => Tryz.utf8_DecodeRuneInString s w ht
  have hlen : (s.size = 0) ↔ s.data.toList = [] := by
    cases s with
    | mk a => simp [ByteArray.size]
  by_cases h0 : s.size = 0
  · rw [dec_nil s h0] at hD
    have HD := Lib.hid hD
    have HN : Hid (nxt s.data.toList = (-1, 0)) := by show _ = _; unfold nxt; rw [if_pos (hlen.1 h0)]
    clear hD hlen h0
    go_enter Tryz.func82, Tryz.ntmps82
    go_wp2_with fail
    refine (HD.out _ HT.out).mono ?_
    rintro e w1 ⟨rfl, hb⟩
    go_wp2
    go_ret2
    exact ⟨by rw [HN.out]; rfl, hb⟩
  · rw [dec_eq s h0] at hD
    have hne : s.data.toList ≠ [] := fun h => h0 (hlen.2 h)
    obtain ⟨D, hDD⟩ : ∃ D, D = (decL s.data.toList).1 := ⟨_, rfl⟩
    obtain ⟨K, hKK⟩ : ∃ K, K = (decL s.data.toList).2 := ⟨_, rfl⟩
    obtain ⟨d1, d2, d3⟩ := dec_bd s.data.toList
    rw [← hDD] at d1 hD
    rw [← hKK] at d2 d3 hD
    have HD := Lib.hid hD
    have hN : nxt s.data.toList = if D = 65533 ∧ K = 1 then (-1, 0) else ((D : Int), K) := by unfold nxt; rw [if_neg hne, hDD, hKK]
    have HN := Lib.hid hN
    have f0 : ((K : Int) == 0) = false := by rw [beq_eq_false_iff_ne]; omega
    have cs : (((D : Int) == 65533) = true ∧ ((K : Int) == 1) = true ∧ (D = 65533 ∧ K = 1)) ∨ (((D : Int) == 65533) = true ∧ ((K : Int) == 1) = false ∧ ¬ (D = 65533 ∧ K = 1)) ∨ (((D : Int) == 65533) = false ∧ ¬ (D = 65533 ∧ K = 1)) := by
      simp only [beq_iff_eq, beq_eq_false_iff_ne]
      omega
    clear hD hDD hKK hN hlen h0 hne
    rcases cs with ⟨f1, f2, hx⟩ | ⟨f1, f2, hx⟩ | ⟨f1, hx⟩
    all_goals
      have HX := Lib.hid hx
      clear hx
      go_enter Tryz.func82, Tryz.ntmps82
      go_wp2_with fail
      refine (HD.out _ HT.out).mono ?_
      rintro e w1 ⟨rfl, hb⟩
      go_wp2
      go_ret2
      refine ⟨?_, hb⟩
      rw [HN.out]
      first | (rw [if_pos HX.out]; rfl) | (rw [if_neg HX.out]; rfl)
theorem decodeL_eq (l : List UInt8) (h : l ≠ []) : Lib.decodeL l = decL l := by
  have h1 : (ByteArray.mk l.toArray).size ≠ 0 := by simpa [ByteArray.size] using h
  have := dec_eq ⟨l.toArray⟩ h1
  unfold Lib.decodeGo at this
  rw [if_neg h1] at this
  simpa [Lib.decodeL] using this
theorem vgo_fuel (n : Nat) : ∀ (l : List UInt8) (m : Nat), l.length ≤ n → l.length ≤ m → Lib.validGoD n l = Lib.validGoD m l := by
  induction n with
  | zero =>
    intro l m h1 h2
    have : l = [] := List.eq_nil_of_length_eq_zero (by omega)
    subst this
    cases m <;> simp [Lib.validGoD]
  | succ n ih =>
    intro l m h1 h2
    by_cases hl : l = []
    · subst hl
      cases m <;> simp [Lib.validGoD]
    · have hp := List.length_pos_iff.2 hl
      obtain ⟨m, rfl⟩ : ∃ k, m = k + 1 := ⟨m - 1, by omega⟩
      rw [Lib.validGoD, Lib.validGoD, if_neg hl, if_neg hl]
      split
      · rfl
      · have hd := dec_bd l
        rw [decodeL_eq l hl]
        exact ih _ _ (by rw [List.length_drop]; omega) (by rw [List.length_drop]; omega)
/-- a text is UTF-8: its first character, and the rest -/
theorem valid_step (l : List UInt8) (hl : l ≠ []) : Lib.validD l = if (nxt l).2 = 0 then false else Lib.validD (l.drop (nxt l).2) := by
  have hp := List.length_pos_iff.2 hl
  have hd := dec_bd l
  unfold Lib.validD
  obtain ⟨k, hk⟩ : ∃ k, l.length = k + 1 := ⟨l.length - 1, by omega⟩
  rw [hk, Lib.validGoD, if_neg hl, decodeL_eq l hl]
  have hN : nxt l = if (decL l).1 = 65533 ∧ (decL l).2 = 1 then (-1, 0) else (((decL l).1 : Int), (decL l).2) := by unfold nxt; rw [if_neg hl]
  by_cases hx : (decL l).1 = 65533 ∧ (decL l).2 = 1
  · rw [if_pos hx] at hN
    rw [if_pos hx, hN]
    rfl
  · rw [if_neg hx] at hN
    rw [if_neg hx, hN]
    rw [if_neg (by simp; omega)]
    exact vgo_fuel _ _ _ (by rw [List.length_drop]; omega) (by simp)
theorem ext_drop (t : ByteArray) (K : Nat) : (t.extract K t.size).data.toList = t.data.toList.drop K := by
  simp [← ByteArray.size_data]
  exact List.take_of_length_le (by simp)
theorem valid_nil : Lib.validD [] = true := rfl
set_option maxHeartbeats 800000 in
theorem rvalid_any (s : ByteArray) (w : World) (hs : s.size ≤ 9223372036854775807) : Calls Tryz.prog 21 #[.string s] w fun e w' => e = .returned (.bool (Lib.validD s.data.toList)) ∧ Below w.heap.size w w' := by
  obtain ⟨V, hV⟩ : ∃ V, V = Lib.validD s.data.toList := ⟨_, rfl⟩
  rw [← hV]
  have HV := Lib.hid hV.symm
  clear hV
  go_enter Tryz.func21, Tryz.ntmps21
  go_wp2
  go_loopg [0] (s.size + 1) (fun gk x wr => ∃ t : ByteArray, x = .string t ∧ t.size < gk ∧ t.size ≤ 9223372036854775807 ∧ Lib.validD t.data.toList = V ∧ Below w.heap.size w wr)
  case atStart => exact ⟨s, rfl, by omega, hs, HV.out, Below.refl _ _⟩
  case round =>
    obtain ⟨t, rfl, hg, hts, hv, hbw⟩ := hrel
    obtain ⟨g', rfl⟩ : ∃ g', gk = g' + 1 := ⟨gk - 1, by omega⟩
    have hlen : t.size = t.data.toList.length := by cases t; simp [ByteArray.size]
    have HB := Lib.hid hbw
    have HVV := Lib.hid hv
    clear hv hbw
    rcases (by omega : t.size = 0 ∨ 0 < t.size) with h0 | h0
    · have hl : t.data.toList = [] := List.eq_nil_of_length_eq_zero (by omega)
      have hV1 : Hid (V = true) := by show _ = _; rw [← HVV.out, hl]; rfl
      have e1 : decide (0 < t.size) = false := by rw [decide_eq_false_iff_not]; omega
      clear hl hlen h0
      go_wp2
      go_ret
      exact ⟨ret_bool hV1.out.symm, HB.out⟩
    · have hl : t.data.toList ≠ [] := fun e => by have h2 : t.data.toList.length = 0 := (congrArg List.length e).trans rfl; omega
      have hst := valid_step t.data.toList hl
      have e1 : decide (0 < t.size) = true := by rw [decide_eq_true_iff]; omega
      obtain ⟨C, hC⟩ : ∃ C, C = (nxt t.data.toList).1 := ⟨_, rfl⟩
      obtain ⟨K, hK⟩ : ∃ K, K = (nxt t.data.toList).2 := ⟨_, rfl⟩
      have HN := Lib.hid (fun w => rnext_any t w hts)
      rw [← hC, ← hK] at HN
      rw [← hK] at hst
      have hKs : K ≤ t.size := by
        rcases Nat.eq_zero_or_pos K with x | x
        · omega
        · rw [hlen]; exact (nxt_is (l := t.data.toList) (c := C) (n := K) (by rw [hC, hK]) (by omega)).2.1
      have HST := Lib.hid hst
      clear hC hK hst hl hlen
      rcases (by omega : K = 0 ∨ 0 < K) with k0 | k0
      · have hV1 : Hid (V = false) := by show _ = _; rw [← HVV.out, HST.out, if_pos k0]
        have f0 : ((K : Int) == 0) = true := by rw [beq_iff_eq]; omega
        clear k0
        go_wp2_with fail
        refine (HN.out _).mono ?_
        rintro e w1 ⟨rfl, hb1⟩
        go_wp2
        go_ret
        exact ⟨ret_bool hV1.out.symm, HB.out.trans (hb1.mono HB.out.size)⟩
      · have hV1 : Hid (Lib.validD (t.data.toList.drop K) = V) := by show _ = _; rw [← HVV.out, HST.out, if_neg (by omega)]
        have f0 : ((K : Int) == 0) = false := by rw [beq_eq_false_iff_ne]; omega
        go_wp2_with fail
        refine (HN.out _).mono ?_
        rintro e w1 ⟨rfl, hb1⟩
        go_wp2
        go_roundg g'
        case measure => omega
        case rel => exact ⟨_, rfl, by rw [ByteArray.size_extract]; omega, by rw [ByteArray.size_extract]; omega, by rw [ext_drop]; exact hV1.out, HB.out.trans (hb1.mono HB.out.size)⟩
theorem enc_cells (c : Int) (hm : mayU c = true) : Lib.runeCells c = Lib.byteCells (encU c) := by
  have h := may_iff.1 hm
  rcases (by omega : (0 ≤ c ∧ c ≤ 127) ∨ (128 ≤ c ∧ c ≤ 2047) ∨ ((2048 ≤ c ∧ c < 55296) ∨ (57343 < c ∧ c ≤ 65535)) ∨ (65536 ≤ c ∧ c ≤ 1114111)) with k | k | k | k
  · rw [enc_one k.1 k.2, Lib.runeCells, Lib.encodeRuneZ_one k.1 k.2]
    simp only [Lib.byteCells, List.map_cons, List.map_nil]; rw [toNat_toUInt8 (by omega) (by omega)]
  · rw [enc_two k.1 k.2, Lib.runeCells, Lib.encodeRuneZ_two k.1 k.2]
    simp only [Lib.byteCells, List.map_cons, List.map_nil]; rw [toNat_toUInt8 (by omega) (by omega), toNat_toUInt8 (by omega) (by omega)]
  · rw [enc_three k, Lib.runeCells, Lib.encodeRuneZ_three k]
    simp only [Lib.byteCells, List.map_cons, List.map_nil]; rw [toNat_toUInt8 (by omega) (by omega), toNat_toUInt8 (by omega) (by omega), toNat_toUInt8 (by omega) (by omega)]
  · rw [enc_four k.1 k.2, Lib.runeCells, Lib.encodeRuneZ_four k.1 k.2]
    simp only [Lib.byteCells, List.map_cons, List.map_nil]; rw [toNat_toUInt8 (by omega) (by omega), toNat_toUInt8 (by omega) (by omega), toNat_toUInt8 (by omega) (by omega), toNat_toUInt8 (by omega) (by omega)]
theorem validRune_may (c : Int) : Lib.validRune c = mayU c := by
  unfold Lib.validRune mayU
  rw [Bool.eq_iff_iff]
  simp
  omega
theorem appendRune_nil (c : Int) (w : World) (hm : mayU c = true) :
    Calls Tryz.prog 84 #[.slice none 0 0, .int .i32 c] w fun e w' => ∃ v, e = .returned v ∧ OB w' w.heap.size v (encU c) ∧ Below w.heap.size w w' := by
  have h := may_iff.1 hm
  refine (Tryz.utf8_AppendRune_plain w.heap.size (.slice none 0 0) 0 [] c (by omega) (by omega) w (World.ownsRow_nil _ _ _ _) (by omega) (Nat.le_refl _)).mono ?_
  rintro e w' ⟨v, he, ho, o, hg⟩
  refine ⟨v, he, ?_, ((Below.refl _ _).alloc (Nat.le_refl _) _).grown hg (by simp) (by intro k hk; simp [Value.ownBlock] at hk)⟩
  unfold OB
  rw [enc_cells c hm] at ho
  simpa [Lib.byteCells] using ho
end Go.Proofs.YteofdpogjnojnaaGreatDoor
