/-
  utf: four, pair, escape, part and Unquote for any text whose four digits are read as the plain law says.
-/
import Derived.Test.YteofdpogjnojnaaGreatDoorPaW
import Derived.Test.YteofdpogjnojnaaGreatDoorUtfUL
import Derived.Shelf.Unicode.CaseTo
namespace Go.Proofs.YteofdpogjnojnaaGreatDoor
open Go.RowKit Utf
set_option linter.unusedVariables false
set_option linter.unusedSimpArgs false

namespace Pa
set_option maxRecDepth 100000 in
theorem low_eq (c : UInt8) : lowB c = Lib.lowerB c ∧ hexOk c = isHex c ∧ (hexOk c = true → hexN c = hexV c) := by
  have : ∀ n : Fin 256, lowB (UInt8.ofNat n.1) = Lib.lowerB (UInt8.ofNat n.1) ∧ hexOk (UInt8.ofNat n.1) = isHex (UInt8.ofNat n.1) ∧ (hexOk (UInt8.ofNat n.1) = true → hexN (UInt8.ofNat n.1) = hexV (UInt8.ofNat n.1)) := by decide
  exact all_u8 (p := fun c => lowB c = Lib.lowerB c ∧ hexOk c = isHex c ∧ (hexOk c = true → hexN c = hexV c)) this c
theorem four_bd (l : List UInt8) : fourP l = -1 ∨ (0 ≤ fourP l ∧ fourP l < 65536) := by
  by_cases h : fourP l = -1
  · exact .inl h
  · obtain ⟨a, b, c, d, r, _, hx, hv⟩ := four_is h
    simp only [Bool.and_eq_true] at hx
    obtain ⟨⟨⟨x1, x2⟩, x3⟩, x4⟩ := hx
    have key : ∀ c, hexOk (lowB c) = true → hexN (lowB c) < 16 := fun c hc => by
      rw [(low_eq (lowB c)).2.2 hc]
      exact hexV_bd _ (by rw [← (low_eq (lowB c)).2.1]; exact hc)
    have := key _ x1; have := key _ x2; have := key _ x3; have := key _ x4
    right
    rw [hv]
    omega
end Pa
open Pa
/-- the tables of utf8, and the case ranges, as they are laid -/
structure tabV (w : World) : Prop where
  u : tabU w
  c : Lib.CaseVar 3 Lib.caseA w
theorem tabV.below {w w' : World} (h : tabV w) (hb : Below w.heap.size w w') : tabV w' := by
  refine ⟨h.u.below hb, ?_⟩
  obtain ⟨R, oR, cap, hc, ht⟩ := h.c
  refine ⟨R, oR, cap, by rw [hb.cell (lt_of_cell hc)]; exact hc, fun i hi => ?_⟩
  obtain ⟨a0, a1, a2, a3, a4⟩ := ht i hi
  exact ⟨by rw [hb.cell (lt_of_cell a0)]; exact a0, by rw [hb.cell (lt_of_cell a1)]; exact a1, by rw [hb.cell (lt_of_cell a2)]; exact a2, by rw [hb.cell (lt_of_cell a3)]; exact a3, by rw [hb.cell (lt_of_cell a4)]; exact a4⟩
/-- what four says of a text -/
def FourAt (t : ByteArray) : Prop := ∀ w, tabV w → Calls Tryz.prog 87 #[.string t] w fun e w' => e = .returned (.int .i32 (fourP t.data.toList)) ∧ Below w.heap.size w w'
/-- .. of whatever stands behind a place -/
def FourOk (s : ByteArray) : Prop := ∀ a, FourAt (s.extract a s.size)
theorem ext_ext (s : ByteArray) (a b : Nat) : (s.extract a s.size).extract b (s.extract a s.size).size = s.extract (a + b) s.size := by
  refine ByteArray.ext (Array.toList_inj.1 ?_)
  rw [ext_drop, ext_drop, ext_drop, List.drop_drop]
theorem FourOk.ext {s : ByteArray} (h : FourOk s) (a : Nat) : FourOk (s.extract a s.size) := fun b => by rw [ext_ext]; exact h _
theorem ext_zero (s : ByteArray) : s.extract 0 s.size = s := ByteArray.ext (Array.toList_inj.1 (ext_drop s 0))
theorem FourOk.self {s : ByteArray} (h : FourOk s) : FourAt s := by have := h 0; rwa [ext_zero] at this
/-- the four bytes behind a backslash and u are small -/
def AscU (l : List UInt8) : Prop := ∀ a r, l.drop a = 92 :: 117 :: r → ∀ x ∈ r.take 4, x.toNat < 128
set_option maxHeartbeats 800000 in
theorem four_head (s : ByteArray) (w : World) (h6 : 6 ≤ s.size) (c d : UInt8) (h0 : s[0]'(by omega) = c) (h1 : s[1]'(by omega) = d) (h : c ≠ 92 ∨ d ≠ 117) (hs : s.size ≤ 140737488351232) :
    Calls Tryz.prog 87 #[.string s] w fun e w' => e = .returned (.int .i32 (-1)) ∧ w = w' := by
  have g0 : decide ((s.size : Int) < 6) = false := by rw [decide_eq_false_iff_not]; omega
  have g0' : decide (s.size < 6) = false := by rw [decide_eq_false_iff_not]; omega
  rcases Classical.em (c = 92) with e | e
  · have hd : d ≠ 117 := h.resolve_left (fun q => q e)
    have e2 : ((d.toNat : Int) != 117) = true := by
      rw [bne_iff_ne]
      intro q
      exact hd (UInt8.toNat_inj.1 (by have : (117 : UInt8).toNat = 117 := rfl; omega))
    subst e
    clear h hd
    go_enter Tryz.func87, Tryz.ntmps87
    go_wp2
    go_ret
    exact ⟨rfl, rfl⟩
  · have e2 : ((c.toNat : Int) != 92) = true := by
      rw [bne_iff_ne]
      intro q
      exact e (UInt8.toNat_inj.1 (by have : (92 : UInt8).toNat = 92 := rfl; omega))
    clear h e
    go_enter Tryz.func87, Tryz.ntmps87
    go_wp2
    go_ret
    exact ⟨rfl, rfl⟩
set_option maxHeartbeats 1600000 in
theorem four_bad (s t : ByteArray) (w : World) (hT : tabV w) (h6 : 6 ≤ s.size) (hs : s.size ≤ 140737488351232) (h0 : s[0]'(by omega) = 92) (h1 : s[1]'(by omega) = 117) (htz : t.size ≤ 1000000) (hn : okHex t.data.toList = false)
    (hlo : ∀ w, tabV w → Calls Tryz.prog 92 #[.string (s.extract 2 6)] w fun e w' => e = .returned (.string t) ∧ Below w.heap.size w w') :
    Calls Tryz.prog 87 #[.string s] w fun e w' => e = .returned (.int .i32 (-1)) ∧ Below w.heap.size w w' := by
  have HLO := Lib.hid hlo
  have HUN := Lib.hid (fun w => unhex_no t w (by omega) hn)
  have HT := Lib.hid hT
  clear hlo hn htz hT
  go_enter Tryz.func87, Tryz.ntmps87
  go_wp2_with fail
  refine (HLO.out _ HT.out).mono ?_
  rintro e w1 ⟨rfl, hb1⟩
  go_wp2_with fail
  refine (HUN.out _).mono ?_
  rintro e w2 ⟨rfl, hb2⟩
  go_wp2
  go_ret
  exact ⟨rfl, below2 hb1 hb2⟩
theorem four_no {l : List UInt8} (h : ∀ a b c d r, l = 92 :: 117 :: a :: b :: c :: d :: r → (hexOk (lowB a) && hexOk (lowB b) && hexOk (lowB c) && hexOk (lowB d)) = false) : fourP l = -1 := by
  by_cases h1 : fourP l = -1
  · exact h1
  · obtain ⟨a, b, c, d, r, hl, hx, _⟩ := four_is h1
    rw [h a b c d r hl] at hx; cases hx
theorem four_at (s : ByteArray) (hs : s.size ≤ 70368744177664) (h : ∀ r, s.data.toList = 92 :: 117 :: r → ∀ x ∈ r.take 4, x.toNat < 128) : FourAt s := fun w hT => by
  have hsz : s.size = s.data.toList.length := rfl
  rcases (by omega : s.size < 6 ∨ 6 ≤ s.size) with h6 | h6
  · have e : fourP s.data.toList = -1 := four_no (fun a b c d r hl => by rw [hl] at hsz; simp at hsz; omega)
    rw [e]
    refine (four_short s w h6).mono ?_
    rintro e w' ⟨rfl, rfl⟩
    exact ⟨rfl, Below.refl _ _⟩
  · obtain ⟨c0, c1, a, b, c, d, r, hl⟩ : ∃ c0 c1 a b c d r, s.data.toList = c0 :: c1 :: a :: b :: c :: d :: r := by
      match hx : s.data.toList with
      | [] => rw [hx] at hsz; simp only [List.length_cons, List.length_nil] at hsz; omega
      | [_] => rw [hx] at hsz; simp only [List.length_cons, List.length_nil] at hsz; omega
      | [_, _] => rw [hx] at hsz; simp only [List.length_cons, List.length_nil] at hsz; omega
      | [_, _, _] => rw [hx] at hsz; simp only [List.length_cons, List.length_nil] at hsz; omega
      | [_, _, _, _] => rw [hx] at hsz; simp only [List.length_cons, List.length_nil] at hsz; omega
      | [_, _, _, _, _] => rw [hx] at hsz; simp only [List.length_cons, List.length_nil] at hsz; omega
      | c0 :: c1 :: a :: b :: c :: d :: r => exact ⟨c0, c1, a, b, c, d, r, rfl⟩
    have g0 := at_l hl 0 (by omega) c0 rfl
    have g1 := at_l hl 1 (by omega) c1 rfl
    by_cases hh : c0 ≠ 92 ∨ c1 ≠ 117
    · have e : fourP s.data.toList = -1 := four_no (fun a' b' c' d' r' hl' => by
        rw [hl] at hl'
        injection hl' with q1 hl'
        injection hl' with q2 hl'
        rcases hh with hh | hh
        · exact absurd q1 hh
        · exact absurd q2 hh)
      rw [e]
      refine (four_head s w h6 c0 c1 g0 g1 hh (by omega)).mono ?_
      rintro e w' ⟨rfl, rfl⟩
      exact ⟨rfl, Below.refl _ _⟩
    · have e0 : c0 = 92 := Classical.byContradiction fun q => hh (.inl q)
      have e1 : c1 = 117 := Classical.byContradiction fun q => hh (.inr q)
      subst e0 e1
      have hasc : ∀ x ∈ [a, b, c, d], x.toNat < 128 := fun x hx => h _ hl x (by simpa using hx)
      have hext : (s.extract 2 6).data.toList = [a, b, c, d] := by rw [ext26, hl]; rfl
      have htl : (ByteArray.mk (Lib.toLowerA [a, b, c, d]).toArray).data.toList = [Lib.lowerB a, Lib.lowerB b, Lib.lowerB c, Lib.lowerB d] := by simp [Lib.toLowerA]
      by_cases hx : (hexOk (lowB a) && hexOk (lowB b) && hexOk (lowB c) && hexOk (lowB d)) = true
      · have hx' := hx
        simp only [Bool.and_eq_true] at hx'
        obtain ⟨⟨⟨x1, x2⟩, x3⟩, x4⟩ := hx'
        have k : ∀ c, hexOk (lowB c) = true → isHex (Lib.lowerB c) = true ∧ hexN (lowB c) = hexV (Lib.lowerB c) := fun c hc => by
          have q := (low_eq (lowB c)).2.2 hc
          have q2 := (low_eq (lowB c)).2.1
          rw [hc] at q2
          rw [(low_eq c).1] at q q2 ⊢
          exact ⟨q2.symm, q⟩
        have hf := four_ok s _ a b c d w h6 (by omega) g0 g1 hext hasc rfl (by simp [okHex, (k a x1).1, (k b x2).1, (k c x3).1, (k d x4).1])
        have e : fourP s.data.toList = (fourN (Lib.lowerB a) (Lib.lowerB b) (Lib.lowerB c) (Lib.lowerB d) : Int) := by
          rw [hl]
          unfold fourP fourN
          simp only
          rw [if_pos hx, (k a x1).2, (k b x2).2, (k c x3).2, (k d x4).2]
          omega
        rw [e]
        exact hf
      · have hx := Bool.eq_false_iff.2 hx
        have e : fourP s.data.toList = -1 := four_no (fun a' b' c' d' r' hl' => by
          rw [hl] at hl'
          simp only [List.cons.injEq, true_and] at hl'
          obtain ⟨rfl, rfl, rfl, rfl, _⟩ := hl'
          exact hx)
        rw [e]
        refine four_bad s (ByteArray.mk (Lib.toLowerA [a, b, c, d]).toArray) w hT h6 (by omega) g0 g1 (by show (Lib.toLowerA [a, b, c, d]).toArray.size ≤ _; simp [Lib.toLowerA]) ?_ (fun w _ => ?_)
        · rw [htl]
          have k : ∀ c, hexOk (lowB c) = isHex (Lib.lowerB c) := fun c => by rw [(low_eq (lowB c)).2.1, (low_eq c).1]
          rw [k, k, k, k] at hx
          simp only [okHex, List.length_cons, List.length_nil, List.all_cons, List.all_nil, Bool.and_true]
          rw [Bool.and_assoc, Bool.and_assoc] at hx
          rw [hx]
          rfl
        · have := Tryz.strings_ToLower_ascii (s.extract 2 6) w (by rw [ByteArray.size_extract]; omega) (by
            rw [hext]
            intro j x hx
            exact hasc x (List.mem_of_getElem? hx))
          rwa [hext] at this
theorem fourOk_asc {s : ByteArray} (hs : s.size ≤ 70368744177664) (h : AscU s.data.toList) : FourOk s := fun a => four_at _ (by rw [ByteArray.size_extract]; omega) (fun r hr => by
  rw [ext_drop] at hr
  exact h a r hr)
set_option maxHeartbeats 800000 in
theorem pair_any (a b : Int) (w : World) (ha : -1 ≤ a ∧ a < 65536) (hb : -1 ≤ b ∧ b < 65536) :
    Calls Tryz.prog 88 #[.int .i32 a, .int .i32 b] w fun e w' => e = .returned (.int .i32 (pairP a b)) ∧ w = w' := by
  by_cases h : a < 55296 ∨ 56320 ≤ a ∨ b < 56320 ∨ 57344 ≤ b
  · have e : pairP a b = -1 := by unfold pairP; rw [if_pos h]
    rw [e]
    clear e
    by_cases h1 : a < 55296
    · have t1 : decide (a < 55296) = true := decide_eq_true h1
      clear h
      go_enter Tryz.func88, Tryz.ntmps88
      go_wp2
      go_ret
      exact ⟨rfl, rfl⟩
    have t1 : decide (a < 55296) = false := decide_eq_false h1
    by_cases h2 : 56320 ≤ a
    · have t2 : decide (a ≥ 56320) = true := decide_eq_true h2
      have t2' : decide (56320 ≤ a) = true := decide_eq_true h2
      clear h
      go_enter Tryz.func88, Tryz.ntmps88
      go_wp2
      go_ret
      exact ⟨rfl, rfl⟩
    have t2 : decide (a ≥ 56320) = false := decide_eq_false h2
    have t2' : decide (56320 ≤ a) = false := decide_eq_false h2
    by_cases h3 : b < 56320
    · have t3 : decide (b < 56320) = true := decide_eq_true h3
      clear h
      go_enter Tryz.func88, Tryz.ntmps88
      go_wp2
      go_ret
      exact ⟨rfl, rfl⟩
    have t3 : decide (b < 56320) = false := decide_eq_false h3
    have h4 : 57344 ≤ b := by omega
    have t4 : decide (b ≥ 57344) = true := decide_eq_true h4
    have t4' : decide (57344 ≤ b) = true := decide_eq_true h4
    clear h
    go_enter Tryz.func88, Tryz.ntmps88
    go_wp2
    go_ret
    exact ⟨rfl, rfl⟩
  · have e : pairP a b = 65536 + (a - 55296) * 1024 + b - 56320 := by unfold pairP; rw [if_neg h]
    rw [e]
    exact pair_ok a b w (by omega) (by omega) (by omega) (by omega)
set_option maxHeartbeats 800000 in
theorem escape_tiny (s : ByteArray) (w : World) (h : s.size < 2) : Calls Tryz.prog 81 #[.string s] w fun e w' => e = .returned (.tuple #[.int .i32 0, .int .i64 0]) ∧ w = w' := by
  have t0 : decide ((s.size : Int) < 2) = true := by rw [decide_eq_true_iff]; omega
  have t1 : decide (s.size < 2) = true := by rw [decide_eq_true_iff]; omega
  go_enter Tryz.func81, Tryz.ntmps81
  go_wp2
  go_ret2
  exact ⟨rfl, rfl⟩
set_option maxHeartbeats 800000 in
theorem escape_noF' (s : ByteArray) (w : World) (ht : tabV w) (hs : s.size ≤ 9223372036854775807) (h2 : 2 ≤ s.size) (c : UInt8) (h1 : s[1]'(by omega) = c) (hi : Lib.indexByte [34, 92, 47, 98, 102, 110, 114, 116] c = -1)
    (hF : ∀ w, tabV w → Calls Tryz.prog 87 #[.string s] w fun e w' => e = .returned (.int .i32 (-1)) ∧ Below w.heap.size w w') :
    Calls Tryz.prog 81 #[.string s] w fun e w' => e = .returned (.tuple #[.int .i32 0, .int .i64 0]) ∧ Below w.heap.size w w' := by
  have HI := Lib.hid (index_is c (-1) (c.toNat : Int) rfl hi)
  have HF := Lib.hid hF
  have HT := Lib.hid ht
  clear hi hF ht
  go_enter Tryz.func81, Tryz.ntmps81
  go_wp2_with fail
  refine (HI.out _).mono ?_
  rintro e w' ⟨rfl, rfl⟩
  go_wp2_with fail
  refine (HF.out _ HT.out).mono ?_
  rintro e w' ⟨rfl, hb⟩
  go_wp2
  go_ret2
  exact ⟨rfl, hb⟩
set_option maxHeartbeats 800000 in
theorem escape_nopair (s : ByteArray) (n : Nat) (m : Int) (w : World) (ht : tabV w) (hs : s.size ≤ 9223372036854775807) (h2 : 6 ≤ s.size) (h1 : s[1]'(by omega) = 117) (hn : n < 65536) (hmay : mayU (n : Int) = false) (hm : -1 ≤ m ∧ m < 65536) (hp : pairP n m = -1)
    (hF : ∀ w, tabV w → Calls Tryz.prog 87 #[.string s] w fun e w' => e = .returned (.int .i32 (n : Int)) ∧ Below w.heap.size w w')
    (hG : ∀ w, tabV w → Calls Tryz.prog 87 #[.string (s.extract 6 s.size)] w fun e w' => e = .returned (.int .i32 m) ∧ Below w.heap.size w w') :
    Calls Tryz.prog 81 #[.string s] w fun e w' => e = .returned (.tuple #[.int .i32 0, .int .i64 0]) ∧ Below w.heap.size w w' := by
  have HI := Lib.hid (index_is 117 (-1) 117 rfl (by decide))
  have HF := Lib.hid hF
  have HG := Lib.hid hG
  have HT := Lib.hid ht
  have hpp := fun w => pair_any n m w (by omega) hm
  rw [hp] at hpp
  have HP := Lib.hid hpp
  have hv := fun w => (Tryz.utf8_ValidRune (n : Int) w).mono fun e w' (h : e = .returned (.bool (Lib.validRune n)) ∧ w' = w) => (⟨h.1, h.2.symm⟩ : e = .returned (.bool (Lib.validRune n)) ∧ w = w')
  rw [validRune_may, hmay] at hv
  have HV := Lib.hid hv
  clear hF hv hG hpp hp hmay ht
  go_enter Tryz.func81, Tryz.ntmps81
  go_wp2_with fail
  refine (HI.out _).mono ?_
  rintro e w' ⟨rfl, rfl⟩
  go_wp2_with fail
  refine (HF.out _ HT.out).mono ?_
  rintro e w1 ⟨rfl, hb⟩
  have HT1 := Lib.hid (HT.out.below hb)
  go_wp2_with fail
  refine (HV.out _).mono ?_
  rintro e w' ⟨rfl, rfl⟩
  go_wp2_with fail
  refine (HG.out _ HT1.out).mono ?_
  rintro e w2 ⟨rfl, hb2⟩
  go_wp2_with fail
  refine (HP.out _).mono ?_
  rintro e w' ⟨rfl, rfl⟩
  go_wp2
  go_ret2
  exact ⟨rfl, below2 hb hb2⟩
set_option maxRecDepth 100000 in
theorem idx_no (c : UInt8) (h : c ∉ escs) : Lib.indexByte [34, 92, 47, 98, 102, 110, 114, 116] c = -1 := by
  have : ∀ n : Fin 256, UInt8.ofNat n.1 ∉ escs → Lib.indexByte [34, 92, 47, 98, 102, 110, 114, 116] (UInt8.ofNat n.1) = -1 := by decide
  exact all_u8 (p := fun c => c ∉ escs → Lib.indexByte [34, 92, 47, 98, 102, 110, 114, 116] c = -1) this c h
theorem idx_yes (c : UInt8) (h : c ∈ escs) : Lib.indexByte [34, 92, 47, 98, 102, 110, 114, 116] c = (escs.idxOf c : Int) ∧ escs.idxOf c < 8 ∧ ∀ hk : escs.idxOf c < (ByteArray.mk #[34, 92, 47, 8, 12, 10, 13, 9]).size, (((ByteArray.mk #[34, 92, 47, 8, 12, 10, 13, 9])[escs.idxOf c]'hk).toNat : Int) = ((escd.getD (escs.idxOf c) 0).toNat : Int) := by
  have h' : c = 34 ∨ c = 92 ∨ c = 47 ∨ c = 98 ∨ c = 102 ∨ c = 110 ∨ c = 114 ∨ c = 116 := by simpa [escs] using h
  rcases h' with rfl | rfl | rfl | rfl | rfl | rfl | rfl | rfl <;> exact ⟨by decide, by decide, fun _ => rfl⟩
theorem four_nn {t : ByteArray} (h : FourAt t) {n : Nat} (hn : fourP t.data.toList = n) : ∀ w, tabV w → Calls Tryz.prog 87 #[.string t] w fun e w' => e = .returned (.int .i32 (n : Int)) ∧ Below w.heap.size w w' := fun w ht => by
  have := h w ht
  rwa [hn] at this
set_option maxHeartbeats 800000 in
/-- escape, where four's contracts want the tables -/
theorem escape_uT (s : ByteArray) (n : Nat) (w : World) (ht : tabV w) (hs : s.size ≤ 9223372036854775807) (h2 : 2 ≤ s.size) (h1 : s[1]'(by omega) = 117) (hm : mayU (n : Int) = true)
    (hF : ∀ w, tabV w → Calls Tryz.prog 87 #[.string s] w fun e w' => e = .returned (.int .i32 (n : Int)) ∧ Below w.heap.size w w') :
    Calls Tryz.prog 81 #[.string s] w fun e w' => e = .returned (.tuple #[.int .i32 n, .int .i64 6]) ∧ Below w.heap.size w w' := by
  have HI := Lib.hid (index_is 117 (-1) 117 rfl (by decide))
  have HF := Lib.hid hF
  have HT := Lib.hid ht
  have hv := fun w => (Tryz.utf8_ValidRune (n : Int) w).mono fun e w' (h : e = .returned (.bool (Lib.validRune n)) ∧ w' = w) => (⟨h.1, h.2.symm⟩ : e = .returned (.bool (Lib.validRune n)) ∧ w = w')
  rw [validRune_may, hm] at hv
  have HV := Lib.hid hv
  clear hF hv hm ht
  go_enter Tryz.func81, Tryz.ntmps81
  go_wp2_with fail
  refine (HI.out _).mono ?_
  rintro e w' ⟨rfl, rfl⟩
  go_wp2_with fail
  refine (HF.out _ HT.out).mono ?_
  rintro e w1 ⟨rfl, hb⟩
  go_wp2_with fail
  refine (HV.out _).mono ?_
  rintro e w' ⟨rfl, rfl⟩
  go_wp2
  go_ret2
  exact ⟨rfl, hb⟩
set_option maxHeartbeats 800000 in
theorem escape_pairT (s : ByteArray) (n m : Nat) (w : World) (ht : tabV w) (hs : s.size ≤ 9223372036854775807) (h2 : 6 ≤ s.size) (h1 : s[1]'(by omega) = 117) (hn1 : 55296 ≤ n) (hn2 : n < 56320) (hm1 : 56320 ≤ m) (hm2 : m < 57344)
    (hF : ∀ w, tabV w → Calls Tryz.prog 87 #[.string s] w fun e w' => e = .returned (.int .i32 (n : Int)) ∧ Below w.heap.size w w')
    (hG : ∀ w, tabV w → Calls Tryz.prog 87 #[.string (s.extract 6 s.size)] w fun e w' => e = .returned (.int .i32 (m : Int)) ∧ Below w.heap.size w w') :
    Calls Tryz.prog 81 #[.string s] w fun e w' => e = .returned (.tuple #[.int .i32 (65536 + ((n : Int) - 55296) * 1024 + m - 56320), .int .i64 12]) ∧ Below w.heap.size w w' := by
  have HI := Lib.hid (index_is 117 (-1) 117 rfl (by decide))
  have HF := Lib.hid hF
  have HG := Lib.hid hG
  have HT := Lib.hid ht
  have HP := Lib.hid (fun w => pair_ok n m w (by omega) (by omega) (by omega) (by omega))
  have hv := fun w => (Tryz.utf8_ValidRune (n : Int) w).mono fun e w' (h : e = .returned (.bool (Lib.validRune n)) ∧ w' = w) => (⟨h.1, h.2.symm⟩ : e = .returned (.bool (Lib.validRune n)) ∧ w = w')
  rw [validRune_may, show mayU (n : Int) = false from decide_eq_false (by omega)] at hv
  have HV := Lib.hid hv
  clear hF hv hG ht
  go_enter Tryz.func81, Tryz.ntmps81
  go_wp2_with fail
  refine (HI.out _).mono ?_
  rintro e w' ⟨rfl, rfl⟩
  go_wp2_with fail
  refine (HF.out _ HT.out).mono ?_
  rintro e w1 ⟨rfl, hb⟩
  have HT1 := Lib.hid (HT.out.below hb)
  go_wp2_with fail
  refine (HV.out _).mono ?_
  rintro e w' ⟨rfl, rfl⟩
  go_wp2_with fail
  refine (HG.out _ HT1.out).mono ?_
  rintro e w2 ⟨rfl, hb2⟩
  go_wp2_with fail
  refine (HP.out _).mono ?_
  rintro e w' ⟨rfl, rfl⟩
  go_wp2
  go_ret2
  exact ⟨rfl, below2 hb hb2⟩
/-- escape -/
theorem escape_any (s : ByteArray) (w : World) (ht : tabV w) (hs : s.size ≤ 9223372036854775807) (hF : FourAt s) (hG : FourAt (s.extract 6 s.size)) :
    Calls Tryz.prog 81 #[.string s] w fun e w' => e = .returned (.tuple #[.int .i32 (escP s.data.toList).1, .int .i64 ((escP s.data.toList).2 : Nat)]) ∧ Below w.heap.size w w' := by
  have hsz : s.size = s.data.toList.length := rfl
  have same : ∀ {v : Int} {n : Nat}, escP s.data.toList = (v, n) → Calls Tryz.prog 81 #[.string s] w (fun e w' => e = .returned (.tuple #[.int .i32 v, .int .i64 (n : Int)]) ∧ w = w') → Calls Tryz.prog 81 #[.string s] w fun e w' => e = .returned (.tuple #[.int .i32 (escP s.data.toList).1, .int .i64 ((escP s.data.toList).2 : Nat)]) ∧ Below w.heap.size w w' := fun {v n} he h => by
    rw [he]
    refine h.mono ?_
    rintro e w' ⟨rfl, rfl⟩
    exact ⟨rfl, Below.refl _ _⟩
  rcases (by omega : s.size < 2 ∨ 2 ≤ s.size) with h2 | h2
  · refine same (v := 0) (n := 0) ?_ (escape_tiny s w h2)
    match hx : s.data.toList with
    | [] => rfl
    | [_] => rfl
    | _ :: _ :: _ => rw [hx] at hsz; simp only [List.length_cons, List.length_nil] at hsz; omega
  · obtain ⟨c0, c, r, hl⟩ : ∃ c0 c r, s.data.toList = c0 :: c :: r := by
      match hx : s.data.toList with
      | [] => rw [hx] at hsz; simp only [List.length_cons, List.length_nil] at hsz; omega
      | [_] => rw [hx] at hsz; simp only [List.length_cons, List.length_nil] at hsz; omega
      | c0 :: c :: r => exact ⟨c0, c, r, rfl⟩
    have g1 := at_l hl 1 (by omega) c rfl
    have hesc : escP s.data.toList = if c ∈ escs then (((escd.getD (escs.idxOf c) 0).toNat : Int), 2) else if fourP s.data.toList < 0 then (0, 0) else if mayU (fourP s.data.toList) = true then (fourP s.data.toList, 6) else if pairP (fourP s.data.toList) (fourP (s.data.toList.drop 6)) < 0 then (0, 0) else (pairP (fourP s.data.toList) (fourP (s.data.toList.drop 6)), 12) := by
      rw [hl]
      unfold escP
      rfl
    by_cases hc : c ∈ escs
    · rw [if_pos hc] at hesc
      obtain ⟨i1, i2, i3⟩ := idx_yes c hc
      exact same hesc (escape_short s (escs.idxOf c) _ w hs h2 c g1 i2 i1 (i3 _))
    · rw [if_neg hc] at hesc
      have hi := idx_no c hc
      rcases four_bd s.data.toList with h4 | ⟨h4, h4'⟩
      · rw [if_pos (by omega)] at hesc
        rw [hesc]
        refine escape_noF' s w ht hs h2 c g1 hi (fun w hw => ?_)
        have := hF w hw
        rwa [h4] at this
      · rw [if_neg (by omega)] at hesc
        obtain ⟨n, hn⟩ : ∃ n : Nat, fourP s.data.toList = n := ⟨(fourP s.data.toList).toNat, by omega⟩
        have h6 := four_len h4
        have hc117 : c = 117 := by
          obtain ⟨a', b', c', d', r', hl', _⟩ := four_is (by omega : fourP s.data.toList ≠ -1)
          rw [hl] at hl'
          injection hl' with _ hl'
          injection hl' with hl' _
        subst hc117
        by_cases hm : mayU (fourP s.data.toList) = true
        · rw [if_pos hm] at hesc
          rw [hesc, hn]
          rw [hn] at hm
          exact escape_uT s n w ht hs h2 g1 hm (four_nn hF hn)
        · rw [if_neg hm] at hesc
          have hm' : mayU (n : Int) = false := by rw [← hn]; exact Bool.eq_false_iff.2 hm
          have hsur : 55296 ≤ n ∧ n ≤ 57343 := by
            by_cases hq : 55296 ≤ n ∧ n ≤ 57343
            · exact hq
            · exfalso
              have : mayU (n : Int) = true := may_iff.2 (by omega)
              rw [hm'] at this; cases this
          have hd6 : (s.extract 6 s.size).data.toList = s.data.toList.drop 6 := ext_drop s 6
          obtain ⟨m, hmm⟩ : ∃ m, m = fourP (s.data.toList.drop 6) := ⟨_, rfl⟩
          have hmb := four_bd (s.data.toList.drop 6)
          rw [← hmm] at hmb hesc
          have hGm : ∀ w, tabV w → Calls Tryz.prog 87 #[.string (s.extract 6 s.size)] w fun e w' => e = .returned (.int .i32 m) ∧ Below w.heap.size w w' := fun w hw => by
            have := hG w hw
            rwa [hd6, ← hmm] at this
          by_cases hp : pairP (fourP s.data.toList) m < 0
          · rw [if_pos hp] at hesc
            rw [hesc]
            have hp1 : pairP n m = -1 := by
              rw [hn] at hp
              unfold pairP at hp ⊢
              split at hp
              · rename_i q; rw [if_pos q]
              · omega
            exact escape_nopair s n m w ht hs (by omega) g1 (by omega) hm' (by omega) hp1 (four_nn hF hn) hGm
          · rw [if_neg hp] at hesc
            rw [hesc, hn]
            rw [hn] at hp
            have hb : ¬ ((n : Int) < 55296 ∨ 56320 ≤ (n : Int) ∨ m < 56320 ∨ 57344 ≤ m) := fun q => hp (by unfold pairP; rw [if_pos q]; decide)
            obtain ⟨k, hk⟩ : ∃ k : Nat, m = k := ⟨m.toNat, by omega⟩
            rw [hk] at hGm hb ⊢
            have e : pairP (n : Int) (k : Int) = 65536 + ((n : Int) - 55296) * 1024 + k - 56320 := by unfold pairP; rw [if_neg hb]
            rw [e]
            exact escape_pairT s n k w ht hs (by omega) g1 (by omega) (by omega) (by omega) (by omega) (four_nn hF hn) hGm
end Go.Proofs.YteofdpogjnojnaaGreatDoor
