/-
  The laws of dates, walked: DateOrders.
-/
import Derived.Test.YtahcajhacfnffaaDoorDateL1
import Derived.WalkLawsBesides
namespace Go.Proofs.YtahcajhacfnffaaDoor
open Go.RowKit
set_option linter.unusedVariables false

theorem less_dig (q r : Nat) (hq : q ≤ 9) (hr : r ≤ 9) (l m : List UInt8) : Op.bytesLess (UInt8.ofNat (48 + q) :: l) (UInt8.ofNat (48 + r) :: m) = (decide (q < r) || (decide (q = r) && Op.bytesLess l m)) := by
  rw [Op.bytesLess]
  have e1 : (UInt8.ofNat (48 + q) < UInt8.ofNat (48 + r)) ↔ q < r := by
    rw [UInt8.lt_iff_toNat_lt, UInt8.toNat_ofNat', UInt8.toNat_ofNat']; omega
  have e2 : (UInt8.ofNat (48 + q) = UInt8.ofNat (48 + r)) ↔ q = r := by
    rw [← UInt8.toNat_inj, UInt8.toNat_ofNat', UInt8.toNat_ofNat']; omega
  have e3 : (UInt8.ofNat (48 + q) == UInt8.ofNat (48 + r)) = decide (q = r) := by
    rw [Bool.eq_iff_iff, beq_iff_eq, decide_eq_true_iff]; exact e2
  rw [e3]
  congr 1
  exact decide_eq_decide.2 e1
theorem less_dig2 (a b : Nat) (ha : a < 100) (hb : b < 100) (l m : List UInt8) : Op.bytesLess (dig2 a ++ l) (dig2 b ++ m) = (decide (a < b) || (decide (a = b) && Op.bytesLess l m)) := by
  unfold dig2
  simp only [List.cons_append, List.nil_append]
  rw [less_dig _ _ (by omega) (by omega), less_dig _ _ (by omega) (by omega)]
  cases Op.bytesLess l m <;> rw [Bool.eq_iff_iff] <;> simp <;> omega
theorem less_dig4 (a b : Nat) (ha : a < 10000) (hb : b < 10000) (l m : List UInt8) : Op.bytesLess (dig4 a ++ l) (dig4 b ++ m) = (decide (a < b) || (decide (a = b) && Op.bytesLess l m)) := by
  unfold dig4
  rw [List.append_assoc, List.append_assoc, less_dig2 _ _ (by omega) (by omega), less_dig2 _ _ (by omega) (by omega)]
  cases Op.bytesLess l m <;> rw [Bool.eq_iff_iff] <;> simp <;> omega
theorem less_same (c : UInt8) (l m : List UInt8) : Op.bytesLess (c :: l) (c :: m) = Op.bytesLess l m := by
  rw [Op.bytesLess]; simp
theorem txt_form (y m d h i s : Int) : txtL y m d h i s = dig4 y.toNat ++ (45 :: (dig2 m.toNat ++ (45 :: (dig2 d.toNat ++ (84 :: (dig2 h.toNat ++ (58 :: (dig2 i.toNat ++ (58 :: (dig2 s.toNat ++ [90])))))))))) := by
  unfold txtL
  simp only [List.append_assoc, List.cons_append, List.nil_append]
/-- dates in order -/
def lexB (y m d h i s y' m' d' h' i' s' : Int) : Bool := decide (y < y' ∨ y = y' ∧ (m < m' ∨ m = m' ∧ (d < d' ∨ d = d' ∧ (h < h' ∨ h = h' ∧ (i < i' ∨ i = i' ∧ s < s')))))
theorem less_txt {y m d h i s y' m' d' h' i' s' : Int} (a1 : 0 ≤ y) (a2 : y ≤ 9999) (a3 : 0 ≤ m) (a4 : m ≤ 99) (a5 : 0 ≤ d) (a6 : d ≤ 99) (a7 : 0 ≤ h) (a8 : h ≤ 99) (a9 : 0 ≤ i) (a10 : i ≤ 99) (a11 : 0 ≤ s) (a12 : s ≤ 99)
    (b1 : 0 ≤ y') (b2 : y' ≤ 9999) (b3 : 0 ≤ m') (b4 : m' ≤ 99) (b5 : 0 ≤ d') (b6 : d' ≤ 99) (b7 : 0 ≤ h') (b8 : h' ≤ 99) (b9 : 0 ≤ i') (b10 : i' ≤ 99) (b11 : 0 ≤ s') (b12 : s' ≤ 99) :
    Op.bytesLess (txtL y m d h i s) (txtL y' m' d' h' i' s') = lexB y m d h i s y' m' d' h' i' s' := by
  rw [txt_form, txt_form, less_dig4 _ _ (by omega) (by omega), less_same, less_dig2 _ _ (by omega) (by omega), less_same, less_dig2 _ _ (by omega) (by omega), less_same, less_dig2 _ _ (by omega) (by omega), less_same, less_dig2 _ _ (by omega) (by omega), less_same, less_dig2 _ _ (by omega) (by omega)]
  have : Op.bytesLess [90] [90] = false := by decide
  rw [this]
  unfold lexB
  rw [Bool.eq_iff_iff]
  simp only [Bool.or_eq_true, Bool.and_eq_true, decide_eq_true_iff, Bool.false_eq_true, and_false, or_false]
  omega
theorem lt_lex {a b y m d y' m' d' : Int} (ha : Cal.Civ (a / 86400 + 719162) y m d) (hb : Cal.Civ (b / 86400 + 719162) y' m' d') :
    decide (a < b) = lexB y m d (hhT a) (mmT a) (ssT a) y' m' d' (hhT b) (mmT b) (ssT b) := by
  unfold lexB
  apply decide_eq_decide.2
  have key : ∀ {x z : Int}, x / 86400 = z / 86400 → (x < z ↔ (hhT x < hhT z ∨ hhT x = hhT z ∧ (mmT x < mmT z ∨ mmT x = mmT z ∧ ssT x < ssT z))) := by
    intro x z h
    unfold hhT mmT ssT
    omega
  rcases (by omega : y < y' ∨ y = y' ∨ y' < y) with h | h | h
  · have := ha.lt_of hb (.inl h)
    constructor
    · intro _; exact .inl h
    · intro _; omega
  · rcases (by omega : m < m' ∨ m = m' ∨ m' < m) with k | k | k
    · have := ha.lt_of hb (.inr ⟨h, .inl k⟩)
      constructor
      · intro _; exact .inr ⟨h, .inl k⟩
      · intro _; omega
    · rcases (by omega : d < d' ∨ d = d' ∨ d' < d) with j | j | j
      · have := ha.lt_of hb (.inr ⟨h, .inr ⟨k, j⟩⟩)
        constructor
        · intro _; exact .inr ⟨h, .inr ⟨k, .inl j⟩⟩
        · intro _; omega
      · have e : a / 86400 = b / 86400 := by
          have h1 := ha.num
          have h2 := hb.num
          subst h; subst k; subst j
          omega
        rw [key e]
        constructor
        · intro x; exact .inr ⟨h, .inr ⟨k, .inr ⟨j, x⟩⟩⟩
        · rintro (x | ⟨_, x | ⟨_, x | ⟨_, x⟩⟩⟩)
          · omega
          · omega
          · omega
          · exact x
      · have := hb.lt_of ha (.inr ⟨h.symm, .inr ⟨k.symm, j⟩⟩)
        constructor
        · intro _; omega
        · rintro (x | ⟨_, x | ⟨_, x | ⟨x, _⟩⟩⟩) <;> omega
    · have := hb.lt_of ha (.inr ⟨h.symm, .inl k⟩)
      constructor
      · intro _; omega
      · rintro (x | ⟨_, x | ⟨x, _⟩⟩) <;> omega
  · have := hb.lt_of ha (.inl h)
    constructor
    · intro _; omega
    · rintro (x | ⟨x, _⟩) <;> omega
/-- later moments have greater texts -/
theorem txt_less {a b y m d y' m' d' : Int} (ha : Cal.Civ (a / 86400 + 719162) y m d) (hb : Cal.Civ (b / 86400 + 719162) y' m' d') :
    decide (a < b) = Op.bytesLess (strL (txtL y m d (hhT a) (mmT a) (ssT a))).toList (strL (txtL y' m' d' (hhT b) (mmT b) (ssT b))).toList := by
  obtain ⟨c1, c2, c3, c4, c5, c6⟩ := civ_dim ha
  obtain ⟨e1, e2, e3, e4, e5, e6⟩ := civ_dim hb
  obtain ⟨f1, f2, f3, f4, f5, f6⟩ := hms_bd a
  obtain ⟨g1, g2, g3, g4, g5, g6⟩ := hms_bd b
  rw [ByteArray.toList_eq, ByteArray.toList_eq, strL_list, strL_list, lt_lex ha hb, less_txt] <;> omega
theorem txt_eq {a b y m d y' m' d' : Int} (ha : Cal.Civ (a / 86400 + 719162) y m d) (hb : Cal.Civ (b / 86400 + 719162) y' m' d') :
    (a == b) = ((strL (txtL y m d (hhT a) (mmT a) (ssT a))).toList == (strL (txtL y' m' d' (hhT b) (mmT b) (ssT b))).toList) := by
  have h1 := txt_less ha hb
  have h2 := txt_less hb ha
  rw [Bool.eq_iff_iff, beq_iff_eq, beq_iff_eq]
  constructor
  · rintro rfl
    obtain ⟨rfl, rfl, rfl⟩ := ha.uniq hb
    rfl
  · intro e
    rw [e] at h1
    rw [← e] at h2
    have hirr : ∀ l : List UInt8, Op.bytesLess l l = false := by
      intro l
      induction l with
      | nil => rfl
      | cons c l ih => rw [less_same]; exact ih
    rw [hirr] at h1 h2
    simp at h1 h2
    omega

set_option maxRecDepth 100000 in
set_option maxHeartbeats 1600000 in
theorem dateOrders_yes (a b : Int) (ta tb : ByteArray) (W : World) (htab : tabP W)
    (hA : ∀ w, tabP w → Calls Tryd.prog 12 #[.int .i64 a] w fun e w' => e = .returned (.tuple #[.string ta, .int .i64 0]) ∧ Below w.heap.size w w')
    (hB : ∀ w, tabP w → Calls Tryd.prog 12 #[.int .i64 b] w fun e w' => e = .returned (.tuple #[.string tb, .int .i64 0]) ∧ Below w.heap.size w w')
    (hL : decide (a < b) = Op.bytesLess ta.toList tb.toList) (hE : (a == b) = (ta.toList == tb.toList)) :
    Calls Tryd.prog 6 #[.int .i64 a, .int .i64 b] W fun e w' => e = .returned (.bool true) ∧ Below W.heap.size W w' := by
  have HT := Lib.hid htab
  have HA := Lib.hid hA
  have HB := Lib.hid hB
  clear htab hA hB
  have e1 : (Op.bytesLess ta.toList tb.toList == Op.bytesLess ta.toList tb.toList) = true := by simp
  have e2 : ((ta.toList == tb.toList) == (ta.toList == tb.toList)) = true := by simp
  go_enter Tryd.func6, Tryd.ntmps6
  go_wp2_with fail
  refine (HA.out _ HT.out).mono ?_
  rintro e w1 ⟨rfl, hb1⟩
  go_wp2_with fail
  refine (HB.out _ (HT.out.below hb1)).mono ?_
  rintro e w2 ⟨rfl, hb2⟩
  have HB2 := Lib.hid (below2 hb1 hb2)
  clear hb1 hb2
  go_wp2_with fail
  refine (lives_any _ (HT.out.below HB2.out)).mono ?_
  rintro e w3 ⟨rfl, hb3⟩
  go_wp2
  go_ret
  exact ⟨rfl, below2 HB2.out hb3⟩

set_option maxRecDepth 100000 in
set_option maxHeartbeats 1600000 in
theorem dateOrders_no (a b : Int) (va vb : ByteArray) (ea eb : Int) (W : World) (htab : tabP W)
    (hA : ∀ w, tabP w → Calls Tryd.prog 12 #[.int .i64 a] w fun e w' => e = .returned (.tuple #[.string va, .int .i64 ea]) ∧ Below w.heap.size w w')
    (hB : ∀ w, tabP w → Calls Tryd.prog 12 #[.int .i64 b] w fun e w' => e = .returned (.tuple #[.string vb, .int .i64 eb]) ∧ Below w.heap.size w w')
    (hn : (ea != 0) = true ∨ (ea != 0) = false ∧ (eb != 0) = true) :
    Calls Tryd.prog 6 #[.int .i64 a, .int .i64 b] W fun e w' => e = .returned (.bool true) ∧ Below W.heap.size W w' := by
  have HT := Lib.hid htab
  have HA := Lib.hid hA
  have HB := Lib.hid hB
  clear htab hA hB
  rcases hn with hn | ⟨hm, hn⟩
  all_goals
    go_enter Tryd.func6, Tryd.ntmps6
    go_wp2_with fail
    refine (HA.out _ HT.out).mono ?_
    rintro e w1 ⟨rfl, hb1⟩
    go_wp2_with fail
    refine (HB.out _ (HT.out.below hb1)).mono ?_
    rintro e w2 ⟨rfl, hb2⟩
    have HB2 := Lib.hid (below2 hb1 hb2)
    clear hb1 hb2
    go_wp2_with fail
    refine (lives_any _ (HT.out.below HB2.out)).mono ?_
    rintro e w3 ⟨rfl, hb3⟩
    have HB3 := Lib.hid (below2 HB2.out hb3)
    clear hb3
    go_wp2_with fail
    refine (lives_any _ (HT.out.below HB3.out)).mono ?_
    rintro e w4 ⟨rfl, hb4⟩
    go_wp2
    go_ret
    exact ⟨rfl, below2 HB3.out hb4⟩
theorem dateOrders_walk (a b : Int) (W : World) (htab : tabP W) :
    Calls Tryd.prog 6 #[.int .i64 a, .int .i64 b] W fun e w' => e = .returned (.bool true) ∧ Below W.heap.size W w' := by
  cases h : mayB a
  · cases k : mayB b
    · exact dateOrders_no a b _ _ 100 100 W htab (fun w _ => text_no a w h) (fun w _ => text_no b w k) (.inl rfl)
    · obtain ⟨y, m, d, hc⟩ := civ_t k
      exact dateOrders_no a b _ _ 100 0 W htab (fun w _ => text_no a w h) (fun w ht => text_yes b y m d w k hc ht) (.inl rfl)
  · obtain ⟨y, m, d, hc⟩ := civ_t h
    cases k : mayB b
    · exact dateOrders_no a b _ _ 0 100 W htab (fun w ht => text_yes a y m d w h hc ht) (fun w _ => text_no b w k) (.inr ⟨rfl, rfl⟩)
    · obtain ⟨y', m', d', hc'⟩ := civ_t k
      exact dateOrders_yes a b _ _ W htab (fun w ht => text_yes a y m d w h hc ht) (fun w ht => text_yes b y' m' d' w k hc' ht) (txt_less hc hc') (txt_eq hc hc')
end Go.Proofs.YtahcajhacfnffaaDoor
