/-
  strings.ToLower of a text with a big byte: its digits are no hex digits.
  utf.four for any text of a world in which the case ranges are as they are laid.
  pursuivantlaw05.ParseBlanks: the text with blanks round it.
  pursuivantlaw05.ParseBlanks: it returns true.
-/
import Derived.Test.YteofdpogjnojnaaDoorPaU
import Derived.Shelf.Unicode.CaseLaid
import Derived.Lib.MapLaws
import Derived.Lib.TrimAscii
import Derived.Test.YteofdpogjnojnaaDoorPaLv
import Derived.Test.YteofdpogjnojnaaDoorAppend
namespace Go.Proofs.YteofdpogjnojnaaDoor
open Go.RowKit Utf Pa
set_option linter.unusedVariables false
set_option linter.unusedSimpArgs false

def rowBig (x : Lib.CaseRow) : Bool := decide (x.2.1 < 128) || (decide (x.delta 1 > 1114111) && decide (128 ≤ x.1)) || (decide (x.delta 1 ≤ 1114111) && decide (102 < (max x.1 128 : Nat) + x.delta 1))
set_option maxRecDepth 1000000 in
theorem rowsBig : Lib.caseT.all rowBig = true := by decide
theorem caseA_big (i : Nat) (hi : i < Lib.caseA.size) : rowBig (Lib.caseA.getD i (0, 0, 0, 0, 0)) = true := by
  have hm : Lib.caseA.getD i (0, 0, 0, 0, 0) ∈ Lib.caseT := by
    unfold Lib.caseA at hi ⊢
    simp only [List.size_toArray] at hi
    simp [Array.getD, hi]
  exact List.all_eq_true.1 rowsBig _ hm
theorem low_big {r : Int} (h : 128 ≤ r) : 102 < Lib.toLowerU r := by
  unfold Lib.toLowerU
  rw [if_neg (by omega)]
  unfold Lib.toR Lib.lookupGo
  cases hi : Lib.lookupIdx Lib.caseA r (Lib.caseA.size + 1) 0 Lib.caseA.size with
  | none => show 102 < r; omega
  | some i =>
    obtain ⟨hil, hlo, hhi⟩ := Lib.lookupIdx_some Lib.caseA r _ _ _ i hi
    have hb := caseA_big i hil
    show 102 < Lib.convertR 1 r (Lib.caseA.getD i (0, 0, 0, 0, 0))
    obtain ⟨x, hx⟩ : ∃ x, x = Lib.caseA.getD i (0, 0, 0, 0, 0) := ⟨_, rfl⟩
    rw [← hx] at hlo hhi hb ⊢
    simp only [rowBig, Bool.or_eq_true, Bool.and_eq_true, decide_eq_true_eq] at hb
    unfold Lib.convertR
    split <;> omega
theorem enc_big {r : Int} (h : 102 < r) : (Lib.encodeRune r).all isHex = false := by
  have key : ∀ x : Int, 102 < x → x < 256 → isHex x.toNat.toUInt8 = false := fun x h1 h2 => by
    have hn : x.toNat.toUInt8.toNat = x.toNat := by rw [Nat.toUInt8, UInt8.toNat_ofNat']; omega
    unfold isHex
    simp only [Bool.or_eq_false_iff, Bool.and_eq_false_iff, decide_eq_false_iff_not, UInt8.le_iff_toNat_le, hn]
    have e57 : (57 : UInt8).toNat = 57 := rfl
    have e102 : (102 : UInt8).toNat = 102 := rfl
    rw [e57, e102]
    omega
  unfold Lib.encodeRune Lib.encodeRuneZ
  split
  · simp [key r h (by omega)]
  · split
    · simp [key (192 + r / 64) (by omega) (by omega)]
    · split
      · simp [key (224 + r / 4096) (by omega) (by omega)]
      · split
        · simp [key (240 + r / 262144) (by omega) (by omega)]
        · decide
theorem dec_big (c : UInt8) (t : List UInt8) (h : 128 ≤ c.toNat) : 128 ≤ (Lib.decodeL (c :: t)).1 := by
  by_cases hv : (Lib.decodeL (c :: t)).1 = 65533 ∧ (Lib.decodeL (c :: t)).2 = 1
  · omega
  · rcases (by omega : (Lib.decodeL (c :: t)).1 < 128 ∨ 128 ≤ (Lib.decodeL (c :: t)).1) with hr | hr
    · exfalso
      have he := Lib.encode_decode (c :: t) (by simp) hv
      have hw := Lib.decodeL_width (c :: t)
      obtain ⟨w, hwe⟩ : ∃ w, (Lib.decodeL (c :: t)).2 = w + 1 := ⟨(Lib.decodeL (c :: t)).2 - 1, by omega⟩
      rw [hwe, List.take_succ_cons] at he
      unfold Lib.encodeRune at he
      rw [Lib.encodeRuneZ_one (by omega) (by omega)] at he
      simp only [List.map_cons, List.map_nil, List.cons.injEq] at he
      have h1 := he.1
      rw [← h1, Nat.toUInt8, UInt8.toNat_ofNat'] at h
      omega
    · exact hr
theorem low_no : ∀ (n : Nat) (l : List UInt8), l.length ≤ n → (∃ x ∈ l, 128 ≤ x.toNat) → (Lib.toLowerD l).all isHex = false
  | 0, l, h, ⟨x, hx, _⟩ => by
    have : l = [] := List.eq_nil_of_length_eq_zero (by omega)
    subst this
    cases hx
  | n + 1, [], h, ⟨x, hx, _⟩ => by cases hx
  | n + 1, c :: t, h, hx => by
    unfold Lib.toLowerD
    rw [Lib.mapD_step _ _ (by simp), List.all_append]
    rcases (by omega : c.toNat < 128 ∨ 128 ≤ c.toNat) with hc | hc
    · rw [Lib.decodeL_ascii c t hc]
      obtain ⟨x, hm, hb⟩ := hx
      rcases List.mem_cons.1 hm with rfl | hm
      · omega
      · have := low_no n t (by simpa using h) ⟨x, hm, hb⟩
        unfold Lib.toLowerD at this
        simp only [List.drop_succ_cons, List.drop_zero]
        rw [this, Bool.and_false]
    · have hr := dec_big c t hc
      have hl := low_big (r := ((Lib.decodeL (c :: t)).1 : Int)) (by omega)
      rw [if_pos (by omega), enc_big hl, Bool.false_and]
end Go.Proofs.YteofdpogjnojnaaDoor

namespace Go.Proofs.YteofdpogjnojnaaDoor
open Go.RowKit Utf Pa
set_option linter.unusedVariables false
set_option linter.unusedSimpArgs false

theorem encode_le4 (z : Int) : (Lib.encodeRune z).length ≤ 4 := by
  unfold Lib.encodeRune Lib.encodeRuneZ
  rw [List.length_map]
  repeat' split
  all_goals simp
theorem mapD_le4 (f : Int → Int) : ∀ (n : Nat) (l : List UInt8), l.length ≤ n → (Lib.mapD f l).length ≤ 4 * l.length
  | 0, l, hn => by
    have : l = [] := List.eq_nil_of_length_eq_zero (by omega)
    subst this
    simp [Lib.mapD_nil]
  | n + 1, l, hn => by
    by_cases hne : l = []
    · subst hne
      simp [Lib.mapD_nil]
    · have hw := Lib.decodeL_width l
      have hle := Lib.decodeL_le l hne
      have ih := mapD_le4 f n (l.drop (Lib.decodeL l).2) (by rw [List.length_drop]; omega)
      rw [List.length_drop] at ih
      rw [Lib.mapD_step f l hne, List.length_append]
      have hh : (if 0 ≤ f (Lib.decodeL l).1 then Lib.encodeRune (f (Lib.decodeL l).1) else []).length ≤ 4 := by
        split
        · exact encode_le4 _
        · simp
      omega
theorem low_big8 (x : UInt8) (h : 128 ≤ x.toNat) : hexOk (lowB x) = false := by
  have hlow : lowB x = x := by unfold lowB; rw [if_neg (by omega)]
  rw [hlow]
  unfold hexOk
  simp only [Bool.or_eq_false_iff, decide_eq_false_iff_not]
  omega
theorem four_any (s : ByteArray) (hs : s.size ≤ 1000000) : FourAt s := by
  by_cases h : ∀ r, s.data.toList = 92 :: 117 :: r → ∀ x ∈ r.take 4, x.toNat < 128
  · exact four_at s (by omega) h
  · intro w hT
    have hsz : s.size = s.data.toList.length := rfl
    rcases (by omega : s.size < 6 ∨ 6 ≤ s.size) with h6 | h6
    · have e : fourP s.data.toList = -1 := four_no (fun a b c d r hl => by rw [hl] at hsz; simp at hsz; omega)
      rw [e]
      refine (four_short s w h6).mono ?_
      rintro e w' ⟨rfl, rfl⟩
      exact ⟨rfl, Below.refl _ _⟩
    · obtain ⟨r, hl0, x, hx, hb⟩ : ∃ r, s.data.toList = 92 :: 117 :: r ∧ ∃ x ∈ r.take 4, 128 ≤ x.toNat := by
        refine Classical.byContradiction fun q => h fun r hr x hx => ?_
        refine Classical.byContradiction fun q2 => q ⟨r, hr, x, hx, by omega⟩
      clear h
      obtain ⟨a, b, c, d, r', rfl⟩ : ∃ a b c d r', r = a :: b :: c :: d :: r' := by
        rw [hl0] at hsz
        match r with
        | [] => simp only [List.length_cons, List.length_nil] at hsz; omega
        | [_] => simp only [List.length_cons, List.length_nil] at hsz; omega
        | [_, _] => simp only [List.length_cons, List.length_nil] at hsz; omega
        | [_, _, _] => simp only [List.length_cons, List.length_nil] at hsz; omega
        | a :: b :: c :: d :: r => exact ⟨a, b, c, d, r, rfl⟩
      have hx4 : x ∈ [a, b, c, d] := by simpa using hx
      have g0 := at_l hl0 0 (by omega) 92 rfl
      have g1 := at_l hl0 1 (by omega) 117 rfl
      have hext : (s.extract 2 6).data.toList = [a, b, c, d] := by rw [ext26, hl0]; rfl
      have hxx : (hexOk (lowB a) && hexOk (lowB b) && hexOk (lowB c) && hexOk (lowB d)) = false := by
        have := low_big8 x hb
        simp only [List.mem_cons, List.mem_nil_iff, or_false] at hx4
        rcases hx4 with rfl | rfl | rfl | rfl <;> rw [this] <;> simp
      have e : fourP s.data.toList = -1 := four_no (fun a' b' c' d' r'' hl' => by
        rw [hl0] at hl'
        simp only [List.cons.injEq, true_and] at hl'
        obtain ⟨rfl, rfl, rfl, rfl, _⟩ := hl'
        exact hxx)
      rw [e]
      have hlow := low_no 4 [a, b, c, d] (by simp) ⟨x, hx4, hb⟩
      have hlen : (Lib.toLowerD [a, b, c, d]).length ≤ 16 := by
        have := mapD_le4 Lib.toLowerU 4 [a, b, c, d] (by simp)
        unfold Lib.toLowerD
        simpa using this
      refine four_bad s (ByteArray.mk (Lib.toLowerD [a, b, c, d]).toArray) w hT h6 (by omega) g0 g1 (by show (Lib.toLowerD [a, b, c, d]).toArray.size ≤ _; simp; omega) ?_ (fun w hw => ?_)
      · show okHex (Lib.toLowerD [a, b, c, d]).toArray.toList = false
        unfold okHex
        rw [hlow, Bool.and_false]
      · have := Tryd.strings_ToLower_any (s.extract 2 6) w (by rw [ByteArray.size_extract]; omega) hw.c hw.u
        rwa [hext] at this
theorem fourOk_any {s : ByteArray} (hs : s.size ≤ 1000000) : FourOk s := fun a => four_any _ (by rw [ByteArray.size_extract]; omega)
end Go.Proofs.YteofdpogjnojnaaDoor

namespace Go.Proofs.YteofdpogjnojnaaDoor
open Go.RowKit Utf Pa
set_option linter.unusedVariables false
set_option linter.unusedSimpArgs false

def blA (k : Nat) : List UInt8 := (List.range k).map fun i => ([32, 10, 9, 13] : List UInt8).getD (i % 4) 0
def blB (k : Nat) : List UInt8 := (List.range k).map fun i => ([10, 32, 13, 9] : List UInt8).getD (i % 4) 0
theorem blA_snoc (k : Nat) : blA (k + 1) = blA k ++ [([32, 10, 9, 13] : List UInt8).getD (k % 4) 0] := by simp [blA, List.range_succ]
theorem blB_snoc (k : Nat) : blB (k + 1) = blB k ++ [([10, 32, 13, 9] : List UInt8).getD (k % 4) 0] := by simp [blB, List.range_succ]
theorem blA_len (k : Nat) : (blA k).length = k := by simp [blA]
theorem blB_len (k : Nat) : (blB k).length = k := by simp [blB]
theorem blA_bl (k : Nat) : AllB (blA k) := by
  intro c hc
  obtain ⟨i, _, rfl⟩ := List.mem_map.1 hc
  rcases (by omega : i % 4 = 0 ∨ i % 4 = 1 ∨ i % 4 = 2 ∨ i % 4 = 3) with h | h | h | h <;> rw [h] <;> rfl
theorem blB_bl (k : Nat) : AllB (blB k) := by
  intro c hc
  obtain ⟨i, _, rfl⟩ := List.mem_map.1 hc
  rcases (by omega : i % 4 = 0 ∨ i % 4 = 1 ∨ i % 4 = 2 ∨ i % 4 = 3) with h | h | h | h <;> rw [h] <;> rfl
set_option maxRecDepth 100000 in
set_option maxHeartbeats 8000000 in
theorem blanks_test {w : World} (hT : tabV w) (A : Option Addr) (c : Nat) (l : List UInt8) (ah be : Nat) (hr : RB w A l) (hc : l.length ≤ c) (hm : c ≤ maxLen) (hl : l.length ≤ 3000) (ha : ah ≤ 20) (hb : be ≤ 20) :
    Calls Tryd.prog 3 #[.slice A l.length c, .int .i64 (ah : Int), .int .i64 (be : Int)] w fun e w' => e = .returned (.bool true) ∧ Below w.heap.size w w' := by
  have d1 : decide ((l.length : Int) > 3000) = false := decide_eq_false (by omega)
  have d2 : decide ((ah : Int) < 0) = false := decide_eq_false (by omega)
  have d3 : decide ((ah : Int) > 20) = false := decide_eq_false (by omega)
  have d4 : decide ((be : Int) < 0) = false := decide_eq_false (by omega)
  have d5 : decide ((be : Int) > 20) = false := decide_eq_false (by omega)
  have HRB := Lib.hid hr
  have HBA : Hid (ah ≤ 20 ∧ be ≤ 20 ∧ l.length ≤ 3000) := Lib.hid ⟨ha, hb, hl⟩
  have HL : Hid (∀ V, Below w.heap.size w V → Calls Tryd.prog 5 #[] V fun e w' => e = .returned (.bool true) ∧ Below V.heap.size V w') := Lib.hid (fun V hV => lives_any V (hT.below hV))
  have HP1 : Hid (∀ V, Below w.heap.size w V → Calls Tryd.prog 6 #[.slice A l.length c] V fun e w' => PF (ParP l V) e w') := Lib.hid (fun V hV => parse_any A c l (HRB.out.below hV) hc hm (fun _ => fourOk_any (by show l.toArray.size ≤ _; simp; omega)) (hT.below hV))
  have HP2 : Hid (∀ V (m : List UInt8) (B : Option Addr) (d : Nat), RB V B m → m.length ≤ d → d ≤ maxLen → Below w.heap.size w V → m.length ≤ 4000 → Calls Tryd.prog 6 #[.slice B m.length d] V fun e w' => PF (ParP m V) e w') := Lib.hid (fun V m B d h1 h2 h3 hV h4 => parse_any B d m h1 h2 h3 (fun _ => fourOk_any (by show m.toArray.size ≤ _; simp; omega)) (hT.below hV))
  clear hr hT
  go_enter Tryd.func3, Tryd.ntmps3
  go_wp2
  clear d1 d2 d3 d4 d5
  go_loopw [7, 8] (fun v i wr => ∃ k : Nat, k ≤ ah ∧ i = .int .i64 k ∧ Hid (OB wr w.heap.size v (blA k)) ∧ Hid (Below w.heap.size w wr)) (fun v i _ => ah - (intOf i).toNat)
  case atStart => exact ⟨0, Nat.zero_le _, rfl, Lib.hid (OB.nil _ _), Lib.hid (Below.refl _ _)⟩
  case round =>
    obtain ⟨k, hk, rfl, HV, HB⟩ := hrel
    rcases (by omega : k < ah ∨ k = ah) with hlt | hend
    · have hki : decide ((k : Int) < (ah : Int)) = true := decide_eq_true (by omega)
      obtain ⟨acc, hacc⟩ : ∃ acc, acc = blA k := ⟨_, rfl⟩
      have hal : acc.length ≤ 4000 := by rw [hacc]; simp [blA_len, blB_len]; omega
      rw [← hacc] at HV
      have HACC := Lib.hid hacc
      clear hacc
      have hkt : (k : Int).tmod 4 = ((k % 4 : Nat) : Int) := by rw [Int.tmod_eq_emod_of_nonneg (by omega)]; omega
      have hw2 : IntKind.i64.wrap ((k : Int) + 1) = (k : Int) + 1 := IntWalk.i64_in _ (by omega)
      rcases (by omega : k % 4 = 0 ∨ k % 4 = 1 ∨ k % 4 = 2 ∨ k % 4 = 3) with hm | hm | hm | hm <;> rw [hm] at hkt
      · have HM : Hid (blA (k + 1) = blA k ++ [32]) := Lib.hid (by rw [blA_snoc, hm]; rfl)
        clear hm
        go_wp2_with (at_builtin; refine app_bytes _ rfl _ _ rfl w.heap.size _ acc rfl (HV.out.alloc _) (some ⟨wr.heap.size, 0, none⟩) 1 1 [32] rfl rfl (lit_rb wr [32] _ rfl) (by omega) (by have := HB.out.size; simp; omega) ?_; intro v1 w2 ho1 hg1 hat; have hb1 : Below w.heap.size w w2 := (HB.out.alloc HB.out.size _).grown hg1 (by have := HB.out.size; simp; omega) (fun j hj => HV.out.grown_ge j hj); have HO1 := Lib.hid ho1; have HB1 := Lib.hid hb1; clear ho1 hg1 hat hb1)
        go_roundw
        case rel => exact ⟨k + 1, by omega, by go_num, Lib.hid (by have := HO1.out; rw [HACC.out] at this; rw [HM.out]; simpa using this), HB1⟩
        case measure => simp [intOf]; omega
      · have HM : Hid (blA (k + 1) = blA k ++ [10]) := Lib.hid (by rw [blA_snoc, hm]; rfl)
        clear hm
        go_wp2_with (at_builtin; refine app_bytes _ rfl _ _ rfl w.heap.size _ acc rfl (HV.out.alloc _) (some ⟨wr.heap.size, 0, none⟩) 1 1 [10] rfl rfl (lit_rb wr [10] _ rfl) (by omega) (by have := HB.out.size; simp; omega) ?_; intro v1 w2 ho1 hg1 hat; have hb1 : Below w.heap.size w w2 := (HB.out.alloc HB.out.size _).grown hg1 (by have := HB.out.size; simp; omega) (fun j hj => HV.out.grown_ge j hj); have HO1 := Lib.hid ho1; have HB1 := Lib.hid hb1; clear ho1 hg1 hat hb1)
        go_roundw
        case rel => exact ⟨k + 1, by omega, by go_num, Lib.hid (by have := HO1.out; rw [HACC.out] at this; rw [HM.out]; simpa using this), HB1⟩
        case measure => simp [intOf]; omega
      · have HM : Hid (blA (k + 1) = blA k ++ [9]) := Lib.hid (by rw [blA_snoc, hm]; rfl)
        clear hm
        go_wp2_with (at_builtin; refine app_bytes _ rfl _ _ rfl w.heap.size _ acc rfl (HV.out.alloc _) (some ⟨wr.heap.size, 0, none⟩) 1 1 [9] rfl rfl (lit_rb wr [9] _ rfl) (by omega) (by have := HB.out.size; simp; omega) ?_; intro v1 w2 ho1 hg1 hat; have hb1 : Below w.heap.size w w2 := (HB.out.alloc HB.out.size _).grown hg1 (by have := HB.out.size; simp; omega) (fun j hj => HV.out.grown_ge j hj); have HO1 := Lib.hid ho1; have HB1 := Lib.hid hb1; clear ho1 hg1 hat hb1)
        go_roundw
        case rel => exact ⟨k + 1, by omega, by go_num, Lib.hid (by have := HO1.out; rw [HACC.out] at this; rw [HM.out]; simpa using this), HB1⟩
        case measure => simp [intOf]; omega
      · have HM : Hid (blA (k + 1) = blA k ++ [13]) := Lib.hid (by rw [blA_snoc, hm]; rfl)
        clear hm
        go_wp2_with (at_builtin; refine app_bytes _ rfl _ _ rfl w.heap.size _ acc rfl (HV.out.alloc _) (some ⟨wr.heap.size, 0, none⟩) 1 1 [13] rfl rfl (lit_rb wr [13] _ rfl) (by omega) (by have := HB.out.size; simp; omega) ?_; intro v1 w2 ho1 hg1 hat; have hb1 : Below w.heap.size w w2 := (HB.out.alloc HB.out.size _).grown hg1 (by have := HB.out.size; simp; omega) (fun j hj => HV.out.grown_ge j hj); have HO1 := Lib.hid ho1; have HB1 := Lib.hid hb1; clear ho1 hg1 hat hb1)
        go_roundw
        case rel => exact ⟨k + 1, by omega, by go_num, Lib.hid (by have := HO1.out; rw [HACC.out] at this; rw [HM.out]; simpa using this), HB1⟩
        case measure => simp [intOf]; omega
    · have hki : decide ((k : Int) < (ah : Int)) = false := decide_eq_false (by omega)
      rw [hend] at HV hki ⊢
      clear hend hk
      obtain ⟨acc, hacc⟩ : ∃ acc, acc = blA ah := ⟨_, rfl⟩
      have hal : acc.length ≤ 20 := by rw [hacc]; simp [blA_len]; omega
      rw [← hacc] at HV
      have HACC := Lib.hid hacc
      clear hacc
      go_wp2_with (at_builtin; refine app_bytes _ rfl _ _ rfl w.heap.size _ acc rfl HV.out A l.length c l rfl rfl (HRB.out.below HB.out) (by omega) HB.out.size ?_; intro v3 w3 ho1 hg1 hat; have hb1 : Below w.heap.size w w3 := HB.out.grown hg1 HB.out.size (fun j hj => HV.out.grown_ge j hj); have HO1 := Lib.hid ho1; have HB3 := Lib.hid hb1; clear ho1 hg1 hat hb1)
      have HV3 : Hid (OB w3 w.heap.size v3 (blA ah ++ l ++ blB 0)) := Lib.hid (by have := HO1.out; rw [HACC.out] at this; simpa [blB] using this)
      clear HV HB HO1
      clear HACC hal hki
      go_wp2
      go_loopw [7, 9] (fun v i wr => ∃ k : Nat, k ≤ be ∧ i = .int .i64 k ∧ Hid (OB wr w.heap.size v (blA ah ++ l ++ blB k)) ∧ Hid (Below w.heap.size w wr)) (fun v i _ => be - (intOf i).toNat)
      case atStart => exact ⟨0, Nat.zero_le _, rfl, HV3, HB3⟩
      case round =>
        obtain ⟨k, hk, rfl, HV, HB⟩ := hrel
        rcases (by omega : k < be ∨ k = be) with hlt | hend
        · have hki : decide ((k : Int) < (be : Int)) = true := decide_eq_true (by omega)
          obtain ⟨acc, hacc⟩ : ∃ acc, acc = blA ah ++ l ++ blB k := ⟨_, rfl⟩
          have hal : acc.length ≤ 4000 := by rw [hacc]; simp [blA_len, blB_len]; omega
          rw [← hacc] at HV
          have HACC := Lib.hid hacc
          clear hacc
          have hkt : (k : Int).tmod 4 = ((k % 4 : Nat) : Int) := by rw [Int.tmod_eq_emod_of_nonneg (by omega)]; omega
          have hw2 : IntKind.i64.wrap ((k : Int) + 1) = (k : Int) + 1 := IntWalk.i64_in _ (by omega)
          rcases (by omega : k % 4 = 0 ∨ k % 4 = 1 ∨ k % 4 = 2 ∨ k % 4 = 3) with hm | hm | hm | hm <;> rw [hm] at hkt
          · have HM : Hid (blB (k + 1) = blB k ++ [10]) := Lib.hid (by rw [blB_snoc, hm]; rfl)
            clear hm
            go_wp2_with (at_builtin; refine app_bytes _ rfl _ _ rfl w.heap.size _ acc rfl (HV.out.alloc _) (some ⟨wr.heap.size, 0, none⟩) 1 1 [10] rfl rfl (lit_rb wr [10] _ rfl) (by omega) (by have := HB.out.size; simp; omega) ?_; intro v1 w2 ho1 hg1 hat; have hb1 : Below w.heap.size w w2 := (HB.out.alloc HB.out.size _).grown hg1 (by have := HB.out.size; simp; omega) (fun j hj => HV.out.grown_ge j hj); have HO1 := Lib.hid ho1; have HB1 := Lib.hid hb1; clear ho1 hg1 hat hb1)
            go_roundw
            case rel => exact ⟨k + 1, by omega, by go_num, Lib.hid (by have := HO1.out; rw [HACC.out] at this; rw [HM.out]; simpa using this), HB1⟩
            case measure => simp [intOf]; omega
          · have HM : Hid (blB (k + 1) = blB k ++ [32]) := Lib.hid (by rw [blB_snoc, hm]; rfl)
            clear hm
            go_wp2_with (at_builtin; refine app_bytes _ rfl _ _ rfl w.heap.size _ acc rfl (HV.out.alloc _) (some ⟨wr.heap.size, 0, none⟩) 1 1 [32] rfl rfl (lit_rb wr [32] _ rfl) (by omega) (by have := HB.out.size; simp; omega) ?_; intro v1 w2 ho1 hg1 hat; have hb1 : Below w.heap.size w w2 := (HB.out.alloc HB.out.size _).grown hg1 (by have := HB.out.size; simp; omega) (fun j hj => HV.out.grown_ge j hj); have HO1 := Lib.hid ho1; have HB1 := Lib.hid hb1; clear ho1 hg1 hat hb1)
            go_roundw
            case rel => exact ⟨k + 1, by omega, by go_num, Lib.hid (by have := HO1.out; rw [HACC.out] at this; rw [HM.out]; simpa using this), HB1⟩
            case measure => simp [intOf]; omega
          · have HM : Hid (blB (k + 1) = blB k ++ [13]) := Lib.hid (by rw [blB_snoc, hm]; rfl)
            clear hm
            go_wp2_with (at_builtin; refine app_bytes _ rfl _ _ rfl w.heap.size _ acc rfl (HV.out.alloc _) (some ⟨wr.heap.size, 0, none⟩) 1 1 [13] rfl rfl (lit_rb wr [13] _ rfl) (by omega) (by have := HB.out.size; simp; omega) ?_; intro v1 w2 ho1 hg1 hat; have hb1 : Below w.heap.size w w2 := (HB.out.alloc HB.out.size _).grown hg1 (by have := HB.out.size; simp; omega) (fun j hj => HV.out.grown_ge j hj); have HO1 := Lib.hid ho1; have HB1 := Lib.hid hb1; clear ho1 hg1 hat hb1)
            go_roundw
            case rel => exact ⟨k + 1, by omega, by go_num, Lib.hid (by have := HO1.out; rw [HACC.out] at this; rw [HM.out]; simpa using this), HB1⟩
            case measure => simp [intOf]; omega
          · have HM : Hid (blB (k + 1) = blB k ++ [9]) := Lib.hid (by rw [blB_snoc, hm]; rfl)
            clear hm
            go_wp2_with (at_builtin; refine app_bytes _ rfl _ _ rfl w.heap.size _ acc rfl (HV.out.alloc _) (some ⟨wr.heap.size, 0, none⟩) 1 1 [9] rfl rfl (lit_rb wr [9] _ rfl) (by omega) (by have := HB.out.size; simp; omega) ?_; intro v1 w2 ho1 hg1 hat; have hb1 : Below w.heap.size w w2 := (HB.out.alloc HB.out.size _).grown hg1 (by have := HB.out.size; simp; omega) (fun j hj => HV.out.grown_ge j hj); have HO1 := Lib.hid ho1; have HB1 := Lib.hid hb1; clear ho1 hg1 hat hb1)
            go_roundw
            case rel => exact ⟨k + 1, by omega, by go_num, Lib.hid (by have := HO1.out; rw [HACC.out] at this; rw [HM.out]; simpa using this), HB1⟩
            case measure => simp [intOf]; omega
        · have hki : decide ((k : Int) < (be : Int)) = false := decide_eq_false (by omega)
          rw [hend] at HV hki ⊢
          clear hend hk
          obtain ⟨A2, c2, rfl, hc2, hm2, hr2, hg2⟩ := HV.out.shape
          obtain ⟨wd, hwd⟩ : ∃ wd, wd = blA ah ++ l ++ blB be := ⟨_, rfl⟩
          rw [← hwd] at hc2 hr2 ⊢
          have HWL : Hid (wd.length = ah + l.length + be) := Lib.hid (by rw [hwd]; simp [blA_len, blB_len]; omega)
          have HPB := Lib.hid (parse_blanks (b := l) (ah := blA ah) (be := blB be) (blA_bl ah) (blB_bl be) (by simp only [blA_len, blB_len]; omega))
          have HWE : Hid (blA ah ++ (l ++ blB be) = wd) := Lib.hid (by rw [hwd, List.append_assoc])
          rw [HWE.out, blA_len, blB_len] at HPB
          have HRB2 := Lib.hid hr2
          have HC2 : Hid (wd.length ≤ c2 ∧ c2 ≤ maxLen) := Lib.hid ⟨hc2, hm2⟩
          clear hwd hc2 hm2 hr2 hg2 HV
          go_wp2_with fail
          refine (HP1.out wr HB.out).mono ?_
          rintro e w5 ⟨v1, rfl, hpv1, hvo1, hb5, hn1⟩
          obtain ⟨n1, hn1e⟩ : ∃ n1, n1 = (parseP l).2.1 := ⟨_, rfl⟩
          obtain ⟨e1, he1e⟩ : ∃ e1, e1 = (parseP l).2.2 := ⟨_, rfl⟩
          rw [← hn1e] at hn1 HPB
          rw [← he1e] at HPB
          rw [← hn1e, ← he1e]
          unfold MV.val
          obtain ⟨X1, hX1⟩ : ∃ X, X = w5.heap.size := ⟨_, rfl⟩
          obtain ⟨w6, hw6⟩ : ∃ w6, w6 = w5.alloc (.cells #[.int .i64 v1.k, .int .i64 v1.n, .string v1.s, .slice v1.lA v1.l.length v1.lc, .slice v1.mA v1.m.length v1.mc] 27) := ⟨_, rfl⟩
          have hb6 : Below w5.heap.size w5 w6 := by rw [hw6]; exact (Below.refl _ _).alloc (Nat.le_refl _) _
          have HB56 : Hid (Below wr.heap.size wr w6) := Lib.hid (hb5.trans (hb6.mono hb5.size))
          have HB6 : Hid (Below w.heap.size w w6) := Lib.hid (HB.out.trans (HB56.out.mono HB.out.size))
          have HX1B : Hid (Blk w6 X1 27 #[.int .i64 v1.k, .int .i64 v1.n, .string v1.s, .slice v1.lA v1.l.length v1.lc, .slice v1.mA v1.m.length v1.mc]) := Lib.hid (by rw [hw6, hX1]; exact Blk.new _ _ _)
          have HV1 : Hid (VAt w6 v1) := Lib.hid (hvo1.at_.bel hb6)
          have HPV1 := Lib.hid hpv1
          have HW6 := Lib.hid hw6
          have HX1 := Lib.hid hX1
          have HRB6 := Lib.hid (HRB2.out.below HB56.out)
          clear hpv1 hvo1 hb5 hb6 hw6 hX1 hn1e he1e
          go_wp2_with fail
          rw [← HW6.out, ← HX1.out]
          refine (HP2.out w6 wd A2 c2 HRB6.out HC2.out.1 HC2.out.2 HB6.out (by have := HWL.out; have := HBA.out; omega)).mono ?_
          rintro e w7 ⟨v2, rfl, hpv2, hvo2, hb7, hn2⟩
          obtain ⟨n2, hn2e⟩ : ∃ n2, n2 = (parseP wd).2.1 := ⟨_, rfl⟩
          obtain ⟨e2, he2e⟩ : ∃ e2, e2 = (parseP wd).2.2 := ⟨_, rfl⟩
          have hq0 : e1 = 0 → v1.pv = v2.pv ∧ n2 = wd.length ∧ e2 = 0 := fun h => by
            have := HPB.out.1 h
            rw [hn2e, he2e, HPV1.out, hpv2, this]
            exact ⟨rfl, by have := HWL.out; show ah + (l.length + be) = wd.length; omega, rfl⟩
          have hq1 : e1 ≠ 0 → e2 ≠ 0 ∧ ((n2 = n1 + ah ∧ e2 = e1) ∨ n1 = l.length) := fun h => by
            have := HPB.out.2 h
            rw [← hn2e, ← he2e] at this
            exact this
          rw [← hn2e] at hn2
          rw [← hn2e, ← he2e]
          unfold MV.val
          obtain ⟨X2, hX2⟩ : ∃ X, X = w7.heap.size := ⟨_, rfl⟩
          obtain ⟨w8, hw8⟩ : ∃ w8, w8 = w7.alloc (.cells #[.int .i64 v2.k, .int .i64 v2.n, .string v2.s, .slice v2.lA v2.l.length v2.lc, .slice v2.mA v2.m.length v2.mc] 27) := ⟨_, rfl⟩
          have hb8 : Below w7.heap.size w7 w8 := by rw [hw8]; exact (Below.refl _ _).alloc (Nat.le_refl _) _
          have HB68 : Hid (Below w6.heap.size w6 w8) := Lib.hid (hb7.trans (hb8.mono hb7.size))
          have HB8 : Hid (Below w.heap.size w w8) := Lib.hid (HB6.out.trans (HB68.out.mono HB6.out.size))
          have HX2B : Hid (Blk w8 X2 27 #[.int .i64 v2.k, .int .i64 v2.n, .string v2.s, .slice v2.lA v2.l.length v2.lc, .slice v2.mA v2.m.length v2.mc]) := Lib.hid (by rw [hw8, hX2]; exact Blk.new _ _ _)
          have HV2 : Hid (VAt w8 v2) := Lib.hid (hvo2.at_.bel hb8)
          have HV1' : Hid (VAt w8 v1) := Lib.hid (HV1.out.bel HB68.out)
          have HX1C := Lib.hid (HX1B.out.below HB68.out HX1B.out.lt)
          have HW8 := Lib.hid hw8
          have HX2 := Lib.hid hX2
          have HQ0 := Lib.hid hq0
          have HQ1 := Lib.hid hq1
          clear hpv2 hvo2 hb7 hb8 hw8 hX2 hn2e he2e hq0 hq1
          go_wp2_with fail
          rw [← HW8.out, ← HX2.out]
          refine (HL.out w8 HB8.out).mono ?_
          rintro e w9 ⟨rfl, hb9⟩
          have HB9 := Lib.hid (HB8.out.trans (hb9.mono HB8.out.size))
          have HV1x : Hid (VAt w9 v1) := Lib.hid (HV1'.out.bel hb9)
          have HV2x : Hid (VAt w9 v2) := Lib.hid (HV2.out.bel hb9)
          have HK1 := Lib.hid (HX1C.out.below hb9 HX1C.out.lt)
          have HK2 := Lib.hid (HX2B.out.below hb9 HX2B.out.lt)
          clear hb9
          by_cases he : e1 = 0
          · obtain ⟨hpe, hne, hee⟩ := HQ0.out he
            have HPE := Lib.hid hpe
            subst he hee
            have hnb : ((n2 : Int) == (wd.length : Int)) = true := by rw [hne]; simp
            have hnb' : decide (n2 = wd.length) = true := decide_eq_true hne
            have hnb2 : (n2 == wd.length) = true := by rw [hne]; simp
            have HEX := Lib.hid (rexact_any HV1x.out v2 w9 (Below.refl _ _) HV2x.out)
            have x0 : w9.cell? ⟨X1, 0, none⟩ = some (.int .i64 v1.k) := HK1.out.cell 0
            have x1 : w9.cell? ⟨X1, 1, none⟩ = some (.int .i64 v1.n) := HK1.out.cell 1
            have x2 : w9.cell? ⟨X1, 2, none⟩ = some (.string v1.s) := HK1.out.cell 2
            have x3 : w9.cell? ⟨X1, 3, none⟩ = some (.slice v1.lA v1.l.length v1.lc) := HK1.out.cell 3
            have x4 : w9.cell? ⟨X1, 4, none⟩ = some (.slice v1.mA v1.m.length v1.mc) := HK1.out.cell 4
            have y0 : w9.cell? ⟨X2, 0, none⟩ = some (.int .i64 v2.k) := HK2.out.cell 0
            have y1 : w9.cell? ⟨X2, 1, none⟩ = some (.int .i64 v2.n) := HK2.out.cell 1
            have y2 : w9.cell? ⟨X2, 2, none⟩ = some (.string v2.s) := HK2.out.cell 2
            have y3 : w9.cell? ⟨X2, 3, none⟩ = some (.slice v2.lA v2.l.length v2.lc) := HK2.out.cell 3
            have y4 : w9.cell? ⟨X2, 4, none⟩ = some (.slice v2.mA v2.m.length v2.mc) := HK2.out.cell 4
            subst hne
            clear hpe
            go_wp2_with fail
            refine HEX.out.mono ?_
            rintro e wa ⟨rfl, hba⟩
            have HBA2 := Lib.hid (HB9.out.trans (hba.mono HB9.out.size))
            have hde : decide (v1.pv = v2.pv) = true := decide_eq_true HPE.out
            rw [hde]
            clear hba hde
            go_wp2
            go_ret
            exact ⟨rfl, HBA2.out⟩
          · obtain ⟨hne, hor⟩ := HQ1.out he
            have q1 : (e1 == 0) = false := by rw [beq_eq_false_iff_ne]; exact he
            have q2 : (e2 != 0) = true := by rw [bne_iff_ne]; exact hne
            have hwn : IntKind.i64.wrap ((n1 : Int) + (ah : Int)) = (n1 : Int) + ah := IntWalk.i64_in _ (by omega)
            by_cases h1 : n2 = n1 + ah
            · by_cases h2 : e2 = e1
              · subst h1 h2
                have c1 : (((n1 + ah : Nat) : Int) == (n1 : Int) + (ah : Int)) = true := by rw [beq_iff_eq]; omega
                clear hor he hne
                go_wp2
                go_ret
                exact ⟨rfl, HB9.out⟩
              · have hor' : n1 = l.length := by
                  rcases hor with ⟨_, h⟩ | h
                  · exact absurd h h2
                  · exact h
                have c1 : ((n2 : Int) == (n1 : Int) + (ah : Int)) = true := by rw [beq_iff_eq]; omega
                have c2 : (e2 == e1) = false := by rw [beq_eq_false_iff_ne]; exact h2
                have c3 : ((n1 : Int) == (l.length : Int)) = true := by rw [beq_iff_eq]; omega
                have c4 : (n1 == l.length) = true := by rw [beq_iff_eq]; omega
                clear hor he hne h1 hor'
                go_wp2
                go_ret
                exact ⟨rfl, HB9.out⟩
            · have hor' : n1 = l.length := by
                rcases hor with ⟨h, _⟩ | h
                · exact absurd h h1
                · exact h
              have c1 : ((n2 : Int) == (n1 : Int) + (ah : Int)) = false := by rw [beq_eq_false_iff_ne]; omega
              have c3 : ((n1 : Int) == (l.length : Int)) = true := by rw [beq_iff_eq]; omega
              have c4 : (n1 == l.length) = true := by rw [beq_iff_eq]; omega
              clear hor he hne h1 hor'
              go_wp2
              go_ret
              exact ⟨rfl, HB9.out⟩
end Go.Proofs.YteofdpogjnojnaaDoor

namespace Go.Proofs.YteofdpogjnojnaaDoor
open Go.RowKit Utf Pa
set_option linter.unusedVariables false
set_option linter.unusedSimpArgs false

set_option maxRecDepth 100000 in
set_option maxHeartbeats 1000000 in
theorem parseBlanks_walk (A : Option Addr) (c : Nat) (l : List UInt8) (x y : Int) (w : World) (hT : tabV w) (hr : RB w A l) (hc : l.length ≤ c) (hm : c ≤ maxLen) (hz : l.length ≤ 140737488351232) (hn : A = none → c = 0) :
    Calls Tryd.prog 3 #[.slice A l.length c, .int .i64 x, .int .i64 y] w fun e w' => e = .returned (.bool true) ∧ Below w.heap.size w w' := by
  have HL := Lib.hid (lives_any w hT)
  by_cases h0 : 3000 < l.length
  · have d00 : decide ((l.length : Int) > 3000) = true := decide_eq_true (by omega)
    have d01 : decide ((3000 : Int) < (l.length : Int)) = true := decide_eq_true (by omega)
    have d02 : decide (3000 < l.length) = true := decide_eq_true (by omega)
    clear hT hr hc hm hz hn h0
    go_enter Tryd.func3, Tryd.ntmps3
    go_wp2_with fail
    refine HL.out.mono ?_
    rintro e w' ⟨rfl, hb⟩
    go_wp2
    go_ret
    exact ⟨rfl, hb⟩
  have d00 : decide ((l.length : Int) > 3000) = false := decide_eq_false (by omega)
  have d01 : decide ((3000 : Int) < (l.length : Int)) = false := decide_eq_false (by omega)
  have d02 : decide (3000 < l.length) = false := decide_eq_false (by omega)
  by_cases h1 : x < 0
  · have d10 : decide (x < 0) = true := decide_eq_true (by omega)
    clear hT hr hc hm hz hn h1
    go_enter Tryd.func3, Tryd.ntmps3
    go_wp2_with fail
    refine HL.out.mono ?_
    rintro e w' ⟨rfl, hb⟩
    go_wp2
    go_ret
    exact ⟨rfl, hb⟩
  have d10 : decide (x < 0) = false := decide_eq_false (by omega)
  by_cases h2 : 20 < x
  · have d20 : decide (x > 20) = true := decide_eq_true (by omega)
    have d21 : decide (20 < x) = true := decide_eq_true (by omega)
    clear hT hr hc hm hz hn h2
    go_enter Tryd.func3, Tryd.ntmps3
    go_wp2_with fail
    refine HL.out.mono ?_
    rintro e w' ⟨rfl, hb⟩
    go_wp2
    go_ret
    exact ⟨rfl, hb⟩
  have d20 : decide (x > 20) = false := decide_eq_false (by omega)
  have d21 : decide (20 < x) = false := decide_eq_false (by omega)
  by_cases h3 : y < 0
  · have d30 : decide (y < 0) = true := decide_eq_true (by omega)
    clear hT hr hc hm hz hn h3
    go_enter Tryd.func3, Tryd.ntmps3
    go_wp2_with fail
    refine HL.out.mono ?_
    rintro e w' ⟨rfl, hb⟩
    go_wp2
    go_ret
    exact ⟨rfl, hb⟩
  have d30 : decide (y < 0) = false := decide_eq_false (by omega)
  by_cases h4 : 20 < y
  · have d40 : decide (y > 20) = true := decide_eq_true (by omega)
    have d41 : decide (20 < y) = true := decide_eq_true (by omega)
    clear hT hr hc hm hz hn h4
    go_enter Tryd.func3, Tryd.ntmps3
    go_wp2_with fail
    refine HL.out.mono ?_
    rintro e w' ⟨rfl, hb⟩
    go_wp2
    go_ret
    exact ⟨rfl, hb⟩
  have d40 : decide (y > 20) = false := decide_eq_false (by omega)
  have d41 : decide (20 < y) = false := decide_eq_false (by omega)
  clear HL
  obtain ⟨ah, rfl⟩ : ∃ ah : Nat, x = ah := ⟨x.toNat, by omega⟩
  obtain ⟨be, rfl⟩ : ∃ be : Nat, y = be := ⟨y.toNat, by omega⟩
  exact blanks_test hT A c l ah be hr hc hm (by omega) (by omega) (by omega)
end Go.Proofs.YteofdpogjnojnaaDoor
