/-
  pursuivantref03.hex, Quote: what it returns.
  strings.ToLower of a text with a big byte: its digits are no hex digits.
  utf.four for any text of a world in which the case ranges are as they are laid.
  The document's Large and Check: what they answer.
  The document's Digits.
  The document's Write: the text of a value.
  []byte(s): what it yields.
  pursuivantlaw05.ParseWrites: it returns true.
-/
import Derived.Test.YteofdpogjnojnaaGreatDoorUtfQ
import Derived.Test.YteofdpogjnojnaaGreatDoorPaU
import Derived.Shelf.Unicode.CaseLaid
import Derived.Lib.MapLaws
import Derived.Lib.TrimAscii
import Derived.Test.YteofdpogjnojnaaGreatDoorVa6
import Derived.Test.YteofdpogjnojnaaGreatDoorGPg
import Derived.Test.YteofdpogjnojnaaGreatDoorUtfR
import Derived.Test.YteofdpogjnojnaaGreatDoorPaW
import Derived.Test.YteofdpogjnojnaaGreatDoorVa1
import Derived.Test.YteofdpogjnojnaaGreatDoorWords2
import Derived.Lib.ConvBytes
import Derived.Test.YteofdpogjnojnaaGreatDoorPaLv
namespace Go.Proofs.YteofdpogjnojnaaGreatDoor
open Go.RowKit Utf
set_option linter.unusedVariables false

theorem hexExt (n : Nat) (h : n < 16) : ({ data := #[48, 49, 50, 51, 52, 53, 54, 55, 56, 57, 97, 98, 99, 100, 101, 102] } : ByteArray).extract n (n + 1) = ⟨#[hexDigit n]⟩ := by
  have : ∀ j : Fin 16, ({ data := #[48, 49, 50, 51, 52, 53, 54, 55, 56, 57, 97, 98, 99, 100, 101, 102] } : ByteArray).extract j.1 (j.1 + 1) = ⟨#[hexDigit j.1]⟩ := by decide
  exact this ⟨n, h⟩
set_option maxHeartbeats 400000 in
theorem rhex_any (n : Nat) (x : Int) (w : World) (h : n < 16) (hx : x = n) : Calls Tryz.prog 25 #[.int .i64 x] w fun e w' => e = .returned (.string ⟨#[hexDigit n]⟩) ∧ w = w' := by
  subst hx
  have HX := Lib.hid (hexExt n h)
  have b1 : (0 : Int) ≤ (n : Int) := by omega
  have b2 : (n : Int) + 1 ≤ 16 := by omega
  have b3 : (n : Int) ≤ (n : Int) + 1 := by omega
  go_enter Tryz.func25, Tryz.ntmps25
  go_wp2
  go_ret
  exact ⟨by rw [← HX.out]; rfl, rfl⟩
theorem lit_ob (w : World) (c : UInt8) (y : Value) (hy : y = .int .u8 (c.toNat : Int)) : OB (w.alloc (.cells #[y] 5)) w.heap.size (.slice (some ⟨w.heap.size, 0, none⟩) 1 1) [c] :=
  ⟨rfl, .inr ⟨w.heap.size, 1, #[y], rfl, Nat.le_refl _, heap_alloc_new w _, Nat.le_refl _, by simp [maxLen], rfl, by rw [hy]; rfl⟩⟩
theorem str_app2 (a b : ByteArray) : (a ++ b).data.toList = a.data.toList ++ b.data.toList := by rw [ByteArray.data_append, Array.toList_append]
set_option maxRecDepth 100000 in
set_option maxHeartbeats 3200000 in
theorem rquote_any (s : ByteArray) (w : World) (hs : s.size ≤ 1000000) :
    Calls Tryz.prog 16 #[.string s] w fun e w' => e = .returned (.string ⟨(quoteL s.data.toList).toArray⟩) ∧ Below w.heap.size w w' := by
  have hsl : s.data.toList.length = s.size := by cases s; simp [ByteArray.size]
  have HSL := Lib.hid hsl
  clear hsl
  go_enter Tryz.func16, Tryz.ntmps16
  go_wp2
  go_loopw [3, 4] (fun v i wr => ∃ k : Nat, k ≤ s.size ∧ i = .int .i64 k ∧ OB wr w.heap.size v ([34] ++ (s.data.toList.take k).flatMap qs) ∧ Below w.heap.size w wr) (fun _ i _ => s.size - (intOf i).toNat)
  case atStart => exact ⟨0, Nat.zero_le _, rfl, lit_ob w 34 _ rfl, below_new _ _⟩
  case round =>
    obtain ⟨k, hk, rfl, hown, hb⟩ := hrel
    have HS := Lib.hid hown
    have HB := Lib.hid hb
    clear hown hb
    have hfl := fm_len (s.data.toList.take k)
    rw [List.length_take, HSL.out] at hfl
    obtain ⟨acc, hacc⟩ : ∃ acc, acc = [34] ++ (s.data.toList.take k).flatMap qs := ⟨_, rfl⟩
    have hal : acc.length ≤ 6000001 := by rw [hacc, List.length_append]; have : ([34] : List UInt8).length = 1 := rfl; omega
    rw [← hacc] at HS
    have HACC := Lib.hid hacc
    clear hacc hfl
    rcases (by omega : k < s.size ∨ k = s.size) with hlt | heq
    · have HSN := Lib.hid (fm_snoc s k hlt)
      obtain ⟨c, hc⟩ : ∃ c, c = s[k] := ⟨_, rfl⟩
      have hci := hc.symm
      rw [← hc] at HSN
      have hc256 : c.toNat < 256 := c.toNat_lt
      clear hc
      rcases (by omega : c.toNat = 34 ∨ c.toNat = 92 ∨ (c.toNat ≠ 34 ∧ c.toNat ≠ 92) ∧ c.toNat < 32 ∨ (c.toNat ≠ 34 ∧ c.toNat ≠ 92) ∧ 32 ≤ c.toNat) with g | g | ⟨g, g1⟩ | ⟨g, g1⟩
      · obtain rfl : c = 34 := UInt8.toNat_inj.1 g
        have HQ := Lib.hid (show qs 34 = [92, 34] by decide)
        clear g
        go_wp2_with (at_builtin; refine app_bytes _ rfl _ _ rfl w.heap.size _ acc rfl (HS.out.alloc _) (some ⟨wr.heap.size, 0, none⟩) 2 2 [92, 34] rfl rfl (lit_rb wr [92, 34] _ rfl) (by omega) (by have := HB.out.size; simp; omega) ?_; intro v1 w2 ho1 hg1 hat; have hb1 : Below w.heap.size w w2 := (HB.out.alloc HB.out.size _).grown hg1 (by have := HB.out.size; simp; omega) (fun j hj => HS.out.grown_ge j hj); have HO1 := Lib.hid ho1; clear ho1 hg1 hat)
        go_roundw
        case rel => exact ⟨k + 1, by omega, by go_num, by rw [HSN.out, HQ.out, ← List.append_assoc, ← HACC.out]; exact HO1.out, hb1⟩
        case measure => simp [intOf]; omega
      · obtain rfl : c = 92 := UInt8.toNat_inj.1 g
        have HQ := Lib.hid (show qs 92 = [92, 92] by decide)
        clear g
        go_wp2_with (at_builtin; refine app_bytes _ rfl _ _ rfl w.heap.size _ acc rfl (HS.out.alloc _) (some ⟨wr.heap.size, 0, none⟩) 2 2 [92, 92] rfl rfl (lit_rb wr [92, 92] _ rfl) (by omega) (by have := HB.out.size; simp; omega) ?_; intro v1 w2 ho1 hg1 hat; have hb1 : Below w.heap.size w w2 := (HB.out.alloc HB.out.size _).grown hg1 (by have := HB.out.size; simp; omega) (fun j hj => HS.out.grown_ge j hj); have HO1 := Lib.hid ho1; clear ho1 hg1 hat)
        go_roundw
        case rel => exact ⟨k + 1, by omega, by go_num, by rw [HSN.out, HQ.out, ← List.append_assoc, ← HACC.out]; exact HO1.out, hb1⟩
        case measure => simp [intOf]; omega
      · have HQ : Hid (qs c = [92, 117, 48, 48] ++ hexL [c]) := by show _ = _; unfold qs; rw [if_pos g1]
        have e2 : ((c.toNat : Int) == 34) = false := by rw [beq_eq_false_iff_ne]; omega
        have e3 : ((c.toNat : Int) == 92) = false := by rw [beq_eq_false_iff_ne]; omega
        have e4 : decide ((c.toNat : Int) < 32) = true := by rw [decide_eq_true_iff]; omega
        have q1 : (c.toNat : Int).tdiv 16 = (c.toNat : Int) / 16 := Int.tdiv_eq_ediv_of_nonneg (by omega)
        have q2 : (c.toNat : Int).tmod 16 = (c.toNat : Int) % 16 := Int.tmod_eq_emod_of_nonneg (by omega)
        clear g
        obtain ⟨ta, hta⟩ : ∃ ta : ByteArray, ta = ⟨#[hexDigit (c.toNat / 16)]⟩ := ⟨_, rfl⟩
        obtain ⟨tb, htb⟩ : ∃ tb : ByteArray, tb = ⟨#[hexDigit (c.toNat % 16)]⟩ := ⟨_, rfl⟩
        have HH1 := Lib.hid (fun (x : Int) w (hx : x = ((c.toNat / 16 : Nat) : Int)) => rhex_any (c.toNat / 16) x w (by omega) hx)
        have HH2 := Lib.hid (fun (x : Int) w (hx : x = ((c.toNat % 16 : Nat) : Int)) => rhex_any (c.toNat % 16) x w (by omega) hx)
        rw [← hta] at HH1
        rw [← htb] at HH2
        have hsa : ta.size = 1 := by rw [hta]; rfl
        have hsb : tb.size = 1 := by rw [htb]; rfl
        have HTA := Lib.hid hta
        have HTB := Lib.hid htb
        clear hta htb
        go_wp2_with fail
        refine (HH1.out _ _ (by omega)).mono ?_
        rintro e w' ⟨rfl, rfl⟩
        go_wp2_with fail
        refine (HH2.out _ _ (by omega)).mono ?_
        rintro e w' ⟨rfl, rfl⟩
        go_wp2_with (at_builtin; refine app_text _ rfl _ _ rfl w.heap.size _ acc rfl HS.out _ rfl (by simp only [ByteArray.size_append, hsa, hsb]; show _ + (4 + 1 + 1) ≤ _; omega) HB.out.size ?_; intro v1 w2 ho1 hg1; have hb1 : Below w.heap.size w w2 := HB.out.grown hg1 HB.out.size (fun j hj => HS.out.grown_ge j hj); have HO1 := Lib.hid ho1; clear ho1 hg1)
        clear q1 q2
        go_roundw
        case rel =>
          refine ⟨k + 1, by omega, by go_num, ?_, hb1⟩
          have h := HO1.out
          rw [str_app2, str_app2, HTA.out, HTB.out] at h
          rw [HSN.out, HQ.out, ← List.append_assoc, ← HACC.out]
          simpa [hexL] using h
        case measure => simp [intOf]; omega
      · have HQ : Hid (qs c = [c]) := by
          show _ = _
          unfold qs
          rw [if_neg (by omega), if_neg (by rintro (h | h) <;> (rw [h] at g; exact absurd rfl (by first | exact g.1 | exact g.2)))]
        have e2 : ((c.toNat : Int) == 34) = false := by rw [beq_eq_false_iff_ne]; omega
        have e3 : ((c.toNat : Int) == 92) = false := by rw [beq_eq_false_iff_ne]; omega
        have e4 : decide ((c.toNat : Int) < 32) = false := by rw [decide_eq_false_iff_not]; omega
        clear g
        go_wp2_with (at_builtin; refine app_bytes _ rfl _ _ rfl w.heap.size _ acc rfl (HS.out.alloc _) (some ⟨wr.heap.size, 0, none⟩) 1 1 [c] rfl rfl (lit_rb wr [c] _ rfl) (by omega) (by have := HB.out.size; simp; omega) ?_; intro v1 w2 ho1 hg1 hat; have hb1 : Below w.heap.size w w2 := (HB.out.alloc HB.out.size _).grown hg1 (by have := HB.out.size; simp; omega) (fun j hj => HS.out.grown_ge j hj); have HO1 := Lib.hid ho1; clear ho1 hg1 hat)
        go_roundw
        case rel => exact ⟨k + 1, by omega, by go_num, by rw [HSN.out, HQ.out, ← List.append_assoc, ← HACC.out]; exact HO1.out, hb1⟩
        case measure => simp [intOf]; omega
    · have e1 : decide (k < s.size) = false := by rw [decide_eq_false_iff_not]; omega
      have HK : Hid (s.data.toList.take k = s.data.toList) := by show _ = _; rw [heq, ← HSL.out, List.take_length]
      clear heq
      obtain ⟨m, hm⟩ : ∃ m, (acc ++ [34]).length = m := ⟨_, rfl⟩
      have HM := Lib.hid hm
      clear hm
      go_wp2_with (at_builtin; refine app_bytes _ rfl _ _ rfl w.heap.size _ acc rfl (HS.out.alloc _) (some ⟨wr.heap.size, 0, none⟩) 1 1 [34] rfl rfl (lit_rb wr [34] _ rfl) (by omega) (by have := HB.out.size; simp; omega) ?_; intro v1 w2 ho1 hg1 hat; have hb1 : Below w.heap.size w w2 := (HB.out.alloc HB.out.size _).grown hg1 (by have := HB.out.size; simp; omega) (fun j hj => HS.out.grown_ge j hj); obtain ⟨A', c', hv1, _, _, hR, _⟩ := OB.shape ho1; rw [HM.out] at hv1; subst hv1; have hstr := run_string hR m c' HM.out; clear ho1 hg1 hat hR)
      go_ret
      refine ⟨?_, hb1⟩
      rw [HACC.out, HK.out]
      rfl
end Go.Proofs.YteofdpogjnojnaaGreatDoor

namespace Go.Proofs.YteofdpogjnojnaaGreatDoor
open Go.RowKit Utf Pa
set_option linter.unusedVariables false
set_option linter.unusedSimpArgs false

def rowBig (x : Lib.CaseRow) : Bool := decide (x.2.1 < 128) || (decide (x.delta 1 > 1114111) && decide (128 ≤ x.1)) || (decide (x.delta 1 ≤ 1114111) && decide (102 < (max x.1 128 : Nat) + x.delta 1))
set_option maxRecDepth 1000000 in
theorem rowsBig : Lib.caseT.all rowBig = true := by decide
theorem caseA_big (i : Nat) (hi : i < Lib.caseA.size) : rowBig (Lib.caseA.getD i (0, 0, 0, 0, 0)) = true := by
  have hm : Lib.caseA.getD i (0, 0, 0, 0, 0) ∈ Lib.caseT := by
    unfold Lib.caseA at hi ⊢
    simp only [List.size_toArray] at hi
    simp [Array.getD, hi]
  exact List.all_eq_true.1 rowsBig _ hm
theorem low_big {r : Int} (h : 128 ≤ r) : 102 < Lib.toLowerU r := by
  unfold Lib.toLowerU
  rw [if_neg (by omega)]
  unfold Lib.toR Lib.lookupGo
  cases hi : Lib.lookupIdx Lib.caseA r (Lib.caseA.size + 1) 0 Lib.caseA.size with
  | none => show 102 < r; omega
  | some i =>
    obtain ⟨hil, hlo, hhi⟩ := Lib.lookupIdx_some Lib.caseA r _ _ _ i hi
    have hb := caseA_big i hil
    show 102 < Lib.convertR 1 r (Lib.caseA.getD i (0, 0, 0, 0, 0))
    obtain ⟨x, hx⟩ : ∃ x, x = Lib.caseA.getD i (0, 0, 0, 0, 0) := ⟨_, rfl⟩
    rw [← hx] at hlo hhi hb ⊢
    simp only [rowBig, Bool.or_eq_true, Bool.and_eq_true, decide_eq_true_eq] at hb
    unfold Lib.convertR
    split <;> omega
theorem enc_big {r : Int} (h : 102 < r) : (Lib.encodeRune r).all isHex = false := by
  have key : ∀ x : Int, 102 < x → x < 256 → isHex x.toNat.toUInt8 = false := fun x h1 h2 => by
    have hn : x.toNat.toUInt8.toNat = x.toNat := by rw [Nat.toUInt8, UInt8.toNat_ofNat']; omega
    unfold isHex
    simp only [Bool.or_eq_false_iff, Bool.and_eq_false_iff, decide_eq_false_iff_not, UInt8.le_iff_toNat_le, hn]
    have e57 : (57 : UInt8).toNat = 57 := rfl
    have e102 : (102 : UInt8).toNat = 102 := rfl
    rw [e57, e102]
    omega
  unfold Lib.encodeRune Lib.encodeRuneZ
  split
  · simp [key r h (by omega)]
  · split
    · simp [key (192 + r / 64) (by omega) (by omega)]
    · split
      · simp [key (224 + r / 4096) (by omega) (by omega)]
      · split
        · simp [key (240 + r / 262144) (by omega) (by omega)]
        · decide
theorem dec_big (c : UInt8) (t : List UInt8) (h : 128 ≤ c.toNat) : 128 ≤ (Lib.decodeL (c :: t)).1 := by
  by_cases hv : (Lib.decodeL (c :: t)).1 = 65533 ∧ (Lib.decodeL (c :: t)).2 = 1
  · omega
  · rcases (by omega : (Lib.decodeL (c :: t)).1 < 128 ∨ 128 ≤ (Lib.decodeL (c :: t)).1) with hr | hr
    · exfalso
      have he := Lib.encode_decode (c :: t) (by simp) hv
      have hw := Lib.decodeL_width (c :: t)
      obtain ⟨w, hwe⟩ : ∃ w, (Lib.decodeL (c :: t)).2 = w + 1 := ⟨(Lib.decodeL (c :: t)).2 - 1, by omega⟩
      rw [hwe, List.take_succ_cons] at he
      unfold Lib.encodeRune at he
      rw [Lib.encodeRuneZ_one (by omega) (by omega)] at he
      simp only [List.map_cons, List.map_nil, List.cons.injEq] at he
      have h1 := he.1
      rw [← h1, Nat.toUInt8, UInt8.toNat_ofNat'] at h
      omega
    · exact hr
theorem low_no : ∀ (n : Nat) (l : List UInt8), l.length ≤ n → (∃ x ∈ l, 128 ≤ x.toNat) → (Lib.toLowerD l).all isHex = false
  | 0, l, h, ⟨x, hx, _⟩ => by
    have : l = [] := List.eq_nil_of_length_eq_zero (by omega)
    subst this
    cases hx
  | n + 1, [], h, ⟨x, hx, _⟩ => by cases hx
  | n + 1, c :: t, h, hx => by
    unfold Lib.toLowerD
    rw [Lib.mapD_step _ _ (by simp), List.all_append]
    rcases (by omega : c.toNat < 128 ∨ 128 ≤ c.toNat) with hc | hc
    · rw [Lib.decodeL_ascii c t hc]
      obtain ⟨x, hm, hb⟩ := hx
      rcases List.mem_cons.1 hm with rfl | hm
      · omega
      · have := low_no n t (by simpa using h) ⟨x, hm, hb⟩
        unfold Lib.toLowerD at this
        simp only [List.drop_succ_cons, List.drop_zero]
        rw [this, Bool.and_false]
    · have hr := dec_big c t hc
      have hl := low_big (r := ((Lib.decodeL (c :: t)).1 : Int)) (by omega)
      rw [if_pos (by omega), enc_big hl, Bool.false_and]
end Go.Proofs.YteofdpogjnojnaaGreatDoor

namespace Go.Proofs.YteofdpogjnojnaaGreatDoor
open Go.RowKit Utf Pa
set_option linter.unusedVariables false
set_option linter.unusedSimpArgs false

theorem encode_le4 (z : Int) : (Lib.encodeRune z).length ≤ 4 := by
  unfold Lib.encodeRune Lib.encodeRuneZ
  rw [List.length_map]
  repeat' split
  all_goals simp
theorem mapD_le4 (f : Int → Int) : ∀ (n : Nat) (l : List UInt8), l.length ≤ n → (Lib.mapD f l).length ≤ 4 * l.length
  | 0, l, hn => by
    have : l = [] := List.eq_nil_of_length_eq_zero (by omega)
    subst this
    simp [Lib.mapD_nil]
  | n + 1, l, hn => by
    by_cases hne : l = []
    · subst hne
      simp [Lib.mapD_nil]
    · have hw := Lib.decodeL_width l
      have hle := Lib.decodeL_le l hne
      have ih := mapD_le4 f n (l.drop (Lib.decodeL l).2) (by rw [List.length_drop]; omega)
      rw [List.length_drop] at ih
      rw [Lib.mapD_step f l hne, List.length_append]
      have hh : (if 0 ≤ f (Lib.decodeL l).1 then Lib.encodeRune (f (Lib.decodeL l).1) else []).length ≤ 4 := by
        split
        · exact encode_le4 _
        · simp
      omega
theorem low_big8 (x : UInt8) (h : 128 ≤ x.toNat) : hexOk (lowB x) = false := by
  have hlow : lowB x = x := by unfold lowB; rw [if_neg (by omega)]
  rw [hlow]
  unfold hexOk
  simp only [Bool.or_eq_false_iff, decide_eq_false_iff_not]
  omega
theorem four_any (s : ByteArray) (hs : s.size ≤ 1000000) : FourAt s := by
  by_cases h : ∀ r, s.data.toList = 92 :: 117 :: r → ∀ x ∈ r.take 4, x.toNat < 128
  · exact four_at s (by omega) h
  · intro w hT
    have hsz : s.size = s.data.toList.length := rfl
    rcases (by omega : s.size < 6 ∨ 6 ≤ s.size) with h6 | h6
    · have e : fourP s.data.toList = -1 := four_no (fun a b c d r hl => by rw [hl] at hsz; simp at hsz; omega)
      rw [e]
      refine (four_short s w h6).mono ?_
      rintro e w' ⟨rfl, rfl⟩
      exact ⟨rfl, Below.refl _ _⟩
    · obtain ⟨r, hl0, x, hx, hb⟩ : ∃ r, s.data.toList = 92 :: 117 :: r ∧ ∃ x ∈ r.take 4, 128 ≤ x.toNat := by
        refine Classical.byContradiction fun q => h fun r hr x hx => ?_
        refine Classical.byContradiction fun q2 => q ⟨r, hr, x, hx, by omega⟩
      clear h
      obtain ⟨a, b, c, d, r', rfl⟩ : ∃ a b c d r', r = a :: b :: c :: d :: r' := by
        rw [hl0] at hsz
        match r with
        | [] => simp only [List.length_cons, List.length_nil] at hsz; omega
        | [_] => simp only [List.length_cons, List.length_nil] at hsz; omega
        | [_, _] => simp only [List.length_cons, List.length_nil] at hsz; omega
        | [_, _, _] => simp only [List.length_cons, List.length_nil] at hsz; omega
        | a :: b :: c :: d :: r => exact ⟨a, b, c, d, r, rfl⟩
      have hx4 : x ∈ [a, b, c, d] := by simpa using hx
      have g0 := at_l hl0 0 (by omega) 92 rfl
      have g1 := at_l hl0 1 (by omega) 117 rfl
      have hext : (s.extract 2 6).data.toList = [a, b, c, d] := by rw [ext26, hl0]; rfl
      have hxx : (hexOk (lowB a) && hexOk (lowB b) && hexOk (lowB c) && hexOk (lowB d)) = false := by
        have := low_big8 x hb
        simp only [List.mem_cons, List.mem_nil_iff, or_false] at hx4
        rcases hx4 with rfl | rfl | rfl | rfl <;> rw [this] <;> simp
      have e : fourP s.data.toList = -1 := four_no (fun a' b' c' d' r'' hl' => by
        rw [hl0] at hl'
        simp only [List.cons.injEq, true_and] at hl'
        obtain ⟨rfl, rfl, rfl, rfl, _⟩ := hl'
        exact hxx)
      rw [e]
      have hlow := low_no 4 [a, b, c, d] (by simp) ⟨x, hx4, hb⟩
      have hlen : (Lib.toLowerD [a, b, c, d]).length ≤ 16 := by
        have := mapD_le4 Lib.toLowerU 4 [a, b, c, d] (by simp)
        unfold Lib.toLowerD
        simpa using this
      refine four_bad s (ByteArray.mk (Lib.toLowerD [a, b, c, d]).toArray) w hT h6 (by omega) g0 g1 (by show (Lib.toLowerD [a, b, c, d]).toArray.size ≤ _; simp; omega) ?_ (fun w hw => ?_)
      · show okHex (Lib.toLowerD [a, b, c, d]).toArray.toList = false
        unfold okHex
        rw [hlow, Bool.and_false]
      · have := Tryz.strings_ToLower_any (s.extract 2 6) w (by rw [ByteArray.size_extract]; omega) hw.c hw.u
        rwa [hext] at this
theorem fourOk_any {s : ByteArray} (hs : s.size ≤ 1000000) : FourOk s := fun a => four_any _ (by rw [ByteArray.size_extract]; omega)
end Go.Proofs.YteofdpogjnojnaaGreatDoor

namespace Go.Proofs.YteofdpogjnojnaaGreatDoor
open Go.RowKit
attribute [local go_sem ↓] Go.wp_at_zero Go.wp_at_succ
set_option linter.unusedVariables false
set_option linter.unusedSimpArgs false

/-- what Large answers -/
def LgP (v : MV) (w : World) (e : Ending) (w' : World) : Prop := ∃ b : Bool, e = .returned (.bool b) ∧ Below w.heap.size w w' ∧ (b = false → v.wt ≤ 6000 ∧ v.dep ≤ 21 ∧ FitV v)
theorem LgP.mk {v : MV} {w w' : World} {b : Bool} (h1 : Below w.heap.size w w') (h2 : b = false → v.wt ≤ 6000 ∧ v.dep ≤ 21 ∧ FitV v) : LgP v w (.returned (.bool b)) w' := ⟨b, rfl, h1, h2⟩
set_option maxRecDepth 100000 in
set_option maxHeartbeats 1000000 in
theorem rLarge_any {v : MV} {w : World} (h : VAt w v) (hs : SzV v) : Calls Tryz.prog 4 #[v.val] w fun e w' => PF (LgP v w) e w' := by
  obtain ⟨W1, hW1⟩ : ∃ W1, W1 = w.alloc (.cells #[.int .i64 v.k, .int .i64 v.n, .string v.s, .slice v.lA v.l.length v.lc, .slice v.mA v.m.length v.mc] 25) := ⟨_, rfl⟩
  have hb1 : Below w.heap.size w W1 := by rw [hW1]; exact below_new _ _
  have hc := rlarge_any (h.bel hb1) 0 W1 (Below.refl _ _) hs (by omega)
  unfold MV.val at hc ⊢
  have HC := Lib.hid hc
  have HW1 := Lib.hid hW1
  have HB1 := Lib.hid hb1
  clear h hs hc hW1 hb1
  go_enter Tryz.func4, Tryz.ntmps4
  go_wp2_with fail
  rw [← HW1.out]
  refine HC.out.mono ?_
  rintro e w2 ⟨r, rfl, h1, h2, hb2, h3⟩
  have HB2 : Hid (Below w.heap.size w w2) := Lib.hid (HB1.out.trans (hb2.mono HB1.out.size))
  have H3 := Lib.hid h3
  clear hb2 h3
  by_cases h6 : 6000 < r
  · have q1 : decide ((6000 : Int) < (r : Int)) = true := by rw [decide_eq_true_iff]; omega
    have q1' : decide (6000 < r) = true := by rw [decide_eq_true_iff]; omega
    have hr2 : (r : Int) ≤ 22000000000000000 := by omega
    clear h6
    go_wp2
    go_ret
    exact LgP.mk HB2.out (fun e => by cases e)
  · have q1 : decide ((6000 : Int) < (r : Int)) = false := by rw [decide_eq_false_iff_not]; omega
    have q1' : decide (6000 < r) = false := by rw [decide_eq_false_iff_not]; omega
    have HR := Lib.hid (H3.out (by omega))
    have HR6 : Hid (r ≤ 6000) := Lib.hid (by omega)
    clear h6
    go_wp2
    go_ret
    exact LgP.mk HB2.out (fun _ => ⟨by rw [← HR.out.1]; exact HR6.out, by have := HR.out.2.1; omega, HR.out.2.2⟩)
/-- a value that is not great -/
structure Fine (w : World) (v : MV) : Prop where
  at_ : VAt w v
  ok : OkP v.pv
  few : v.cnt ≤ 100000
theorem Fine.bel {w w' : World} {v : MV} (h : Fine w v) (hb : Below w.heap.size w w') : Fine w' v := ⟨h.at_.bel hb, h.ok, h.few⟩
theorem Fine.dep {w : World} {v : MV} (h : Fine w v) : v.dep ≤ 100000 := Nat.le_trans (dep_le_cnt v) h.few
def IntP (n : Int) (w : World) (e : Ending) (w' : World) : Prop := e = .returned (.int .i64 n) ∧ Below w.heap.size w w'
set_option maxRecDepth 100000 in
set_option maxHeartbeats 1000000 in
theorem rcheck_any {v : MV} {w : World} (h : Fine w v) : Calls Tryz.prog 5 #[v.val] w fun e w' => PF (IntP v.pv.chk w) e w' := by
  have hfit := h.ok.fit h.at_
  obtain ⟨W1, hW1⟩ : ∃ W1, W1 = w.alloc (.cells #[.int .i64 v.k, .int .i64 v.n, .string v.s, .slice v.lA v.l.length v.lc, .slice v.mA v.m.length v.mc] 25) := ⟨_, rfl⟩
  have hb1 : Below w.heap.size w W1 := by rw [hW1]; exact below_new _ _
  have hk1 : Blk W1 w.heap.size 25 #[.int .i64 v.k, .int .i64 v.n, .string v.s, .slice v.lA v.l.length v.lc, .slice v.mA v.m.length v.mc] := by rw [hW1]; exact Blk.new _ _ _
  have hdp := h.dep
  have hcp := h.few
  have h1 := fun V (hV : Below w.heap.size w V) => rdepth_any h.at_ V hV hfit (by omega)
  have h2 := fun V (hV : Below w.heap.size w V) => rcount_any h.at_ V hV hfit (by omega)
  have h3 := fun V (hV : Below w.heap.size w V) => rright_any h.at_ h.ok V hV
  obtain ⟨C, hC⟩ : ∃ C, C = v.pv.chk := ⟨_, rfl⟩
  have HC : Hid (C = if 12 < v.dep then 41 else if 4096 < v.cnt then 42 else if v.pv.right then 0 else 40) := Lib.hid (by rw [hC, PV.chk, dep_pv, cnt_pv])
  rw [← hC]
  unfold MV.val at h1 h2 h3 ⊢
  have H1 := Lib.hid h1
  have H2 := Lib.hid h2
  have H3 := Lib.hid h3
  have HB1 := Lib.hid hb1
  have HK1 := Lib.hid hk1
  have HW1 := Lib.hid hW1
  clear h1 h2 h3 h hfit hC hb1 hk1 hW1
  generalize v.dep = dep at *
  generalize v.cnt = cnt at *
  generalize v.pv.right = ri at *
  go_enter Tryz.func5, Tryz.ntmps5
  go_wp2_with fail
  rw [← HW1.out]
  refine (H1.out _ HB1.out).mono ?_
  rintro e w2 ⟨rfl, hb2⟩
  have HB2 : Hid (Below w.heap.size w w2) := Lib.hid (HB1.out.trans (hb2.mono HB1.out.size))
  have hk2 := HK1.out.below hb2 HK1.out.lt
  obtain ⟨a0, a1, a2, a3, a4⟩ := five_cells hk2
  have HK2 := Lib.hid hk2
  clear hb2 hk2
  by_cases h1 : 12 < dep
  · have q1 : decide ((12 : Int) < (dep : Int)) = true := by rw [decide_eq_true_iff]; omega
    have q1' : decide (12 < dep) = true := by rw [decide_eq_true_iff]; omega
    have HE : Hid (C = 41) := Lib.hid (by rw [HC.out, if_pos h1])
    clear h1
    go_wp2
    go_ret
    exact ⟨by rw [HE.out]; rfl, HB2.out⟩
  have q1 : decide ((12 : Int) < (dep : Int)) = false := by rw [decide_eq_false_iff_not]; omega
  have q1' : decide (12 < dep) = false := by rw [decide_eq_false_iff_not]; omega
  go_wp2_with fail
  refine (H2.out _ HB2.out).mono ?_
  rintro e w3 ⟨rfl, hb3⟩
  have HB3 : Hid (Below w.heap.size w w3) := Lib.hid (HB2.out.trans (hb3.mono HB2.out.size))
  have hk3 := HK2.out.below hb3 HK2.out.lt
  clear a0 a1 a2 a3 a4
  obtain ⟨a0, a1, a2, a3, a4⟩ := five_cells hk3
  clear hb3 hk3
  by_cases h2 : 4096 < cnt
  · have q2 : decide ((4096 : Int) < (cnt : Int)) = true := by rw [decide_eq_true_iff]; omega
    have q2' : decide (4096 < cnt) = true := by rw [decide_eq_true_iff]; omega
    have HE : Hid (C = 42) := Lib.hid (by rw [HC.out, if_neg h1, if_pos h2])
    clear h1 h2
    go_wp2
    go_ret
    exact ⟨by rw [HE.out]; rfl, HB3.out⟩
  have q2 : decide ((4096 : Int) < (cnt : Int)) = false := by rw [decide_eq_false_iff_not]; omega
  have q2' : decide (4096 < cnt) = false := by rw [decide_eq_false_iff_not]; omega
  go_wp2_with fail
  refine (H3.out _ HB3.out).mono ?_
  rintro e w4 ⟨rfl, hb4⟩
  have HB4 : Hid (Below w.heap.size w w4) := Lib.hid (HB3.out.trans (hb4.mono HB3.out.size))
  clear hb4 a0 a1 a2 a3 a4
  cases ri with
  | true =>
    have HE : Hid (C = 0) := Lib.hid (by rw [HC.out, if_neg h1, if_neg h2]; rfl)
    clear h1 h2
    go_wp2
    go_ret
    exact ⟨by rw [HE.out]; rfl, HB4.out⟩
  | false =>
    have HE : Hid (C = 40) := Lib.hid (by rw [HC.out, if_neg h1, if_neg h2]; rfl)
    clear h1 h2
    go_wp2
    go_ret
    exact ⟨by rw [HE.out]; rfl, HB4.out⟩
end Go.Proofs.YteofdpogjnojnaaGreatDoor

namespace Go.Proofs.YteofdpogjnojnaaGreatDoor
open Go.RowKit Utf Pa
set_option linter.unusedVariables false
set_option linter.unusedSimpArgs false

theorem dig_ext (n : Nat) (h : n < 10) : ({ data := #[48, 49, 50, 51, 52, 53, 54, 55, 56, 57] } : ByteArray).extract n (n + 1) = ⟨#[UInt8.ofNat (48 + n)]⟩ := by
  have : ∀ j : Fin 10, ({ data := #[48, 49, 50, 51, 52, 53, 54, 55, 56, 57] } : ByteArray).extract j.1 (j.1 + 1) = ⟨#[UInt8.ofNat (48 + j.1)]⟩ := by decide
  exact this ⟨n, h⟩
theorem digL_len : ∀ (f m : Nat), m < 10 ^ f → 1 ≤ f → (digL m).length ≤ f
  | 0, m, h, h1 => by omega
  | f + 1, m, h, h1 => by
    unfold digL
    split
    · simp
    · rw [List.length_append]
      have : m / 10 < 10 ^ f := by rw [Nat.pow_succ] at h; omega
      have h2 : 1 ≤ f := by
        rcases Nat.eq_zero_or_pos f with h0 | h0
        · subst h0; simp at this; omega
        · exact h0
      have := digL_len f (m / 10) this h2
      simp
      omega
set_option maxHeartbeats 1600000 in
theorem rbelow_any : ∀ (f m : Nat) (w : World), m ≤ f → m ≤ 9223372036854775808 → Calls Tryz.prog 24 #[.int .i64 (-(m : Int))] w fun e w' => e = .returned (.string ⟨(digL m).toArray⟩) ∧ w = w' := fun f => by
  induction f with
  | zero => 
    intro m w hf hm
    obtain rfl : m = 0 := by omega
    have e : digL 0 = [48] := by unfold digL; rfl
    rw [e]
    clear hf hm
    show Calls Tryz.prog 24 #[.int .i64 0] w _
    go_enter Tryz.func24, Tryz.ntmps24
    go_wp2
    go_ret
    exact ⟨rfl, rfl⟩
  | succ f ih =>
    intro m w hf hm
    rcases Nat.lt_or_ge m 10 with h | h
    · have e : digL m = [UInt8.ofNat (48 + m)] := by unfold digL; rw [if_pos h]
      rw [e]
      have key : ∀ j : Fin 10, ∀ w : World, Calls Tryz.prog 24 #[.int .i64 (-((j.1 : Nat) : Int))] w fun e w' => e = .returned (.string ⟨#[UInt8.ofNat (48 + j.1)]⟩) ∧ w = w' := by
        intro j w
        have hx := dig_ext j.1 j.2
        obtain ⟨c, hc⟩ : ∃ c, c = UInt8.ofNat (48 + j.1) := ⟨_, rfl⟩
        rw [← hc] at hx ⊢
        clear hc
        obtain ⟨j, hj⟩ := j
        simp only at hx ⊢
        have c1 : decide (-(j : Int) ≤ -10) = false := decide_eq_false (by omega)
        have c4 : decide (10 ≤ (j : Int)) = false := decide_eq_false (by omega)
        have c2 : (-(j : Int)).tmod 10 = -(j : Int) := by
          rw [Int.neg_tmod, Int.tmod_eq_emod_of_nonneg (by omega)]
          omega
        have b1 : (j : Int) ≤ 9 := by omega
        go_enter Tryz.func24, Tryz.ntmps24
        go_wp2
        go_ret
        have HE : (⟨#[]⟩ ++ ⟨#[c]⟩ : ByteArray) = ⟨#[c]⟩ := ByteArray.ext (by simp)
        exact ⟨by show Ending.returned (.string (⟨#[]⟩ ++ ⟨#[c]⟩)) = _; rw [HE], rfl⟩
      exact key ⟨m, h⟩ w
    · have e : digL m = digL (m / 10) ++ [UInt8.ofNat (48 + m % 10)] := by rw [digL, if_neg (by omega)]
      have hlen := digL_len 19 (m / 10) (by omega) (by omega)
      have hih := ih (m / 10) w (by omega) (by omega)
      obtain ⟨q, hq⟩ : ∃ q, q = m / 10 := ⟨_, rfl⟩
      obtain ⟨d, hd⟩ : ∃ d, d = m % 10 := ⟨_, rfl⟩
      rw [← hq] at e hih hlen
      rw [← hd] at e
      obtain ⟨t, ht⟩ : ∃ t : ByteArray, t = ⟨(digL q).toArray⟩ := ⟨_, rfl⟩
      have hts : t.size ≤ 19 := by rw [ht]; show (digL q).toArray.size ≤ 19; simpa using hlen
      rw [← ht] at hih
      have HE : Hid (t ++ ⟨#[UInt8.ofNat (48 + d)]⟩ = ⟨(digL m).toArray⟩) := Lib.hid (by rw [e, ht]; apply ByteArray.ext; simp)
      have HIH := Lib.hid hih
      have hx := dig_ext d (by omega)
      obtain ⟨c, hc⟩ : ∃ c, c = UInt8.ofNat (48 + d) := ⟨_, rfl⟩
      rw [← hc] at hx HE
      clear hc
      have c1 : decide (-(m : Int) ≤ -10) = true := decide_eq_true (by omega)
      have c4 : decide (10 ≤ (m : Int)) = true := decide_eq_true (by omega)
      have c2 : (-(m : Int)).tmod 10 = -(d : Int) := by
        rw [Int.neg_tmod, Int.tmod_eq_emod_of_nonneg (by omega)]
        omega
      have c3 : (-(m : Int)).tdiv 10 = -(q : Int) := by
        rw [Int.neg_tdiv, Int.tdiv_eq_ediv_of_nonneg (by omega)]
        omega
      have b1 : (d : Int) ≤ 9 := by omega
      have b2 : (q : Int) ≤ 922337203685477581 := by omega
      clear e hlen hih hq hd ht ih hf hm h
      go_enter Tryz.func24, Tryz.ntmps24
      go_wp2_with fail
      refine HIH.out.mono ?_
      rintro e w' ⟨rfl, rfl⟩
      go_wp2
      go_ret
      exact ⟨by show Ending.returned (.string (t ++ ⟨#[c]⟩)) = _; rw [HE.out], rfl⟩
set_option maxHeartbeats 1600000 in
theorem rdigits_any (n : Int) (w : World) (hw : -9223372036854775808 ≤ n ∧ n ≤ 9223372036854775807) : Calls Tryz.prog 15 #[.int .i64 n] w fun e w' => e = .returned (.string ⟨(intL n).toArray⟩) ∧ w = w' := by
  obtain ⟨m, hm⟩ : ∃ m : Nat, m = n.natAbs := ⟨_, rfl⟩
  have hb := rbelow_any m m w (Nat.le_refl _) (by omega)
  have hl := digL_len 20 m (by omega) (by omega)
  obtain ⟨t, ht⟩ : ∃ t : ByteArray, t = ⟨(digL m).toArray⟩ := ⟨_, rfl⟩
  have hts : t.size ≤ 20 := by rw [ht]; show (digL m).toArray.size ≤ 20; simpa using hl
  rw [← ht] at hb
  rcases Int.lt_or_le n 0 with h | h
  · have c1 : decide (n < 0) = true := decide_eq_true h
    have en : -(m : Int) = n := by omega
    rw [en] at hb
    have HB := Lib.hid hb
    have HE : Hid (⟨#[45]⟩ ++ t = (⟨(intL n).toArray⟩ : ByteArray)) := Lib.hid (by unfold intL; rw [if_pos h, ← hm, ht]; apply ByteArray.ext; simp)
    clear hb hl ht en hm h
    go_enter Tryz.func15, Tryz.ntmps15
    go_wp2_with fail
    refine HB.out.mono ?_
    rintro e w' ⟨rfl, rfl⟩
    go_wp2
    go_ret
    exact ⟨by rw [HE.out]; rfl, rfl⟩
  · have c1 : decide (n < 0) = false := decide_eq_false (by omega)
    have en : -(m : Int) = -n := by omega
    rw [en] at hb
    have HB := Lib.hid hb
    have HE : Hid (t = (⟨(intL n).toArray⟩ : ByteArray)) := Lib.hid (by unfold intL; rw [if_neg (by omega), ← hm, ht])
    clear hb hl ht en hm
    go_enter Tryz.func15, Tryz.ntmps15
    go_wp2_with fail
    refine HB.out.mono ?_
    rintro e w' ⟨rfl, rfl⟩
    go_wp2
    go_ret
    exact ⟨by rw [HE.out]; rfl, rfl⟩
end Go.Proofs.YteofdpogjnojnaaGreatDoor

namespace Go.Proofs.YteofdpogjnojnaaGreatDoor
open Go.RowKit Utf Pa
attribute [local go_sem ↓] Go.wp_at_zero Go.wp_at_succ
set_option linter.unusedVariables false
set_option linter.unusedSimpArgs false

theorem quoteL_len (l : List UInt8) : (quoteL l).length ≤ 6 * l.length + 2 := by
  have : (l.flatMap qs).length ≤ 6 * l.length := by
    induction l with
    | nil => simp
    | cons c l ih => rw [List.flatMap_cons, List.length_append, List.length_cons]; have := qs_len c; omega
  unfold quoteL
  simp only [List.length_append, List.length_cons, List.length_nil]
  omega
theorem wrT_snoc (l : List PV) (x : PV) : wrT (l ++ [x]) = wrT l ++ 44 :: wrP x := by
  induction l with
  | nil => simp [wrT]
  | cons v l ih => rw [List.cons_append, wrT, wrT, ih]; simp
theorem wrL_snoc (l : List PV) (x : PV) : wrL (l ++ [x]) = if l = [] then wrP x else wrL l ++ 44 :: wrP x := by
  cases l with
  | nil => simp [wrL, wrT]
  | cons v l => rw [List.cons_append, wrL, wrL, wrT_snoc, if_neg (by simp)]; simp
theorem wrN_snoc (l : List PV) (ks : List ByteArray) (x : PV) (k : ByteArray) (h : ks.length = l.length) : wrN (l ++ [x]) (ks ++ [k]) = wrN l ks ++ 44 :: (quoteL k.data.toList ++ 58 :: wrP x) := by
  induction l generalizing ks with
  | nil =>
    obtain rfl : ks = [] := List.eq_nil_of_length_eq_zero (by simpa using h)
    simp [wrN]
  | cons v l ih =>
    cases ks with
    | nil => simp at h
    | cons k0 ks =>
      rw [List.cons_append, List.cons_append, wrN, wrN]
      simp only [List.headD_cons, List.tail_cons]
      rw [ih ks (by simpa using h)]
      simp
theorem wrM_snoc (l : List PV) (ks : List ByteArray) (x : PV) (k : ByteArray) (h : ks.length = l.length) : wrM (l ++ [x]) (ks ++ [k]) = if l = [] then quoteL k.data.toList ++ 58 :: wrP x else wrM l ks ++ 44 :: (quoteL k.data.toList ++ 58 :: wrP x) := by
  cases l with
  | nil =>
    obtain rfl : ks = [] := List.eq_nil_of_length_eq_zero (by simpa using h)
    simp [wrM, wrN]
  | cons v l =>
    cases ks with
    | nil => simp at h
    | cons k0 ks =>
      rw [List.cons_append, List.cons_append, wrM, wrM, if_neg (by simp)]
      simp only [List.headD_cons, List.tail_cons]
      rw [wrN_snoc l ks x k (by simpa using h)]
      simp
theorem mem_wtL {l : List MV} {x : MV} (h : x ∈ l) : x.wt ≤ MV.wtL l := by
  induction l with
  | nil => cases h
  | cons v r ih =>
    rw [MV.wtL]
    rcases List.mem_cons.1 h with rfl | h
    · omega
    · have := ih h; omega
theorem mem_wtM {l : List MV} {x : MV} (h : x ∈ l) : 1 + x.key.size / 10 + x.wt ≤ MV.wtM l := by
  induction l with
  | nil => cases h
  | cons v r ih =>
    rw [wtM_cons]
    rcases List.mem_cons.1 h with rfl | h
    · omega
    · have := ih h; omega
/-- what Write says -/
def WrP (v : MV) (w : World) (e : Ending) (w' : World) : Prop := ∃ u : ByteArray, e = .returned (.string u) ∧ u = ⟨(wrP v.pv).toArray⟩ ∧ u.size + 1 ≤ 64 * v.wt ∧ Below w.heap.size w w'
/-- a list's text up to a place -/
structure WL (l : List MV) (i : Nat) (t : ByteArray) : Prop where
  tx : t = ⟨(91 :: wrL ((l.take i).map MV.pv)).toArray⟩
  le : t.size ≤ 1 + 64 * MV.wtL (l.take i)
/-- a map's -/
structure WM (l : List MV) (i : Nat) (t : ByteArray) : Prop where
  tx : t = ⟨(123 :: wrM ((l.take i).map MV.pv) ((l.take i).map MV.key)).toArray⟩
  le : t.size ≤ 1 + 64 * MV.wtM (l.take i)
theorem ba_app (a b : List UInt8) : (⟨a.toArray⟩ ++ ⟨b.toArray⟩ : ByteArray) = ⟨(a ++ b).toArray⟩ := ByteArray.ext (by simp)
theorem WL.zero {l : List MV} : WL l 0 ⟨#[91]⟩ := ⟨by simp [wrL], by simp [MV.wtL, ByteArray.size]⟩
theorem WM.zero {l : List MV} : WM l 0 ⟨#[123]⟩ := ⟨by simp [wrM], by simp [MV.wtM, ByteArray.size]⟩
theorem WL.first {l : List MV} {t u : ByteArray} (h : WL l 0 t) (hi : 0 < l.length) (hu : u = ⟨(wrP l[0].pv).toArray⟩) (hl : u.size + 1 ≤ 64 * l[0].wt) : WL l 1 (t ++ u) := by
  refine ⟨?_, ?_⟩
  · rw [h.tx, hu, ba_app, List.take_succ_eq_append_getElem hi, List.map_append, List.map_singleton, wrL_snoc]
    simp [wrL]
  · rw [ByteArray.size_append, wtL_take l 0 hi]
    have := h.le
    omega
theorem WL.more {l : List MV} {i : Nat} {t u : ByteArray} (h : WL l i t) (h0 : i ≠ 0) (hi : i < l.length) (hu : u = ⟨(wrP l[i].pv).toArray⟩) (hl : u.size + 1 ≤ 64 * l[i].wt) : WL l (i + 1) (t ++ ⟨#[44]⟩ ++ u) := by
  refine ⟨?_, ?_⟩
  · rw [h.tx, hu, show (⟨#[44]⟩ : ByteArray) = ⟨([44] : List UInt8).toArray⟩ from rfl, ba_app, ba_app, List.take_succ_eq_append_getElem hi, List.map_append, List.map_singleton, wrL_snoc, if_neg (by
      intro q
      have := congrArg List.length q
      rw [List.length_map, List.length_take, List.length_nil] at this
      omega)]
    simp
  · rw [ByteArray.size_append, ByteArray.size_append, wtL_take l i hi]
    have := h.le
    have : (⟨#[44]⟩ : ByteArray).size = 1 := rfl
    omega
theorem WM.first {l : List MV} {t q u : ByteArray} (h : WM l 0 t) (hi : 0 < l.length) (hq : q = ⟨(quoteL l[0].key.data.toList).toArray⟩) (hql : q.size ≤ 6 * l[0].key.size + 2) (hu : u = ⟨(wrP l[0].pv).toArray⟩) (hl : u.size + 1 ≤ 64 * l[0].wt) : WM l 1 (t ++ q ++ ⟨#[58]⟩ ++ u) := by
  refine ⟨?_, ?_⟩
  · rw [h.tx, hu, hq, show (⟨#[58]⟩ : ByteArray) = ⟨([58] : List UInt8).toArray⟩ from rfl, ba_app, ba_app, ba_app, List.take_succ_eq_append_getElem hi, List.map_append, List.map_singleton, List.map_append, List.map_singleton, wrM_snoc _ _ _ _ (by simp)]
    simp [wrM]
  · rw [ByteArray.size_append, ByteArray.size_append, ByteArray.size_append, wtM_take l 0 hi]
    have := h.le
    have : (⟨#[58]⟩ : ByteArray).size = 1 := rfl
    omega
theorem WM.more {l : List MV} {i : Nat} {t q u : ByteArray} (h : WM l i t) (h0 : i ≠ 0) (hi : i < l.length) (hq : q = ⟨(quoteL l[i].key.data.toList).toArray⟩) (hql : q.size ≤ 6 * l[i].key.size + 2) (hu : u = ⟨(wrP l[i].pv).toArray⟩) (hl : u.size + 1 ≤ 64 * l[i].wt) : WM l (i + 1) (t ++ ⟨#[44]⟩ ++ q ++ ⟨#[58]⟩ ++ u) := by
  refine ⟨?_, ?_⟩
  · rw [h.tx, hu, hq, show (⟨#[58]⟩ : ByteArray) = ⟨([58] : List UInt8).toArray⟩ from rfl, show (⟨#[44]⟩ : ByteArray) = ⟨([44] : List UInt8).toArray⟩ from rfl, ba_app, ba_app, ba_app, ba_app, List.take_succ_eq_append_getElem hi, List.map_append, List.map_singleton, List.map_append, List.map_singleton, wrM_snoc _ _ _ _ (by simp), if_neg (by
      intro z
      have := congrArg List.length z
      rw [List.length_map, List.length_take, List.length_nil] at this
      omega)]
    simp
  · rw [ByteArray.size_append, ByteArray.size_append, ByteArray.size_append, ByteArray.size_append, wtM_take l i hi]
    have := h.le
    have : (⟨#[58]⟩ : ByteArray).size = 1 := rfl
    have : (⟨#[44]⟩ : ByteArray).size = 1 := rfl
    omega
theorem WL.fin {l : List MV} {t : ByteArray} (h : WL l l.length t) : t ++ ⟨#[93]⟩ = ⟨(91 :: (wrL (MV.pvL l) ++ [93])).toArray⟩ ∧ (t ++ ⟨#[93]⟩).size ≤ 2 + 64 * MV.wtL l := by
  obtain ⟨h1, h2⟩ := h
  rw [List.take_length] at h1 h2
  refine ⟨by rw [h1, show (⟨#[93]⟩ : ByteArray) = ⟨([93] : List UInt8).toArray⟩ from rfl, ba_app, pvL_map]; simp, ?_⟩
  rw [ByteArray.size_append]
  have : (⟨#[93]⟩ : ByteArray).size = 1 := rfl
  omega
theorem WM.fin {l : List MV} {t : ByteArray} (h : WM l l.length t) : t ++ ⟨#[125]⟩ = ⟨(123 :: (wrM (MV.pvL l) (l.map MV.key) ++ [125])).toArray⟩ ∧ (t ++ ⟨#[125]⟩).size ≤ 2 + 64 * MV.wtM l := by
  obtain ⟨h1, h2⟩ := h
  rw [List.take_length] at h1 h2
  refine ⟨by rw [h1, show (⟨#[125]⟩ : ByteArray) = ⟨([125] : List UInt8).toArray⟩ from rfl, ba_app, pvL_map]; simp, ?_⟩
  rw [ByteArray.size_append]
  have : (⟨#[125]⟩ : ByteArray).size = 1 := rfl
  omega
theorem wtL_take_le (l : List MV) (i : Nat) : MV.wtL (l.take i) ≤ MV.wtL l := by
  induction l generalizing i with
  | nil => simp
  | cons v r ih =>
    cases i with
    | zero => simp [MV.wtL]
    | succ i => rw [List.take_succ_cons, MV.wtL, MV.wtL]; have := ih i; omega
theorem wtM_take_le (l : List MV) (i : Nat) : MV.wtM (l.take i) ≤ MV.wtM l := by
  induction l generalizing i with
  | nil => simp
  | cons v r ih =>
    cases i with
    | zero => simp [MV.wtM]
    | succ i => rw [List.take_succ_cons, wtM_cons, wtM_cons]; have := ih i; omega
set_option maxRecDepth 100000 in
set_option maxHeartbeats 16000000 in
theorem rwrite_any {w0 : World} {v : MV} (h : VAt w0 v) : ∀ (w : World), Below w0.heap.size w0 w → v.wt ≤ 6000 →
    Calls Tryz.prog 7 #[v.val] w fun e w' => WrP v w e w' := by
  induction h with
  | mk wk wn rl cl1 cl2 rm cm1 cm2 hl hm ih1 ih2 =>
  rename_i key k n s lA lc l mA mc m
  intro w hb hwt
  show Calls Tryz.prog 7 #[_] w fun e w' => PF (WrP (.mk key k n s lA lc l mA mc m) w) e w'
  have HV : Hid (VAt w (.mk key k n s lA lc l mA mc m)) := Lib.hid ((VAt.mk wk wn rl cl1 cl2 rm cm1 cm2 hl hm).bel hb)
  have HB0 := Lib.hid hb
  rw [MV.wt] at hwt
  have HWT := Lib.hid hwt
  have HI1 := Lib.hid ih1
  have HI2 := Lib.hid ih2
  have hnb := bounds_i64 wn
  have HNB := Lib.hid hnb
  unfold MV.val
  simp only [MV.k, MV.n, MV.s, MV.lA, MV.lc, MV.l, MV.mA, MV.mc, MV.m]
  obtain ⟨nl, hnl⟩ : ∃ nl, nl = l.length := ⟨_, rfl⟩
  obtain ⟨nm, hnm⟩ : ∃ nm, nm = m.length := ⟨_, rfl⟩
  rw [← hnl] at cl1 ⊢
  rw [← hnm] at cm1 ⊢
  have HNL : Hid (l.length = nl) := Lib.hid hnl.symm
  have HNM : Hid (m.length = nm) := Lib.hid hnm.symm
  have bl1 : (nl : Int) ≤ 9223372036854775807 := by unfold maxLen at cl2; omega
  have bm1 : (nm : Int) ≤ 9223372036854775807 := by unfold maxLen at cm2; omega
  have hss : s.size ≤ 60009 := by omega
  have HPW : Hid (∀ (u : ByteArray) w', u = ⟨(wrP (.mk k n s (MV.pvL l) (m.map MV.key) (MV.pvL m))).toArray⟩ → u.size + 1 ≤ 64 * (1 + s.size / 10 + MV.wtL l + MV.wtM m) → Below w.heap.size w w' → PF (WrP (.mk key k n s lA lc l mA mc m) w) (.returned (.string u)) w') := Lib.hid (fun u w' h1 h2 h3 => ⟨u, rfl, by rw [MV.pv]; exact h1, by rw [MV.wt]; omega, h3⟩)
  obtain ⟨W1, hW1⟩ : ∃ W1, W1 = (w.alloc (.cells #[.int .i64 k, .int .i64 n, .string s, .slice lA nl lc, .slice mA nm mc] 25)) := ⟨_, rfl⟩
  have hbx : Below w.heap.size w W1 := by rw [hW1]; exact (Below.refl _ _).alloc (Nat.le_refl _) _
  have hkx : Blk W1 w.heap.size 25 #[.int .i64 k, .int .i64 n, .string s, .slice lA nl lc, .slice mA nm mc] := by rw [hW1]; exact Blk.new _ _ _
  rw [hW1] at hbx hkx
  have HBX := Lib.hid hbx
  have HKX := Lib.hid hkx
  clear hbx hkx hb hW1 ih1 ih2 hl hm rl rm wk wn hnl hnm cl1 cl2 cm1 cm2 hwt hnb
  by_cases hk1 : k = 1
  · subst hk1
    have HR := Lib.hid (HPW.out ⟨#[110, 117, 108, 108]⟩ _ (by unfold wrP; rfl) (by show 4 + 1 ≤ _; omega) HBX.out)
    go_enter Tryz.func7, Tryz.ntmps7
    go_wp2
    go_ret
    exact HR.out
  have q1 : (k == 1) = false := by rw [beq_eq_false_iff_ne]; exact hk1
  by_cases hk2 : k = 2
  · subst hk2
    clear q1 hk1
    by_cases hn : n = 1
    · subst hn
      have HR := Lib.hid (HPW.out ⟨#[116, 114, 117, 101]⟩ _ (by unfold wrP; rfl) (by show 4 + 1 ≤ _; omega) HBX.out)
      go_enter Tryz.func7, Tryz.ntmps7
      go_wp2
      go_ret
      exact HR.out
    · have HR := Lib.hid (HPW.out ⟨#[102, 97, 108, 115, 101]⟩ _ (by unfold wrP; simp [hn]) (by show 5 + 1 ≤ _; omega) HBX.out)
      have qn : (n == 1) = false := by rw [beq_eq_false_iff_ne]; exact hn
      clear hn
      go_enter Tryz.func7, Tryz.ntmps7
      go_wp2
      go_ret
      exact HR.out
  have q2 : (k == 2) = false := by rw [beq_eq_false_iff_ne]; exact hk2
  by_cases hk3 : k = 3
  · subst hk3
    clear q1 q2 hk1 hk2
    have HD := Lib.hid (fun V => rdigits_any n V HNB.out)
    have hdl : (⟨(intL n).toArray⟩ : ByteArray).size ≤ 21 := by
      show (intL n).toArray.size ≤ 21
      have := digL_len 20 n.natAbs (by have := HNB.out; omega) (by omega)
      unfold intL
      split <;> simp <;> omega
    have HR := Lib.hid (fun w' h => HPW.out ⟨(intL n).toArray⟩ w' (by unfold wrP; simp) (by omega) h)
    clear hdl
    go_enter Tryz.func7, Tryz.ntmps7
    go_wp2_with fail
    refine (HD.out _).mono ?_
    rintro e w' ⟨rfl, rfl⟩
    go_wp2
    go_ret
    exact HR.out _ HBX.out
  have q3 : (k == 3) = false := by rw [beq_eq_false_iff_ne]; exact hk3
  by_cases hk4 : k = 4
  · subst hk4
    clear q1 q2 q3 hk1 hk2 hk3
    have HD := Lib.hid (fun V => rquote_any s V (by omega))
    have hdl : (⟨(quoteL s.data.toList).toArray⟩ : ByteArray).size ≤ 6 * s.size + 2 := by
      show (quoteL s.data.toList).toArray.size ≤ _
      have := quoteL_len s.data.toList
      have e : s.data.toList.length = s.size := rfl
      simp
      omega
    have HR := Lib.hid (fun w' h => HPW.out ⟨(quoteL s.data.toList).toArray⟩ w' (by unfold wrP; simp) (by omega) h)
    clear hdl
    go_enter Tryz.func7, Tryz.ntmps7
    go_wp2_with fail
    refine (HD.out _).mono ?_
    rintro e w' ⟨rfl, hb'⟩
    go_wp2
    go_ret
    exact HR.out _ (HBX.out.trans (hb'.mono HBX.out.size))
  have q4 : (k == 4) = false := by rw [beq_eq_false_iff_ne]; exact hk4
  by_cases hk5 : k = 5
  · subst hk5
    clear q1 q2 q3 q4 hk1 hk2 hk3 hk4
    have HR := Lib.hid (fun (u : ByteArray) w' (h1 : u = ⟨(91 :: (wrL (MV.pvL l) ++ [93])).toArray⟩) h2 h3 => HPW.out u w' (by rw [h1]; unfold wrP; simp) h2 h3)
    go_enter Tryz.func7, Tryz.ntmps7
    go_wp2_with fail
    go_loopw [3, 4] (fun x y wr => ∃ (i : Nat) (t : ByteArray), x = .string t ∧ y = .int .i64 (i : Int) ∧ i ≤ nl ∧ t.size ≤ 400000 ∧ Hid (WL l i t) ∧ Hid (Below (w.alloc (.cells #[.int .i64 5, .int .i64 n, .string s, .slice lA nl lc, .slice mA nm mc] 25)).heap.size (w.alloc (.cells #[.int .i64 5, .int .i64 n, .string s, .slice lA nl lc, .slice mA nm mc] 25)) wr)) (fun _ y _ => nl - (intOf y).toNat)
    case atStart => exact ⟨0, ⟨#[91]⟩, rfl, rfl, Nat.zero_le _, by decide, Lib.hid WL.zero, Lib.hid (Below.refl _ _)⟩
    case round =>
      obtain ⟨i, t, rfl, rfl, hi, ht, HA, HW⟩ := hrel
      have HWB : Hid (Below w0.heap.size w0 wr) := Lib.hid (HB0.out.trans ((HBX.out.trans (HW.out.mono HBX.out.size)).mono HB0.out.size))
      have HWW : Hid (Below w.heap.size w wr) := Lib.hid (HBX.out.trans (HW.out.mono HBX.out.size))
      have hkr := HKX.out.below HW.out HKX.out.lt
      have b3 := hkr.cell 3
      simp only [List.getElem?_toArray, List.getElem?_cons_zero, List.getElem?_cons_succ] at b3
      clear hkr
      rcases (by omega : i < nl ∨ i = nl) with hlt | heq
      · have q0 : decide ((i : Int) < (nl : Int)) = true := by rw [decide_eq_true_iff]; omega
        have q0' : decide (i < nl) = true := by rw [decide_eq_true_iff]; omega
        have hil : i < l.length := by rw [HNL.out]; exact hlt
        obtain ⟨b, o, hA', hbl, hc'⟩ := (HV.out.bel HWW.out).la (i := i) hil
        have hA : lA = some ⟨b, o, none⟩ := hA'
        have hc : ∀ j, j < 5 → wr.cell? ⟨b, o + i * 5 + j, none⟩ = l[i].cs[j]? := hc'
        clear hA' hc'
        subst hA
        obtain ⟨x, hx⟩ : ∃ x, x = l[i] := ⟨_, rfl⟩
        have hxm : x ∈ l := by rw [hx]; exact List.getElem_mem hil
        rw [← hx] at hc
        have c0 : wr.cell? ⟨b, o + i * 5, none⟩ = some (.int .i64 x.k) := hc 0 (by omega)
        have c1 : wr.cell? ⟨b, o + i * 5 + 1, none⟩ = some (.int .i64 x.n) := hc 1 (by omega)
        have c2 : wr.cell? ⟨b, o + i * 5 + 2, none⟩ = some (.string x.s) := hc 2 (by omega)
        have c3 : wr.cell? ⟨b, o + i * 5 + 3, none⟩ = some (.slice x.lA x.l.length x.lc) := hc 3 (by omega)
        have c4 : wr.cell? ⟨b, o + i * 5 + 4, none⟩ = some (.slice x.mA x.m.length x.mc) := hc 4 (by omega)
        have hcall := HI1.out x hxm wr HWB.out (by have := mem_wtL hxm; have := HWT.out; omega)
        unfold MV.val at hcall
        have HCC := Lib.hid hcall
        have hii : (i : Int) < (nl : Int) := by omega
        have hi0 : (0 : Int) ≤ (i : Int) := by omega
        have HXX := Lib.hid hx
        have hwx := mem_wtL hxm
        have HWX : Hid (x.wt ≤ 6000) := Lib.hid (by have := HWT.out; omega)
        clear hc hxm hcall hx hbl hwx
        rcases (by omega : i = 0 ∨ 0 < i) with hz | hz
        · have p1 : decide ((0 : Int) < (i : Int)) = false := decide_eq_false (by omega)
          have p2 : decide (0 < i) = false := decide_eq_false (by omega)
          have p3 : decide ((i : Int) > 0) = false := decide_eq_false (by omega)
          have HZ := Lib.hid hz
          clear hz
          go_wp2_with fail
          refine HCC.out.mono ?_
          rintro e w2 ⟨u, rfl, hu1, hu2, hb2⟩
          have hu3 : u.size ≤ 400000 := by have := HWX.out; omega
          rw [HXX.out] at hu1 hu2
          have HA2 : Hid (WL l (i + 1) (t ++ u)) := Lib.hid (by
            have h9 := HA.out
            have hz := HZ.out
            subst hz
            exact h9.first hil hu1 hu2)
          have HW2 : Hid (Below (w.alloc (.cells #[.int .i64 5, .int .i64 n, .string s, .slice (some ⟨b, o, none⟩) nl lc, .slice mA nm mc] 25)).heap.size (w.alloc (.cells #[.int .i64 5, .int .i64 n, .string s, .slice (some ⟨b, o, none⟩) nl lc, .slice mA nm mc] 25)) w2) := Lib.hid (HW.out.trans (hb2.mono HW.out.size))
          clear hu1 hu2 hb2
          go_wp2
          go_roundw
          case rel => exact ⟨i + 1, t ++ u, rfl, by go_num, by omega, by
            have h8 := HA2.out.le
            have h9 : MV.wtL (l.take (i + 1)) ≤ MV.wtL l := wtL_take_le _ _
            have := HWT.out
            omega, HA2, HW2⟩
          case measure => simp [intOf]; omega
        · have p1 : decide ((0 : Int) < (i : Int)) = true := decide_eq_true (by omega)
          have p2 : decide (0 < i) = true := decide_eq_true (by omega)
          have p3 : decide ((i : Int) > 0) = true := decide_eq_true (by omega)
          have HZ := Lib.hid hz
          clear hz
          go_wp2_with fail
          refine HCC.out.mono ?_
          rintro e w2 ⟨u, rfl, hu1, hu2, hb2⟩
          have hu3 : u.size ≤ 400000 := by have := HWX.out; omega
          rw [HXX.out] at hu1 hu2
          have HA2 : Hid (WL l (i + 1) (t ++ ⟨#[44]⟩ ++ u)) := Lib.hid (HA.out.more (by have := HZ.out; omega) hil hu1 hu2)
          have HW2 : Hid (Below (w.alloc (.cells #[.int .i64 5, .int .i64 n, .string s, .slice (some ⟨b, o, none⟩) nl lc, .slice mA nm mc] 25)).heap.size (w.alloc (.cells #[.int .i64 5, .int .i64 n, .string s, .slice (some ⟨b, o, none⟩) nl lc, .slice mA nm mc] 25)) w2) := Lib.hid (HW.out.trans (hb2.mono HW.out.size))
          clear hu1 hu2 hb2
          go_wp2
          go_roundw
          case rel => exact ⟨i + 1, t ++ ⟨#[44]⟩ ++ u, rfl, by go_num, by omega, by
            have h8 := HA2.out.le
            have h9 : MV.wtL (l.take (i + 1)) ≤ MV.wtL l := wtL_take_le _ _
            have := HWT.out
            omega, HA2, HW2⟩
          case measure => simp [intOf]; omega
      · have q0 : decide ((i : Int) < (nl : Int)) = false := by rw [decide_eq_false_iff_not]; omega
        have q0' : decide (i < nl) = false := by rw [decide_eq_false_iff_not]; omega
        have hfin := WL.fin (l := l) (t := t) (by have := HA.out; rw [HNL.out, ← heq]; exact this)
        have HE := Lib.hid (HR.out _ wr hfin.1 (by have := hfin.2; omega) HWW.out)
        clear heq hfin
        go_wp2
        go_ret
        exact HE.out
  have q5 : (k == 5) = false := by rw [beq_eq_false_iff_ne]; exact hk5
  have HR := Lib.hid (fun (u : ByteArray) w' (h1 : u = ⟨(123 :: (wrM (MV.pvL m) (m.map MV.key) ++ [125])).toArray⟩) h2 h3 => HPW.out u w' (by rw [h1]; unfold wrP; rw [if_neg hk1, if_neg hk2, if_neg hk3, if_neg hk4, if_neg hk5]) h2 h3)
  clear hk1 hk2 hk3 hk4 hk5
  go_enter Tryz.func7, Tryz.ntmps7
  go_wp2_with fail
  go_loopw [5, 6] (fun x y wr => ∃ (i : Nat) (t : ByteArray), x = .string t ∧ y = .int .i64 (i : Int) ∧ i ≤ nm ∧ t.size ≤ 400000 ∧ Hid (WM m i t) ∧ Hid (Below (w.alloc (.cells #[.int .i64 k, .int .i64 n, .string s, .slice lA nl lc, .slice mA nm mc] 25)).heap.size (w.alloc (.cells #[.int .i64 k, .int .i64 n, .string s, .slice lA nl lc, .slice mA nm mc] 25)) wr)) (fun _ y _ => nm - (intOf y).toNat)
  case atStart => exact ⟨0, ⟨#[123]⟩, rfl, rfl, Nat.zero_le _, by decide, Lib.hid WM.zero, Lib.hid (Below.refl _ _)⟩
  case round =>
    obtain ⟨i, t, rfl, rfl, hi, ht, HA, HW⟩ := hrel
    have HWB : Hid (Below w0.heap.size w0 wr) := Lib.hid (HB0.out.trans ((HBX.out.trans (HW.out.mono HBX.out.size)).mono HB0.out.size))
    have HWW : Hid (Below w.heap.size w wr) := Lib.hid (HBX.out.trans (HW.out.mono HBX.out.size))
    have hkr := HKX.out.below HW.out HKX.out.lt
    have b4 := hkr.cell 4
    simp only [List.getElem?_toArray, List.getElem?_cons_zero, List.getElem?_cons_succ] at b4
    have HKR := Lib.hid hkr
    clear hkr
    rcases (by omega : i < nm ∨ i = nm) with hlt | heq
    · have q0 : decide ((i : Int) < (nm : Int)) = true := by rw [decide_eq_true_iff]; omega
      have q0' : decide (i < nm) = true := by rw [decide_eq_true_iff]; omega
      have hil : i < m.length := by rw [HNM.out]; exact hlt
      obtain ⟨b, o, hA', hbl, hc'⟩ := (HV.out.bel HWW.out).ma (i := i) hil
      have hA : mA = some ⟨b, o, none⟩ := hA'
      have hc : ∀ j, j < 6 → wr.cell? ⟨b, o + i * 6 + j, none⟩ = m[i].pcs[j]? := hc'
      clear hA' hc'
      subst hA
      obtain ⟨x, hx⟩ : ∃ x, x = m[i] := ⟨_, rfl⟩
      have hxm : x ∈ m := by rw [hx]; exact List.getElem_mem hil
      rw [← hx] at hc
      have HSV : Hid (∀ V, Below wr.heap.size wr V → V.cell? ⟨w.heap.size, 4, none⟩ = some (.slice (some ⟨b, o, none⟩) nm mc) ∧ V.cell? ⟨b, o + i * 6, none⟩ = some (.string x.key) ∧ V.cell? ⟨b, o + i * 6 + 1, none⟩ = some (.int .i64 x.k) ∧ V.cell? ⟨b, o + i * 6 + 1 + 1, none⟩ = some (.int .i64 x.n) ∧ V.cell? ⟨b, o + i * 6 + 1 + 2, none⟩ = some (.string x.s) ∧ V.cell? ⟨b, o + i * 6 + 1 + 3, none⟩ = some (.slice x.lA x.l.length x.lc) ∧ V.cell? ⟨b, o + i * 6 + 1 + 4, none⟩ = some (.slice x.mA x.m.length x.mc)) := Lib.hid (fun V hV => by
        have hk4 := (HKR.out.below hV HKR.out.lt).cell 4
        simp only [List.getElem?_toArray, List.getElem?_cons_zero, List.getElem?_cons_succ] at hk4
        have h9 : ∀ j, V.cell? ⟨b, j, none⟩ = wr.cell? ⟨b, j, none⟩ := fun j => hV.cell (p := ⟨b, j, none⟩) hbl
        refine ⟨hk4, ?_, ?_, ?_, ?_, ?_, ?_⟩
        · rw [h9]; exact hc 0 (by omega)
        · rw [h9]; exact hc 1 (by omega)
        · rw [h9]; exact hc 2 (by omega)
        · rw [h9]; exact hc 3 (by omega)
        · rw [h9]; exact hc 4 (by omega)
        · rw [h9]; exact hc 5 (by omega))
      have hwx := mem_wtM hxm
      have hks : x.key.size ≤ 60009 := by have := HWT.out; omega
      have hcall := HI2.out x hxm
      unfold MV.val at hcall
      have HCC := Lib.hid (fun V (hV : Below wr.heap.size wr V) => hcall V (HWB.out.trans (hV.mono HWB.out.size)) (by have := HWT.out; omega))
      have HQQ := Lib.hid (fun V => rquote_any x.key V (by omega))
      obtain ⟨q, hq⟩ : ∃ q : ByteArray, q = ⟨(quoteL x.key.data.toList).toArray⟩ := ⟨_, rfl⟩
      rw [← hq] at HQQ
      have hql : q.size ≤ 6 * x.key.size + 2 := by
        rw [hq]
        show (quoteL x.key.data.toList).toArray.size ≤ _
        have := quoteL_len x.key.data.toList
        have e : x.key.data.toList.length = x.key.size := rfl
        simp
        omega
      have HQL := Lib.hid hql
      have hqs : q.size ≤ 400000 := by omega
      have HQE := Lib.hid hq
      have hii : (i : Int) < (nm : Int) := by omega
      have hi0 : (0 : Int) ≤ (i : Int) := by omega
      have HXX := Lib.hid hx
      have HWX : Hid (x.wt ≤ 6000) := Lib.hid (by have := HWT.out; omega)
      have HIL := Lib.hid hil
      clear hc hxm hcall hx hbl hwx hq hql
      rcases (by omega : i = 0 ∨ 0 < i) with hz | hz
      · have p1 : decide ((0 : Int) < (i : Int)) = false := decide_eq_false (by omega)
        have p2 : decide (0 < i) = false := decide_eq_false (by omega)
        have p3 : decide ((i : Int) > 0) = false := decide_eq_false (by omega)
        have HZ := Lib.hid hz
        clear hz
        go_wp2_with fail
        refine wp_region_held_drew (S := fun V => Below wr.heap.size wr V) (by kernel_rfl) ((Below.refl _ _).drew) (fun hS1 => ?_)
        refine wpAnyH_take (i := 0) (oi := ⟨some 60, _, _, _, _, _⟩) (v := .string t) rfl (by kernel_rfl) (by kernel_rfl) (by kernel_rfl) (fun _ _ _ h => h) (.inl ⟨by kernel_rfl, fun V hS => by go_simp⟩) hS1 ?_
        simp only [Act.put, List.setIfInBounds_toArray, List.set_cons_zero, List.set_cons_succ]
        refine wpAnyH_take (i := 1) (oi := ⟨some 61, _, _, _, _, _⟩) (v := .pointer (some ⟨w.heap.size, 4, none⟩)) rfl (by kernel_rfl) (by kernel_rfl) (by kernel_rfl) (fun _ _ _ h => h) (.inl ⟨by kernel_rfl, fun V hS => by go_simp⟩) hS1 ?_
        simp only [Act.put, List.setIfInBounds_toArray, List.set_cons_zero, List.set_cons_succ]
        refine wpAnyH_take (i := 2) (oi := ⟨some 62, _, _, _, _, _⟩) (v := .slice (some ⟨b, o, none⟩) nm mc) rfl (by kernel_rfl) (by kernel_rfl) (by kernel_rfl) (fun _ _ _ h => h) (.inl ⟨by kernel_rfl, fun V hS => by obtain ⟨h0, h1, h2, h3, h4, h5, h6⟩ := HSV.out V hS; go_simp⟩) hS1 ?_
        simp only [Act.put, List.setIfInBounds_toArray, List.set_cons_zero, List.set_cons_succ]
        refine wpAnyH_take (i := 3) (oi := ⟨some 63, _, _, _, _, _⟩) (v := .int .i64 (i : Int)) rfl (by kernel_rfl) (by kernel_rfl) (by kernel_rfl) (fun _ _ _ h => h) (.inl ⟨by kernel_rfl, fun V hS => by go_simp⟩) hS1 ?_
        simp only [Act.put, List.setIfInBounds_toArray, List.set_cons_zero, List.set_cons_succ]
        refine wpAnyH_take (i := 4) (oi := ⟨some 64, _, _, _, _, _⟩) (v := .pointer (some ⟨b, o + i * 6, none⟩)) rfl (by kernel_rfl) (by kernel_rfl) (by kernel_rfl) (fun _ _ _ h => h) (.inl ⟨by kernel_rfl, fun V hS => by go_simp⟩) hS1 ?_
        simp only [Act.put, List.setIfInBounds_toArray, List.set_cons_zero, List.set_cons_succ]
        refine wpAnyH_take (i := 5) (oi := ⟨some 65, _, _, _, _, _⟩) (v := .pointer (some ⟨b, o + i * 6, none⟩)) rfl (by kernel_rfl) (by kernel_rfl) (by kernel_rfl) (fun _ _ _ h => h) (.inl ⟨by kernel_rfl, fun V hS => by go_simp⟩) hS1 ?_
        simp only [Act.put, List.setIfInBounds_toArray, List.set_cons_zero, List.set_cons_succ]
        refine wpAnyH_take (i := 6) (oi := ⟨some 66, _, _, _, _, _⟩) (v := .string x.key) rfl (by kernel_rfl) (by kernel_rfl) (by kernel_rfl) (fun _ _ _ h => h) (.inl ⟨by kernel_rfl, fun V hS => by obtain ⟨h0, h1, h2, h3, h4, h5, h6⟩ := HSV.out V hS; go_simp⟩) hS1 ?_
        simp only [Act.put, List.setIfInBounds_toArray, List.set_cons_zero, List.set_cons_succ]
        refine wpAnyH_take (i := 10) (oi := ⟨some 70, _, _, _, _, _⟩) (v := .pointer (some ⟨w.heap.size, 4, none⟩)) rfl (by kernel_rfl) (by kernel_rfl) (by kernel_rfl) (fun _ _ _ h => h) (.inl ⟨by kernel_rfl, fun V hS => by go_simp⟩) hS1 ?_
        simp only [Act.put, List.setIfInBounds_toArray, List.set_cons_zero, List.set_cons_succ]
        refine wpAnyH_take (i := 11) (oi := ⟨some 71, _, _, _, _, _⟩) (v := .slice (some ⟨b, o, none⟩) nm mc) rfl (by kernel_rfl) (by kernel_rfl) (by kernel_rfl) (fun _ _ _ h => h) (.inl ⟨by kernel_rfl, fun V hS => by obtain ⟨h0, h1, h2, h3, h4, h5, h6⟩ := HSV.out V hS; go_simp⟩) hS1 ?_
        simp only [Act.put, List.setIfInBounds_toArray, List.set_cons_zero, List.set_cons_succ]
        refine wpAnyH_take (i := 12) (oi := ⟨some 72, _, _, _, _, _⟩) (v := .int .i64 (i : Int)) rfl (by kernel_rfl) (by kernel_rfl) (by kernel_rfl) (fun _ _ _ h => h) (.inl ⟨by kernel_rfl, fun V hS => by go_simp⟩) hS1 ?_
        simp only [Act.put, List.setIfInBounds_toArray, List.set_cons_zero, List.set_cons_succ]
        refine wpAnyH_take (i := 13) (oi := ⟨some 73, _, _, _, _, _⟩) (v := .pointer (some ⟨b, o + i * 6, none⟩)) rfl (by kernel_rfl) (by kernel_rfl) (by kernel_rfl) (fun _ _ _ h => h) (.inl ⟨by kernel_rfl, fun V hS => by go_simp⟩) hS1 ?_
        simp only [Act.put, List.setIfInBounds_toArray, List.set_cons_zero, List.set_cons_succ]
        refine wpAnyH_take (i := 14) (oi := ⟨some 74, _, _, _, _, _⟩) (v := .pointer (some ⟨b, o + i * 6 + 1, none⟩)) rfl (by kernel_rfl) (by kernel_rfl) (by kernel_rfl) (fun _ _ _ h => h) (.inl ⟨by kernel_rfl, fun V hS => by go_simp⟩) hS1 ?_
        simp only [Act.put, List.setIfInBounds_toArray, List.set_cons_zero, List.set_cons_succ]
        refine wpAnyH_take (i := 15) (oi := ⟨some 75, _, _, _, _, _⟩) (v := .agg #[.int .i64 x.k, .int .i64 x.n, .string x.s, .slice x.lA x.l.length x.lc, .slice x.mA x.m.length x.mc]) rfl (by kernel_rfl) (by kernel_rfl) (by kernel_rfl) (fun _ _ _ h => h) (.inl ⟨by kernel_rfl, fun V hS => by obtain ⟨h0, h1, h2, h3, h4, h5, h6⟩ := HSV.out V hS; go_simp⟩) hS1 ?_
        simp only [Act.put, List.setIfInBounds_toArray, List.set_cons_zero, List.set_cons_succ]
        refine wpAnyH_ready (rs := [7]) (by kernel_rfl) (by simp) ?_
        refine AllReadyH.cons rfl (fun K' hK => ?_) AllReadyH.nil
        go_simp
        refine (HQQ.out _).mono ?_
        rintro e wq ⟨rfl, hbq⟩
        go_simp
        have HBQ := Lib.hid hbq
        clear hbq
        refine hK.out _ _ (hS1.trans (HBQ.out.mono hS1.size)) (fun hS2 => ?_)
        clear hK K' hS1
        refine wpAnyH_take (i := 8) (oi := ⟨some 68, _, _, _, _, _⟩) (v := .string (t ++ q)) rfl (by kernel_rfl) (by kernel_rfl) (by kernel_rfl) (fun _ _ _ h => h) (.inl ⟨by kernel_rfl, fun V hS => by go_simp; omega⟩) hS2 ?_
        simp only [Act.put, List.setIfInBounds_toArray, List.set_cons_zero, List.set_cons_succ]
        refine wpAnyH_take (i := 9) (oi := ⟨some 69, _, _, _, _, _⟩) (v := .string (t ++ q ++ ⟨#[58]⟩)) rfl (by kernel_rfl) (by kernel_rfl) (by kernel_rfl) (fun _ _ _ h => h) (.inl ⟨by kernel_rfl, fun V hS => by go_simp; omega⟩) hS2 ?_
        simp only [Act.put, List.setIfInBounds_toArray, List.set_cons_zero, List.set_cons_succ]
        refine wpAnyH_ready (rs := [16]) (by kernel_rfl) (by simp) ?_
        refine AllReadyH.cons rfl (fun K' hK => ?_) AllReadyH.nil
        go_simp
        refine (HCC.out _ hS2).mono ?_
        rintro e w2 ⟨u, rfl, hu1, hu2, hb2⟩
        have hu3 : u.size ≤ 400000 := by have := HWX.out; omega
        have HU1 := Lib.hid hu1
        have HU2 := Lib.hid hu2
        have HB2 := Lib.hid hb2
        clear hu1 hu2 hb2
        go_simp
        refine hK.out _ _ (hS2.trans (HB2.out.mono hS2.size)) (fun hS3 => ?_)
        clear hK K' hS2
        refine wpAnyH_take (i := 17) (oi := ⟨some 77, _, _, _, _, _⟩) (v := .string (t ++ q ++ ⟨#[58]⟩ ++ u)) rfl (by kernel_rfl) (by kernel_rfl) (by kernel_rfl) (fun _ _ _ h => h) (.inl ⟨by kernel_rfl, fun V hS => by go_simp; omega⟩) hS3 ?_
        simp only [Act.put, List.setIfInBounds_toArray, List.set_cons_zero, List.set_cons_succ]
        refine wpAnyH_take (i := 18) (oi := ⟨some 5, _, _, _, _, _⟩) (v := .string (t ++ q ++ ⟨#[58]⟩ ++ u)) rfl (by kernel_rfl) (by kernel_rfl) (by kernel_rfl) (fun _ _ _ h => h) (.inl ⟨by kernel_rfl, fun V hS => by go_simp⟩) hS3 ?_
        simp only [Act.put, List.setIfInBounds_toArray, List.set_cons_zero, List.set_cons_succ]
        refine wpAnyH_done (by kernel_rfl) ?_ _
        have HFF := Lib.hid hS3
        clear hS3
        have HA2 : Hid (WM m (i + 1) (t ++ q ++ ⟨#[58]⟩ ++ u)) := Lib.hid (by
          have h9 := HA.out
          have hz := HZ.out
          have h1 := HU1.out
          have h2 := HU2.out
          have h3 := HQE.out
          have h4 := HQL.out
          rw [HXX.out] at h1 h2 h3 h4
          subst hz
          exact h9.first hil h3 h4 h1 h2)
        have HW2 : Hid (Below (w.alloc (.cells #[.int .i64 k, .int .i64 n, .string s, .slice lA nl lc, .slice (some ⟨b, o, none⟩) nm mc] 25)).heap.size (w.alloc (.cells #[.int .i64 k, .int .i64 n, .string s, .slice lA nl lc, .slice (some ⟨b, o, none⟩) nm mc] 25)) w2) := Lib.hid (HW.out.trans (HFF.out.mono HW.out.size))
        clear HU1 HU2 HB2 HBQ
        go_wp2
        go_roundw
        case rel => exact ⟨i + 1, t ++ q ++ ⟨#[58]⟩ ++ u, rfl, by go_num, by omega, by
          have h8 := HA2.out.le
          have h9 : MV.wtM (m.take (i + 1)) ≤ MV.wtM m := wtM_take_le _ _
          have := HWT.out
          omega, HA2, HW2⟩
        case measure => simp [intOf]; omega
      · have p1 : decide ((0 : Int) < (i : Int)) = true := decide_eq_true (by omega)
        have p2 : decide (0 < i) = true := decide_eq_true (by omega)
        have p3 : decide ((i : Int) > 0) = true := decide_eq_true (by omega)
        have HZ := Lib.hid hz
        clear hz
        go_wp2_with fail
        refine wp_region_held_drew (S := fun V => Below wr.heap.size wr V) (by kernel_rfl) ((Below.refl _ _).drew) (fun hS1 => ?_)
        refine wpAnyH_take (i := 0) (oi := ⟨some 60, _, _, _, _, _⟩) (v := .string (t ++ ⟨#[44]⟩)) rfl (by kernel_rfl) (by kernel_rfl) (by kernel_rfl) (fun _ _ _ h => h) (.inl ⟨by kernel_rfl, fun V hS => by go_simp⟩) hS1 ?_
        simp only [Act.put, List.setIfInBounds_toArray, List.set_cons_zero, List.set_cons_succ]
        refine wpAnyH_take (i := 1) (oi := ⟨some 61, _, _, _, _, _⟩) (v := .pointer (some ⟨w.heap.size, 4, none⟩)) rfl (by kernel_rfl) (by kernel_rfl) (by kernel_rfl) (fun _ _ _ h => h) (.inl ⟨by kernel_rfl, fun V hS => by go_simp⟩) hS1 ?_
        simp only [Act.put, List.setIfInBounds_toArray, List.set_cons_zero, List.set_cons_succ]
        refine wpAnyH_take (i := 2) (oi := ⟨some 62, _, _, _, _, _⟩) (v := .slice (some ⟨b, o, none⟩) nm mc) rfl (by kernel_rfl) (by kernel_rfl) (by kernel_rfl) (fun _ _ _ h => h) (.inl ⟨by kernel_rfl, fun V hS => by obtain ⟨h0, h1, h2, h3, h4, h5, h6⟩ := HSV.out V hS; go_simp⟩) hS1 ?_
        simp only [Act.put, List.setIfInBounds_toArray, List.set_cons_zero, List.set_cons_succ]
        refine wpAnyH_take (i := 3) (oi := ⟨some 63, _, _, _, _, _⟩) (v := .int .i64 (i : Int)) rfl (by kernel_rfl) (by kernel_rfl) (by kernel_rfl) (fun _ _ _ h => h) (.inl ⟨by kernel_rfl, fun V hS => by go_simp⟩) hS1 ?_
        simp only [Act.put, List.setIfInBounds_toArray, List.set_cons_zero, List.set_cons_succ]
        refine wpAnyH_take (i := 4) (oi := ⟨some 64, _, _, _, _, _⟩) (v := .pointer (some ⟨b, o + i * 6, none⟩)) rfl (by kernel_rfl) (by kernel_rfl) (by kernel_rfl) (fun _ _ _ h => h) (.inl ⟨by kernel_rfl, fun V hS => by go_simp⟩) hS1 ?_
        simp only [Act.put, List.setIfInBounds_toArray, List.set_cons_zero, List.set_cons_succ]
        refine wpAnyH_take (i := 5) (oi := ⟨some 65, _, _, _, _, _⟩) (v := .pointer (some ⟨b, o + i * 6, none⟩)) rfl (by kernel_rfl) (by kernel_rfl) (by kernel_rfl) (fun _ _ _ h => h) (.inl ⟨by kernel_rfl, fun V hS => by go_simp⟩) hS1 ?_
        simp only [Act.put, List.setIfInBounds_toArray, List.set_cons_zero, List.set_cons_succ]
        refine wpAnyH_take (i := 6) (oi := ⟨some 66, _, _, _, _, _⟩) (v := .string x.key) rfl (by kernel_rfl) (by kernel_rfl) (by kernel_rfl) (fun _ _ _ h => h) (.inl ⟨by kernel_rfl, fun V hS => by obtain ⟨h0, h1, h2, h3, h4, h5, h6⟩ := HSV.out V hS; go_simp⟩) hS1 ?_
        simp only [Act.put, List.setIfInBounds_toArray, List.set_cons_zero, List.set_cons_succ]
        refine wpAnyH_take (i := 10) (oi := ⟨some 70, _, _, _, _, _⟩) (v := .pointer (some ⟨w.heap.size, 4, none⟩)) rfl (by kernel_rfl) (by kernel_rfl) (by kernel_rfl) (fun _ _ _ h => h) (.inl ⟨by kernel_rfl, fun V hS => by go_simp⟩) hS1 ?_
        simp only [Act.put, List.setIfInBounds_toArray, List.set_cons_zero, List.set_cons_succ]
        refine wpAnyH_take (i := 11) (oi := ⟨some 71, _, _, _, _, _⟩) (v := .slice (some ⟨b, o, none⟩) nm mc) rfl (by kernel_rfl) (by kernel_rfl) (by kernel_rfl) (fun _ _ _ h => h) (.inl ⟨by kernel_rfl, fun V hS => by obtain ⟨h0, h1, h2, h3, h4, h5, h6⟩ := HSV.out V hS; go_simp⟩) hS1 ?_
        simp only [Act.put, List.setIfInBounds_toArray, List.set_cons_zero, List.set_cons_succ]
        refine wpAnyH_take (i := 12) (oi := ⟨some 72, _, _, _, _, _⟩) (v := .int .i64 (i : Int)) rfl (by kernel_rfl) (by kernel_rfl) (by kernel_rfl) (fun _ _ _ h => h) (.inl ⟨by kernel_rfl, fun V hS => by go_simp⟩) hS1 ?_
        simp only [Act.put, List.setIfInBounds_toArray, List.set_cons_zero, List.set_cons_succ]
        refine wpAnyH_take (i := 13) (oi := ⟨some 73, _, _, _, _, _⟩) (v := .pointer (some ⟨b, o + i * 6, none⟩)) rfl (by kernel_rfl) (by kernel_rfl) (by kernel_rfl) (fun _ _ _ h => h) (.inl ⟨by kernel_rfl, fun V hS => by go_simp⟩) hS1 ?_
        simp only [Act.put, List.setIfInBounds_toArray, List.set_cons_zero, List.set_cons_succ]
        refine wpAnyH_take (i := 14) (oi := ⟨some 74, _, _, _, _, _⟩) (v := .pointer (some ⟨b, o + i * 6 + 1, none⟩)) rfl (by kernel_rfl) (by kernel_rfl) (by kernel_rfl) (fun _ _ _ h => h) (.inl ⟨by kernel_rfl, fun V hS => by go_simp⟩) hS1 ?_
        simp only [Act.put, List.setIfInBounds_toArray, List.set_cons_zero, List.set_cons_succ]
        refine wpAnyH_take (i := 15) (oi := ⟨some 75, _, _, _, _, _⟩) (v := .agg #[.int .i64 x.k, .int .i64 x.n, .string x.s, .slice x.lA x.l.length x.lc, .slice x.mA x.m.length x.mc]) rfl (by kernel_rfl) (by kernel_rfl) (by kernel_rfl) (fun _ _ _ h => h) (.inl ⟨by kernel_rfl, fun V hS => by obtain ⟨h0, h1, h2, h3, h4, h5, h6⟩ := HSV.out V hS; go_simp⟩) hS1 ?_
        simp only [Act.put, List.setIfInBounds_toArray, List.set_cons_zero, List.set_cons_succ]
        refine wpAnyH_ready (rs := [7]) (by kernel_rfl) (by simp) ?_
        refine AllReadyH.cons rfl (fun K' hK => ?_) AllReadyH.nil
        go_simp
        refine (HQQ.out _).mono ?_
        rintro e wq ⟨rfl, hbq⟩
        go_simp
        have HBQ := Lib.hid hbq
        clear hbq
        refine hK.out _ _ (hS1.trans (HBQ.out.mono hS1.size)) (fun hS2 => ?_)
        clear hK K' hS1
        refine wpAnyH_take (i := 8) (oi := ⟨some 68, _, _, _, _, _⟩) (v := .string (t ++ ⟨#[44]⟩ ++ q)) rfl (by kernel_rfl) (by kernel_rfl) (by kernel_rfl) (fun _ _ _ h => h) (.inl ⟨by kernel_rfl, fun V hS => by go_simp; omega⟩) hS2 ?_
        simp only [Act.put, List.setIfInBounds_toArray, List.set_cons_zero, List.set_cons_succ]
        refine wpAnyH_take (i := 9) (oi := ⟨some 69, _, _, _, _, _⟩) (v := .string (t ++ ⟨#[44]⟩ ++ q ++ ⟨#[58]⟩)) rfl (by kernel_rfl) (by kernel_rfl) (by kernel_rfl) (fun _ _ _ h => h) (.inl ⟨by kernel_rfl, fun V hS => by go_simp; omega⟩) hS2 ?_
        simp only [Act.put, List.setIfInBounds_toArray, List.set_cons_zero, List.set_cons_succ]
        refine wpAnyH_ready (rs := [16]) (by kernel_rfl) (by simp) ?_
        refine AllReadyH.cons rfl (fun K' hK => ?_) AllReadyH.nil
        go_simp
        refine (HCC.out _ hS2).mono ?_
        rintro e w2 ⟨u, rfl, hu1, hu2, hb2⟩
        have hu3 : u.size ≤ 400000 := by have := HWX.out; omega
        have HU1 := Lib.hid hu1
        have HU2 := Lib.hid hu2
        have HB2 := Lib.hid hb2
        clear hu1 hu2 hb2
        go_simp
        refine hK.out _ _ (hS2.trans (HB2.out.mono hS2.size)) (fun hS3 => ?_)
        clear hK K' hS2
        refine wpAnyH_take (i := 17) (oi := ⟨some 77, _, _, _, _, _⟩) (v := .string (t ++ ⟨#[44]⟩ ++ q ++ ⟨#[58]⟩ ++ u)) rfl (by kernel_rfl) (by kernel_rfl) (by kernel_rfl) (fun _ _ _ h => h) (.inl ⟨by kernel_rfl, fun V hS => by go_simp; omega⟩) hS3 ?_
        simp only [Act.put, List.setIfInBounds_toArray, List.set_cons_zero, List.set_cons_succ]
        refine wpAnyH_take (i := 18) (oi := ⟨some 5, _, _, _, _, _⟩) (v := .string (t ++ ⟨#[44]⟩ ++ q ++ ⟨#[58]⟩ ++ u)) rfl (by kernel_rfl) (by kernel_rfl) (by kernel_rfl) (fun _ _ _ h => h) (.inl ⟨by kernel_rfl, fun V hS => by go_simp⟩) hS3 ?_
        simp only [Act.put, List.setIfInBounds_toArray, List.set_cons_zero, List.set_cons_succ]
        refine wpAnyH_done (by kernel_rfl) ?_ _
        have HFF := Lib.hid hS3
        clear hS3
        have HA2 : Hid (WM m (i + 1) (t ++ ⟨#[44]⟩ ++ q ++ ⟨#[58]⟩ ++ u)) := Lib.hid (by
          have h1 := HU1.out
          have h2 := HU2.out
          have h3 := HQE.out
          have h4 := HQL.out
          rw [HXX.out] at h1 h2 h3 h4
          exact HA.out.more (by have := HZ.out; omega) HIL.out h3 h4 h1 h2)
        have HW2 : Hid (Below (w.alloc (.cells #[.int .i64 k, .int .i64 n, .string s, .slice lA nl lc, .slice (some ⟨b, o, none⟩) nm mc] 25)).heap.size (w.alloc (.cells #[.int .i64 k, .int .i64 n, .string s, .slice lA nl lc, .slice (some ⟨b, o, none⟩) nm mc] 25)) w2) := Lib.hid (HW.out.trans (HFF.out.mono HW.out.size))
        clear HU1 HU2 HB2 HBQ
        go_wp2
        go_roundw
        case rel => exact ⟨i + 1, t ++ ⟨#[44]⟩ ++ q ++ ⟨#[58]⟩ ++ u, rfl, by go_num, by omega, by
          have h8 := HA2.out.le
          have h9 : MV.wtM (m.take (i + 1)) ≤ MV.wtM m := wtM_take_le _ _
          have := HWT.out
          omega, HA2, HW2⟩
        case measure => simp [intOf]; omega
    · have q0 : decide ((i : Int) < (nm : Int)) = false := by rw [decide_eq_false_iff_not]; omega
      have q0' : decide (i < nm) = false := by rw [decide_eq_false_iff_not]; omega
      have hfin := WM.fin (l := m) (t := t) (by have := HA.out; rw [HNM.out, ← heq]; exact this)
      have HE := Lib.hid (HR.out _ wr hfin.1 (by have := hfin.2; omega) HWW.out)
      clear heq hfin
      go_wp2
      go_ret
      exact HE.out
end Go.Proofs.YteofdpogjnojnaaGreatDoor

namespace Go.Proofs.YteofdpogjnojnaaGreatDoor
open Go.RowKit
set_option linter.unusedVariables false

theorem conv_bytes (s : ByteArray) (w : World) (hs : s.size ≤ maxLen) : ∃ cap W', (convert 9 33 (.string s)).run Tryz.prog w = .ok (.slice (some ⟨w.heap.size, 0, none⟩) s.size cap) W' ∧ s.size ≤ cap ∧ cap ≤ maxLen ∧ RB W' (some ⟨w.heap.size, 0, none⟩) s.data.toList ∧ Below w.heap.size w W' := by
  refine ⟨grownCap w s.size 0 5, Lib.bytesWorld w 5 s, Lib.run_convert_string_bytes w 9 33 5 s Tryz.underlying9 Tryz.underlying33 Tryz.underlying5, grownCap_ge _ _ _ _, grownCap_le_maxLen _ _ _ _ hs, ?_, ?_⟩
  · refine ⟨by simp [Lib.byteCells], fun hn => ⟨_, rfl, by rw [Lib.bytesWorld_size]; exact Nat.lt_succ_self _, fun j u hu => ?_⟩⟩
    rw [Addr.add_lit, Nat.zero_add]
    have hj : j < s.data.toList.length := by
      rcases Nat.lt_or_ge j s.data.toList.length with h | h
      · exact h
      · rw [List.getElem?_eq_none (by simpa [Lib.byteCells] using h)] at hu; cases hu
    have hl : s.data.toList.length = s.size := by cases s; simp [ByteArray.size]
    rw [Lib.bytesWorld_cell w 5 s j (by omega)]
    rw [← hu]
    simp only [Lib.byteCells, List.getElem?_map, List.getElem?_eq_getElem hj, Option.map_some]
    rw [List.getD_eq_getElem?_getD, List.getElem?_eq_getElem hj]; rfl
  · exact ⟨rfl, rfl, rfl, by rw [Lib.bytesWorld_size]; exact Nat.le_succ _, fun k hk => Lib.bytesWorld_at_old w 5 s k hk⟩
end Go.Proofs.YteofdpogjnojnaaGreatDoor

namespace Go.Proofs.YteofdpogjnojnaaGreatDoor
open Go.RowKit Utf Pa
attribute [local go_sem ↓] Go.wp_at_zero Go.wp_at_succ
set_option linter.unusedVariables false
set_option linter.unusedSimpArgs false

theorem fine_small' {w : World} {v : MV} (h : VAt w v) (hs : SzV v) (hf : FitV v) (hw : v.wt ≤ 6000) : Fine w v := ⟨h, okP_of hs hf, Nat.le_trans (cnt_le_wt v) (by omega)⟩
set_option maxRecDepth 100000 in
set_option maxHeartbeats 8000000 in
theorem parseWrites_walk (v : MV) (w : World) (hT : tabV w) (h : VAt w v) (hz : SzV v) :
    Calls Tryz.prog 3 #[v.val] w fun e w' => e = .returned (.bool true) ∧ Below w.heap.size w w' := by
  obtain ⟨W1, hW1⟩ : ∃ W1, W1 = w.alloc (.cells #[.int .i64 v.k, .int .i64 v.n, .string v.s, .slice v.lA v.l.length v.lc, .slice v.mA v.m.length v.mc] 25) := ⟨_, rfl⟩
  have hb1 : Below w.heap.size w W1 := by rw [hW1]; exact below_new _ _
  have hk1 : Blk W1 w.heap.size 25 #[.int .i64 v.k, .int .i64 v.n, .string v.s, .slice v.lA v.l.length v.lc, .slice v.mA v.m.length v.mc] := by rw [hW1]; exact Blk.new _ _ _
  have HL := Lib.hid (fun V (hV : Below w.heap.size w V) => lives_any V (hT.below hV))
  have hg := rLarge_any (h.bel hb1) hz
  have hf := fun V (hV : Below w.heap.size w V) (hf : FitV v) (hw : v.wt ≤ 6000) => rcheck_any (fine_small' (h.bel hV) hz hf hw)
  have hw := fun V (hV : Below w.heap.size w V) => rwrite_any h V hV
  unfold MV.val at hg hf hw ⊢
  have HG := Lib.hid hg
  have HF := Lib.hid hf
  have HWR := Lib.hid hw
  have HP : Hid (∀ V (m : List UInt8) (B : Option Addr) (d : Nat), Below w.heap.size w V → RB V B m → m.length ≤ d → d ≤ maxLen → m.length ≤ 262144 → Calls Tryz.prog 8 #[.slice B m.length d] V fun e w' => PF (ParP m V) e w') := Lib.hid (fun V m B d hV h1 h2 h3 h4 => parse_any B d m h1 h2 h3 (fun _ => fourOk_any (by show m.toArray.size ≤ _; simp; omega)) (hT.below hV))
  have HVV : Hid (VAt w v) := Lib.hid h
  obtain ⟨C, hC⟩ : ∃ C, C = v.pv.chk := ⟨_, rfl⟩
  rw [← hC] at HF
  have HCC := Lib.hid hC
  have HW1 := Lib.hid hW1
  have HB1 := Lib.hid hb1
  have HK1 := Lib.hid hk1
  clear hT hz hg hf hw h hC hW1 hb1 hk1
  go_enter Tryz.func3, Tryz.ntmps3
  go_wp2_with fail
  rw [← HW1.out]
  refine HG.out.mono ?_
  rintro e w2 ⟨b, rfl, hb2, hok⟩
  have HB2 : Hid (Below w.heap.size w w2) := Lib.hid (HB1.out.trans (hb2.mono HB1.out.size))
  have HK2 := Lib.hid (HK1.out.below hb2 HK1.out.lt)
  cases b with
  | true =>
    clear hok hb2
    go_wp2_with fail
    refine (HL.out w2 HB2.out).mono ?_
    rintro e wl ⟨rfl, hbl⟩
    go_wp2
    go_ret
    exact ⟨rfl, HB2.out.trans (hbl.mono HB2.out.size)⟩
  | false =>
    have HOK := Lib.hid (hok rfl)
    clear hok hb2
    have x0 : w2.cell? ⟨w.heap.size, 0, none⟩ = some (.int .i64 v.k) := HK2.out.cell 0
    have x1 : w2.cell? ⟨w.heap.size, 1, none⟩ = some (.int .i64 v.n) := HK2.out.cell 1
    have x2 : w2.cell? ⟨w.heap.size, 2, none⟩ = some (.string v.s) := HK2.out.cell 2
    have x3 : w2.cell? ⟨w.heap.size, 3, none⟩ = some (.slice v.lA v.l.length v.lc) := HK2.out.cell 3
    have x4 : w2.cell? ⟨w.heap.size, 4, none⟩ = some (.slice v.mA v.m.length v.mc) := HK2.out.cell 4
    go_wp2_with fail
    refine (HF.out w2 HB2.out HOK.out.2.2 HOK.out.1).mono ?_
    rintro e w3 ⟨rfl, hb3⟩
    have HB3 : Hid (Below w.heap.size w w3) := Lib.hid (HB2.out.trans (hb3.mono HB2.out.size))
    have HK3 := Lib.hid (HK2.out.below hb3 HK2.out.lt)
    clear hb3 x0 x1 x2 x3 x4
    by_cases hc : C = 0
    rotate_left
    · have q1 : (C != 0) = true := by rw [bne_iff_ne]; exact hc
      have q2 : (C == 0) = false := by rw [beq_eq_false_iff_ne]; exact hc
      clear hc
      go_wp2_with fail
      refine (HL.out w3 HB3.out).mono ?_
      rintro e wl ⟨rfl, hbl⟩
      go_wp2
      go_ret
      exact ⟨rfl, HB3.out.trans (hbl.mono HB3.out.size)⟩
    · have q1 : (C != 0) = false := by rw [hc]; rfl
      have HC0 := Lib.hid hc
      clear hc
      have x0 : w3.cell? ⟨w.heap.size, 0, none⟩ = some (.int .i64 v.k) := HK3.out.cell 0
      have x1 : w3.cell? ⟨w.heap.size, 1, none⟩ = some (.int .i64 v.n) := HK3.out.cell 1
      have x2 : w3.cell? ⟨w.heap.size, 2, none⟩ = some (.string v.s) := HK3.out.cell 2
      have x3 : w3.cell? ⟨w.heap.size, 3, none⟩ = some (.slice v.lA v.l.length v.lc) := HK3.out.cell 3
      have x4 : w3.cell? ⟨w.heap.size, 4, none⟩ = some (.slice v.mA v.m.length v.mc) := HK3.out.cell 4
      go_wp2_with fail
      refine (HWR.out w3 HB3.out HOK.out.1).mono ?_
      rintro e w4 ⟨u, rfl, hu, hus, hb4⟩
      have HB4 : Hid (Below w.heap.size w w4) := Lib.hid (HB3.out.trans (hb4.mono HB3.out.size))
      have HK4 := Lib.hid (HK3.out.below hb4 HK3.out.lt)
      have hu4 : u.size ≤ 400000 := by have := HOK.out.1; omega
      have HU := Lib.hid hu
      clear hb4 x0 x1 x2 x3 x4 hu hus
      by_cases hl : 262144 < u.size
      · have q2 : decide ((262144 : Int) < (u.size : Int)) = true := decide_eq_true (by omega)
        have q3 : decide ((u.size : Int) > 262144) = true := decide_eq_true (by omega)
        have q4 : decide (262144 < u.size) = true := decide_eq_true (by omega)
        clear hl
        go_wp2_with fail
        refine (HL.out w4 HB4.out).mono ?_
        rintro e wl ⟨rfl, hbl⟩
        go_wp2
        go_ret
        exact ⟨rfl, HB4.out.trans (hbl.mono HB4.out.size)⟩
      · have q2 : decide ((262144 : Int) < (u.size : Int)) = false := decide_eq_false (by omega)
        have q3 : decide ((u.size : Int) > 262144) = false := decide_eq_false (by omega)
        have q4 : decide (262144 < u.size) = false := decide_eq_false (by omega)
        have hl2 : u.size ≤ 262144 := by omega
        clear hl
        obtain ⟨cap, W5, hcv, hc1, hc2, hr5, hb5⟩ := conv_bytes u w4 (by simp only [maxLen]; omega)
        have hul : u.data.toList.length = u.size := rfl
        have HB5 : Hid (Below w.heap.size w W5) := Lib.hid (HB4.out.trans (hb5.mono HB4.out.size))
        have HK5 := Lib.hid (HK4.out.below hb5 HK4.out.lt)
        have hp5 := HP.out W5 u.data.toList _ cap HB5.out hr5 (by omega) hc2 (by omega)
        rw [hul] at hp5
        have HP5 := Lib.hid hp5
        clear hr5 hb5 hc1 hc2 hp5 hul
        go_wp2_with fail
        refine HP5.out.mono ?_
        rintro e w6 ⟨v2, rfl, hpv, hvo, hb6, -⟩
        have hpw : parseP u.data.toList = (v.pv, u.size, 0) := by
          have e1 : u.data.toList = wrP v.pv := by rw [HU.out]
          have e2 : (wrP v.pv).length = u.size := by rw [← e1]; rfl
          rw [e1, parse_write (by rw [← HCC.out]; exact HC0.out) (by omega), e2]
        rw [hpw] at hpv ⊢
        have HPV : Hid (v2.pv = v.pv) := Lib.hid hpv
        clear hpw hpv
        unfold MV.val
        obtain ⟨X2, hX2⟩ : ∃ X, X = w6.heap.size := ⟨_, rfl⟩
        obtain ⟨w7, hw7⟩ : ∃ w7, w7 = w6.alloc (.cells #[.int .i64 v2.k, .int .i64 v2.n, .string v2.s, .slice v2.lA v2.l.length v2.lc, .slice v2.mA v2.m.length v2.mc] 25) := ⟨_, rfl⟩
        have hb7 : Below w6.heap.size w6 w7 := by rw [hw7]; exact below_new _ _
        have HX7 : Hid (Blk w7 X2 25 #[.int .i64 v2.k, .int .i64 v2.n, .string v2.s, .slice v2.lA v2.l.length v2.lc, .slice v2.mA v2.m.length v2.mc]) := Lib.hid (by rw [hw7, hX2]; exact Blk.new _ _ _)
        have HB7 : Hid (Below w.heap.size w w7) := Lib.hid (HB5.out.trans ((hb6.trans (hb7.mono hb6.size)).mono HB5.out.size))
        have HK7 := Lib.hid ((HK5.out.below hb6 HK5.out.lt).below hb7 (HK5.out.below hb6 HK5.out.lt).lt)
        have HV7 : Hid (VAt w7 v2) := Lib.hid (hvo.at_.bel hb7)
        have HW7 := Lib.hid hw7
        have HX2 := Lib.hid hX2
        clear hvo hb6 hb7 hw7 hX2
        go_wp2_with fail
        rw [← HW7.out, ← HX2.out]
        refine (HL.out w7 HB7.out).mono ?_
        rintro e w8 ⟨rfl, hb8⟩
        have HB8 : Hid (Below w.heap.size w w8) := Lib.hid (HB7.out.trans (hb8.mono HB7.out.size))
        have HX8 := Lib.hid (HX7.out.below hb8 HX7.out.lt)
        have HK8 := Lib.hid (HK7.out.below hb8 HK7.out.lt)
        have hex := rexact_any (HVV.out.bel HB8.out) v2 w8 (Below.refl _ _) (HV7.out.bel hb8)
        unfold MV.val at hex
        have HEX := Lib.hid hex
        clear hb8 hex
        have x0 : w8.cell? ⟨w.heap.size, 0, none⟩ = some (.int .i64 v.k) := HK8.out.cell 0
        have x1 : w8.cell? ⟨w.heap.size, 1, none⟩ = some (.int .i64 v.n) := HK8.out.cell 1
        have x2 : w8.cell? ⟨w.heap.size, 2, none⟩ = some (.string v.s) := HK8.out.cell 2
        have x3 : w8.cell? ⟨w.heap.size, 3, none⟩ = some (.slice v.lA v.l.length v.lc) := HK8.out.cell 3
        have x4 : w8.cell? ⟨w.heap.size, 4, none⟩ = some (.slice v.mA v.m.length v.mc) := HK8.out.cell 4
        have y0 : w8.cell? ⟨X2, 0, none⟩ = some (.int .i64 v2.k) := HX8.out.cell 0
        have y1 : w8.cell? ⟨X2, 1, none⟩ = some (.int .i64 v2.n) := HX8.out.cell 1
        have y2 : w8.cell? ⟨X2, 2, none⟩ = some (.string v2.s) := HX8.out.cell 2
        have y3 : w8.cell? ⟨X2, 3, none⟩ = some (.slice v2.lA v2.l.length v2.lc) := HX8.out.cell 3
        have y4 : w8.cell? ⟨X2, 4, none⟩ = some (.slice v2.mA v2.m.length v2.mc) := HX8.out.cell 4
        go_wp2_with fail
        refine HEX.out.mono ?_
        rintro e w9 ⟨rfl, hb9⟩
        have hde : decide (v.pv = v2.pv) = true := decide_eq_true HPV.out.symm
        rw [hde]
        clear hde
        go_wp2
        go_ret
        exact ⟨rfl, HB8.out.trans (hb9.mono HB8.out.size)⟩
end Go.Proofs.YteofdpogjnojnaaGreatDoor
