/-
  A valid text's literal, unquoted: the steps of Unquote over it.
-/
import Derived.Test.YteofdpogjnojnaaGreatDoorUtfU
import Derived.Test.YteofdpogjnojnaaGreatDoorUtfQ
import Derived.Test.YteofdpogjnojnaaGreatDoorUtfV
namespace Go.Proofs.YteofdpogjnojnaaGreatDoor
open Go.RowKit Utf
set_option linter.unusedVariables false

theorem hexD32 (n : Nat) (h : n < 32) : okHex [Lib.lowerB 48, Lib.lowerB 48, Lib.lowerB (hexDigit (n / 16)), Lib.lowerB (hexDigit (n % 16))] = true ∧ fourN (Lib.lowerB 48) (Lib.lowerB 48) (Lib.lowerB (hexDigit (n / 16))) (Lib.lowerB (hexDigit (n % 16))) = n ∧ (∀ x ∈ [48, 48, hexDigit (n / 16), hexDigit (n % 16)], x.toNat < 128) := by
  have : ∀ j : Fin 32, okHex [Lib.lowerB 48, Lib.lowerB 48, Lib.lowerB (hexDigit (j.1 / 16)), Lib.lowerB (hexDigit (j.1 % 16))] = true ∧ fourN (Lib.lowerB 48) (Lib.lowerB 48) (Lib.lowerB (hexDigit (j.1 / 16))) (Lib.lowerB (hexDigit (j.1 % 16))) = j.1 ∧ (∀ x ∈ [48, 48, hexDigit (j.1 / 16), hexDigit (j.1 % 16)], x.toNat < 128) := by decide
  exact this ⟨n, h⟩
theorem ext26 (s : ByteArray) : (s.extract 2 6).data.toList = (s.data.toList.drop 2).take 4 := by simp [List.extract]
theorem at_l {s : ByteArray} {l : List UInt8} (hs : s.data.toList = l) (k : Nat) (h : k < s.size) (x : UInt8) (hx : l[k]? = some x) : s[k] = x := by
  subst hs
  have : s.data.toList[k]? = some s[k] := List.getElem?_eq_getElem (by simpa using h)
  exact Option.some.inj (this.symm.trans hx)
theorem size_l {s : ByteArray} {l : List UInt8} (hs : s.data.toList = l) : s.size = l.length := by subst hs; cases s; simp [ByteArray.size]
/-- a character that stands for itself: its bytes -/
theorem lit_bytes {c : Int} (hm : mayU c = true) (h0 : 32 ≤ c) (h1 : c ≠ 34) (h2 : c ≠ 92) (i : Nat) (h : i < (encU c).length) : 32 ≤ (encU c)[i].toNat ∧ (encU c)[i].toNat ≠ 34 ∧ (encU c)[i].toNat ≠ 92 := by
  by_cases hc : c ≤ 127
  · have e := enc_one (c := c) (by omega) hc
    have t1 := toNat_toUInt8 (x := c) (by omega) (by omega)
    simp only [e] at h ⊢
    match i, h with
    | 0, _ => simp only [List.getElem_cons_zero]; omega
  · have hb := enc_bytes hm i h
    have hmm := may_iff.1 hm
    rcases Nat.eq_zero_or_pos i with hi | hi
    · subst hi
      have h3 := hb.1 rfl
      have : 128 ≤ (encU c)[0].toNat := by
        rcases (by omega : (128 ≤ c ∧ c ≤ 2047) ∨ (((2048 ≤ c ∧ c < 55296) ∨ (57343 < c ∧ c ≤ 65535)) ∧ (2048 ≤ c ∧ c ≤ 65535)) ∨ (65536 ≤ c ∧ c ≤ 1114111)) with k | ⟨k, k'⟩ | k
        · have e := enc_two k.1 k.2
          have t1 := toNat_toUInt8 (x := 192 + c / 64) (by omega) (by omega)
          simp only [e, List.getElem_cons_zero]; omega
        · have e := enc_three k
          have t1 := toNat_toUInt8 (x := 224 + c / 4096) (by omega) (by omega)
          simp only [e, List.getElem_cons_zero]; omega
        · have e := enc_four k.1 k.2
          have t1 := toNat_toUInt8 (x := 240 + c / 262144) (by omega) (by omega)
          simp only [e, List.getElem_cons_zero]; omega
      omega
    · have := hb.2 (by omega); omega
theorem flat_self : ∀ (l : List UInt8), (∀ (i : Nat) (h : i < l.length), 32 ≤ l[i].toNat ∧ l[i].toNat ≠ 34 ∧ l[i].toNat ≠ 92) → l.flatMap qs = l
  | [], _ => rfl
  | b :: l, h => by
    have h0 := h 0 (by simp)
    simp only [List.getElem_cons_zero] at h0
    rw [List.flatMap_cons, flat_self l (fun i hi => by have := h (i + 1) (by simp; omega); simpa using this)]
    have : qs b = [b] := by
      unfold qs
      rw [if_neg (by omega), if_neg]
      rintro (e | e)
      · rw [e] at h0; exact h0.2.1 rfl
      · rw [e] at h0; exact h0.2.2 rfl
    rw [this]; rfl
theorem lit_self {c : Int} (hm : mayU c = true) (h0 : 32 ≤ c) (h1 : c ≠ 34) (h2 : c ≠ 92) : (encU c).flatMap qs = encU c := flat_self _ (lit_bytes hm h0 h1 h2)
/-- what part says at a character of a literal -/
theorem part_lit (s : ByteArray) (c : Int) (rest : List UInt8) (hm : mayU c = true) (hs : s.size ≤ 140737488351232) (hl : s.data.toList = (encU c).flatMap qs ++ rest) (w : World) (ht : tabU w) :
    Calls Tryz.prog 76 #[.string s] w fun e w' => e = .returned (.tuple #[.int .i32 c, .int .i64 (((encU c).flatMap qs).length : Nat), .int .i64 0]) ∧ Below w.heap.size w w' := by
  have hmm := may_iff.1 hm
  have hsz := size_l hl
  rcases (by omega : (0 ≤ c ∧ c < 32) ∨ c = 34 ∨ c = 92 ∨ (32 ≤ c ∧ c ≠ 34 ∧ c ≠ 92)) with ⟨h0, h1⟩ | h | h | ⟨h0, h1, h2⟩
  · have hc : c.toNat.toUInt8.toNat = c.toNat := by have := toNat_toUInt8 (x := c) h0 (by omega); omega
    have hL : (encU c).flatMap qs = [92, 117, 48, 48, hexDigit (c.toNat / 16), hexDigit (c.toNat % 16)] := by
      rw [enc_one h0 (by omega)]
      simp only [List.flatMap_cons, List.flatMap_nil, List.append_nil]
      unfold qs
      rw [if_pos (by omega)]
      simp only [hexL, List.flatMap_cons, List.flatMap_nil, List.append_nil, hc]
      rfl
    rw [hL] at hl hsz ⊢
    have h6 : 6 ≤ s.size := by rw [hsz, List.length_append]; simp
    obtain ⟨k1, k2, k3⟩ := hexD32 c.toNat (by omega)
    refine part_esc s c 6 w (by omega) (at_l hl 0 (by omega) 92 rfl) (by decide) fun w => ?_
    have hu := escape_u s c.toNat w (by omega) (by omega) (at_l hl 1 (by omega) 117 rfl) (by rw [Int.toNat_of_nonneg h0]; exact hm) (fun w => by
      have h := four_ok s ⟨(Lib.toLowerA [48, 48, hexDigit (c.toNat / 16), hexDigit (c.toNat % 16)]).toArray⟩ 48 48 (hexDigit (c.toNat / 16)) (hexDigit (c.toNat % 16)) w h6 hs (at_l hl 0 (by omega) 92 rfl) (at_l hl 1 (by omega) 117 rfl) (by rw [ext26, hl]; rfl) k3 rfl k1
      rw [k2] at h
      exact h)
    rw [Int.toNat_of_nonneg h0] at hu
    exact hu
  · subst h
    have hL : (encU 34).flatMap qs = [92, 34] := by decide
    rw [hL] at hl hsz ⊢
    have h6 : 2 ≤ s.size := by rw [hsz, List.length_append]; simp
    exact part_esc s 34 2 w (by omega) (at_l hl 0 (by omega) 92 rfl) (by decide) fun w => (escape_short _ 0 34 w (by omega) (by omega) 34 (at_l hl 1 (by omega) 34 rfl) (by decide) (by decide) (by decide)).mono fun _ _ ⟨h1, h2⟩ => ⟨h1, h2 ▸ Below.refl _ _⟩
  · subst h
    have hL : (encU 92).flatMap qs = [92, 92] := by decide
    rw [hL] at hl hsz ⊢
    have h6 : 2 ≤ s.size := by rw [hsz, List.length_append]; simp
    exact part_esc s 92 2 w (by omega) (at_l hl 0 (by omega) 92 rfl) (by decide) fun w => (escape_short _ 1 92 w (by omega) (by omega) 92 (at_l hl 1 (by omega) 92 rfl) (by decide) (by decide) (by decide)).mono fun _ _ ⟨h1, h2⟩ => ⟨h1, h2 ▸ Below.refl _ _⟩
  · have hL := lit_self hm h0 h1 h2
    rw [hL] at hl hsz ⊢
    have hn1 := (nxt_enc (l := encU c) hm (Nat.le_refl _) (by rw [List.take_length])).2.2.1
    have hb := lit_bytes hm h0 h1 h2 0 (by omega)
    have hN : nxt s.data.toList = (c, (encU c).length) := (nxt_enc hm (by rw [hl, List.length_append]; omega) (by rw [hl]; simp)).1
    have hpos : 0 < s.size := by rw [hsz, List.length_append]; omega
    have hgt : ((encU c) ++ rest)[0]? = some ((encU c)[0]'(by omega)) := by rw [List.getElem?_append_left (by omega), List.getElem?_eq_getElem (by omega)]
    exact part_char s c _ w ht hpos _ (at_l hl 0 hpos _ hgt) (by omega) (by omega) (by omega) hN
/-- how a character's literal begins, and how long it is -/
theorem lit_head {c : Int} (hm : mayU c = true) : ∃ b r, (encU c).flatMap qs = b :: r ∧ b ≠ 34 ∧ ((encU c).flatMap qs).length ≤ 12 := by
  have hmm := may_iff.1 hm
  by_cases h : (32 ≤ c ∧ c ≠ 34 ∧ c ≠ 92)
  · have hL := lit_self hm h.1 h.2.1 h.2.2
    have hn1 := (nxt_enc (l := encU c) hm (Nat.le_refl _) (by rw [List.take_length])).2.2.1
    have hb := lit_bytes hm h.1 h.2.1 h.2.2 0 (by omega)
    have h4 := enc_len c hm
    rw [hL]
    match he : encU c with
    | [] => rw [he] at hn1; simp at hn1
    | b :: r =>
      simp only [he, List.getElem_cons_zero] at hb
      rw [he] at h4
      exact ⟨b, r, rfl, fun e => hb.2.1 (by rw [e]; rfl), by omega⟩
  · have e := enc_one (c := c) (by omega) (by omega)
    rw [e]
    have t1 := toNat_toUInt8 (x := c) (by omega) (by omega)
    have hq : qs c.toNat.toUInt8 = [92, 117, 48, 48] ++ hexL [c.toNat.toUInt8] ∨ qs c.toNat.toUInt8 = [92, c.toNat.toUInt8] := by
      unfold qs
      by_cases hc : c < 32
      · rw [if_pos (by omega)]; exact .inl rfl
      · rw [if_neg (by omega), if_pos]
        · exact .inr rfl
        · rcases (by omega : c = 34 ∨ c = 92) with e | e
          · left; rw [e]; rfl
          · right; rw [e]; rfl
    simp only [List.flatMap_cons, List.flatMap_nil, List.append_nil]
    rcases hq with hq | hq
    · rw [hq]; exact ⟨92, _, rfl, by decide, by simp [hexL]⟩
    · rw [hq]; exact ⟨92, _, rfl, by decide, by simp⟩
theorem uq_lit (F : ByteArray) (hF : F.size ≤ 140737488351232) (beh : List UInt8) : ∀ (n : Nat) (t pre acc : List UInt8), t.length ≤ n → Lib.validD t = true → F.data.toList = pre ++ (t.flatMap qs ++ ([34] ++ beh)) →
    ∃ k, UQ F k pre.length acc (acc ++ t, pre.length + (t.flatMap qs).length + 1, 0)
  | n, [], pre, acc, h, hv, hl => by
    refine ⟨0, .inl ⟨?_, by simp⟩⟩
    unfold qAt
    rw [ext_drop, hl]
    simp [Lib.hasPrefix]
  | 0, b :: t, pre, acc, h, hv, hl => by simp at h
  | n + 1, b :: t', pre, acc, h, hv, hl => by
    obtain ⟨t, ht⟩ : ∃ t, t = b :: t' := ⟨_, rfl⟩
    have hne : t ≠ [] := by rw [ht]; simp
    rw [← ht] at h hv hl ⊢
    clear ht
    rw [valid_step t hne] at hv
    obtain ⟨c, hc⟩ : ∃ c, c = (nxt t).1 := ⟨_, rfl⟩
    obtain ⟨k, hk⟩ : ∃ k, k = (nxt t).2 := ⟨_, rfl⟩
    rw [← hk] at hv
    by_cases h0 : k = 0
    · rw [if_pos h0] at hv; cases hv
    rw [if_neg h0] at hv
    have hnt : nxt t = (c, k) := by rw [hc, hk]
    obtain ⟨hm, hkl, he⟩ := nxt_is hnt h0
    have hsp : t = encU c ++ t.drop k := by rw [he, List.take_append_drop]
    obtain ⟨L, hL⟩ : ∃ L, L = (encU c).flatMap qs := ⟨_, rfl⟩
    have hfm : t.flatMap qs = L ++ (t.drop k).flatMap qs := by conv => lhs; rw [hsp, List.flatMap_append, ← hL]
    rw [hfm] at hl ⊢
    obtain ⟨k', hk'⟩ := uq_lit F hF beh n (t.drop k) (pre ++ L) (acc ++ encU c) (by rw [List.length_drop]; omega) hv (by rw [hl]; simp [List.append_assoc])
    obtain ⟨b0, r0, hb0, hb34, hb12⟩ := lit_head hm
    rw [← hL] at hb0 hb12
    have hL1 : 1 ≤ L.length := by rw [hb0]; simp
    have hdrop : (F.extract pre.length F.size).data.toList = L ++ ((t.drop k).flatMap qs ++ ([34] ++ beh)) := by rw [ext_drop, hl]; simp [List.append_assoc]
    have hFs := size_l hl
    refine ⟨k' + 1, ?_, c, L.length, ?_, hL1, hb12, ?_, hm, ?_⟩
    · unfold qAt
      rw [hdrop, hb0]
      have hb : ((34 : UInt8) == b0) = false := beq_eq_false_iff_ne.2 (Ne.symm hb34)
      simp [Lib.hasPrefix, List.isPrefixOf, hb]
    · intro w htab
      have := part_lit (F.extract pre.length F.size) c _ hm (by rw [ByteArray.size_extract]; omega) (by rw [hdrop, hL]) w htab
      rw [← hL] at this
      exact this
    · rw [hFs]; simp only [List.length_append]; omega
    · rw [List.length_append] at hk'
      have e1 : acc ++ encU c ++ t.drop k = acc ++ t := by rw [List.append_assoc, ← hsp]
      rw [e1] at hk'
      rw [List.length_append, ← Nat.add_assoc]
      exact hk'
end Go.Proofs.YteofdpogjnojnaaGreatDoor
