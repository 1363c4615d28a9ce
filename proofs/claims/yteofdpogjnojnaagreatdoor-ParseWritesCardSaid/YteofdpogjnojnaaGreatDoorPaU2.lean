/-
  utf: part and Unquote for any text.
-/
import Derived.Test.YteofdpogjnojnaaGreatDoorPaU
namespace Go.Proofs.YteofdpogjnojnaaGreatDoor
open Go.RowKit Utf Pa
set_option linter.unusedVariables false
set_option linter.unusedSimpArgs false

set_option maxHeartbeats 800000 in
theorem part_empty (s : ByteArray) (w : World) (hs : s.size = 0) : Calls Tryz.prog 76 #[.string s] w fun e w' => e = .returned (.tuple #[.int .i32 0, .int .i64 0, .int .i64 31]) ∧ w = w' := by
  have hs : s = ⟨#[]⟩ := sz0 hs
  subst hs
  go_enter Tryz.func76, Tryz.ntmps76
  go_wp2
  go_ret3
  exact ⟨rfl, rfl⟩
set_option maxHeartbeats 800000 in
theorem part_low (s : ByteArray) (w : World) (hs : 0 < s.size) (c : UInt8) (h0 : s[0]'(by omega) = c) (h1 : (c.toNat : Int) < 32) : Calls Tryz.prog 76 #[.string s] w fun e w' => e = .returned (.tuple #[.int .i32 0, .int .i64 0, .int .i64 31]) ∧ w = w' := by
  have g2 : s.toList.isEmpty = false := by rw [ByteArray.toList_eq]; cases s; simp [ByteArray.size] at hs ⊢; exact Array.ne_empty_of_size_pos hs
  have e2 : decide ((c.toNat : Int) < 32) = true := by rw [decide_eq_true_iff]; omega
  have e3 : decide (c.toNat < 32) = true := by rw [decide_eq_true_iff]; omega
  clear h1
  go_enter Tryz.func76, Tryz.ntmps76
  go_wp2
  go_ret3
  exact ⟨rfl, rfl⟩
set_option maxHeartbeats 800000 in
theorem part_noch (s : ByteArray) (v : Int) (w : World) (ht : tabV w) (hs : 0 < s.size) (c : UInt8) (h0 : s[0]'(by omega) = c) (h1 : 32 ≤ (c.toNat : Int)) (h2 : (c.toNat : Int) ≠ 92) (hN : nxt s.data.toList = (v, 0)) :
    Calls Tryz.prog 76 #[.string s] w fun e w' => e = .returned (.tuple #[.int .i32 0, .int .i64 0, .int .i64 30]) ∧ Below w.heap.size w w' := by
  have hE := fun w (ht : tabV w) => next_any s w ht.u
  rw [hN] at hE
  have HE := Lib.hid hE
  have HT := Lib.hid ht
  have g2 : s.toList.isEmpty = false := by rw [ByteArray.toList_eq]; cases s; simp [ByteArray.size] at hs ⊢; exact Array.ne_empty_of_size_pos hs
  have e1 : ((c.toNat : Int) == 92) = false := by rw [beq_eq_false_iff_ne]; exact h2
  have e2 : decide ((c.toNat : Int) < 32) = false := by rw [decide_eq_false_iff_not]; omega
  have e3 : decide (c.toNat < 32) = false := by rw [decide_eq_false_iff_not]; omega
  clear hE hN ht h1 h2
  go_enter Tryz.func76, Tryz.ntmps76
  go_wp2_with fail
  refine (HE.out _ HT.out).mono ?_
  rintro e w1 ⟨rfl, hb⟩
  go_wp2
  go_ret3
  exact ⟨rfl, hb⟩
set_option maxHeartbeats 800000 in
theorem part_escT (s : ByteArray) (v : Int) (n : Nat) (w : World) (ht : tabV w) (hs : 0 < s.size) (h0 : s[0]'(by omega) = 92) (hn : n ≠ 0)
    (hE : ∀ w, tabV w → Calls Tryz.prog 81 #[.string s] w fun e w' => e = .returned (.tuple #[.int .i32 v, .int .i64 n]) ∧ Below w.heap.size w w') :
    Calls Tryz.prog 76 #[.string s] w fun e w' => e = .returned (.tuple #[.int .i32 v, .int .i64 n, .int .i64 0]) ∧ Below w.heap.size w w' := by
  have HE := Lib.hid hE
  have HT := Lib.hid ht
  have f0 : ((n : Int) == 0) = false := by rw [beq_eq_false_iff_ne]; omega
  have g2 : s.toList.isEmpty = false := by rw [ByteArray.toList_eq]; cases s; simp [ByteArray.size] at hs ⊢; exact Array.ne_empty_of_size_pos hs
  clear hE hn ht
  go_enter Tryz.func76, Tryz.ntmps76
  go_wp2_with fail
  refine (HE.out _ HT.out).mono ?_
  rintro e w1 ⟨rfl, hb⟩
  go_wp2
  go_ret3
  exact ⟨rfl, hb⟩
set_option maxHeartbeats 800000 in
theorem part_badT (s : ByteArray) (v : Int) (w : World) (ht : tabV w) (hs : 0 < s.size) (h0 : s[0]'(by omega) = 92)
    (hE : ∀ w, tabV w → Calls Tryz.prog 81 #[.string s] w fun e w' => e = .returned (.tuple #[.int .i32 v, .int .i64 ((0 : Nat) : Int)]) ∧ Below w.heap.size w w') :
    Calls Tryz.prog 76 #[.string s] w fun e w' => e = .returned (.tuple #[.int .i32 0, .int .i64 0, .int .i64 31]) ∧ Below w.heap.size w w' := by
  have hE' : ∀ w, tabV w → Calls Tryz.prog 81 #[.string s] w fun e w' => e = .returned (.tuple #[.int .i32 v, .int .i64 0]) ∧ Below w.heap.size w w' := hE
  have HE := Lib.hid hE'
  have HT := Lib.hid ht
  have g2 : s.toList.isEmpty = false := by rw [ByteArray.toList_eq]; cases s; simp [ByteArray.size] at hs ⊢; exact Array.ne_empty_of_size_pos hs
  clear hE hE' ht
  go_enter Tryz.func76, Tryz.ntmps76
  go_wp2_with fail
  refine (HE.out _ HT.out).mono ?_
  rintro e w1 ⟨rfl, hb⟩
  go_wp2
  go_ret3
  exact ⟨rfl, hb⟩
/-- part -/
theorem part_any (s : ByteArray) (w : World) (ht : tabV w) (hs : s.size ≤ 9223372036854775807) (hF : FourAt s) (hG : FourAt (s.extract 6 s.size)) :
    Calls Tryz.prog 76 #[.string s] w fun e w' => e = .returned (.tuple #[.int .i32 (partP s.data.toList).1, .int .i64 ((partP s.data.toList).2.1 : Nat), .int .i64 (partP s.data.toList).2.2]) ∧ Below w.heap.size w w' := by
  have hsz : s.size = s.data.toList.length := rfl
  rcases Nat.eq_zero_or_pos s.size with h0 | hpos
  · have e : partP s.data.toList = (0, 0, 31) := by
      have : s.data.toList = [] := List.eq_nil_of_length_eq_zero (by omega)
      rw [this]; rfl
    rw [e]
    refine (part_empty s w h0).mono ?_
    rintro e w' ⟨rfl, rfl⟩
    exact ⟨rfl, Below.refl _ _⟩
  · obtain ⟨c, r, hl⟩ : ∃ c r, s.data.toList = c :: r := by
      match hx : s.data.toList with
      | [] => rw [hx] at hsz; simp only [List.length_cons, List.length_nil] at hsz; omega
      | c :: r => exact ⟨c, r, rfl⟩
    have g0 := at_l hl 0 (by omega) c rfl
    have hp : partP s.data.toList = if c.toNat < 32 then (0, 0, 31) else if c = 92 then (if (escP s.data.toList).2 = 0 then (0, 0, 31) else ((escP s.data.toList).1, (escP s.data.toList).2, 0)) else if (nxt s.data.toList).2 = 0 then (0, 0, 30) else ((nxt s.data.toList).1, (nxt s.data.toList).2, 0) := by
      rw [hl]; rfl
    by_cases h1 : c.toNat < 32
    · rw [if_pos h1] at hp
      rw [hp]
      refine (part_low s w hpos c g0 (by omega)).mono ?_
      rintro e w' ⟨rfl, rfl⟩
      exact ⟨rfl, Below.refl _ _⟩
    rw [if_neg h1] at hp
    by_cases h2 : c = 92
    · subst h2
      rw [if_pos rfl] at hp
      by_cases h3 : (escP s.data.toList).2 = 0
      · rw [if_pos h3] at hp
        rw [hp]
        refine part_badT s (escP s.data.toList).1 w ht hpos g0 (fun w hw => ?_)
        have := escape_any s w hw hs hF hG
        rwa [h3] at this
      · rw [if_neg h3] at hp
        rw [hp]
        exact part_escT s _ _ w ht hpos g0 h3 (fun w hw => escape_any s w hw hs hF hG)
    rw [if_neg h2] at hp
    have hne : (c.toNat : Int) ≠ 92 := fun q => h2 (UInt8.toNat_inj.1 (by have : (92 : UInt8).toNat = 92 := rfl; omega))
    by_cases h3 : (nxt s.data.toList).2 = 0
    · rw [if_pos h3] at hp
      rw [hp]
      exact part_noch s (nxt s.data.toList).1 w ht hpos c g0 (by omega) hne (by rw [← h3])
    · rw [if_neg h3] at hp
      rw [hp]
      exact part_char s _ _ w ht.u hpos c g0 (by omega) hne h3 rfl
/-- what part says at a place: a character -/
def PartSV (s : ByteArray) (a : Nat) (v : Int) (n : Nat) : Prop :=
  ∀ w, tabV w → Calls Tryz.prog 76 #[.string (s.extract a s.size)] w fun e w' => e = .returned (.tuple #[.int .i32 v, .int .i64 n, .int .i64 0]) ∧ Below w.heap.size w w'
/-- what part says at a place: a fault -/
def PartFV (s : ByteArray) (a : Nat) (er : Int) : Prop :=
  ∀ w, tabV w → Calls Tryz.prog 76 #[.string (s.extract a s.size)] w fun e w' => e = .returned (.tuple #[.int .i32 0, .int .i64 0, .int .i64 er]) ∧ Below w.heap.size w w'
/-- the steps from a place on -/
def UQV (s : ByteArray) : Nat → Nat → List UInt8 → (List UInt8 × Nat × Int) → Prop
  | 0, a, acc, r => (qAt s a = true ∧ r = (acc, a + 1, 0)) ∨ (qAt s a = false ∧ ∃ er : Int, er ≠ 0 ∧ PartFV s a er ∧ r = ([], a, er))
  | k + 1, a, acc, r => qAt s a = false ∧ ∃ v n, PartSV s a v n ∧ 1 ≤ n ∧ n ≤ 12 ∧ a + n ≤ s.size ∧ mayU v = true ∧ UQV s k (a + n) (acc ++ encU v) r
set_option maxRecDepth 100000 in
set_option maxHeartbeats 2000000 in
theorem unquote_anyV (s : ByteArray) (k0 : Nat) (txt : List UInt8) (at0 : Nat) (er : Int) (w : World) (ht : tabV w) (hs : s.size ≤ 1000000) (h1 : 1 ≤ s.size) (hp : qAt s 0 = true) (hu : UQV s k0 1 [] (txt, at0, er)) :
    Calls Tryz.prog 61 #[.string s] w fun e w' => e = .returned (.tuple #[.string ⟨txt.toArray⟩, .int .i64 at0, .int .i64 er]) ∧ Below w.heap.size w w' := by
  have HT := Lib.hid ht
  have HU := Lib.hid hu
  have hp0 : ∀ w, Calls Tryz.prog 57 #[.string s, .string ⟨#[34]⟩] w fun e w' => e = .returned (.bool true) ∧ w = w' := by
    intro w
    refine (Tryz.strings_HasPrefix s _ w).mono fun _ _ ⟨h1, h2⟩ => ⟨?_, h2.symm⟩
    rw [h1]
    unfold qAt at hp
    rw [show s.extract 0 s.size = s from ByteArray.ext (Array.toList_inj.1 (ext_drop s 0))] at hp
    rw [hp]
  have HP := Lib.hid hp0
  clear ht hu hp0 hp
  go_enter Tryz.func61, Tryz.ntmps61
  go_wp2_with fail
  refine (HP.out _).mono ?_
  rintro e w' ⟨rfl, rfl⟩
  go_wp2
  go_loopw [6] (fun x wr => ∃ (k a : Nat) (acc : List UInt8), x = .int .i64 a ∧ a ≤ s.size ∧ UQV s k a acc (txt, at0, er) ∧ acc.length ≤ 4 * a ∧ Lib.IsBuilder 94 5 w.heap.size w.heap.size (Lib.byteCells acc) wr ∧ Below w.heap.size w wr) (fun x _ => s.size + 1 - (intOf x).toNat)
  case atStart => exact ⟨k0, 1, [], rfl, h1, HU.out, by simp, newBuilder w _ (Nat.le_refl _), (Below.refl _ _).alloc (Nat.le_refl _) _⟩
  case round =>
    obtain ⟨k, a, acc, rfl, ha, hu, hacc, hbu, hbw⟩ := hrel
    have HB := Lib.hid hbw
    have HBU := Lib.hid hbu
    have HTR := Lib.hid (HT.out.below hbw)
    clear hbw hbu
    have haz : (a : Int) ≤ s.size := by omega
    cases k with
    | zero =>
      rcases hu with ⟨hq, hr⟩ | ⟨hq, er', hne, hF, hr⟩
      · have HR := Lib.hid hr
        clear hr
        go_wp2_with fail
        refine (hasP s a _).mono ?_
        rintro e w' ⟨rfl, rfl⟩
        go_wp2_with fail
        refine (Tryz.Builder_String_any w.heap.size w.heap.size _ _ HBU.out HB.out.size).mono ?_
        rintro e w1 ⟨rfl, hb1⟩
        go_wp2
        go_ret3
        have h := HR.out
        simp only [Prod.mk.injEq] at h
        exact ⟨by rw [h.1, h.2.1, h.2.2]; rfl, HB.out.trans hb1⟩
      · have HR := Lib.hid hr
        have HF := Lib.hid hF
        have f0 : (er' != 0) = true := by simpa using hne
        clear hr hF hne
        go_wp2_with fail
        refine (hasP s a _).mono ?_
        rintro e w' ⟨rfl, rfl⟩
        go_wp2_with fail
        refine (HF.out _ HTR.out).mono ?_
        rintro e w1 ⟨rfl, hb1⟩
        go_wp2
        go_ret3
        have h := HR.out
        simp only [Prod.mk.injEq] at h
        exact ⟨by rw [h.1, h.2.1, h.2.2]; rfl, HB.out.trans (hb1.mono HB.out.size)⟩
    | succ k =>
      obtain ⟨hq, v, n, hS, hn1, hn12, han, hm, hu⟩ := hu
      have HS := Lib.hid hS
      have HU2 := Lib.hid hu
      have HM := Lib.hid hm
      have hel := enc_len v hm
      clear hS hu hm
      go_wp2_with fail
      refine (hasP s a _).mono ?_
      rintro e w' ⟨rfl, rfl⟩
      go_wp2_with fail
      refine (HS.out _ HTR.out).mono ?_
      rintro e w1 ⟨rfl, hb1⟩
      have HB1 := Lib.hid (HB.out.trans (hb1.mono HB.out.size))
      have HBU1 := Lib.hid (isBuilder_onw HBU.out hb1)
      clear hb1
      go_wp2_with fail
      refine (writeRune_any w.heap.size w.heap.size acc v _ HM.out HBU1.out (by omega) HB1.out.size).mono ?_
      rintro e w2 ⟨nn, rfl, hbu2, hb2⟩
      have HBU2 := Lib.hid hbu2
      have HB2 := Lib.hid (HB1.out.trans hb2)
      clear hbu2 hb2
      go_wp2
      go_roundw
      case rel => exact ⟨k, a + n, acc ++ encU v, by go_num, han, HU2.out, by rw [List.length_append]; omega, .inr HBU2.out, HB2.out⟩
      case measure => simp [intOf]; omega
/-- the steps of Unquote, as the plain law takes them -/
theorem uq_of (s : ByteArray) (hs : s.size ≤ 1000000) (hF : FourOk s) : ∀ (f a : Nat) (acc : List UInt8), a ≤ s.size → s.size - a ≤ f → ∃ k, UQV s k a acc (unqG f (s.data.toList.drop a) a acc)
  | f, a, acc, ha, hf => by
    have hd : (s.extract a s.size).data.toList = s.data.toList.drop a := ext_drop s a
    have hsz : s.size = s.data.toList.length := rfl
    have hpa : ∀ w, tabV w → Calls Tryz.prog 76 #[.string (s.extract a s.size)] w fun e w' => e = .returned (.tuple #[.int .i32 (partP (s.data.toList.drop a)).1, .int .i64 ((partP (s.data.toList.drop a)).2.1 : Nat), .int .i64 (partP (s.data.toList.drop a)).2.2]) ∧ Below w.heap.size w w' := fun w hw => by
      have := part_any (s.extract a s.size) w hw (by rw [ByteArray.size_extract]; omega) (hF a) ((hF.ext a) 6)
      rwa [hd] at this
    have hqa : qAt s a = decide ((s.data.toList.drop a).head? = some 34) := by
      unfold qAt
      rw [hd]
      cases hx : s.data.toList.drop a with
      | nil => rfl
      | cons c r =>
        simp only [Lib.hasPrefix, List.isPrefixOf, List.head?_cons, Option.some.injEq, Bool.and_true]
        by_cases hc : c = 34
        · subst hc; rfl
        · have : ((34 : UInt8) == c) = false := beq_eq_false_iff_ne.2 (Ne.symm hc)
          rw [this, decide_eq_false hc]
    by_cases hq : (s.data.toList.drop a).head? = some 34
    · have hf1 : ∃ g, f = g + 1 := by
        cases f with
        | zero =>
          have : s.data.toList.drop a = [] := List.drop_eq_nil_of_le (by omega)
          rw [this] at hq; cases hq
        | succ g => exact ⟨g, rfl⟩
      obtain ⟨g, rfl⟩ := hf1
      refine ⟨0, .inl ⟨by rw [hqa]; exact decide_eq_true hq, ?_⟩⟩
      unfold unqG
      rw [if_pos hq]
    · have hqf : qAt s a = false := by rw [hqa]; exact decide_eq_false hq
      by_cases he : (partP (s.data.toList.drop a)).2.2 ≠ 0
      · have hz : (partP (s.data.toList.drop a)).1 = 0 ∧ (partP (s.data.toList.drop a)).2.1 = 0 := by
          unfold partP at he ⊢
          split at he
          · exact ⟨rfl, rfl⟩
          · split at he
            · rename_i q; rw [if_pos q]; exact ⟨rfl, rfl⟩
            · rename_i q
              rw [if_neg q]
              split at he
              · rename_i q2
                rw [if_pos q2]
                split at he
                · rename_i q3; rw [if_pos q3]; exact ⟨rfl, rfl⟩
                · simp at he
              · rename_i q2
                rw [if_neg q2]
                split at he
                · rename_i q3; rw [if_pos q3]; exact ⟨rfl, rfl⟩
                · simp at he
        refine ⟨0, .inr ⟨hqf, (partP (s.data.toList.drop a)).2.2, he, fun w hw => ?_, ?_⟩⟩
        · have := hpa w hw
          rwa [hz.1, hz.2] at this
        · cases f with
          | zero =>
            have : s.data.toList.drop a = [] := List.drop_eq_nil_of_le (by omega)
            rw [this]; rfl
          | succ g =>
            unfold unqG
            rw [if_neg hq, if_pos he]
      · have he0 := Classical.not_not.1 he
        obtain ⟨p1, p2, p3, p4⟩ := part_ok he0
        rw [List.length_drop] at p2
        obtain ⟨g, rfl⟩ : ∃ g, f = g + 1 := ⟨f - 1, by omega⟩
        obtain ⟨k, hk⟩ := uq_of s hs hF g (a + (partP (s.data.toList.drop a)).2.1) (acc ++ encU (partP (s.data.toList.drop a)).1) (by omega) (by omega)
        refine ⟨k + 1, hqf, (partP (s.data.toList.drop a)).1, (partP (s.data.toList.drop a)).2.1, fun w hw => ?_, p1, p3, by omega, p4, ?_⟩
        · have := hpa w hw
          rwa [he0] at this
        · have e : unqG (g + 1) (s.data.toList.drop a) a acc = unqG g ((s.data.toList.drop a).drop (partP (s.data.toList.drop a)).2.1) (a + (partP (s.data.toList.drop a)).2.1) (acc ++ encU (partP (s.data.toList.drop a)).1) := by
            conv => lhs; unfold unqG
            rw [if_neg hq, if_neg he]
          rw [e, List.drop_drop]
          exact hk
set_option maxHeartbeats 800000 in
theorem unquote_none (s : ByteArray) (w : World) (hp : qAt s 0 = false) : Calls Tryz.prog 61 #[.string s] w fun e w' => e = .returned (.tuple #[.string ⟨#[]⟩, .int .i64 0, .int .i64 31]) ∧ w = w' := by
  have hp0 : ∀ w, Calls Tryz.prog 57 #[.string s, .string ⟨#[34]⟩] w fun e w' => e = .returned (.bool false) ∧ w = w' := by
    intro w
    refine (Tryz.strings_HasPrefix s _ w).mono fun _ _ ⟨h1, h2⟩ => ⟨?_, h2.symm⟩
    rw [h1]
    unfold qAt at hp
    rw [show s.extract 0 s.size = s from ext_zero s] at hp
    rw [hp]
  have HP := Lib.hid hp0
  clear hp0 hp
  go_enter Tryz.func61, Tryz.ntmps61
  go_wp2_with fail
  refine (HP.out _).mono ?_
  rintro e w' ⟨rfl, rfl⟩
  go_wp2
  go_ret3
  exact ⟨rfl, rfl⟩
/-- Unquote -/
theorem unquote_gen (s : ByteArray) (w : World) (ht : tabV w) (hs : s.size ≤ 1000000) (hF : FourOk s) :
    Calls Tryz.prog 61 #[.string s] w fun e w' => e = .returned (.tuple #[.string ⟨(unq s.data.toList).1.toArray⟩, .int .i64 ((unq s.data.toList).2.1 : Nat), .int .i64 (unq s.data.toList).2.2]) ∧ Below w.heap.size w w' := by
  have hsz : s.size = s.data.toList.length := rfl
  have hq0 : qAt s 0 = decide (s.data.toList.head? = some 34) := by
    unfold qAt
    rw [ext_drop, List.drop_zero]
    cases hx : s.data.toList with
    | nil => rfl
    | cons c r =>
      simp only [Lib.hasPrefix, List.isPrefixOf, List.head?_cons, Option.some.injEq, Bool.and_true]
      by_cases hc : c = 34
      · subst hc; rfl
      · have : ((34 : UInt8) == c) = false := beq_eq_false_iff_ne.2 (Ne.symm hc)
        rw [this, decide_eq_false hc]
  by_cases hq : s.data.toList.head? = some 34
  · have h1 : 1 ≤ s.size := by
      rw [hsz]
      cases hx : s.data.toList with
      | nil => rw [hx] at hq; cases hq
      | cons c r => simp
    have e : unq s.data.toList = unqG s.data.toList.length (s.data.toList.drop 1) 1 [] := by unfold unq; rw [if_pos hq]
    obtain ⟨k, hk⟩ := uq_of s hs hF s.data.toList.length 1 [] h1 (by omega)
    rw [← e] at hk
    exact unquote_anyV s k _ _ _ w ht hs h1 (by rw [hq0]; exact decide_eq_true hq) hk
  · have e : unq s.data.toList = ([], 0, 31) := by unfold unq; rw [if_neg hq]
    rw [e]
    refine (unquote_none s w (by rw [hq0]; exact decide_eq_false hq)).mono ?_
    rintro e w' ⟨rfl, rfl⟩
    exact ⟨rfl, Below.refl _ _⟩
end Go.Proofs.YteofdpogjnojnaaGreatDoor
