/-
  UTF-8: which bytes are a character's; plain facts, no program in sight.
-/
import Derived.Shelf.Unicode.DecodeSlow
import Derived.Lib.RuneBytes
import Derived.Lib.ValidU
namespace Go.Proofs.YteofdpogjnojnaaGreatDoor.Utf
open Go

def g (l : List UInt8) (k : Nat) : Nat := (l.getD k 0).toNat
theorem g_lt (l : List UInt8) (k : Nat) : g l k < 256 := UInt8.toNat_lt _
theorem get_g (s : ByteArray) (k : Nat) : (s.get! k).toNat = g s.data.toList k := by
  cases s with
  | mk a =>
    show (a[k]!).toNat = _
    unfold g
    rw [List.getD_eq_getElem?_getD, getElem!_def, Array.getElem?_toList]
    cases a[k]? <;> rfl
/-- is there a character of a code -/
def mayU (c : Int) : Bool := decide (0 ≤ c ∧ c ≤ 1114111 ∧ (c < 55296 ∨ 57343 < c))
/-- a character's bytes -/
def encU (c : Int) : List UInt8 := Lib.encodeRune c
def enc1 (c : Int) : List UInt8 := [c.toNat.toUInt8]
theorem toNat_toUInt8 {x : Int} (h0 : 0 ≤ x) (h1 : x < 256) : (x.toNat.toUInt8.toNat : Int) = x := by
  rw [Nat.toUInt8, UInt8.toNat_ofNat']
  omega
/-- the code that the first n bytes say -/
def codeU (l : List UInt8) (n : Nat) : Int :=
  if n = 1 then g l 0 else if n = 2 then 64 * ((g l 0 : Int) - 192) + g l 1 - 128
  else if n = 3 then 64 * (64 * ((g l 0 : Int) - 224) + g l 1 - 128) + g l 2 - 128
  else 64 * (64 * (64 * ((g l 0 : Int) - 240) + g l 1 - 128) + g l 2 - 128) + g l 3 - 128
/-- do the first n bytes say a character -/
def isU (l : List UInt8) (n : Nat) : Prop := n ≤ l.length ∧ mayU (codeU l n) = true ∧ encU (codeU l n) = l.take n
/-- what the decoder says of a text that is not empty -/
def decL (l : List UInt8) : Nat × Nat :=
  if g l 0 < 128 then (g l 0, 1)
  else if g l 0 / 32 = 6 ∧ 1 < l.length ∧ g l 1 / 64 = 2 then
    if 128 ≤ g l 0 % 32 * 64 + g l 1 % 64 then (g l 0 % 32 * 64 + g l 1 % 64, 2) else (65533, 1)
  else if g l 0 / 16 = 14 ∧ (1 < l.length ∧ g l 1 / 64 = 2) ∧ (2 < l.length ∧ g l 2 / 64 = 2) then
    if 2048 ≤ g l 0 % 16 * 4096 + g l 1 % 64 * 64 + g l 2 % 64 ∧ mayU ((g l 0 % 16 * 4096 + g l 1 % 64 * 64 + g l 2 % 64 : Nat) : Int) = true then (g l 0 % 16 * 4096 + g l 1 % 64 * 64 + g l 2 % 64, 3) else (65533, 1)
  else if g l 0 / 8 = 30 ∧ (1 < l.length ∧ g l 1 / 64 = 2) ∧ (2 < l.length ∧ g l 2 / 64 = 2) ∧ (3 < l.length ∧ g l 3 / 64 = 2) then
    if 65536 ≤ g l 0 % 8 * 262144 + g l 1 % 64 * 4096 + g l 2 % 64 * 64 + g l 3 % 64 ∧ mayU ((g l 0 % 8 * 262144 + g l 1 % 64 * 4096 + g l 2 % 64 * 64 + g l 3 % 64 : Nat) : Int) = true then (g l 0 % 8 * 262144 + g l 1 % 64 * 4096 + g l 2 % 64 * 64 + g l 3 % 64, 4) else (65533, 1)
  else (65533, 1)
theorem valid_may (c : Nat) : Utf8.valid c = mayU (c : Int) := by
  unfold Utf8.valid mayU
  rw [Bool.eq_iff_iff]
  simp
  omega
theorem dec_eq (s : ByteArray) (h : s.size ≠ 0) : Lib.decodeGo s = decL s.data.toList := by
  have hsz : s.size = s.data.toList.length := by cases s; simp [ByteArray.size]
  unfold Lib.decodeGo
  rw [if_neg h]
  unfold Utf8.decode decL
  simp only [Nat.zero_add, get_g, hsz, valid_may, Bool.and_eq_true, decide_eq_true_iff, beq_iff_eq, ge_iff_le, and_assoc, Utf8.runeError]
theorem dec_nil (s : ByteArray) (h : s.size = 0) : Lib.decodeGo s = (65533, 0) := by
  unfold Lib.decodeGo
  rw [if_pos h]
/-- what the first character is, and how many bytes it has; -1, 0: there is none -/
def nxt (l : List UInt8) : Int × Nat := if l = [] then (-1, 0) else if (decL l).1 = 65533 ∧ (decL l).2 = 1 then (-1, 0) else (((decL l).1 : Int), (decL l).2)

theorem enc_one {c : Int} (h0 : 0 ≤ c) (h1 : c ≤ 127) : encU c = [c.toNat.toUInt8] := by
  unfold encU Lib.encodeRune; rw [Lib.encodeRuneZ_one h0 h1]; rfl
theorem enc_two {c : Int} (h0 : 128 ≤ c) (h1 : c ≤ 2047) : encU c = [(192 + c / 64).toNat.toUInt8, (128 + c % 64).toNat.toUInt8] := by
  unfold encU Lib.encodeRune; rw [Lib.encodeRuneZ_two h0 h1]; rfl
theorem enc_three {c : Int} (h : (2048 ≤ c ∧ c < 55296) ∨ (57343 < c ∧ c ≤ 65535)) : encU c = [(224 + c / 4096).toNat.toUInt8, (128 + c / 64 % 64).toNat.toUInt8, (128 + c % 64).toNat.toUInt8] := by
  unfold encU Lib.encodeRune; rw [Lib.encodeRuneZ_three h]; rfl
theorem enc_four {c : Int} (h0 : 65536 ≤ c) (h1 : c ≤ 1114111) : encU c = [(240 + c / 262144).toNat.toUInt8, (128 + c / 4096 % 64).toNat.toUInt8, (128 + c / 64 % 64).toNat.toUInt8, (128 + c % 64).toNat.toUInt8] := by
  unfold encU Lib.encodeRune; rw [Lib.encodeRuneZ_four h0 h1]; rfl
theorem may_iff {c : Int} : mayU c = true ↔ 0 ≤ c ∧ c ≤ 1114111 ∧ (c < 55296 ∨ 57343 < c) := by unfold mayU; simp
theorem byte_eq {x : Int} {b : UInt8} (h0 : 0 ≤ x) (h1 : x < 256) : x.toNat.toUInt8 = b ↔ x = (b.toNat : Int) := by
  rw [← UInt8.toNat_inj]
  have := toNat_toUInt8 h0 h1
  omega
/-- how a text is a character's bytes, by how many they are -/
theorem enc_is {c : Int} {l : List UInt8} {n : Nat} (hm : mayU c = true) (hn : n ≤ l.length) : encU c = l.take n ↔
    (n = 1 ∧ c = g l 0 ∧ g l 0 < 128) ∨ (n = 2 ∧ 128 ≤ c ∧ c ≤ 2047 ∧ 192 + c / 64 = g l 0 ∧ 128 + c % 64 = g l 1) ∨ (n = 3 ∧ 2048 ≤ c ∧ c ≤ 65535 ∧ 224 + c / 4096 = g l 0 ∧ 128 + c / 64 % 64 = g l 1 ∧ 128 + c % 64 = g l 2) ∨
    (n = 4 ∧ 65536 ≤ c ∧ 240 + c / 262144 = g l 0 ∧ 128 + c / 4096 % 64 = g l 1 ∧ 128 + c / 64 % 64 = g l 2 ∧ 128 + c % 64 = g l 3) := by
  rw [may_iff] at hm
  have key : ∀ (m : Nat) (xs : List UInt8), xs.length = m → n ≠ m → xs ≠ l.take n := by
    intro m xs hx hnm e
    rw [e, List.length_take] at hx
    omega
  have gk : ∀ k, k < l.length → ∀ (h : k < l.length), (l[k]'h).toNat = g l k := by
    intro k _ h
    unfold g
    rw [List.getD_eq_getElem?_getD, List.getElem?_eq_getElem h]
    rfl
  rcases (by omega : (0 ≤ c ∧ c ≤ 127) ∨ (128 ≤ c ∧ c ≤ 2047) ∨ ((2048 ≤ c ∧ c < 55296) ∨ (57343 < c ∧ c ≤ 65535)) ∨ (65536 ≤ c ∧ c ≤ 1114111)) with h | h | h | h
  · rw [enc_one h.1 h.2]
    by_cases e : n = 1
    · subst e
      match l, hn with
      | a :: t, _ => 
        simp only [List.take_succ_cons, List.take_zero, List.cons.injEq, and_true]
        rw [byte_eq (by omega) (by omega)]
        have h0 : g (a :: t) 0 = a.toNat := rfl
        rw [h0]
        constructor
        · intro e; exact .inl ⟨trivial, e, by omega⟩
        · rintro (⟨_, e, _⟩ | ⟨e, _⟩ | ⟨e, _⟩ | ⟨e, _⟩)
          · exact e
          · omega
          · omega
          · omega
    · exact ⟨fun x => absurd x (key 1 _ rfl e), fun x => by omega⟩
  · rw [enc_two h.1 h.2]
    by_cases e : n = 2
    · subst e
      match l, hn with
      | a :: b :: t, _ =>
        simp only [List.take_succ_cons, List.take_zero, List.cons.injEq, and_true]
        rw [byte_eq (by omega) (by omega), byte_eq (by omega) (by omega)]
        have h0 : g (a :: b :: t) 0 = a.toNat := rfl
        have h1 : g (a :: b :: t) 1 = b.toNat := rfl
        rw [h0, h1]
        constructor
        · rintro ⟨e1, e2⟩; exact .inr (.inl ⟨trivial, h.1, h.2, e1, e2⟩)
        · rintro (⟨e, _⟩ | ⟨_, _, _, e1, e2⟩ | ⟨e, _⟩ | ⟨e, _⟩)
          · omega
          · exact ⟨e1, e2⟩
          · omega
          · omega
    · exact ⟨fun x => absurd x (key 2 _ rfl e), fun x => by omega⟩
  · rw [enc_three h]
    by_cases e : n = 3
    · subst e
      match l, hn with
      | a :: b :: d :: t, _ =>
        simp only [List.take_succ_cons, List.take_zero, List.cons.injEq, and_true]
        rw [byte_eq (by omega) (by omega), byte_eq (by omega) (by omega), byte_eq (by omega) (by omega)]
        have h0 : g (a :: b :: d :: t) 0 = a.toNat := rfl
        have h1 : g (a :: b :: d :: t) 1 = b.toNat := rfl
        have h2 : g (a :: b :: d :: t) 2 = d.toNat := rfl
        rw [h0, h1, h2]
        constructor
        · rintro ⟨e1, e2, e3⟩; exact .inr (.inr (.inl ⟨trivial, by omega, by omega, e1, e2, e3⟩))
        · rintro (⟨e, _⟩ | ⟨e, _⟩ | ⟨_, _, _, e1, e2, e3⟩ | ⟨e, _⟩)
          · omega
          · omega
          · exact ⟨e1, e2, e3⟩
          · omega
    · exact ⟨fun x => absurd x (key 3 _ rfl e), fun x => by omega⟩
  · rw [enc_four h.1 h.2]
    by_cases e : n = 4
    · subst e
      match l, hn with
      | a :: b :: d :: f :: t, _ =>
        simp only [List.take_succ_cons, List.take_zero, List.cons.injEq, and_true]
        rw [byte_eq (by omega) (by omega), byte_eq (by omega) (by omega), byte_eq (by omega) (by omega), byte_eq (by omega) (by omega)]
        have h0 : g (a :: b :: d :: f :: t) 0 = a.toNat := rfl
        have h1 : g (a :: b :: d :: f :: t) 1 = b.toNat := rfl
        have h2 : g (a :: b :: d :: f :: t) 2 = d.toNat := rfl
        have h3 : g (a :: b :: d :: f :: t) 3 = f.toNat := rfl
        rw [h0, h1, h2, h3]
        constructor
        · rintro ⟨e1, e2, e3, e4⟩; exact .inr (.inr (.inr ⟨trivial, by omega, e1, e2, e3, e4⟩))
        · rintro (⟨e, _⟩ | ⟨e, _⟩ | ⟨e, _⟩ | ⟨_, _, e1, e2, e3, e4⟩)
          · omega
          · omega
          · omega
          · exact ⟨e1, e2, e3, e4⟩
    · exact ⟨fun x => absurd x (key 4 _ rfl e), fun x => by omega⟩
/-- a text that begins with a character's bytes: that is what is decoded -/
theorem nxt_enc {c : Int} {l : List UInt8} {n : Nat} (hm : mayU c = true) (hn : n ≤ l.length) (he : encU c = l.take n) : nxt l = (c, n) ∧ codeU l n = c ∧ 1 ≤ n ∧ n ≤ 4 := by
  rw [enc_is hm hn] at he
  have hm' := may_iff.1 hm
  have hl : l ≠ [] := by rintro rfl; simp at hn; omega
  have c0 := g_lt l 0; have c1 := g_lt l 1; have c2 := g_lt l 2; have c3 := g_lt l 3
  have fin : ∀ k : Nat, (k : Int) = c → decL l = (k, n) → ¬ (k = 65533 ∧ n = 1) → nxt l = (c, n) := by
    intro k hk hd hx
    unfold nxt
    rw [if_neg hl, hd, if_neg hx, hk]
  rcases he with ⟨rfl, h1, h2⟩ | ⟨rfl, h1, h2, h3, h4⟩ | ⟨rfl, h1, h2, h3, h4, h5⟩ | ⟨rfl, h1, h2, h3, h4, h5⟩
  · refine ⟨fin (g l 0) (by omega) ?_ (by omega), by unfold codeU; rw [if_pos rfl]; omega, by omega, by omega⟩
    unfold decL
    rw [if_pos h2]
  · refine ⟨fin (g l 0 % 32 * 64 + g l 1 % 64) (by omega) ?_ (by omega), by unfold codeU; rw [if_neg (by omega), if_pos rfl]; omega, by omega, by omega⟩
    unfold decL
    rw [if_neg (by omega), if_pos (by omega), if_pos (by omega)]
  · have e : ((g l 0 % 16 * 4096 + g l 1 % 64 * 64 + g l 2 % 64 : Nat) : Int) = c := by omega
    refine ⟨fin (g l 0 % 16 * 4096 + g l 1 % 64 * 64 + g l 2 % 64) e ?_ (by omega), by unfold codeU; rw [if_neg (by omega), if_neg (by omega), if_pos rfl]; omega, by omega, by omega⟩
    unfold decL
    rw [if_neg (by omega), if_neg (by omega), if_pos (by omega), if_pos ⟨by omega, by rw [e]; exact hm⟩]
  · have e : ((g l 0 % 8 * 262144 + g l 1 % 64 * 4096 + g l 2 % 64 * 64 + g l 3 % 64 : Nat) : Int) = c := by omega
    refine ⟨fin (g l 0 % 8 * 262144 + g l 1 % 64 * 4096 + g l 2 % 64 * 64 + g l 3 % 64) e ?_ (by omega), by unfold codeU; rw [if_neg (by omega), if_neg (by omega), if_neg (by omega)]; omega, by omega, by omega⟩
    unfold decL
    rw [if_neg (by omega), if_neg (by omega), if_neg (by omega), if_pos (by omega), if_pos ⟨by omega, by rw [e]; exact hm⟩]
/-- what is decoded is a character, and its bytes stand there -/
theorem nxt_is {l : List UInt8} {c : Int} {n : Nat} (h : nxt l = (c, n)) (hn : n ≠ 0) : mayU c = true ∧ n ≤ l.length ∧ encU c = l.take n := by
  have c0 := g_lt l 0; have c1 := g_lt l 1; have c2 := g_lt l 2; have c3 := g_lt l 3
  unfold nxt at h
  by_cases hl : l = []
  · rw [if_pos hl] at h; injection h with _ h; omega
  · rw [if_neg hl] at h
    have h0 : 0 < l.length := List.length_pos_iff.2 hl
    by_cases hx : (decL l).1 = 65533 ∧ (decL l).2 = 1
    · rw [if_pos hx] at h; injection h with _ h; omega
    · rw [if_neg hx] at h
      injection h with ha hb
      have done : ∀ m, mayU c = true → n = m → m ≤ l.length → ((m = 1 ∧ c = g l 0 ∧ g l 0 < 128) ∨ (m = 2 ∧ 128 ≤ c ∧ c ≤ 2047 ∧ 192 + c / 64 = g l 0 ∧ 128 + c % 64 = g l 1) ∨ (m = 3 ∧ 2048 ≤ c ∧ c ≤ 65535 ∧ 224 + c / 4096 = g l 0 ∧ 128 + c / 64 % 64 = g l 1 ∧ 128 + c % 64 = g l 2) ∨
          (m = 4 ∧ 65536 ≤ c ∧ 240 + c / 262144 = g l 0 ∧ 128 + c / 4096 % 64 = g l 1 ∧ 128 + c / 64 % 64 = g l 2 ∧ 128 + c % 64 = g l 3)) → mayU c = true ∧ n ≤ l.length ∧ encU c = l.take n := by
        intro m h1 h2 h3 h4
        subst h2
        exact ⟨h1, h3, (enc_is h1 h3).2 h4⟩
      unfold decL at ha hb hx
      by_cases k1 : g l 0 < 128
      · simp only [if_pos k1] at ha hb
        exact done 1 (may_iff.2 (by omega)) (by omega) (by omega) (.inl (by omega))
      · simp only [if_neg k1] at ha hb hx
        by_cases k2 : g l 0 / 32 = 6 ∧ 1 < l.length ∧ g l 1 / 64 = 2
        · simp only [if_pos k2] at ha hb hx
          by_cases k3 : 128 ≤ g l 0 % 32 * 64 + g l 1 % 64
          · simp only [if_pos k3] at ha hb
            exact done 2 (may_iff.2 (by omega)) (by omega) (by omega) (.inr (.inl (by omega)))
          · simp [if_neg k3] at hx
        · simp only [if_neg k2] at ha hb hx
          by_cases k4 : g l 0 / 16 = 14 ∧ (1 < l.length ∧ g l 1 / 64 = 2) ∧ (2 < l.length ∧ g l 2 / 64 = 2)
          · simp only [if_pos k4] at ha hb hx
            by_cases k5 : 2048 ≤ g l 0 % 16 * 4096 + g l 1 % 64 * 64 + g l 2 % 64 ∧ mayU ((g l 0 % 16 * 4096 + g l 1 % 64 * 64 + g l 2 % 64 : Nat) : Int) = true
            · simp only [if_pos k5] at ha hb
              have k6 := k5.2
              rw [ha] at k6
              exact done 3 k6 (by omega) (by omega) (.inr (.inr (.inl (by omega))))
            · rw [if_neg k5] at hx; exact absurd ⟨rfl, rfl⟩ hx
          · simp only [if_neg k4] at ha hb hx
            by_cases k7 : g l 0 / 8 = 30 ∧ (1 < l.length ∧ g l 1 / 64 = 2) ∧ (2 < l.length ∧ g l 2 / 64 = 2) ∧ (3 < l.length ∧ g l 3 / 64 = 2)
            · simp only [if_pos k7] at ha hb hx
              by_cases k8 : 65536 ≤ g l 0 % 8 * 262144 + g l 1 % 64 * 4096 + g l 2 % 64 * 64 + g l 3 % 64 ∧ mayU ((g l 0 % 8 * 262144 + g l 1 % 64 * 4096 + g l 2 % 64 * 64 + g l 3 % 64 : Nat) : Int) = true
              · simp only [if_pos k8] at ha hb
                have k9 := k8.2
                rw [ha] at k9
                exact done 4 k9 (by omega) (by omega) (.inr (.inr (.inr (by omega))))
              · rw [if_neg k8] at hx; exact absurd ⟨rfl, rfl⟩ hx
            · simp [if_neg k7] at hx
theorem nxt_size {l : List UInt8} {c : Int} {n : Nat} (h : nxt l = (c, n)) : n ≤ 4 ∧ (n = 0 → c = -1) := by
  by_cases hn : n = 0
  · refine ⟨by omega, fun _ => ?_⟩
    by_cases hl : l = []
    · unfold nxt at h; rw [if_pos hl] at h; injection h with h _; exact h.symm
    · unfold nxt at h
      rw [if_neg hl] at h
      by_cases hx : (decL l).1 = 65533 ∧ (decL l).2 = 1
      · rw [if_pos hx] at h; injection h with h _; exact h.symm
      · rw [if_neg hx] at h
        injection h with _ h
        exfalso
        unfold decL at h
        repeat' split at h
        all_goals omega
  · obtain ⟨h1, h2, h3⟩ := nxt_is h hn
    have := (nxt_enc h1 h2 h3).2.2
    exact ⟨this.2, fun e => absurd e hn⟩
end Go.Proofs.YteofdpogjnojnaaGreatDoor.Utf
