/-
  date and its reference: digits of a text; what a text is as a moment.
-/
import Derived.Test.YtahcajhacfnffaaDoorDateW5
import Derived.Lib.SlBytesConst
namespace Go.Proofs.YtahcajhacfnffaaDoor
open Go.RowKit
set_option linter.unusedVariables false

/-- the number of digits; below 0: they are none -/
def digN : List UInt8 → Int → Int
  | [], n => n
  | c :: l, n => if 48 ≤ (c.toNat : Int) ∧ (c.toNat : Int) ≤ 57 then digN l (10 * n + ((c.toNat : Int) - 48)) else -1
def dgs (t : ByteArray) : Int := digN t.data.toList 0
theorem digN_cons_yes {c : UInt8} {l : List UInt8} {n : Int} (h1 : 48 ≤ (c.toNat : Int)) (h2 : (c.toNat : Int) ≤ 57) : digN (c :: l) n = digN l (10 * n + ((c.toNat : Int) - 48)) := by
  rw [digN, if_pos ⟨h1, h2⟩]
theorem digN_cons_no {c : UInt8} {l : List UInt8} {n : Int} (h : (c.toNat : Int) < 48 ∨ 57 < (c.toNat : Int)) : digN (c :: l) n = -1 := by
  rw [digN, if_neg (by omega)]
theorem drop_cons {s : ByteArray} {k : Nat} (h : k < s.size) : s.data.toList.drop k = s[k] :: s.data.toList.drop (k + 1) := by
  rw [List.drop_eq_getElem_cons (by simpa using h)]
  rfl

/-- what the digits so far may be -/
def BD (k : Nat) (x : Int) : Prop := 0 ≤ x ∧ x ≤ 9999 ∧ (k = 0 → x ≤ 0) ∧ (k = 1 → x ≤ 9) ∧ (k = 2 → x ≤ 99) ∧ (k = 3 → x ≤ 999)
theorem BD.zero : BD 0 0 := by unfold BD; omega
theorem BD.next {k : Nat} {x c : Int} (h : BD k x) (hk : k < 4) (h1 : 48 ≤ c) (h2 : c ≤ 57) : BD (k + 1) (10 * x + (c - 48)) := by
  unfold BD at h ⊢; omega
theorem BD.bd {k : Nat} {x : Int} (h : BD k x) : 0 ≤ x ∧ x ≤ 9999 := ⟨h.1, h.2.1⟩
theorem conv_at (s : ByteArray) (w : World) : ∃ cap C, (convert 9 57 (.string s)).run Tryd.prog w = .ok (.slice (some ⟨w.heap.size, 0, none⟩) s.size cap) (w.drew.alloc (.cells C 5 (C.size, C.size + 1))) ∧ ∀ k (h : k < s.size), C[k]? = some (.int .u8 (s[k].toNat : Int)) := by
  refine ⟨_, _, run_bytes_of_string w 9 57 5 s Tryd.underlying9 Tryd.underlying57 Tryd.underlying5, fun k h => ?_⟩
  have h' : k < s.data.size := h
  unfold bytesRow
  rw [Array.getElem?_append_left (by simpa using h')]
  simp
  exact ⟨s[k], Array.getElem?_eq_getElem h', rfl⟩

set_option maxHeartbeats 800000 in
theorem digits_any (s : ByteArray) (w : World) (hs : s.size ≤ 4) :
    Calls Tryd.prog 34 #[.string s] w fun e w' => e = .returned (.int .i64 (dgs s)) ∧ Below w.heap.size w w' := by
  obtain ⟨cap, C, hconv, hC⟩ := conv_at s w
  have HC := Lib.hid hC
  clear hC
  have hd0 : digN (s.data.toList.drop 0) 0 = dgs s := rfl
  have HD0 := Lib.hid hd0
  clear hd0
  go_enter Tryd.func34, Tryd.ntmps34
  go_wp2
  clear hconv
  go_loop [3, 9] (fun n i => ∃ (k : Nat) (x : Int), k ≤ s.size ∧ i = .int .i64 k ∧ n = .int .i64 x ∧ BD k x ∧ digN (s.data.toList.drop k) x = dgs s) (fun _ i => s.size - (intOf i).toNat)
  case atStart => exact ⟨0, 0, Nat.zero_le _, rfl, rfl, BD.zero, HD0.out⟩
  case round =>
    obtain ⟨k, x, hk, rfl, rfl, hbd, hdg⟩ := hrel
    obtain ⟨hx0, hx1⟩ := hbd.bd
    have HG := Lib.hid hdg
    clear hdg
    rcases (by omega : k < s.size ∨ k = s.size) with hlt | heq
    · have hck := HC.out k hlt
      have HCONS := Lib.hid (drop_cons hlt)
      obtain ⟨c, hc⟩ : ∃ c : Int, c = (s[k].toNat : Int) := ⟨_, rfl⟩
      rw [← hc] at hck
      have hcell : (w.alloc (Obj.cells C 5 (C.size, C.size + 1))).cell? ⟨w.heap.size, k, none⟩ = some (.int .u8 c) := (cell_of_row _ _ k C _ _ (heap_alloc_new w _)).trans hck
      clear hck
      have HCE := Lib.hid hc
      have hc256 : 0 ≤ c ∧ c < 256 := by rw [hc]; have := s[k].toNat_lt; omega
      clear hc
      rcases (by omega : c < 48 ∨ (48 ≤ c ∧ 57 < c) ∨ (48 ≤ c ∧ c ≤ 57)) with h1 | ⟨h1, h2⟩ | ⟨h1, h2⟩
      · go_wp2
        go_ret
        exact ⟨ret_int (by rw [← HG.out, HCONS.out, digN_cons_no (by rw [← HCE.out]; omega)]), ((Below.refl _ _).alloc (Nat.le_refl _) _).drew⟩
      · go_wp2
        go_ret
        exact ⟨ret_int (by rw [← HG.out, HCONS.out, digN_cons_no (by rw [← HCE.out]; omega)]), ((Below.refl _ _).alloc (Nat.le_refl _) _).drew⟩
      · have hnx := hbd.next (by omega) h1 h2
        have hnb := hnx.bd
        have HN := Lib.hid hnx
        clear hnx
        go_wp2
        go_round
        case rel => exact ⟨k + 1, 10 * x + (c - 48), by omega, by go_num, rfl, HN.out, by rw [← HG.out, HCONS.out, digN_cons_yes (by rw [← HCE.out]; omega) (by rw [← HCE.out]; omega), HCE.out]⟩
        case measure => simp [intOf]; omega
    · subst heq
      have HE : Hid (dgs s = x) := by show _ = _; rw [← HG.out, List.drop_of_length_le (by simp)]; rfl
      go_wp2
      go_ret
      exact ⟨ret_int HE.out.symm, ((Below.refl _ _).alloc (Nat.le_refl _) _).drew⟩
theorem ext_at {s : ByteArray} {a n k : Nat} (hk : k < n) (h : a + n ≤ s.size) : (s.extract a (a + n)).data.toList.drop k = s[a + k] :: (s.extract a (a + n)).data.toList.drop (k + 1) := by
  have hz : (s.extract a (a + n)).size = n := by rw [ByteArray.size_extract]; omega
  have := drop_cons (s := s.extract a (a + n)) (k := k) (by omega)
  rw [this]
  congr 1
  exact ByteArray.getElem_extract ..

set_option maxRecDepth 100000 in
set_option maxHeartbeats 800000 in
theorem number_any (s : ByteArray) (a n : Nat) (w : World) (hs : s.size = 20) (ha : a + n ≤ 20) (hn : n ≤ 4) :
    Calls Tryd.prog 37 #[.string s, .int .i64 a, .int .i64 n] w fun e w' => e = .returned (.int .i64 (dgs (s.extract a (a + n)))) ∧ w = w' := by
  have hd0 : digN ((s.extract a (a + n)).data.toList.drop 0) 0 = dgs (s.extract a (a + n)) := rfl
  have HD0 := Lib.hid hd0
  have HZ : Hid ((s.extract a (a + n)).size = n) := by show _ = _; rw [ByteArray.size_extract]; omega
  have HS := Lib.hid hs
  have hs1 : s.size ≤ 20 := by omega
  have hs2 : 20 ≤ s.size := by omega
  clear hd0 hs
  go_enter Tryd.func37, Tryd.ntmps37
  go_wp2
  go_loop [7, 8] (fun m i => ∃ (k : Nat) (x : Int), k ≤ n ∧ i = .int .i64 (a + k : Nat) ∧ m = .int .i64 x ∧ BD k x ∧ digN ((s.extract a (a + n)).data.toList.drop k) x = dgs (s.extract a (a + n))) (fun _ i => 20 - (intOf i).toNat)
  case atStart => exact ⟨0, 0, Nat.zero_le _, rfl, rfl, BD.zero, HD0.out⟩
  case round =>
    obtain ⟨k, x, hk, rfl, rfl, hbd, hdg⟩ := hrel
    obtain ⟨hx0, hx1⟩ := hbd.bd
    have HG := Lib.hid hdg
    clear hdg
    obtain ⟨j, hj⟩ : ∃ j, j = a + k := ⟨_, rfl⟩
    rw [← hj]
    have hj1 : a ≤ j := by omega
    rcases (by omega : k < n ∨ k = n) with hlt | heq
    · have hj2 : j < a + n := by omega
      have hj3 : (j : Int) < a + n := by omega
      have hj4 : j < s.size := by omega
      obtain ⟨c, hc⟩ : ∃ c : UInt8, c = s[j] := ⟨_, rfl⟩
      have HCONS : Hid ((s.extract a (a + n)).data.toList.drop k = c :: (s.extract a (a + n)).data.toList.drop (k + 1)) := by
        show _ = _
        rw [ext_at hlt (by omega), hc]
        simp only [hj]
      have HC1 := Lib.hid hc.symm
      have HJ := Lib.hid hj
      have hjn : j + 1 ≤ 20 := by omega
      clear hc hj
      have hcI := HC1.out
      have hc256 : (c.toNat : Int) < 256 := by have := c.toNat_lt; omega
      rcases (by omega : (c.toNat : Int) < 48 ∨ (48 ≤ (c.toNat : Int) ∧ 57 < (c.toNat : Int)) ∨ (48 ≤ (c.toNat : Int) ∧ (c.toNat : Int) ≤ 57)) with h1 | ⟨h1, h2⟩ | ⟨h1, h2⟩
      · go_wp2
        go_ret
        exact ⟨ret_int (by rw [← HG.out, HCONS.out, digN_cons_no (by omega)]), rfl⟩
      · go_wp2
        go_ret
        exact ⟨ret_int (by rw [← HG.out, HCONS.out, digN_cons_no (by omega)]), rfl⟩
      · have hnx := hbd.next (by omega) h1 h2
        have hnb := hnx.bd
        have HN := Lib.hid hnx
        clear hnx
        go_wp2
        clear hcI
        go_round
        case rel => exact ⟨k + 1, 10 * x + (c.toNat - 48), by omega, by rw [show (a + (k + 1) : Nat) = j + 1 by have := HJ.out; omega]; go_num, rfl, HN.out, by rw [← HG.out, HCONS.out, digN_cons_yes (by omega) (by omega)]⟩
        case measure => simp [intOf]; omega
    · have HE : Hid (dgs (s.extract a (a + n)) = x) := by show _ = _; rw [← HG.out, List.drop_of_length_le (by have := HZ.out; simp at this; simp; omega)]; rfl
      have hj2 : ¬ (j : Int) < a + n := by omega
      clear hj heq
      go_wp2
      go_ret
      exact ⟨ret_int HE.out.symm, rfl⟩
end Go.Proofs.YtahcajhacfnffaaDoor
