/-
  utf.four, utf.pair, utf.escape, utf.part.
-/
import Derived.Test.YtonjnonpajkmlaaDoorUnhexU
import Derived.Deep.RegionHeld3
import Derived.Deep.QuietTactic
import Derived.BigQuiet
namespace Go.Proofs.YtonjnonpajkmlaaDoor
open Go.RowKit Utf
set_option linter.unusedVariables false

theorem ret_i32 {a b : Int} (h : a = b) : Ending.returned (.int .i32 a) = .returned (.int .i32 b) := by rw [h]
set_option maxHeartbeats 800000 in
theorem pair_ok (a b : Int) (w : World) (h1 : 55296 ≤ a) (h2 : a < 56320) (h3 : 56320 ≤ b) (h4 : b < 57344) :
    Calls Tryd.prog 41 #[.int .i32 a, .int .i32 b] w fun e w' => e = .returned (.int .i32 (65536 + (a - 55296) * 1024 + b - 56320)) ∧ w = w' := by
  go_enter Tryd.func41, Tryd.ntmps41
  go_wp2
  go_ret
  exact ⟨rfl, rfl⟩
set_option maxHeartbeats 800000 in
theorem four_short (s : ByteArray) (w : World) (h : s.size < 6) :
    Calls Tryd.prog 40 #[.string s] w fun e w' => e = .returned (.int .i32 (-1)) ∧ w = w' := by
  go_enter Tryd.func40, Tryd.ntmps40
  go_wp2
  go_ret
  exact ⟨rfl, rfl⟩
theorem or_256 (a b : Nat) (ha : a < 256) (hb : b < 256) : bits .or .i32 ((a : Int) * 256) (b : Int) = ((256 * a + b : Nat) : Int) := by
  have e : ((a : Int) * 256) = ((a * 256 : Nat) : Int) := by simp
  have h2 : a * 256 ||| b = 256 * a + b := by
    have := Nat.two_pow_add_eq_or_of_lt (i := 8) (b := b) hb a
    rw [Nat.mul_comm a 256]
    exact this.symm
  rw [e]
  show IntKind.i32.wrap ((BitVec.ofInt 32 ((a * 256 : Nat) : Int) ||| BitVec.ofInt 32 (b : Int)).toNat : Int) = _
  have o1 : ∀ n : Nat, n < 100000 → (BitVec.ofInt 32 (n : Int)).toNat = n := fun n hn => by rw [BitVec.ofInt_natCast, BitVec.toNat_ofNat]; exact Nat.mod_eq_of_lt (by omega)
  rw [BitVec.toNat_or, o1 _ (by omega), o1 b (by omega), h2, IntKind.wrap_i32]
  omega
theorem cell_add {w : World} {g k : Nat} {v : Value} (h : w.cell? ((⟨g, 0, none⟩ : Addr).add k) = some v) : w.cell? ⟨g, k, none⟩ = some v := by
  rw [← h]
  congr 1
  unfold Addr.add
  split <;> simp_all
/-- two bytes that the call owns -/
theorem two_bytes {w : World} {base : Nat} {v : Value} {x y : UInt8} (h : OB w base v [x, y]) : ∃ g c, v = .slice (some ⟨g, 0, none⟩) 2 c ∧ w.cell? ⟨g, 0, none⟩ = some (.int .u8 (x.toNat : Int)) ∧ w.cell? ⟨g, 1, none⟩ = some (.int .u8 (y.toNat : Int)) := by
  obtain ⟨A, c, rfl, _, _, hR, hA⟩ := h.shape
  obtain ⟨ad, e, _, h0⟩ := hR.at_ (k := 0) (by simp)
  obtain ⟨ad', e', _, h1⟩ := hR.at_ (k := 1) (by simp)
  obtain ⟨_, _, hz⟩ := hA ad e
  rw [e] at e'
  cases e'
  refine ⟨ad.block, c, by rw [e, ← hz]; rfl, ?_, ?_⟩
  · rw [hz] at h0; exact cell_add h0
  · rw [hz] at h1; exact cell_add h1
theorem hexV_bd (c : UInt8) (h : isHex c = true) : hexV c < 16 := hexV_lt c h
/-- the code of four digits -/
def fourN (a b c d : UInt8) : Nat := 256 * (16 * hexV a + hexV b) + (16 * hexV c + hexV d)
set_option maxHeartbeats 1600000 in
theorem four_ok (s t : ByteArray) (a b c d : UInt8) (w : World) (h6 : 6 ≤ s.size) (hs : s.size ≤ 140737488351232) (h0 : s[0]'(by omega) = 92) (h1 : s[1]'(by omega) = 117) (ht : (s.extract 2 6).data.toList = [a, b, c, d]) (hasc : ∀ x ∈ [a, b, c, d], x.toNat < 128)
    (hlow : ByteArray.mk (Lib.toLowerA [a, b, c, d]).toArray = t) (hh : okHex [Lib.lowerB a, Lib.lowerB b, Lib.lowerB c, Lib.lowerB d] = true) :
    Calls Tryd.prog 40 #[.string s] w fun e w' => e = .returned (.int .i32 (fourN (Lib.lowerB a) (Lib.lowerB b) (Lib.lowerB c) (Lib.lowerB d))) ∧ Below w.heap.size w w' := by
  have htl : t.data.toList = [Lib.lowerB a, Lib.lowerB b, Lib.lowerB c, Lib.lowerB d] := by rw [← hlow]; simp [Lib.toLowerA]
  have htz : t.size = 4 := by rw [← hlow]; rfl
  have hlo : ∀ w, Calls Tryd.prog 44 #[.string (s.extract 2 6)] w fun e w' => e = .returned (.string t) ∧ Below w.heap.size w w' := by
    intro w
    have := Tryd.strings_ToLower_ascii (s.extract 2 6) w (by rw [ByteArray.size_extract]; omega) (by
      rw [ht]
      intro j x hx
      exact hasc x (List.mem_of_getElem? hx))
    rwa [ht, hlow] at this
  have hun := fun w => unhex_ok t w (by omega) (by rw [htl]; exact hh)
  rw [htl] at hun
  have HLO := Lib.hid hlo
  have HUN := Lib.hid hun
  have hx : isHex (Lib.lowerB a) = true ∧ isHex (Lib.lowerB b) = true ∧ isHex (Lib.lowerB c) = true ∧ isHex (Lib.lowerB d) = true := by
    unfold okHex at hh
    simpa [List.all_cons] using hh
  have v1 := hexV_bd _ hx.1; have v2 := hexV_bd _ hx.2.1; have v3 := hexV_bd _ hx.2.2.1; have v4 := hexV_bd _ hx.2.2.2
  obtain ⟨X, hX⟩ : ∃ X, X = 16 * hexV (Lib.lowerB a) + hexV (Lib.lowerB b) := ⟨_, rfl⟩
  obtain ⟨Y, hY⟩ : ∃ Y, Y = 16 * hexV (Lib.lowerB c) + hexV (Lib.lowerB d) := ⟨_, rfl⟩
  have hXl : X < 256 := by omega
  have hYl : Y < 256 := by omega
  have HX := Lib.hid hX
  have HY := Lib.hid hY
  have hul : unhexL [Lib.lowerB a, Lib.lowerB b, Lib.lowerB c, Lib.lowerB d] = [UInt8.ofNat X, UInt8.ofNat Y] := by rw [hX, hY]; rfl
  rw [hul] at HUN
  have HO := Lib.hid (or_256 X Y hXl hYl)
  have tX : ((UInt8.ofNat X).toNat : Int) = X := by rw [UInt8.toNat_ofNat']; omega
  have tY : ((UInt8.ofNat Y).toNat : Int) = Y := by rw [UInt8.toNat_ofNat']; omega
  have HTX := Lib.hid tX
  have HTY := Lib.hid tY
  clear hx v1 v2 v3 v4 hX hY hul tX tY
  clear hlo hun htl htz ht hasc hlow hh
  go_enter Tryd.func40, Tryd.ntmps40
  go_wp2_with fail
  refine (HLO.out _).mono ?_
  rintro e w1 ⟨rfl, hb1⟩
  go_wp2_with fail
  refine (HUN.out _).mono ?_
  rintro e w2 ⟨v, rfl, ho, hb2⟩
  obtain ⟨g, cc, rfl, c0, c1⟩ := two_bytes ho
  rw [HTX.out] at c0
  rw [HTY.out] at c1
  have hor := HO.out
  go_wp2
  go_quiet (fail)
  go_wp2
  go_ret
  exact ⟨ret_i32 (by unfold fourN; rw [HX.out, HY.out]; omega), dnU (below2 hb1 hb2) _⟩
theorem index_is (c : UInt8) (k : Int) (n : Int) (hn : n = (c.toNat : Int)) (h : Lib.indexByte [34, 92, 47, 98, 102, 110, 114, 116] c = k) (w : World) :
    Calls Tryd.prog 39 #[.string ⟨#[34, 92, 47, 98, 102, 110, 114, 116]⟩, .int .u8 n] w fun e w' => e = .returned (.int .i64 k) ∧ w = w' := by
  refine (Tryd.strings_IndexByte _ n w).mono fun e w' ⟨he, hw⟩ => ⟨?_, hw.symm⟩
  rw [he, hn, ← h]
  have : ((c.toNat : Int)).toNat.toUInt8 = c := by simp
  rw [this]
/-- a short escape -/
theorem escape_short (s : ByteArray) (k : Nat) (v : Int) (w : World) (hs : s.size ≤ 9223372036854775807) (h2 : 2 ≤ s.size) (c : UInt8) (h1 : s[1]'(by omega) = c) (hk : k < 8) (hi : Lib.indexByte [34, 92, 47, 98, 102, 110, 114, 116] c = (k : Int))
    (hv : (((ByteArray.mk #[34, 92, 47, 8, 12, 10, 13, 9])[k]'(by simpa [ByteArray.size] using hk)).toNat : Int) = v) :
    Calls Tryd.prog 37 #[.string s] w fun e w' => e = .returned (.tuple #[.int .i32 v, .int .i64 2]) ∧ w = w' := by
  have HI := Lib.hid (index_is c k (c.toNat : Int) rfl hi)
  clear hi
  have hv0 : 0 ≤ v ∧ v < 256 := by rw [← hv]; have := UInt8.toNat_lt ((ByteArray.mk #[34, 92, 47, 8, 12, 10, 13, 9])[k]'(by simpa [ByteArray.size] using hk)); omega
  go_enter Tryd.func37, Tryd.ntmps37
  go_wp2_with fail
  refine (HI.out _).mono ?_
  rintro e w' ⟨rfl, rfl⟩
  have hkz : (k : Int) < 8 := by omega
  go_wp2
  go_ret2
  exact ⟨rfl, rfl⟩
set_option maxHeartbeats 800000 in
/-- an escape of four digits -/
theorem escape_u (s : ByteArray) (n : Nat) (w : World) (hs : s.size ≤ 9223372036854775807) (h2 : 2 ≤ s.size) (h1 : s[1]'(by omega) = 117) (hm : mayU (n : Int) = true)
    (hF : ∀ w, Calls Tryd.prog 40 #[.string s] w fun e w' => e = .returned (.int .i32 (n : Int)) ∧ Below w.heap.size w w') :
    Calls Tryd.prog 37 #[.string s] w fun e w' => e = .returned (.tuple #[.int .i32 n, .int .i64 6]) ∧ Below w.heap.size w w' := by
  have HI := Lib.hid (index_is 117 (-1) 117 rfl (by decide))
  have HF := Lib.hid hF
  have hv := fun w => (Tryd.utf8_ValidRune (n : Int) w).mono fun e w' (h : e = .returned (.bool (Lib.validRune n)) ∧ w' = w) => (⟨h.1, h.2.symm⟩ : e = .returned (.bool (Lib.validRune n)) ∧ w = w')
  rw [validRune_may, hm] at hv
  have HV := Lib.hid hv
  clear hF hv hm
  go_enter Tryd.func37, Tryd.ntmps37
  go_wp2_with fail
  refine (HI.out _).mono ?_
  rintro e w' ⟨rfl, rfl⟩
  go_wp2_with fail
  refine (HF.out _).mono ?_
  rintro e w1 ⟨rfl, hb⟩
  go_wp2_with fail
  refine (HV.out _).mono ?_
  rintro e w' ⟨rfl, rfl⟩
  go_wp2
  go_ret2
  exact ⟨rfl, hb⟩
set_option maxHeartbeats 800000 in
/-- an escape of two times four digits -/
theorem escape_pair (s : ByteArray) (n m : Nat) (w : World) (hs : s.size ≤ 9223372036854775807) (h2 : 6 ≤ s.size) (h1 : s[1]'(by omega) = 117) (hn1 : 55296 ≤ n) (hn2 : n < 56320) (hm1 : 56320 ≤ m) (hm2 : m < 57344)
    (hF : ∀ w, Calls Tryd.prog 40 #[.string s] w fun e w' => e = .returned (.int .i32 (n : Int)) ∧ Below w.heap.size w w')
    (hG : ∀ w, Calls Tryd.prog 40 #[.string (s.extract 6 s.size)] w fun e w' => e = .returned (.int .i32 (m : Int)) ∧ Below w.heap.size w w') :
    Calls Tryd.prog 37 #[.string s] w fun e w' => e = .returned (.tuple #[.int .i32 (65536 + ((n : Int) - 55296) * 1024 + m - 56320), .int .i64 12]) ∧ Below w.heap.size w w' := by
  have HI := Lib.hid (index_is 117 (-1) 117 rfl (by decide))
  have HF := Lib.hid hF
  have HG := Lib.hid hG
  have HP := Lib.hid (fun w => pair_ok n m w (by omega) (by omega) (by omega) (by omega))
  have hv := fun w => (Tryd.utf8_ValidRune (n : Int) w).mono fun e w' (h : e = .returned (.bool (Lib.validRune n)) ∧ w' = w) => (⟨h.1, h.2.symm⟩ : e = .returned (.bool (Lib.validRune n)) ∧ w = w')
  rw [validRune_may, show mayU (n : Int) = false from decide_eq_false (by omega)] at hv
  have HV := Lib.hid hv
  clear hF hv hG
  go_enter Tryd.func37, Tryd.ntmps37
  go_wp2_with fail
  refine (HI.out _).mono ?_
  rintro e w' ⟨rfl, rfl⟩
  go_wp2_with fail
  refine (HF.out _).mono ?_
  rintro e w1 ⟨rfl, hb⟩
  go_wp2_with fail
  refine (HV.out _).mono ?_
  rintro e w' ⟨rfl, rfl⟩
  go_wp2_with fail
  refine (HG.out _).mono ?_
  rintro e w2 ⟨rfl, hb2⟩
  go_wp2_with fail
  refine (HP.out _).mono ?_
  rintro e w' ⟨rfl, rfl⟩
  go_wp2
  go_ret2
  exact ⟨rfl, below2 hb hb2⟩
set_option maxHeartbeats 800000 in
/-- no escape -/
theorem escape_none (s : ByteArray) (w : World) (hs : s.size < 6) (h2 : 2 ≤ s.size) (c : UInt8) (h1 : s[1]'(by omega) = c) (hi : Lib.indexByte [34, 92, 47, 98, 102, 110, 114, 116] c = -1) :
    Calls Tryd.prog 37 #[.string s] w fun e w' => e = .returned (.tuple #[.int .i32 0, .int .i64 0]) ∧ w = w' := by
  have HI := Lib.hid (index_is c (-1) (c.toNat : Int) rfl hi)
  have HF := Lib.hid (fun w => four_short s w hs)
  clear hi
  go_enter Tryd.func37, Tryd.ntmps37
  go_wp2_with fail
  refine (HI.out _).mono ?_
  rintro e w' ⟨rfl, rfl⟩
  go_wp2_with fail
  refine (HF.out _).mono ?_
  rintro e w' ⟨rfl, rfl⟩
  go_wp2
  go_ret2
  exact ⟨rfl, rfl⟩
set_option maxHeartbeats 800000 in
theorem part_esc (s : ByteArray) (v : Int) (n : Nat) (w : World) (hs : 0 < s.size) (h0 : s[0]'(by omega) = 92) (hn : n ≠ 0)
    (hE : ∀ w, Calls Tryd.prog 37 #[.string s] w fun e w' => e = .returned (.tuple #[.int .i32 v, .int .i64 n]) ∧ Below w.heap.size w w') :
    Calls Tryd.prog 29 #[.string s] w fun e w' => e = .returned (.tuple #[.int .i32 v, .int .i64 n, .int .i64 0]) ∧ Below w.heap.size w w' := by
  have HE := Lib.hid hE
  have f0 : ((n : Int) == 0) = false := by rw [beq_eq_false_iff_ne]; omega
  have g2 : s.toList.isEmpty = false := by rw [ByteArray.toList_eq]; cases s; simp [ByteArray.size] at hs ⊢; exact Array.ne_empty_of_size_pos hs
  clear hE hn
  go_enter Tryd.func29, Tryd.ntmps29
  go_wp2_with fail
  refine (HE.out _).mono ?_
  rintro e w1 ⟨rfl, hb⟩
  go_wp2
  go_ret3
  exact ⟨rfl, hb⟩
set_option maxHeartbeats 800000 in
theorem part_bad (s : ByteArray) (v : Int) (w : World) (hs : 0 < s.size) (h0 : s[0]'(by omega) = 92)
    (hE : ∀ w, Calls Tryd.prog 37 #[.string s] w fun e w' => e = .returned (.tuple #[.int .i32 v, .int .i64 0]) ∧ Below w.heap.size w w') :
    Calls Tryd.prog 29 #[.string s] w fun e w' => e = .returned (.tuple #[.int .i32 0, .int .i64 0, .int .i64 31]) ∧ Below w.heap.size w w' := by
  have HE := Lib.hid hE
  have g2 : s.toList.isEmpty = false := by rw [ByteArray.toList_eq]; cases s; simp [ByteArray.size] at hs ⊢; exact Array.ne_empty_of_size_pos hs
  clear hE
  go_enter Tryd.func29, Tryd.ntmps29
  go_wp2_with fail
  refine (HE.out _).mono ?_
  rintro e w1 ⟨rfl, hb⟩
  go_wp2
  go_ret3
  exact ⟨rfl, hb⟩
set_option maxHeartbeats 800000 in
theorem part_char (s : ByteArray) (v : Int) (n : Nat) (w : World) (ht : tabU w) (hs : 0 < s.size) (c : UInt8) (h0 : s[0]'(by omega) = c) (h1 : 32 ≤ (c.toNat : Int)) (h2 : (c.toNat : Int) ≠ 92) (hn : n ≠ 0) (hN : nxt s.data.toList = (v, n)) :
    Calls Tryd.prog 29 #[.string s] w fun e w' => e = .returned (.tuple #[.int .i32 v, .int .i64 n, .int .i64 0]) ∧ Below w.heap.size w w' := by
  have hE := fun w ht => next_any s w ht
  rw [hN] at hE
  have HE := Lib.hid hE
  have HT := Lib.hid ht
  have f0 : ((n : Int) == 0) = false := by rw [beq_eq_false_iff_ne]; omega
  have g2 : s.toList.isEmpty = false := by rw [ByteArray.toList_eq]; cases s; simp [ByteArray.size] at hs ⊢; exact Array.ne_empty_of_size_pos hs
  have e1 : ((c.toNat : Int) == 92) = false := by rw [beq_eq_false_iff_ne]; exact h2
  have e2 : decide ((c.toNat : Int) < 32) = false := by rw [decide_eq_false_iff_not]; omega
  have e3 : decide (c.toNat < 32) = false := by rw [decide_eq_false_iff_not]; omega
  have hv := may_iff.1 (nxt_is hN hn).1
  have hv2 : 0 ≤ v ∧ v ≤ 1114111 := ⟨hv.1, hv.2.1⟩
  clear hE hn hN ht h1 h2 hv
  go_enter Tryd.func29, Tryd.ntmps29
  go_wp2_with fail
  refine (HE.out _ HT.out).mono ?_
  rintro e w1 ⟨rfl, hb⟩
  go_wp2
  go_ret3
  exact ⟨rfl, hb⟩
end Go.Proofs.YtonjnonpajkmlaaDoor
