/-
  octet.Unhex: what it returns.
-/
import Derived.Test.YteofdpogjnojnaaGreatDoorAppend
import Derived.Test.YteofdpogjnojnaaGreatDoorHexPlain
import Derived.Test.YteofdpogjnojnaaGreatDoorShelf
import Derived.Test.YteofdpogjnojnaaGreatDoorUtfN
import Derived.Shelf.Strings.SlTrimAscii
namespace Go.Proofs.YteofdpogjnojnaaGreatDoor
open Go.RowKit
set_option linter.unusedVariables false

theorem trim_hex (s : ByteArray) (w : World) (hs : s.size ≤ 9223372036854775807) :
    Calls Tryz.prog 93 #[.string s, .string { data := #[48, 49, 50, 51, 52, 53, 54, 55, 56, 57, 97, 98, 99, 100, 101, 102] }] w fun e w' => e = .returned (.string ⟨(Lib.trimS s.data.toList digitsL).toArray⟩) ∧ Below w.heap.size w w' :=
  Any.strings_Trim_laid Tryz.lays160 (by kernel_rfl) s { data := #[48, 49, 50, 51, 52, 53, 54, 55, 56, 57, 97, 98, 99, 100, 101, 102] } w hs (by decide) (ascii_of_all (by decide))

set_option maxRecDepth 100000 in
set_option maxHeartbeats 400000 in
theorem unhexAt (s : ByteArray) (b i : Nat) (w : World) (h : i < s.data.toList.length) (hb : w.cell? ⟨b, 0, none⟩ = some (.string s)) (hs : s.size ≤ 70368744177664) :
    Calls Tryz.prog 94 #[.int .i64 i, .pointer (some ⟨b, 0, none⟩)] w fun e w' => e = .returned (.int .i64 (hexI s.data.toList[i])) ∧ w = w' := by
  have hi : (i : Int) < (s.size : Int) := by have : s.size = s.data.toList.length := rfl; omega
  have hi' : i < s.size := by omega
  go_enter Tryz.func94, Tryz.ntmps94
  go_wp2_with fail
  refine (Tryz.strings_IndexByte _ _ _).mono ?_
  rintro e w' ⟨rfl, rfl⟩
  go_wp2
  go_ret
  exact ⟨ret_int (by rw [← indexByte_digits]; rfl), rfl⟩

set_option maxRecDepth 100000 in
set_option maxHeartbeats 400000 in
theorem unhex_no (s : ByteArray) (w : World) (hs : s.size ≤ 70368744177664) (hn : okHex s.data.toList = false) :
    Calls Tryz.prog 91 #[.string s] w fun e w' => e = .returned (.tuple #[.slice none 0 0, .int .i64 10]) ∧ Below w.heap.size w w' := by
  have hsz : s.data.toList.length = s.size := rfl
  rcases (by omega : s.size % 2 = 1 ∨ s.size % 2 = 0) with h1 | h1
  · have d1 : ((s.size : Int) % 2 != 0) = true := by rw [bne_iff_ne]; omega
    clear h1
    go_enter Tryz.func91, Tryz.ntmps91
    go_wp2
    go_ret2
    exact ⟨rfl, (Below.refl _ _).alloc (Nat.le_refl _) _⟩
  · have d1 : ((s.size : Int) % 2 != 0) = false := by rw [← Bool.not_eq_true, bne_iff_ne]; omega
    have ht : (Lib.trimS s.data.toList digitsL).isEmpty = false := by
      rw [← Bool.not_eq_true, List.isEmpty_iff, trim_digits]
      intro h2
      simp [okHex, h2] at hn
      omega
    clear h1 hn
    go_enter Tryz.func91, Tryz.ntmps91
    go_wp2_with fail
    refine (trim_hex _ _ (by omega)).mono ?_
    rintro e w1 ⟨rfl, hb⟩
    go_wp2
    go_ret2
    exact ⟨rfl, ((Below.refl _ _).alloc (Nat.le_refl _) _).trans (hb.mono (by simp))⟩

theorem unhexAt_i (s : ByteArray) (b i : Nat) (n : Int) (hn : n = (i : Int)) (x : Nat) (w : World) (h : i < s.data.toList.length) (hx : hexI s.data.toList[i] = (x : Int)) (hb : w.cell? ⟨b, 0, none⟩ = some (.string s)) (hs : s.size ≤ 70368744177664) :
    Calls Tryz.prog 94 #[.int .i64 n, .pointer (some ⟨b, 0, none⟩)] w fun e w' => e = .returned (.int .i64 (x : Int)) ∧ w = w' := by
  subst hn
  rw [← hx]
  exact unhexAt s b i w h hb hs
theorem hex_byte (a b : Nat) (ha : a < 16) (hb : b < 16) : bits .or .i64 ((a : Int) * 16) (b : Int) = ((16 * a + b : Nat) : Int) := by
  have e : ((a : Int) * 16) = ((a * 16 : Nat) : Int) := by simp
  have h2 : a * 16 ||| b = 16 * a + b := by
    have := Nat.two_pow_add_eq_or_of_lt (i := 4) (b := b) hb a
    rw [Nat.mul_comm a 16]
    exact this.symm
  rw [e]
  show IntKind.i64.wrap ((BitVec.ofInt 64 ((a * 16 : Nat) : Int) ||| BitVec.ofInt 64 (b : Int)).toNat : Int) = _
  have o1 : ∀ n : Nat, n < 1000 → (BitVec.ofInt 64 (n : Int)).toNat = n := fun n hn => by rw [BitVec.ofInt_natCast, BitVec.toNat_ofNat]; exact Nat.mod_eq_of_lt (by omega)
  rw [BitVec.toNat_or, o1 _ (by omega), o1 b (by omega), h2, IntKind.wrap_i64]
  omega

set_option maxRecDepth 100000 in
set_option maxHeartbeats 1000000 in
theorem unhex_ok (s : ByteArray) (w : World) (hs : s.size ≤ 70368744177664) (hn : okHex s.data.toList = true) :
    Calls Tryz.prog 91 #[.string s] w fun e w' => ∃ v, e = .returned (.tuple #[v, .int .i64 0]) ∧ OB w' w.heap.size v (unhexL s.data.toList) ∧ Below w.heap.size w w' := by
  have hsz : s.data.toList.length = s.size := rfl
  simp only [okHex, Bool.and_eq_true, decide_eq_true_iff] at hn
  obtain ⟨h1, h2⟩ := hn
  obtain ⟨m, hm⟩ : ∃ m, s.size = 2 * m := ⟨s.size / 2, by omega⟩
  have d1 : ((s.size : Int) % 2 != 0) = false := by rw [← Bool.not_eq_true, bne_iff_ne]; omega
  have ht : (Lib.trimS s.data.toList digitsL).isEmpty = true := by rw [List.isEmpty_iff, trim_digits]; exact h2
  have HM := Lib.hid hm
  have H2 := Lib.hid h2
  clear h1 hm h2
  go_enter Tryz.func91, Tryz.ntmps91
  go_wp2_with fail
  refine (trim_hex _ _ (by omega)).mono ?_
  rintro e w1 ⟨rfl, hb⟩
  have hc1 : w1.cell? ⟨w.heap.size, 0, none⟩ = some (.string s) := (hb.cell (p := ⟨w.heap.size, 0, none⟩) (by simp)).trans (by rw [World.cell?_alloc_new]; rfl)
  have hsz1 : w.heap.size < w1.heap.size := by have := hb.size; simp at this; omega
  have hb1 : Below w.heap.size w w1 := ((Below.refl _ _).alloc (Nat.le_refl _) _).trans (hb.mono (by simp))
  clear hb
  go_wp2
  go_loopw [5, 6] (fun v i wr => ∃ k : Nat, 2 * k ≤ s.size ∧ i = .int .i64 (2 * (k : Int)) ∧ OB wr (w.heap.size + 1) v (unhexL (s.data.toList.take (2 * k))) ∧ wr.cell? ⟨w.heap.size, 0, none⟩ = some (.string s) ∧ w.heap.size < wr.heap.size ∧ Below w.heap.size w wr) (fun _ i _ => s.size - (intOf i).toNat)
  case atStart => exact ⟨0, Nat.zero_le _, rfl, OB.nil _ _, hc1, hsz1, hb1⟩
  case round =>
    obtain ⟨k, hk, rfl, hown, hc, hszr, hbr⟩ := hrel
    clear hc1 hsz1 hb1
    by_cases hlt : 2 * k < s.size
    · have hlt2 : 2 * k + 1 < s.size := by have := HM.out; omega
      have ha := all_getElem H2.out (2 * k) (by rw [hsz]; omega)
      have hb := all_getElem H2.out (2 * k + 1) (by rw [hsz]; omega)
      have HS := Lib.hid (unhexL_take s.data.toList k (by rw [hsz]; omega))
      have hA := unhexAt_i s w.heap.size (2 * k) (2 * (k : Int)) (by omega) _ wr (by rw [hsz]; omega) (hexI_yes _ ha) hc hs
      have hB := unhexAt_i s w.heap.size (2 * k + 1) (2 * (k : Int) + 1) (by omega) _ wr (by rw [hsz]; omega) (hexI_yes _ hb) hc hs
      have ha16 := hexV_lt _ ha
      have hb16 := hexV_lt _ hb
      generalize hexV s.data.toList[2 * k] = x at *
      generalize hexV s.data.toList[2 * k + 1] = y at *
      have hor := hex_byte x y ha16 hb16
      have hz : ((UInt8.ofNat (16 * x + y)).toNat : Int) = 16 * (x : Int) + (y : Int) := by
        rw [UInt8.toNat_ofNat']
        omega
      generalize UInt8.ofNat (16 * x + y) = z at *
      have HZ := Lib.hid hz
      clear hz
      have HO := Lib.hid hown
      have HHA := Lib.hid hA
      have HHB := Lib.hid hB
      have d2 : decide ((x : Int) < 0) = false := by simp
      have d3 : decide ((y : Int) < 0) = false := by simp
      clear ha hb hown hA hB
      go_wp2_with fail
      refine HHA.out.mono ?_
      rintro e w2 ⟨rfl, rfl⟩
      go_wp2_with fail
      refine HHB.out.mono ?_
      rintro e w2 ⟨rfl, rfl⟩
      go_wp2_with (at_builtin; refine app_one wr rfl _ _ rfl (w.heap.size + 1) u5 _ rfl HO.out z _ ?hy rfl ?hl hszr ?_)
      case hl => rw [unhexL_length, List.length_take]; omega
      case hy =>
        rw [HZ.out]
      intro v1 w2 ho1 hg1 hat
      have hkeep : w2.cell? ⟨w.heap.size, 0, none⟩ = some (.string s) := by
        refine (World.cell?_of_block (hg1.block w.heap.size (by simp; omega) (fun e => ?_))).trans ((World.cell?_alloc_lt _ _ _ hszr).trans hc)
        have := HO.out.grown_ge _ e.symm
        omega
      have hbl : Below w.heap.size w w2 := (hbr.alloc (by omega) _).grown hg1 (by simp; omega) (fun j hj => by have := HO.out.grown_ge j hj; omega)
      have hs2 : w.heap.size < w2.heap.size := by have := hg1.size; simp at this; omega
      have HO1 := Lib.hid ho1
      have HK := Lib.hid hkeep
      clear ho1 hg1 hat hkeep
      go_wp2
      go_roundw
      case rel => exact ⟨k + 1, by omega, by go_num, by rw [show 2 * (k + 1) = 2 * k + 2 from by omega, HS.out]; exact HO1.out, HK.out, hs2, hbl⟩
      case measure => simp [intOf]; omega
    · have hk2 : 2 * k = s.size := by omega
      have HK := Lib.hid hk2
      have HO := Lib.hid hown
      clear hk2 hown
      go_wp2
      go_ret2
      refine ⟨u5, rfl, ?_, hbr⟩
      have := HO.out
      rw [HK.out, List.take_of_length_le (by rw [hsz]; exact Nat.le_refl _)] at this
      exact this.mono (by omega)

end Go.Proofs.YteofdpogjnojnaaGreatDoor
