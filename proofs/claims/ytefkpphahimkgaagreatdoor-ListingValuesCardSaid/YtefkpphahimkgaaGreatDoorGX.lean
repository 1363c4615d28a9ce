/-
 octet.Hex: what it returns.
 octet.Unhex: what it returns.
 Bytes that stay: read through a slice whose block lies below B.
 pursuivantref01.digit and Unhex: what they return.
 pursuivantref01.Hex: what it returns.
 slices.Clone, slices.Equal at []byte; octet.Same, octet.Text: what they return.
-/
import Derived.Test.YtefkpphahimkgaaGreatDoorTk
import Derived.Test.YtefkpphahimkgaaGreatDoorGA
import Derived.Test.YtefkpphahimkgaaGreatDoorShelf
import Derived.Handy
import Derived.Test.YtefkpphahimkgaaGreatDoorGP
import Derived.Shelf.Strings.SlTrimAscii
import Derived.Deep.RegionHeld3
import Derived.Deep.AppendLies
import Derived.Test.YtefkpphahimkgaaGreatDoorRunStr
import Derived.Deep.QuietTactic
import Derived.BigQuiet
namespace Go.Proofs.YtefkpphahimkgaaGreatDoor
open Go.RowKit
def hexDigit (n : Nat) : UInt8 := if n < 10 then UInt8.ofNat (48 + n) else UInt8.ofNat (87 + n)
def hexL (l : List UInt8) : List UInt8 := l.flatMap fun c => [hexDigit (c.toNat / 16), hexDigit (c.toNat % 16)]
theorem hexAt (i : Nat) (h : i < 16) : (({ data := #[48, 49, 50, 51, 52, 53, 54, 55, 56, 57, 97, 98, 99, 100, 101, 102] } : ByteArray)[i]'h) = hexDigit i := by
 have : ∀ j : Fin 16, (({ data := #[48, 49, 50, 51, 52, 53, 54, 55, 56, 57, 97, 98, 99, 100, 101, 102] } : ByteArray)[j.1]'j.2) = hexDigit j.1 := by decide
 exact this ⟨i, h⟩
theorem hexL_length (l : List UInt8) : (hexL l).length = 2 * l.length := by
 induction l with
 | nil => rfl
 | cons a l ih => simp only [hexL, List.flatMap_cons, List.length_append, List.length_cons, List.length_nil] at *; omega
theorem hexL_append (a b : List UInt8) : hexL (a ++ b) = hexL a ++ hexL b := by simp [hexL]
theorem hexL_snoc (l : List UInt8) (k : Nat) (x : UInt8) (hkl : k < l.length) (hx : l[k] = x) (h1 : x.toNat / 16 < 16) (h2 : x.toNat % 16 < 16) :
  Lib.byteCells (hexL (l.take k)) ++ [Value.int .u8 ((({ data := #[48, 49, 50, 51, 52, 53, 54, 55, 56, 57, 97, 98, 99, 100, 101, 102] } : ByteArray)[x.toNat / 16]'h1).toNat : Int)] ++ [Value.int .u8 ((({ data := #[48, 49, 50, 51, 52, 53, 54, 55, 56, 57, 97, 98, 99, 100, 101, 102] } : ByteArray)[x.toNat % 16]'h2).toNat : Int)] = Lib.byteCells (hexL (l.take (k + 1))) := by
 rw [List.take_succ_eq_append_getElem hkl, hexL_append, hx, hexAt _ h1, hexAt _ h2]
 simp [Lib.byteCells, hexL]
theorem newBuilder (w : World) (B : Nat) (hB : B ≤ w.heap.size) : Lib.IsBuilder 132 5 B w.heap.size [] (w.alloc (.cells #[.pointer none, .slice none 0 0] 132)) :=
 .inl ⟨hB, .slice none 0 0, heap_alloc_new w _, World.ownsRow_nil _ _ _ _, by simp [Value.ownBlock]⟩
theorem getElem?_take_byteCells {l : List UInt8} {k : Nat} (h : k < l.length) : (Lib.byteCells l)[k]? = some (.int .u8 (l[k].toNat : Int)) := by
 simp [Lib.byteCells, h]
set_option maxRecDepth 100000 in
set_option maxHeartbeats 400000 in
theorem hex_any (A : Option Addr) (n c : Nat) (l : List UInt8) (w : World) (hn : n ≤ 70368744177664) (hr : Reads w w.heap.size 1 A n (Lib.byteCells l)) :
  Calls Tryz.prog 54 #[.slice A n c] w fun e w' => e = .returned (.string ⟨(hexL l).toArray⟩) ∧ Below w.heap.size w w' := by
 have hl : l.length = n := by have := hr.1; simpa [Lib.byteCells] using this
 have HL : Hid (l.length = n) := Ld hl
 clear hl
 go_enter Tryz.func54, Tryz.ntmps54
 go_wp2
 go_loopw [8] (fun v wr => ∃ k : Nat, k ≤ n ∧ v = .int .i64 k ∧ Lib.IsBuilder 132 5 w.heap.size w.heap.size (Lib.byteCells (hexL (l.take k))) wr ∧ Below w.heap.size w wr) (fun v _ => n - (intOf v).toNat)
 case atStart => exact ⟨0, Nat.zero_le _, rfl, newBuilder w _ (Nat.le_refl _), (Below.refl _ _).alloc (Nat.le_refl _) _⟩
 case round =>
  obtain ⟨k, hk, rfl, hB, hb⟩ := hrel
  by_cases hlt : k < n
  ·obtain ⟨ad, u, rfl, _, hx, hc⟩ := (hr.below hb).at_ hlt
   have hkl : k < l.length := by rw [HL.out]; exact hlt
   obtain rfl : Value.int .u8 (l[k].toNat : Int) = u := by rw [getElem?_take_byteCells hkl] at hx; exact Option.some.inj hx
   generalize hxv : l[k] = x at *
   have hx256 : (x.toNat : Int) < 256 := by have := x.toNat_lt; omega
   have hx0 : 0 ≤ (x.toNat : Int) := by omega
   clear hx hr
   have hlen : (Lib.byteCells (hexL (l.take k))).length + 2 ≤ 140737488355328 := by rw [Lib.byteCells_length, hexL_length, List.length_take]; omega
   go_wp2_with fail
   refine (writeByte_any w.heap.size w.heap.size _ _ _ hB (by omega) hb.size).mono ?_
   rintro e w1 ⟨rfl, hB1, hb1⟩
   have hb2 := hb.trans hb1
   go_wp2_with fail
   refine (writeByte_any w.heap.size w.heap.size _ _ _ (.inr hB1) (by simp; omega) hb2.size).mono ?_
   rintro e w2 ⟨rfl, hB2, hb3⟩
   go_wp2_with fail
   go_roundw
   case rel => exact ⟨k + 1, by omega, by go_num, .inr (by rw [← hexL_snoc l k x hkl hxv (by omega) (by omega)]; exact hB2), hb2.trans hb3⟩
   case measure => simp [intOf]; omega
  ·have hkn : k = n := by omega
   have HK : Hid (k = n) := hkn
   clear hkn
   go_wp2_with fail
   refine (Tryz.Builder_String_any w.heap.size w.heap.size _ _ hB hb.size).mono ?_
   rintro e w1 ⟨rfl, hb1⟩
   go_wp2
   go_ret
   refine ⟨?_, hb.trans hb1⟩
   rw [HK.out, ← HL.out, List.take_length]; rfl
end Go.Proofs.YtefkpphahimkgaaGreatDoor
namespace Go.Proofs.YtefkpphahimkgaaGreatDoor
open Go.RowKit
set_option linter.unusedVariables false
theorem ret_int {k : IntKind} {a b : Int} (h : a = b) : Ending.returned (.int k a) = .returned (.int k b) := by rw [h]
theorem trim_hex (s : ByteArray) (w : World) (hs : s.size ≤ 9223372036854775807) :
  Calls Tryz.prog 39 #[.string s, .string { data := #[48, 49, 50, 51, 52, 53, 54, 55, 56, 57, 97, 98, 99, 100, 101, 102] }] w fun e w' => e = .returned (.string ⟨(Lib.trimS s.data.toList digitsL).toArray⟩) ∧ Below w.heap.size w w' :=
 Any.strings_Trim_laid Tryz.lays160 (by kernel_rfl) s { data := #[48, 49, 50, 51, 52, 53, 54, 55, 56, 57, 97, 98, 99, 100, 101, 102] } w hs (by decide) (ascii_of_all (by decide))
set_option maxRecDepth 100000 in
set_option maxHeartbeats 400000 in
theorem unhexAt (s : ByteArray) (b i : Nat) (w : World) (h : i < s.data.toList.length) (hb : w.cell? ⟨b, 0, none⟩ = some (.string s)) (hs : s.size ≤ 140737488351232) :
  Calls Tryz.prog 157 #[.int .i64 i, .pointer (some ⟨b, 0, none⟩)] w fun e w' => e = .returned (.int .i64 (hexI s.data.toList[i])) ∧ w = w' := by
 have hi : (i : Int) < (s.size : Int) := by have : s.size = s.data.toList.length := rfl; omega
 have hi' : i < s.size := by omega
 go_enter Tryz.func157, Tryz.ntmps157
 go_wp2_with fail
 refine (Tryz.strings_IndexByte _ _ _).mono ?_
 rintro e w' ⟨rfl, rfl⟩
 go_wp2
 go_ret
 exact ⟨ret_int (by rw [← indexByte_digits]; rfl), rfl⟩
set_option maxRecDepth 100000 in
set_option maxHeartbeats 400000 in
theorem unhex_no (s : ByteArray) (w : World) (hs : s.size ≤ 140737488351232) (hn : okHex s.data.toList = false) :
  Calls Tryz.prog 125 #[.string s] w fun e w' => e = .returned (.tuple #[.slice none 0 0, .int .i64 10]) ∧ Below w.heap.size w w' := by
 have hsz : s.data.toList.length = s.size := rfl
 rcases (by omega : s.size % 2 = 1 ∨ s.size % 2 = 0) with h1 | h1
 ·have d1 : ((s.size : Int) % 2 != 0) = true := by rw [bne_iff_ne]; omega
  clear h1
  go_enter Tryz.func125, Tryz.ntmps125
  go_wp2
  go_ret2
  exact ⟨rfl, (Below.refl _ _).alloc (Nat.le_refl _) _⟩
 ·have d1 : ((s.size : Int) % 2 != 0) = false := by rw [← Bool.not_eq_true, bne_iff_ne]; omega
  have ht : (Lib.trimS s.data.toList digitsL).isEmpty = false := by
   rw [← Bool.not_eq_true, List.isEmpty_iff, trim_digits]
   intro h2
   simp [okHex, h2] at hn
   omega
  clear h1 hn
  go_enter Tryz.func125, Tryz.ntmps125
  go_wp2_with fail
  refine (trim_hex _ _ (by omega)).mono ?_
  rintro e w1 ⟨rfl, hb⟩
  go_wp2
  go_ret2
  exact ⟨rfl, ((Below.refl _ _).alloc (Nat.le_refl _) _).trans (hb.mono (by simp))⟩
theorem unhexAt_i (s : ByteArray) (b i : Nat) (n : Int) (hn : n = (i : Int)) (x : Nat) (w : World) (h : i < s.data.toList.length) (hx : hexI s.data.toList[i] = (x : Int)) (hb : w.cell? ⟨b, 0, none⟩ = some (.string s)) (hs : s.size ≤ 140737488351232) :
  Calls Tryz.prog 157 #[.int .i64 n, .pointer (some ⟨b, 0, none⟩)] w fun e w' => e = .returned (.int .i64 (x : Int)) ∧ w = w' := by
 subst hn
 rw [← hx]
 exact unhexAt s b i w h hb hs
theorem hex_byte (a b : Nat) (ha : a < 16) (hb : b < 16) : bits .or .i64 ((a : Int) * 16) (b : Int) = ((16 * a + b : Nat) : Int) := by
 have e : ((a : Int) * 16) = ((a * 16 : Nat) : Int) := by simp
 have h2 : a * 16 ||| b = 16 * a + b := by
  have := Nat.two_pow_add_eq_or_of_lt (i := 4) (b := b) hb a
  rw [Nat.mul_comm a 16]
  exact this.symm
 rw [e]
 show IntKind.i64.wrap ((BitVec.ofInt 64 ((a * 16 : Nat) : Int) ||| BitVec.ofInt 64 (b : Int)).toNat : Int) = _
 have o1 : ∀ n : Nat, n < 1000 → (BitVec.ofInt 64 (n : Int)).toNat = n := fun n hn => by rw [BitVec.ofInt_natCast, BitVec.toNat_ofNat]; exact Nat.mod_eq_of_lt (by omega)
 rw [BitVec.toNat_or, o1 _ (by omega), o1 b (by omega), h2, IntKind.wrap_i64]
 omega
set_option maxRecDepth 100000 in
set_option maxHeartbeats 1000000 in
theorem unhex_ok (s : ByteArray) (w : World) (hs : s.size ≤ 140737488351232) (hn : okHex s.data.toList = true) :
  Calls Tryz.prog 125 #[.string s] w fun e w' => ∃ v, e = .returned (.tuple #[v, .int .i64 0]) ∧ OB w' w.heap.size v (unhexL s.data.toList) ∧ Below w.heap.size w w' := by
 have hsz : s.data.toList.length = s.size := rfl
 simp only [okHex, Bool.and_eq_true, decide_eq_true_iff] at hn
 obtain ⟨h1, h2⟩ := hn
 obtain ⟨m, hm⟩ : ∃ m, s.size = 2 * m := ⟨s.size / 2, by omega⟩
 have d1 : ((s.size : Int) % 2 != 0) = false := by rw [← Bool.not_eq_true, bne_iff_ne]; omega
 have ht : (Lib.trimS s.data.toList digitsL).isEmpty = true := by rw [List.isEmpty_iff, trim_digits]; exact h2
 have HM := Ld hm
 have H2 := Ld h2
 clear h1 hm h2
 go_enter Tryz.func125, Tryz.ntmps125
 go_wp2_with fail
 refine (trim_hex _ _ (by omega)).mono ?_
 rintro e w1 ⟨rfl, hb⟩
 have hc1 : w1.cell? ⟨w.heap.size, 0, none⟩ = some (.string s) := (hb.cell (p := ⟨w.heap.size, 0, none⟩) (by simp)).trans (by rw [World.cell?_alloc_new]; rfl)
 have hsz1 : w.heap.size < w1.heap.size := by have := hb.size; simp at this; omega
 have hb1 : Below w.heap.size w w1 := ((Below.refl _ _).alloc (Nat.le_refl _) _).trans (hb.mono (by simp))
 clear hb
 go_wp2
 go_loopw [5, 6] (fun v i wr => ∃ k : Nat, 2 * k ≤ s.size ∧ i = .int .i64 (2 * (k : Int)) ∧ OB wr (w.heap.size + 1) v (unhexL (s.data.toList.take (2 * k))) ∧ wr.cell? ⟨w.heap.size, 0, none⟩ = some (.string s) ∧ w.heap.size < wr.heap.size ∧ Below w.heap.size w wr) (fun _ i _ => s.size - (intOf i).toNat)
 case atStart => exact ⟨0, Nat.zero_le _, rfl, OB.nil _ _, hc1, hsz1, hb1⟩
 case round =>
  obtain ⟨k, hk, rfl, hown, hc, hszr, hbr⟩ := hrel
  clear hc1 hsz1 hb1
  by_cases hlt : 2 * k < s.size
  ·have hlt2 : 2 * k + 1 < s.size := by have := HM.out; omega
   have ha := all_getElem H2.out (2 * k) (by rw [hsz]; omega)
   have hb := all_getElem H2.out (2 * k + 1) (by rw [hsz]; omega)
   have HS := Ld (unhexL_take s.data.toList k (by rw [hsz]; omega))
   have hA := unhexAt_i s w.heap.size (2 * k) (2 * (k : Int)) (by omega) _ wr (by rw [hsz]; omega) (hexI_yes _ ha) hc hs
   have hB := unhexAt_i s w.heap.size (2 * k + 1) (2 * (k : Int) + 1) (by omega) _ wr (by rw [hsz]; omega) (hexI_yes _ hb) hc hs
   have ha16 := hexV_lt _ ha
   have hb16 := hexV_lt _ hb
   generalize hexV s.data.toList[2 * k] = x at *
   generalize hexV s.data.toList[2 * k + 1] = y at *
   have hor := hex_byte x y ha16 hb16
   have hz : ((UInt8.ofNat (16 * x + y)).toNat : Int) = 16 * (x : Int) + (y : Int) := by
    rw [UInt8.toNat_ofNat']
    omega
   generalize UInt8.ofNat (16 * x + y) = z at *
   have HZ := Ld hz
   clear hz
   have HO := Ld hown
   have HHA := Ld hA
   have HHB := Ld hB
   have d2 : decide ((x : Int) < 0) = false := by simp
   have d3 : decide ((y : Int) < 0) = false := by simp
   clear ha hb hown hA hB
   go_wp2_with fail
   refine HHA.out.mono ?_
   rintro e w2 ⟨rfl, rfl⟩
   go_wp2_with fail
   refine HHB.out.mono ?_
   rintro e w2 ⟨rfl, rfl⟩
   go_wp2_with (at_builtin; refine app_one wr rfl _ _ rfl (w.heap.size + 1) u5 _ rfl HO.out z _ ?hy rfl ?hl hszr ?_)
   case hl => rw [unhexL_length, List.length_take]; omega
   case hy =>
    rw [HZ.out]
   intro v1 w2 ho1 hg1 hat
   have hkeep : w2.cell? ⟨w.heap.size, 0, none⟩ = some (.string s) := by
    refine (World.cell?_of_block (hg1.block w.heap.size (by simp; omega) (fun e => ?_))).trans ((World.cell?_alloc_lt _ _ _ hszr).trans hc)
    have := HO.out.grown_ge _ e.symm
    omega
   have hbl : Below w.heap.size w w2 := (hbr.alloc (by omega) _).grown hg1 (by simp; omega) (fun j hj => by have := HO.out.grown_ge j hj; omega)
   have hs2 : w.heap.size < w2.heap.size := by have := hg1.size; simp at this; omega
   have HO1 := Ld ho1
   have HK := Ld hkeep
   clear ho1 hg1 hat hkeep
   go_wp2
   go_roundw
   case rel => exact ⟨k + 1, by omega, by go_num, by rw [show 2 * (k + 1) = 2 * k + 2 from by omega, HS.out]; exact HO1.out, HK.out, hs2, hbl⟩
   case measure => simp [intOf]; omega
  ·have hk2 : 2 * k = s.size := by omega
   have HK := Ld hk2
   have HO := Ld hown
   clear hk2 hown
   go_wp2
   go_ret2
   refine ⟨u5, rfl, ?_, hbr⟩
   have := HO.out
   rw [HK.out, List.take_of_length_le (by rw [hsz]; exact Nat.le_refl _)] at this
   exact this.mono (by omega)
end Go.Proofs.YtefkpphahimkgaaGreatDoor
namespace Go.Proofs.YtefkpphahimkgaaGreatDoor
open Go.RowKit
theorem RB.alloc {w : World} {A : Option Addr} {l : List UInt8} (h : RB w A l) (o : Obj) : RB (w.alloc o) A l := h.below ((Below.refl _ _).alloc (Nat.le_refl _) _)
theorem RB.drewN {w : World} {A : Option Addr} {l : List UInt8} (h : RB w A l) (n : Nat) : RB (w.drewN n) A l := h
theorem RB.drew {w : World} {A : Option Addr} {l : List UInt8} (h : RB w A l) : RB w.drew A l := h
def KB (w : World) (B : Nat) (A : Option Addr) (l : List UInt8) : Prop := RB w A l ∧ ∀ ad, A = some ad → ad.block < B
theorem KB.below {w w' : World} {B : Nat} {A : Option Addr} {l : List UInt8} (h : KB w B A l) (hb : Below w.heap.size w w') : KB w' B A l := ⟨h.1.below hb, h.2⟩
theorem KB.fr {S : Nat → Prop} {w w' : World} {B : Nat} {A : Option Addr} {l : List UInt8} (h : KB w B A l) (hf : Fr S w w') (hS : ∀ k, S k → B ≤ k) : KB w' B A l :=
 ⟨h.1.fr hf (fun ad e hs => by have := h.2 ad e; have := hS _ hs; omega), h.2⟩
theorem KB.mono {w : World} {B B' : Nat} {A : Option Addr} {l : List UInt8} (h : KB w B A l) (hB : B ≤ B') : KB w B' A l := ⟨h.1, fun ad e => by have := h.2 ad e; omega⟩
end Go.Proofs.YtefkpphahimkgaaGreatDoor
namespace Go.Proofs.YtefkpphahimkgaaGreatDoor
open Go.RowKit
set_option linter.unusedVariables false
set_option maxRecDepth 100000 in
set_option maxHeartbeats 400000 in
theorem digit_any (x : UInt8) (w : World) : Calls Tryz.prog 146 #[.int .u8 (x.toNat : Int)] w fun e w' => e = .returned (.int .i64 (hexI x)) ∧ w = w' := by
 have hlt := x.toNat_lt
 rcases (by omega : x.toNat < 48 ∨ (48 ≤ x.toNat ∧ x.toNat ≤ 57) ∨ (57 < x.toNat ∧ x.toNat < 97) ∨ (97 ≤ x.toNat ∧ x.toNat ≤ 102) ∨ 102 < x.toNat) with h | h | h | h | h
 ·have e : hexI x = -1 := all_u8 (p := fun x => x.toNat < 48 → hexI x = -1) (by decide +kernel) x h
  have HE := Ld e
  clear e
  have d1 : decide (48 ≤ (x.toNat : Int)) = false := by rw [decide_eq_false_iff_not]; omega
  have d2 : decide (97 ≤ (x.toNat : Int)) = false := by rw [decide_eq_false_iff_not]; omega
  go_enter Tryz.func146, Tryz.ntmps146
  go_wp2
  go_ret
  exact ⟨ret_int HE.out.symm, rfl⟩
 ·have e : hexI x = (x.toNat : Int) - 48 := all_u8 (p := fun x => 48 ≤ x.toNat ∧ x.toNat ≤ 57 → hexI x = (x.toNat : Int) - 48) (by decide +kernel) x h
  have HE := Ld e
  clear e
  obtain ⟨h1, h2⟩ := h
  have d1 : decide (48 ≤ (x.toNat : Int)) = true := by rw [decide_eq_true_iff]; omega
  have d2 : decide ((x.toNat : Int) ≤ 57) = true := by rw [decide_eq_true_iff]; omega
  go_enter Tryz.func146, Tryz.ntmps146
  go_wp2
  go_ret
  exact ⟨ret_int HE.out.symm, rfl⟩
 ·have e : hexI x = -1 := all_u8 (p := fun x => 57 < x.toNat ∧ x.toNat < 97 → hexI x = -1) (by decide +kernel) x h
  have HE := Ld e
  clear e
  obtain ⟨h1, h2⟩ := h
  have d1 : decide (48 ≤ (x.toNat : Int)) = true := by rw [decide_eq_true_iff]; omega
  have d2 : decide ((x.toNat : Int) ≤ 57) = false := by rw [decide_eq_false_iff_not]; omega
  have d3 : decide (97 ≤ (x.toNat : Int)) = false := by rw [decide_eq_false_iff_not]; omega
  go_enter Tryz.func146, Tryz.ntmps146
  go_wp2
  go_ret
  exact ⟨ret_int HE.out.symm, rfl⟩
 ·have e : hexI x = (x.toNat : Int) - 97 + 10 := all_u8 (p := fun x => 97 ≤ x.toNat ∧ x.toNat ≤ 102 → hexI x = (x.toNat : Int) - 97 + 10) (by decide +kernel) x h
  have HE := Ld e
  clear e
  obtain ⟨h1, h2⟩ := h
  have d1 : decide (48 ≤ (x.toNat : Int)) = true := by rw [decide_eq_true_iff]; omega
  have d2 : decide ((x.toNat : Int) ≤ 57) = false := by rw [decide_eq_false_iff_not]; omega
  have d3 : decide (97 ≤ (x.toNat : Int)) = true := by rw [decide_eq_true_iff]; omega
  have d4 : decide ((x.toNat : Int) ≤ 102) = true := by rw [decide_eq_true_iff]; omega
  go_enter Tryz.func146, Tryz.ntmps146
  go_wp2
  go_ret
  exact ⟨ret_int HE.out.symm, rfl⟩
 ·have e : hexI x = -1 := all_u8 (p := fun x => 102 < x.toNat → hexI x = -1) (by decide +kernel) x h
  have HE := Ld e
  clear e
  have d1 : decide (48 ≤ (x.toNat : Int)) = true := by rw [decide_eq_true_iff]; omega
  have d2 : decide ((x.toNat : Int) ≤ 57) = false := by rw [decide_eq_false_iff_not]; omega
  have d3 : decide (97 ≤ (x.toNat : Int)) = true := by rw [decide_eq_true_iff]; omega
  have d4 : decide ((x.toNat : Int) ≤ 102) = false := by rw [decide_eq_false_iff_not]; omega
  go_enter Tryz.func146, Tryz.ntmps146
  go_wp2
  go_ret
  exact ⟨ret_int HE.out.symm, rfl⟩
theorem okHex_parts {l : List UInt8} (h : okHex l = true) : l.length % 2 = 0 ∧ l.all isHex = true := by
 simpa only [okHex, Bool.and_eq_true, decide_eq_true_iff] using h
set_option maxRecDepth 100000 in
set_option maxHeartbeats 1000000 in
theorem refUnhex_ok (s : ByteArray) (w : World) (hs : s.size ≤ 140737488351232) (hn : okHex s.data.toList = true) :
    Calls Tryz.prog 109 #[.string s] w fun e w' => ∃ v, e = .returned (.tuple #[v, .bool true]) ∧ OB w' w.heap.size v (unhexL s.data.toList) ∧ Below w.heap.size w w' := by
  have hsz : s.data.toList.length = s.size := rfl
  obtain ⟨h1, h2⟩ := okHex_parts hn
  obtain ⟨m, hm⟩ : ∃ m, s.size = 2 * m := ⟨s.size / 2, by omega⟩
  have HM := Ld hm
  have H2 := Ld h2
  clear h1 hm h2 hn
  go_enter Tryz.func109, Tryz.ntmps109
  go_wp2
  go_loopw [4, 5] (fun v i wr => ∃ k : Nat, 2 * k ≤ s.size ∧ i = .int .i64 (2 * (k : Int)) ∧ OB wr w.heap.size v (unhexL (s.data.toList.take (2 * k))) ∧ Below w.heap.size w wr) (fun _ i _ => s.size - (intOf i).toNat)
  case atStart => exact ⟨0, Nat.zero_le _, rfl, OB.nil _ _, Below.refl _ _⟩
  case round =>
    obtain ⟨k, hk, rfl, hown, hbr⟩ := hrel
    have HO := Ld hown
    clear hown
    have hbs := hbr.size
    by_cases hlt : 2 * k < s.size
    · have hlt2 : 2 * k + 1 < s.size := by have := HM.out; omega
      have ha := all_getElem H2.out (2 * k) (by rw [hsz]; omega)
      have hb := all_getElem H2.out (2 * k + 1) (by rw [hsz]; omega)
      have HS := Ld (unhexL_take s.data.toList k (by rw [hsz]; omega))
      have ex : hexI (s[2 * k]'hlt) = (hexV s.data.toList[2 * k] : Int) := hexI_yes _ ha
      have ey : hexI (s[2 * k + 1]'hlt2) = (hexV s.data.toList[2 * k + 1] : Int) := hexI_yes _ hb
      have ha16 := hexV_lt _ ha
      have hb16 := hexV_lt _ hb
      generalize hexV s.data.toList[2 * k] = x at *
      generalize hexV s.data.toList[2 * k + 1] = y at *
      have hz : ((UInt8.ofNat (16 * x + y)).toNat : Int) = 16 * (x : Int) + (y : Int) := by
        rw [UInt8.toNat_ofNat']
        omega
      generalize UInt8.ofNat (16 * x + y) = z at *
      have HZ := Ld hz
      have d2 : decide ((x : Int) < 0) = false := by simp
      have d3 : decide ((y : Int) < 0) = false := by simp
      have d4 : decide ((s.size : Int) ≤ 2 * (k : Int) + 1) = false := by rw [decide_eq_false_iff_not]; omega
      clear ha hb hz
      go_wp2_with (go_at_call 146; refine (digit_any _ _).mono ?_; rintro e w' ⟨rfl, rfl⟩)
      have hle : (unhexL (s.data.toList.take (2 * k))).length + 1 ≤ 140737488355328 := by rw [unhexL_length, List.length_take]; omega
      have q1 : IntKind.i64.wrap (16 * (x : Int)) = 16 * (x : Int) := IntWalk.i64_in _ (by omega)
      have q2 : IntKind.i64.wrap (16 * (x : Int) + (y : Int)) = 16 * (x : Int) + (y : Int) := IntWalk.i64_in _ (by omega)
      have q3 : IntKind.u8.wrap (16 * (x : Int) + (y : Int)) = 16 * (x : Int) + (y : Int) := IntWalk.u8_in _ (by omega)
      have q4 : IntKind.i64.wrap (2 * (k : Int) + 1) = 2 * (k : Int) + 1 := IntWalk.i64_in _ (by omega)
      have b1 : (0 : Int) ≤ 2 * (k : Int) + 1 := by omega
      have b2 : 2 * (k : Int) + 1 < (s.size : Int) := by omega
      have b3 : (0 : Int) ≤ 2 * (k : Int) := by omega
      have b4 : 2 * (k : Int) < (s.size : Int) := by omega
      have t1 : (2 * (k : Int) + 1).toNat = 2 * k + 1 := by omega
      have t2 : (2 * (k : Int)).toNat = 2 * k := by omega
      go_region_held3 (fun w' => True)
        (first | trivial)
        (first | (go_at_call 146; refine (digit_any _ _).mono ?_; rintro e w' ⟨rfl, rfl⟩)
               | (refine step_app_bytes _ (by rfl) _ _ (by rfl) w.heap.size u4 _ (by rfl) (HO.out.alloc _).drew (some ⟨wr.heap.size, 0, none⟩) 1 1 [z] (by rfl) (by rfl) (lit_rb wr [z] _ (by rw [Lib.byteCells, List.map_singleton, HZ.out])).drew' hle (by simp; omega) ?_; intro v1 w2 ho1 hg1 hat))
      all_goals
        have hbl : Below w.heap.size w w2 := ((hbr.alloc hbs _).drew).grown hg1 (by simp; omega) (fun j hj => HO.out.grown_ge j hj)
        have HO1 := Ld ho1
        clear ho1 hg1 hat
        go_wp2
        clear q1 q2 q3 q4 t1 t2
        go_roundw
        case rel => exact ⟨k + 1, by omega, by go_num, by rw [show 2 * (k + 1) = 2 * k + 2 from by omega, HS.out]; exact HO1.out, hbl⟩
        case measure => simp [intOf]; omega
    · have hk2 : 2 * k = s.size := by omega
      have HK := Ld hk2
      clear hk2
      go_wp2
      go_ret2
      refine ⟨u4, rfl, ?_, hbr⟩
      have := HO.out
      rw [HK.out, List.take_of_length_le (by rw [hsz]; exact Nat.le_refl _)] at this
      exact this
theorem take_all (l : List UInt8) (k : Nat) (h : (l.take k).all isHex = true) (hk : k < l.length) (hx : isHex l[k] = true) : (l.take (k + 1)).all isHex = true := by
 rw [List.take_succ_eq_append_getElem hk, List.all_append, h]
 simp [hx]
set_option maxRecDepth 100000 in
set_option maxHeartbeats 1000000 in
theorem refUnhex_no (s : ByteArray) (w : World) (hs : s.size ≤ 140737488351232) (hn : okHex s.data.toList = false) :
    Calls Tryz.prog 109 #[.string s] w fun e w' => e = .returned (.tuple #[.slice none 0 0, .bool false]) ∧ Below w.heap.size w w' := by
  have hsz : s.data.toList.length = s.size := rfl
  have HN := Ld hn
  clear hn
  go_enter Tryz.func109, Tryz.ntmps109
  go_wp2
  go_loopw [4, 5] (fun v i wr => ∃ k : Nat, 2 * k ≤ s.size ∧ i = .int .i64 (2 * (k : Int)) ∧ (OB wr w.heap.size v (unhexL (s.data.toList.take (2 * k))) ∧ (s.data.toList.take (2 * k)).all isHex = true) ∧ Below w.heap.size w wr) (fun _ i _ => s.size - (intOf i).toNat)
  case atStart => exact ⟨0, Nat.zero_le _, rfl, ⟨OB.nil _ _, rfl⟩, Below.refl _ _⟩
  case round =>
    obtain ⟨k, hk, rfl, ⟨hown, hall⟩, hbr⟩ := hrel
    have HO := Ld hown
    have HAL := Ld hall
    clear hown hall
    have hbs := hbr.size
    by_cases hlt : 2 * k < s.size
    · by_cases hlt2 : 2 * k + 1 < s.size
      · have d4 : decide ((s.size : Int) ≤ 2 * (k : Int) + 1) = false := by rw [decide_eq_false_iff_not]; omega
        cases hA : isHex s.data.toList[2 * k] with
        | false =>
          have ex : hexI (s[2 * k]'hlt) = -1 := hexI_no _ hA
          clear hA
          go_wp2_with (go_at_call 146; refine (digit_any _ _).mono ?_; rintro e w' ⟨rfl, rfl⟩)
          go_ret2
          exact ⟨rfl, hbr⟩
        | true =>
          cases hB : isHex s.data.toList[2 * k + 1] with
          | false =>
            have ex : hexI (s[2 * k]'hlt) = (hexV s.data.toList[2 * k] : Int) := hexI_yes _ hA
            have ey : hexI (s[2 * k + 1]'hlt2) = -1 := hexI_no _ hB
            generalize hexV s.data.toList[2 * k] = x at *
            have d2 : decide ((x : Int) < 0) = false := by simp
            clear hA hB
            go_wp2_with (go_at_call 146; refine (digit_any _ _).mono ?_; rintro e w' ⟨rfl, rfl⟩)
            go_ret2
            exact ⟨rfl, hbr⟩
          | true =>
            have HALL := Ld (take_all _ (2 * k + 1) (take_all _ (2 * k) HAL.out (by rw [hsz]; omega) hA) (by rw [hsz]; omega) hB)
            have ha := hA
            have hb := hB
            clear hA hB
            have HS := Ld (unhexL_take s.data.toList k (by rw [hsz]; omega))
            have ex : hexI (s[2 * k]'hlt) = (hexV s.data.toList[2 * k] : Int) := hexI_yes _ ha
            have ey : hexI (s[2 * k + 1]'hlt2) = (hexV s.data.toList[2 * k + 1] : Int) := hexI_yes _ hb
            have ha16 := hexV_lt _ ha
            have hb16 := hexV_lt _ hb
            generalize hexV s.data.toList[2 * k] = x at *
            generalize hexV s.data.toList[2 * k + 1] = y at *
            have hz : ((UInt8.ofNat (16 * x + y)).toNat : Int) = 16 * (x : Int) + (y : Int) := by
              rw [UInt8.toNat_ofNat']
              omega
            generalize UInt8.ofNat (16 * x + y) = z at *
            have HZ := Ld hz
            have d2 : decide ((x : Int) < 0) = false := by simp
            have d3 : decide ((y : Int) < 0) = false := by simp
            clear ha hb hz
            go_wp2_with (go_at_call 146; refine (digit_any _ _).mono ?_; rintro e w' ⟨rfl, rfl⟩)
            have hle : (unhexL (s.data.toList.take (2 * k))).length + 1 ≤ 140737488355328 := by rw [unhexL_length, List.length_take]; omega
            have q1 : IntKind.i64.wrap (16 * (x : Int)) = 16 * (x : Int) := IntWalk.i64_in _ (by omega)
            have q2 : IntKind.i64.wrap (16 * (x : Int) + (y : Int)) = 16 * (x : Int) + (y : Int) := IntWalk.i64_in _ (by omega)
            have q3 : IntKind.u8.wrap (16 * (x : Int) + (y : Int)) = 16 * (x : Int) + (y : Int) := IntWalk.u8_in _ (by omega)
            have q4 : IntKind.i64.wrap (2 * (k : Int) + 1) = 2 * (k : Int) + 1 := IntWalk.i64_in _ (by omega)
            have b1 : (0 : Int) ≤ 2 * (k : Int) + 1 := by omega
            have b2 : 2 * (k : Int) + 1 < (s.size : Int) := by omega
            have b3 : (0 : Int) ≤ 2 * (k : Int) := by omega
            have b4 : 2 * (k : Int) < (s.size : Int) := by omega
            have t1 : (2 * (k : Int) + 1).toNat = 2 * k + 1 := by omega
            have t2 : (2 * (k : Int)).toNat = 2 * k := by omega
            go_region_held3 (fun w' => True)
              (first | trivial)
              (first | (go_at_call 146; refine (digit_any _ _).mono ?_; rintro e w' ⟨rfl, rfl⟩)
                     | (refine step_app_bytes _ (by rfl) _ _ (by rfl) w.heap.size u4 _ (by rfl) (HO.out.alloc _).drew (some ⟨wr.heap.size, 0, none⟩) 1 1 [z] (by rfl) (by rfl) (lit_rb wr [z] _ (by rw [Lib.byteCells, List.map_singleton, HZ.out])).drew' hle (by simp; omega) ?_; intro v1 w2 ho1 hg1 hat))
            all_goals
              have hbl : Below w.heap.size w w2 := ((hbr.alloc hbs _).drew).grown hg1 (by simp; omega) (fun j hj => HO.out.grown_ge j hj)
              have HO1 := Ld ho1
              clear ho1 hg1 hat
              go_wp2
              clear q1 q2 q3 q4 t1 t2
              go_roundw
              case rel => exact ⟨k + 1, by omega, by go_num, ⟨by rw [show 2 * (k + 1) = 2 * k + 2 from by omega, HS.out]; exact HO1.out, by rw [show 2 * (k + 1) = 2 * k + 1 + 1 from by omega]; exact HALL.out⟩, hbl⟩
              case measure => simp [intOf]; omega
      · have d4 : decide ((s.size : Int) ≤ 2 * (k : Int) + 1) = true := by rw [decide_eq_true_iff]; omega
        go_wp2_with (go_at_call 146; refine (digit_any _ _).mono ?_; rintro e w' ⟨rfl, rfl⟩)
        go_ret2
        exact ⟨rfl, hbr⟩
    · exfalso
      have hk2 : 2 * k = s.size := by omega
      have h1 := HN.out
      have h2 := HAL.out
      rw [hk2, List.take_of_length_le (by rw [hsz]; exact Nat.le_refl _)] at h2
      simp [okHex, h2] at h1
      omega
end Go.Proofs.YtefkpphahimkgaaGreatDoor
namespace Go.Proofs.YtefkpphahimkgaaGreatDoor
open Go.RowKit
set_option linter.unusedVariables false
set_option maxRecDepth 100000 in
set_option maxHeartbeats 400000 in
theorem same_len (A B : Option Addr) (n m c d : Nat) (w : World) (h : n ≠ m) (hn : n ≤ maxLen) (hm : m ≤ maxLen) :
  Calls Tryz.prog 53 #[.slice A n c, .slice B m d] w fun e w' => e = .returned (.bool false) ∧ w = w' := by
 unfold maxLen at hn hm
 have h1 : ((n : Int) != m) = true := by simp; omega
 go_enter Tryz.func53, Tryz.ntmps53
 go_wp2
 go_ret
 exact ⟨rfl, rfl⟩
theorem u8_or_xor (o x y : UInt8) : bits .or .u8 (o.toNat : Int) (bits .xor .u8 (x.toNat : Int) (y.toNat : Int)) = ((o ||| (x ^^^ y)).toNat : Int) := by
 have h1 := o.toNat_lt; have h2 := x.toNat_lt; have h3 := y.toNat_lt
 rw [u8_xor_nat _ _ (by omega) (by omega)]
 have h4 : x.toNat ^^^ y.toNat < 2 ^ 8 := Nat.xor_lt_two_pow (by omega) (by omega)
 rw [u8_or_nat _ _ (by omega) (by omega)]
 simp
theorem u8_or_xor_zero (o x y : UInt8) : (o ||| (x ^^^ y) = 0) ↔ (o = 0 ∧ x = y) := by
 rw [UInt8.or_eq_zero_iff, UInt8.xor_eq_zero_iff]
theorem take_both (a b : List UInt8) (k : Nat) (h1 : k < a.length) (h2 : k < b.length) : a.take (k + 1) = b.take (k + 1) ↔ (a.take k = b.take k ∧ a[k] = b[k]) := by
 rw [List.take_succ_eq_append_getElem h1, List.take_succ_eq_append_getElem h2]
 constructor
 ·intro h
  have := List.append_inj h (by simp; omega)
  exact ⟨this.1, by simpa using this.2⟩
 ·rintro ⟨h, e⟩
  rw [h, e]
theorem ret_bool {x y : Bool} (h : x = y) : Ending.returned (.bool x) = .returned (.bool y) := by rw [h]
set_option maxRecDepth 100000 in
set_option maxHeartbeats 400000 in
theorem same_any (A B : Option Addr) (n c d : Nat) (a b : List UInt8) (w : World) (hn : n ≤ 140737488355328) (ha : Reads w w.heap.size 1 A n (Lib.byteCells a)) (hb : Reads w w.heap.size 1 B n (Lib.byteCells b)) :
  Calls Tryz.prog 53 #[.slice A n c, .slice B n d] w fun e w' => e = .returned (.bool (decide (a = b))) ∧ ∃ q, w' = w.drewN q := by
 have hal : a.length = n := by have := ha.1; simpa [Lib.byteCells] using this
 have hbl : b.length = n := by have := hb.1; simpa [Lib.byteCells] using this
 have HAL := Ld hal
 have HBL := Ld hbl
 clear hal hbl
 have h1 : ((n : Int) != n) = false := by simp
 go_enter Tryz.func53, Tryz.ntmps53
 go_wp2
 go_loopw [5, 14] (fun o v wr => ∃ k : Nat, k ≤ n ∧ v = .int .i64 k ∧ (∃ acc : UInt8, o = .int .u8 (acc.toNat : Int) ∧ (acc = 0 ↔ a.take k = b.take k)) ∧ ∃ q, wr = w.drewN q) (fun _ v _ => n - (intOf v).toNat)
 case atStart => exact ⟨0, Nat.zero_le _, rfl, ⟨0, rfl, by simp⟩, 0, rfl⟩
 case round =>
  obtain ⟨k, hk, rfl, ⟨acc, rfl, hab⟩, q, rfl⟩ := hrel
  have HAB := Ld hab
  clear hab
  by_cases hlt : k < n
  ·obtain ⟨ad, u, rfl, _, hx, hc⟩ := ha.at_ hlt
   obtain ⟨bd, v, rfl, _, hy, hd⟩ := hb.at_ hlt
   have hka : k < a.length := by rw [HAL.out]; exact hlt
   have hkb : k < b.length := by rw [HBL.out]; exact hlt
   obtain rfl : Value.int .u8 (a[k].toNat : Int) = u := by simpa [Lib.byteCells, hka] using hx
   obtain rfl : Value.int .u8 (b[k].toNat : Int) = v := by simpa [Lib.byteCells, hkb] using hy
   clear hx hy ha hb
   have hki : (k : Int) < (n : Int) := by omega
   have hki0 : (0 : Int) ≤ (k : Int) := by omega
   go_wp2
   go_quiet (fail)
   go_wp2
   go_roundw
   case rel => exact ⟨k + 1, by omega, by go_num, ⟨_, by rw [u8_or_xor], by rw [u8_or_xor_zero, take_both a b k hka hkb, HAB.out]⟩, q + nq, rfl⟩
   case measure => simp [intOf]; omega
  ·go_wp2
   go_ret
   refine ⟨ret_bool ?_, q, rfl⟩
   have hkn : k = n := by omega
   have hab := HAB.out
   rw [List.take_of_length_le (by rw [HAL.out]; omega), List.take_of_length_le (by rw [HBL.out]; omega)] at hab
   rw [Bool.eq_iff_iff, decide_eq_true_iff, ← hab, beq_iff_eq]
   constructor
   ·intro h; exact UInt8.toNat.inj (by simpa using h)
   ·rintro rfl; rfl
end Go.Proofs.YtefkpphahimkgaaGreatDoor
