/-
  octet.Hex: what it returns.
  pursuivantref01.Hex: what it returns.
  glob.Under, the document's Under.
-/
import Derived.Test.YthidjdjcjjbpbaaGreatDoorGA
import Derived.Test.YthidjdjcjjbpbaaGreatDoorShelf
import Derived.Handy
import Derived.Deep.RegionHeld3
import Derived.Deep.AppendLies
import Derived.Test.YthidjdjcjjbpbaaGreatDoorGH
import Derived.Test.YthidjdjcjjbpbaaGreatDoorGT
namespace Go.Proofs.YthidjdjcjjbpbaaGreatDoor
open Go.RowKit

def hexDigit (n : Nat) : UInt8 := if n < 10 then UInt8.ofNat (48 + n) else UInt8.ofNat (87 + n)
def hexL (l : List UInt8) : List UInt8 := l.flatMap fun c => [hexDigit (c.toNat / 16), hexDigit (c.toNat % 16)]

theorem hexAt (i : Nat) (h : i < 16) : (({ data := #[48, 49, 50, 51, 52, 53, 54, 55, 56, 57, 97, 98, 99, 100, 101, 102] } : ByteArray)[i]'h) = hexDigit i := by
  have : ∀ j : Fin 16, (({ data := #[48, 49, 50, 51, 52, 53, 54, 55, 56, 57, 97, 98, 99, 100, 101, 102] } : ByteArray)[j.1]'j.2) = hexDigit j.1 := by decide
  exact this ⟨i, h⟩
theorem hexL_length (l : List UInt8) : (hexL l).length = 2 * l.length := by
  induction l with
  | nil => rfl
  | cons a l ih => simp only [hexL, List.flatMap_cons, List.length_append, List.length_cons, List.length_nil] at *; omega
theorem hexL_append (a b : List UInt8) : hexL (a ++ b) = hexL a ++ hexL b := by simp [hexL]
theorem hexL_snoc (l : List UInt8) (k : Nat) (x : UInt8) (hkl : k < l.length) (hx : l[k] = x) (h1 : x.toNat / 16 < 16) (h2 : x.toNat % 16 < 16) :
    Lib.byteCells (hexL (l.take k)) ++ [Value.int .u8 ((({ data := #[48, 49, 50, 51, 52, 53, 54, 55, 56, 57, 97, 98, 99, 100, 101, 102] } : ByteArray)[x.toNat / 16]'h1).toNat : Int)] ++ [Value.int .u8 ((({ data := #[48, 49, 50, 51, 52, 53, 54, 55, 56, 57, 97, 98, 99, 100, 101, 102] } : ByteArray)[x.toNat % 16]'h2).toNat : Int)] = Lib.byteCells (hexL (l.take (k + 1))) := by
  rw [List.take_succ_eq_append_getElem hkl, hexL_append, hx, hexAt _ h1, hexAt _ h2]
  simp [Lib.byteCells, hexL]

theorem newBuilder (w : World) (B : Nat) (hB : B ≤ w.heap.size) : Lib.IsBuilder 128 5 B w.heap.size [] (w.alloc (.cells #[.pointer none, .slice none 0 0] 128)) :=
  .inl ⟨hB, .slice none 0 0, heap_alloc_new w _, World.ownsRow_nil _ _ _ _, by simp [Value.ownBlock]⟩

theorem getElem?_take_byteCells {l : List UInt8} {k : Nat} (h : k < l.length) : (Lib.byteCells l)[k]? = some (.int .u8 (l[k].toNat : Int)) := by
  simp [Lib.byteCells, h]

set_option maxRecDepth 100000 in
set_option maxHeartbeats 400000 in
theorem hex_any (A : Option Addr) (n c : Nat) (l : List UInt8) (w : World) (hn : n ≤ 70368744177664) (hr : Reads w w.heap.size 1 A n (Lib.byteCells l)) :
    Calls Tryz.prog 74 #[.slice A n c] w fun e w' => e = .returned (.string ⟨(hexL l).toArray⟩) ∧ Below w.heap.size w w' := by
  have hl : l.length = n := by have := hr.1; simpa [Lib.byteCells] using this
  have HL : Hid (l.length = n) := Lib.hid hl
  clear hl
  go_enter Tryz.func74, Tryz.ntmps74
  go_wp2
  go_loopw [8] (fun v wr => ∃ k : Nat, k ≤ n ∧ v = .int .i64 k ∧ Lib.IsBuilder 128 5 w.heap.size w.heap.size (Lib.byteCells (hexL (l.take k))) wr ∧ Below w.heap.size w wr) (fun v _ => n - (intOf v).toNat)
  case atStart => exact ⟨0, Nat.zero_le _, rfl, newBuilder w _ (Nat.le_refl _), (Below.refl _ _).alloc (Nat.le_refl _) _⟩
  case round =>
    obtain ⟨k, hk, rfl, hB, hb⟩ := hrel
    by_cases hlt : k < n
    · obtain ⟨ad, u, rfl, _, hx, hc⟩ := (hr.below hb).at_ hlt
      have hkl : k < l.length := by rw [HL.out]; exact hlt
      obtain rfl : Value.int .u8 (l[k].toNat : Int) = u := by rw [getElem?_take_byteCells hkl] at hx; exact Option.some.inj hx
      generalize hxv : l[k] = x at *
      have hx256 : (x.toNat : Int) < 256 := by have := x.toNat_lt; omega
      have hx0 : 0 ≤ (x.toNat : Int) := by omega
      clear hx hr
      have hlen : (Lib.byteCells (hexL (l.take k))).length + 2 ≤ 140737488355328 := by rw [Lib.byteCells_length, hexL_length, List.length_take]; omega
      go_wp2_with fail
      refine (writeByte_any w.heap.size w.heap.size _ _ _ hB (by omega) hb.size).mono ?_
      rintro e w1 ⟨rfl, hB1, hb1⟩
      have hb2 := hb.trans hb1
      go_wp2_with fail
      refine (writeByte_any w.heap.size w.heap.size _ _ _ (.inr hB1) (by simp; omega) hb2.size).mono ?_
      rintro e w2 ⟨rfl, hB2, hb3⟩
      go_wp2_with fail
      go_roundw
      case rel => exact ⟨k + 1, by omega, by go_num, .inr (by rw [← hexL_snoc l k x hkl hxv (by omega) (by omega)]; exact hB2), hb2.trans hb3⟩
      case measure => simp [intOf]; omega
    · have hkn : k = n := by omega
      have HK : Hid (k = n) := hkn
      clear hkn
      go_wp2_with fail
      refine (Tryz.Builder_String_any w.heap.size w.heap.size _ _ hB hb.size).mono ?_
      rintro e w1 ⟨rfl, hb1⟩
      go_wp2
      go_ret
      refine ⟨?_, hb.trans hb1⟩
      rw [HK.out, ← HL.out, List.take_length]; rfl

end Go.Proofs.YthidjdjcjjbpbaaGreatDoor

namespace Go.Proofs.YthidjdjcjjbpbaaGreatDoor
open Go.RowKit
set_option linter.unusedVariables false

theorem hexL_snoc2 (l : List UInt8) (k : Nat) (x : UInt8) (hkl : k < l.length) (hx : l[k] = x) (h1 : x.toNat / 16 < 16) (h2 : x.toNat % 16 < 16) :
    hexL (l.take (k + 1)) = hexL (l.take k) ++ [(({ data := #[48, 49, 50, 51, 52, 53, 54, 55, 56, 57, 97, 98, 99, 100, 101, 102] } : ByteArray)[x.toNat / 16]'h1), (({ data := #[48, 49, 50, 51, 52, 53, 54, 55, 56, 57, 97, 98, 99, 100, 101, 102] } : ByteArray)[x.toNat % 16]'h2)] := by
  rw [List.take_succ_eq_append_getElem hkl, hexL_append, hx, hexAt _ h1, hexAt _ h2]
  simp [hexL]
set_option maxRecDepth 100000 in
set_option maxHeartbeats 1000000 in
theorem refHex_any (A : Option Addr) (n c : Nat) (l : List UInt8) (w : World) (hl : l.length = n) (hn : n ≤ 35184372088832) (hr : RB w A l) :
    Calls Tryz.prog 54 #[.slice A n c] w fun e w' => e = .returned (.string ⟨(hexL l).toArray⟩) ∧ Below w.heap.size w w' := by
  have HL : Hid (l.length = n) := hl
  clear hl
  go_enter Tryz.func54, Tryz.ntmps54
  go_wp2
  go_loopw [3, 4] (fun v i wr => ∃ k : Nat, k ≤ n ∧ i = .int .i64 k ∧ OB wr w.heap.size v (hexL (l.take k)) ∧ Below w.heap.size w wr) (fun _ v _ => n - (intOf v).toNat)
  case atStart => exact ⟨0, Nat.zero_le _, rfl, OB.nil _ _, Below.refl _ _⟩
  case round =>
    obtain ⟨k, hk, rfl, hown, hb⟩ := hrel
    by_cases hlt : k < n
    · have hkl : k < l.length := by rw [HL.out]; exact hlt
      obtain ⟨ad, rfl, hadlt, hc0⟩ := hr.at_ hkl
      have hbs := hb.size
      have hc := (hb.cell (p := ad.add k) (by rw [block_of_add]; exact hadlt)).trans hc0
      have hne : some (ad.add k).block ≠ u3.ownBlock := fun e => by rw [block_of_add] at e; have := hown.grown_ge _ e.symm; omega
      have HCA : Hid (∀ o, ((wr.alloc o).drew).cell? (ad.add k) = some (.int .u8 (l[k].toNat : Int))) := fun o => (World.cell?_alloc_lt wr o _ (by rw [block_of_add]; omega)).trans hc
      have HNE := Lib.hid hne
      clear hc0 hne
      have HS := Lib.hid hown
      clear hown hr
      generalize hx : l[k] = x at *
      have HX := Lib.hid hx
      clear hx
      have hx256 : (x.toNat : Int) < 256 := by have := x.toNat_lt; omega
      have hx0 : 0 ≤ (x.toNat : Int) := by omega
      have hki : (k : Int) < (n : Int) := by omega
      have hki0 : (0 : Int) ≤ (k : Int) := by omega
      go_wp2
      have h1 : x.toNat / 16 < 16 := by omega
      have h2 : x.toNat % 16 < 16 := by omega
      have q1 : (x.toNat : Int).tdiv 16 = (x.toNat : Int) / 16 := Int.tdiv_eq_ediv_of_nonneg (by omega)
      have q2 : (x.toNat : Int).tmod 16 = (x.toNat : Int) % 16 := Int.tmod_eq_emod_of_nonneg (by omega)
      have q3 : IntKind.u8.wrap ((x.toNat : Int) / 16) = (x.toNat : Int) / 16 := IntWalk.u8_in _ (by omega)
      have q4 : IntKind.u8.wrap ((x.toNat : Int) % 16) = (x.toNat : Int) % 16 := IntWalk.u8_in _ (by omega)
      have b1 : (0 : Int) ≤ (x.toNat : Int) / 16 := by omega
      have b2 : (x.toNat : Int) / 16 < 16 := by omega
      have b3 : (0 : Int) ≤ (x.toNat : Int) % 16 := by omega
      have b4 : (x.toNat : Int) % 16 < 16 := by omega
      have hle : (hexL (l.take k)).length + 2 ≤ 140737488355328 := by rw [hexL_length, List.length_take]; omega
      go_region_held3 (fun w' => w'.cell? (ad.add k) = some (.int .u8 (x.toNat : Int)))
        (first | go_keep | exact World.grownBy.cell hg1 (HCA.out _) HNE.out)
        ((refine step_app_bytes _ (by rfl) _ _ (by rfl) w.heap.size u3 _ (by rfl) (HS.out.alloc _).drew (some ⟨wr.heap.size, 0, none⟩) 2 2 [(({ data := #[48, 49, 50, 51, 52, 53, 54, 55, 56, 57, 97, 98, 99, 100, 101, 102] } : ByteArray)[x.toNat / 16]'h1), (({ data := #[48, 49, 50, 51, 52, 53, 54, 55, 56, 57, 97, 98, 99, 100, 101, 102] } : ByteArray)[x.toNat % 16]'h2)] (by rfl) (by rfl) (lit_rb wr _ _ rfl).drew' hle (by have := hb.size; simp; omega) ?_; intro v1 w2 ho1 hg1 hat))
      all_goals
        have hbl : Below w.heap.size w w2 := ((hb.alloc hb.size _).drew).grown hg1 (by simp; omega) (fun j hj => HS.out.grown_ge j hj)
        have HO1 := Lib.hid ho1
        clear ho1 hg1 hat
        go_wp2
        clear q1 q2 q3 q4
        go_roundw
        case rel => exact ⟨k + 1, by omega, by go_num, by rw [hexL_snoc2 l k x hkl HX.out h1 h2]; exact HO1.out, hbl⟩
        case measure => simp [intOf]; omega
    · have hkn : k = n := by omega
      have HK := Lib.hid hkn
      have HO := Lib.hid hown
      obtain ⟨A', c', rfl, _, _, hR, _⟩ := hown.shape
      have hstr := run_string hR _ c' rfl
      clear hkn hown hR
      go_wp2
      go_ret
      refine ⟨?_, hb⟩
      rw [HK.out, ← HL.out, List.take_length]; rfl

end Go.Proofs.YthidjdjcjjbpbaaGreatDoor

namespace Go.Proofs.YthidjdjcjjbpbaaGreatDoor
open Go.RowKit Glob
set_option linter.unusedVariables false

namespace Glob
def underL (p s : List UInt8) : Bool := prefixL p && (pathL s && p.isPrefixOf (hexL (shaL s)))
end Glob
set_option maxRecDepth 100000 in
set_option maxHeartbeats 2000000 in
theorem under_any (p s : ByteArray) (w : World) (hp : p.size ≤ 100000) (hs : s.size ≤ 100000) (hT : Tab w) (hK : TabK w) : Calls Tryz.prog 61 #[.string p, .string s] w fun e w' => e = .returned (.bool (underL p.data.toList s.data.toList)) ∧ Below w.heap.size w w' := by
  obtain ⟨r, hr⟩ : ∃ r, r = underL p.data.toList s.data.toList := ⟨_, rfl⟩
  rw [← hr]
  have HR := Lib.hid hr
  clear hr
  have HA := fun w => Lib.hid (prefix_any p w hp)
  have HB := fun w h => Lib.hid (path_any s w hs h)
  cases h1 : prefixL p.data.toList with
  | false =>
    have HI : Hid (r = false) := by show _ = _; rw [HR.out]; unfold underL; rw [h1]; rfl
    rw [h1] at HA
    clear h1
    go_enter Tryz.func61, Tryz.ntmps61
    go_wp2_with fail
    refine (HA _).out.mono ?_
    rintro e w1 ⟨rfl, hb1⟩
    go_wp2
    go_ret
    exact ⟨by rw [HI.out]; rfl, hb1⟩
  | true =>
    cases h2 : pathL s.data.toList with
    | false =>
      have HI : Hid (r = false) := by show _ = _; rw [HR.out]; unfold underL; rw [h1, h2]; rfl
      rw [h1] at HA
      rw [h2] at HB
      clear h1 h2
      go_enter Tryz.func61, Tryz.ntmps61
      go_wp2_with fail
      refine (HA _).out.mono ?_
      rintro e w1 ⟨rfl, hb1⟩
      go_wp2_with fail
      refine (HB _ (hT.below hb1)).out.mono ?_
      rintro e w2 ⟨rfl, hb2⟩
      go_wp2
      go_ret
      exact ⟨by rw [HI.out]; rfl, hb1.trans (hb2.mono hb1.size)⟩
    | true =>
      have HI : Hid (r = p.data.toList.isPrefixOf (hexL (shaL s.data.toList))) := by show _ = _; rw [HR.out]; unfold underL; rw [h1, h2]; rfl
      rw [h1] at HA
      rw [h2] at HB
      clear h1 h2
      go_enter Tryz.func61, Tryz.ntmps61
      go_wp2_with fail
      refine (HA _).out.mono ?_
      rintro e w1 ⟨rfl, hb1⟩
      have hT1 := hT.below hb1
      go_wp2_with fail
      refine (HB _ hT1).out.mono ?_
      rintro e w2 ⟨rfl, hb2⟩
      have BW2 := Lib.hid (hb1.trans (hb2.mono hb1.size))
      clear hT1 hT hb1 hb2
      obtain ⟨cap, W3, hconv, hcap, hcapm, hrb, hb3⟩ := conv_bytes s w2 (by unfold maxLen; omega)
      have HRC := Lib.hid hconv
      have RC := HRC.out
      have hsl : s.data.toList.length = s.size := by cases s; simp [ByteArray.size]
      have hal : Below W3.heap.size W3 (W3.alloc (.cells #[.slice (some ⟨w2.heap.size, 0, none⟩) s.size cap] 97)) := (Below.refl _ _).alloc (Nat.le_refl _) _
      have HPS : Hid (Pts (W3.alloc (.cells #[.slice (some ⟨w2.heap.size, 0, none⟩) s.size cap] 97)) (some ⟨W3.heap.size, 0, none⟩) [⟨some ⟨w2.heap.size, 0, none⟩, cap, s.data.toList⟩]) := by
        refine Pts.of_block (t := 97) ?_ ?_
        · have := Blk.new W3 97 #[.slice (some ⟨w2.heap.size, 0, none⟩) s.size cap]
          simpa [Pt.v, hsl] using this
        · intro p hp
          rw [List.mem_singleton] at hp
          subst hp
          exact hrb.below hal
      have HK3 : Hid (TabK (W3.alloc (.cells #[.slice (some ⟨w2.heap.size, 0, none⟩) s.size cap] 97))) := TabK.below (TabK.below (TabK.below hK BW2.out) hb3) hal
      have BW3 := Lib.hid (BW2.out.trans ((hb3.trans (hal.mono hb3.size)).mono BW2.out.size))
      have HOF := Lib.hid (of_any (some ⟨W3.heap.size, 0, none⟩) 1 1 [⟨some ⟨w2.heap.size, 0, none⟩, cap, s.data.toList⟩] _ HK3.out HPS.out rfl (by omega) (by simp [catP, hsl]; omega) (by intro p hp; rw [List.mem_singleton] at hp; subst hp; exact ⟨by rw [hsl]; exact hcap, hcapm⟩))
      have hcat : catP [⟨some ⟨w2.heap.size, 0, none⟩, cap, s.data.toList⟩] = s.data.toList := by simp [catP]
      rw [hcat] at HOF
      clear hconv HRC hcapm hrb hb3 hal HPS HK3 hcat hsl hK
      go_wp2_with fail
      refine HOF.out.mono ?_
      rintro e w4 ⟨rfl, hb4⟩
      have BW4 := Lib.hid (BW3.out.trans (hb4.mono BW3.out.size))
      obtain ⟨D, hD⟩ : ∃ D, D = shaL s.data.toList := ⟨_, rfl⟩
      have hDl : D.length = 32 := by rw [hD, shaL_len]
      obtain ⟨V, hV⟩ : ∃ V, V = (Lib.byteCells D).toArray := ⟨_, rfl⟩
      rw [← hD, ← hV]
      rw [← hD] at HI
      have hVs : V.size = 32 := by rw [hV]; simp [Lib.byteCells, hDl]
      have HZB := Lib.hid (Blk.new w4 74 (#[.int .u8 0, .int .u8 0, .int .u8 0, .int .u8 0, .int .u8 0, .int .u8 0, .int .u8 0, .int .u8 0, .int .u8 0, .int .u8 0, .int .u8 0, .int .u8 0, .int .u8 0, .int .u8 0, .int .u8 0, .int .u8 0, .int .u8 0, .int .u8 0, .int .u8 0, .int .u8 0, .int .u8 0, .int .u8 0, .int .u8 0, .int .u8 0, .int .u8 0, .int .u8 0, .int .u8 0, .int .u8 0, .int .u8 0, .int .u8 0, .int .u8 0, .int .u8 0] : Array Value))
      have HIV : Hid ((Tryz.prog.info? 74).map (·.size) = some V.size) := by show _ = _; rw [hVs]; kernel_rfl
      have HOC : Hid (V.all (·.oneCell') = true) := by show _ = _; rw [hV]; simp [Lib.byteCells, Value.oneCell']
      have HS0 : Hid ((#[.int .u8 0, .int .u8 0, .int .u8 0, .int .u8 0, .int .u8 0, .int .u8 0, .int .u8 0, .int .u8 0, .int .u8 0, .int .u8 0, .int .u8 0, .int .u8 0, .int .u8 0, .int .u8 0, .int .u8 0, .int .u8 0, .int .u8 0, .int .u8 0, .int .u8 0, .int .u8 0, .int .u8 0, .int .u8 0, .int .u8 0, .int .u8 0, .int .u8 0, .int .u8 0, .int .u8 0, .int .u8 0, .int .u8 0, .int .u8 0, .int .u8 0, .int .u8 0] : Array Value).size = V.size) := by show _ = _; rw [hVs]; rfl
      have BW5 : Hid (Below w.heap.size w ((w4.alloc (.cells (#[.int .u8 0, .int .u8 0, .int .u8 0, .int .u8 0, .int .u8 0, .int .u8 0, .int .u8 0, .int .u8 0, .int .u8 0, .int .u8 0, .int .u8 0, .int .u8 0, .int .u8 0, .int .u8 0, .int .u8 0, .int .u8 0, .int .u8 0, .int .u8 0, .int .u8 0, .int .u8 0, .int .u8 0, .int .u8 0, .int .u8 0, .int .u8 0, .int .u8 0, .int .u8 0, .int .u8 0, .int .u8 0, .int .u8 0, .int .u8 0, .int .u8 0, .int .u8 0] : Array Value) 74)).setRow w4.heap.size V)) := below_setRow (BW4.out.alloc BW4.out.size _) BW4.out.size
      have HRB : Hid (RB ((w4.alloc (.cells (#[.int .u8 0, .int .u8 0, .int .u8 0, .int .u8 0, .int .u8 0, .int .u8 0, .int .u8 0, .int .u8 0, .int .u8 0, .int .u8 0, .int .u8 0, .int .u8 0, .int .u8 0, .int .u8 0, .int .u8 0, .int .u8 0, .int .u8 0, .int .u8 0, .int .u8 0, .int .u8 0, .int .u8 0, .int .u8 0, .int .u8 0, .int .u8 0, .int .u8 0, .int .u8 0, .int .u8 0, .int .u8 0, .int .u8 0, .int .u8 0, .int .u8 0, .int .u8 0] : Array Value) 74)).setRow w4.heap.size V) (some ⟨w4.heap.size, 0, none⟩) D) := by
        have := setRow_at HZB.out V
        rw [hV] at this ⊢
        exact RB.of_blk this
      have HDL := Lib.hid hDl
      clear hD hDl hV hVs BW3 HOF hb4
      go_wp2_with (refine wpList_store_row rfl 74 _ _ rfl w4.heap.size V rfl rfl 74 _ HZB.out HIV.out HS0.out HOC.out ?_)
      generalize (w4.alloc (.cells (#[.int .u8 0, .int .u8 0, .int .u8 0, .int .u8 0, .int .u8 0, .int .u8 0, .int .u8 0, .int .u8 0, .int .u8 0, .int .u8 0, .int .u8 0, .int .u8 0, .int .u8 0, .int .u8 0, .int .u8 0, .int .u8 0, .int .u8 0, .int .u8 0, .int .u8 0, .int .u8 0, .int .u8 0, .int .u8 0, .int .u8 0, .int .u8 0, .int .u8 0, .int .u8 0, .int .u8 0, .int .u8 0, .int .u8 0, .int .u8 0, .int .u8 0, .int .u8 0] : Array Value) 74)).setRow w4.heap.size V = w5 at BW5 HRB ⊢
      have HRB5 : Hid (Reads w5 w5.heap.size 1 (some ⟨w4.heap.size, 0, none⟩) 32 (Lib.byteCells D)) := by
        have := HRB.out
        unfold RB at this
        rw [HDL.out] at this
        exact this
      refine (hex_any (some ⟨w4.heap.size, 0, none⟩) 32 32 D w5 (by omega) HRB5.out).mono ?_
      rintro e w6 ⟨rfl, hb6⟩
      have BW6 := Lib.hid (BW5.out.trans (hb6.mono BW5.out.size))
      clear hb6
      go_wp2_with fail
      refine (Tryz.strings_HasPrefix _ _ _).mono ?_
      rintro e w' ⟨rfl, rfl⟩
      go_wp2
      go_ret
      exact ⟨by rw [HI.out]; simp [Lib.hasPrefix], BW6.out⟩
theorem prefixL_le {p : ByteArray} (h : prefixL p.data.toList = true) : p.size ≤ 64 := by
  unfold prefixL at h
  simp only [Bool.and_eq_true, decide_eq_true_eq] at h
  have := h.2.1
  have hl : p.data.toList.length = p.size := by cases p; simp [ByteArray.size]
  omega
theorem pre_extract (X p : ByteArray) (h : p.size ≤ X.size) : ((X.extract 0 p.size).toList == p.toList) = p.data.toList.isPrefixOf X.data.toList := by
  have hl : p.data.toList.length = p.size := by cases p; simp [ByteArray.size]
  rw [Lib.toList_data, Lib.toList_data, Bool.eq_iff_iff, beq_iff_eq, List.isPrefixOf_iff_prefix, List.prefix_iff_eq_take]
  have e : (X.extract 0 p.size).data.toList = X.data.toList.take p.size := by
    simp [ByteArray.data_extract, Array.toList_extract]
  rw [e, hl]
  exact eq_comm
set_option maxRecDepth 100000 in
set_option maxHeartbeats 2000000 in
theorem runder_any (p s : ByteArray) (w : World) (hp : p.size ≤ 100000) (hs : s.size ≤ 100000) : Calls Tryz.prog 44 #[.string p, .string s] w fun e w' => e = .returned (.bool (underL p.data.toList s.data.toList)) ∧ Below w.heap.size w w' := by
  obtain ⟨r, hr⟩ : ∃ r, r = underL p.data.toList s.data.toList := ⟨_, rfl⟩
  rw [← hr]
  have HR := Lib.hid hr
  clear hr
  have HA := fun w => Lib.hid (rprefix_any p w hp)
  have HB := fun w => Lib.hid (rpath_any s w hs)
  cases h1 : prefixL p.data.toList with
  | false =>
    have HI : Hid (r = false) := by show _ = _; rw [HR.out]; unfold underL; rw [h1]; rfl
    rw [h1] at HA
    clear h1
    go_enter Tryz.func44, Tryz.ntmps44
    go_wp2_with fail
    refine (HA _).out.mono ?_
    rintro e w1 ⟨rfl, rfl⟩
    go_wp2
    go_ret
    exact ⟨by rw [HI.out]; rfl, Below.refl _ _⟩
  | true =>
    cases h2 : pathL s.data.toList with
    | false =>
      have HI : Hid (r = false) := by show _ = _; rw [HR.out]; unfold underL; rw [h1, h2]; rfl
      rw [h1] at HA
      rw [h2] at HB
      clear h1 h2
      go_enter Tryz.func44, Tryz.ntmps44
      go_wp2_with fail
      refine (HA _).out.mono ?_
      rintro e w1 ⟨rfl, rfl⟩
      go_wp2_with fail
      refine (HB _).out.mono ?_
      rintro e w2 ⟨rfl, hb2⟩
      go_wp2
      go_ret
      exact ⟨by rw [HI.out]; rfl, hb2⟩
    | true =>
      have HI : Hid (r = p.data.toList.isPrefixOf (hexL (shaL s.data.toList))) := by show _ = _; rw [HR.out]; unfold underL; rw [h1, h2]; rfl
      have hp64 : p.size ≤ 64 := prefixL_le h1
      rw [h1] at HA
      rw [h2] at HB
      clear h1 h2
      go_enter Tryz.func44, Tryz.ntmps44
      go_wp2_with fail
      refine (HA _).out.mono ?_
      rintro e w1 ⟨rfl, rfl⟩
      go_wp2_with fail
      refine (HB _).out.mono ?_
      rintro e w2 ⟨rfl, hb2⟩
      have BW2 := Lib.hid (hb2)
      clear hb2
      obtain ⟨cap, W3, hconv, hcap, hcapm, hrb, hb3⟩ := conv_bytes s w2 (by unfold maxLen; omega)
      have HRC := Lib.hid hconv
      have RC := HRC.out
      have hsl : s.data.toList.length = s.size := by cases s; simp [ByteArray.size]
      have BW3 := Lib.hid (BW2.out.trans (hb3.mono BW2.out.size))
      have HOF := Lib.hid (refOf_any (some ⟨w2.heap.size, 0, none⟩) s.size cap s.data.toList W3 hrb hsl (by omega))
      clear hconv HRC hcapm hrb hb3 hsl
      go_wp2_with fail
      refine HOF.out.mono ?_
      rintro e w4 ⟨rfl, hb4⟩
      have BW4 := Lib.hid (BW3.out.trans (hb4.mono BW3.out.size))
      obtain ⟨D, hD⟩ : ∃ D, D = shaL s.data.toList := ⟨_, rfl⟩
      have hDl : D.length = 32 := by rw [hD, shaL_len]
      obtain ⟨V, hV⟩ : ∃ V, V = (Lib.byteCells D).toArray := ⟨_, rfl⟩
      rw [← hD, ← hV]
      rw [← hD] at HI
      have hVs : V.size = 32 := by rw [hV]; simp [Lib.byteCells, hDl]
      have HZB := Lib.hid (Blk.new w4 74 (#[.int .u8 0, .int .u8 0, .int .u8 0, .int .u8 0, .int .u8 0, .int .u8 0, .int .u8 0, .int .u8 0, .int .u8 0, .int .u8 0, .int .u8 0, .int .u8 0, .int .u8 0, .int .u8 0, .int .u8 0, .int .u8 0, .int .u8 0, .int .u8 0, .int .u8 0, .int .u8 0, .int .u8 0, .int .u8 0, .int .u8 0, .int .u8 0, .int .u8 0, .int .u8 0, .int .u8 0, .int .u8 0, .int .u8 0, .int .u8 0, .int .u8 0, .int .u8 0] : Array Value))
      have HIV : Hid ((Tryz.prog.info? 74).map (·.size) = some V.size) := by show _ = _; rw [hVs]; kernel_rfl
      have HOC : Hid (V.all (·.oneCell') = true) := by show _ = _; rw [hV]; simp [Lib.byteCells, Value.oneCell']
      have HS0 : Hid ((#[.int .u8 0, .int .u8 0, .int .u8 0, .int .u8 0, .int .u8 0, .int .u8 0, .int .u8 0, .int .u8 0, .int .u8 0, .int .u8 0, .int .u8 0, .int .u8 0, .int .u8 0, .int .u8 0, .int .u8 0, .int .u8 0, .int .u8 0, .int .u8 0, .int .u8 0, .int .u8 0, .int .u8 0, .int .u8 0, .int .u8 0, .int .u8 0, .int .u8 0, .int .u8 0, .int .u8 0, .int .u8 0, .int .u8 0, .int .u8 0, .int .u8 0, .int .u8 0] : Array Value).size = V.size) := by show _ = _; rw [hVs]; rfl
      have BW5 := Lib.hid (below_setRow (cs := V) (BW4.out.alloc BW4.out.size (.cells (#[.int .u8 0, .int .u8 0, .int .u8 0, .int .u8 0, .int .u8 0, .int .u8 0, .int .u8 0, .int .u8 0, .int .u8 0, .int .u8 0, .int .u8 0, .int .u8 0, .int .u8 0, .int .u8 0, .int .u8 0, .int .u8 0, .int .u8 0, .int .u8 0, .int .u8 0, .int .u8 0, .int .u8 0, .int .u8 0, .int .u8 0, .int .u8 0, .int .u8 0, .int .u8 0, .int .u8 0, .int .u8 0, .int .u8 0, .int .u8 0, .int .u8 0, .int .u8 0] : Array Value) 74)) BW4.out.size)
      have HRB : Hid (RB ((w4.alloc (.cells (#[.int .u8 0, .int .u8 0, .int .u8 0, .int .u8 0, .int .u8 0, .int .u8 0, .int .u8 0, .int .u8 0, .int .u8 0, .int .u8 0, .int .u8 0, .int .u8 0, .int .u8 0, .int .u8 0, .int .u8 0, .int .u8 0, .int .u8 0, .int .u8 0, .int .u8 0, .int .u8 0, .int .u8 0, .int .u8 0, .int .u8 0, .int .u8 0, .int .u8 0, .int .u8 0, .int .u8 0, .int .u8 0, .int .u8 0, .int .u8 0, .int .u8 0, .int .u8 0] : Array Value) 74)).setRow w4.heap.size V) (some ⟨w4.heap.size, 0, none⟩) D) := by
        have := setRow_at HZB.out V
        rw [hV] at this ⊢
        exact RB.of_blk this
      have HDL := Lib.hid hDl
      clear hD hDl hV hVs BW3 HOF hb4
      go_wp2_with (refine wpList_store_row rfl 74 _ _ rfl w4.heap.size V rfl rfl 74 _ HZB.out HIV.out HS0.out HOC.out ?_)
      generalize (w4.alloc (.cells (#[.int .u8 0, .int .u8 0, .int .u8 0, .int .u8 0, .int .u8 0, .int .u8 0, .int .u8 0, .int .u8 0, .int .u8 0, .int .u8 0, .int .u8 0, .int .u8 0, .int .u8 0, .int .u8 0, .int .u8 0, .int .u8 0, .int .u8 0, .int .u8 0, .int .u8 0, .int .u8 0, .int .u8 0, .int .u8 0, .int .u8 0, .int .u8 0, .int .u8 0, .int .u8 0, .int .u8 0, .int .u8 0, .int .u8 0, .int .u8 0, .int .u8 0, .int .u8 0] : Array Value) 74)).setRow w4.heap.size V = w5 at BW5 HRB ⊢
      have HRB5 : Hid (Reads w5 w5.heap.size 1 (some ⟨w4.heap.size, 0, none⟩) 32 (Lib.byteCells D)) := by
        have := HRB.out
        unfold RB at this
        rw [HDL.out] at this
        exact this
      refine (refHex_any (some ⟨w4.heap.size, 0, none⟩) 32 32 D w5 HDL.out (by omega) HRB.out).mono ?_
      rintro e w6 ⟨rfl, hb6⟩
      have BW6 := Lib.hid (BW5.out.trans (hb6.mono BW5.out.size))
      have HXL : Hid ((hexL D).length = 64) := by show _ = _; rw [hexL_length, HDL.out]
      obtain ⟨X, hX⟩ : ∃ X, X = (⟨(hexL D).toArray⟩ : ByteArray) := ⟨_, rfl⟩
      have hxs : X.size = 64 := by rw [hX]; simpa [ByteArray.size] using HXL.out
      have HF : Hid (((X.extract 0 p.size).toList == p.toList) = r) := by
        show _ = _
        rw [pre_extract X p (by omega), HI.out, hX]
      rw [← hX]
      have p64 : (p.size : Int) ≤ 64 := by omega
      have p0 : (0 : Int) ≤ (p.size : Int) := by omega
      clear hb6 hX
      go_wp2
      rw [HF.out]
      go_ret
      exact ⟨rfl, BW6.out⟩
end Go.Proofs.YthidjdjcjjbpbaaGreatDoor
