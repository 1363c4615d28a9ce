/-
  pursuivantref01.Hex: what it returns.
-/
import Derived.Test.YtcndkkagnobpmaaDoorAppend
import Derived.Test.YtcndkkagnobpmaaDoorOctHex
import Derived.Test.YtcndkkagnobpmaaDoorRunStr
import Derived.Deep.RegionHeld3
import Derived.Deep.AppendLies
import Derived.Handy
namespace Go.Proofs.YtcndkkagnobpmaaDoor
open Go.RowKit
set_option linter.unusedVariables false

theorem hexL_snoc2 (l : List UInt8) (k : Nat) (x : UInt8) (hkl : k < l.length) (hx : l[k] = x) (h1 : x.toNat / 16 < 16) (h2 : x.toNat % 16 < 16) :
    hexL (l.take (k + 1)) = hexL (l.take k) ++ [(({ data := #[48, 49, 50, 51, 52, 53, 54, 55, 56, 57, 97, 98, 99, 100, 101, 102] } : ByteArray)[x.toNat / 16]'h1), (({ data := #[48, 49, 50, 51, 52, 53, 54, 55, 56, 57, 97, 98, 99, 100, 101, 102] } : ByteArray)[x.toNat % 16]'h2)] := by
  rw [List.take_succ_eq_append_getElem hkl, hexL_append, hx, hexAt _ h1, hexAt _ h2]
  simp [hexL]
set_option maxRecDepth 100000 in
set_option maxHeartbeats 1000000 in
theorem refHex_any (A : Option Addr) (n c : Nat) (l : List UInt8) (w : World) (hl : l.length = n) (hn : n ≤ 35184372088832) (hr : RB w A l) :
    Calls Tryd.prog 56 #[.slice A n c] w fun e w' => e = .returned (.string ⟨(hexL l).toArray⟩) ∧ Below w.heap.size w w' := by
  have HL : Hid (l.length = n) := hl
  clear hl
  go_enter Tryd.func56, Tryd.ntmps56
  go_wp2
  go_loopw [3, 4] (fun v i wr => ∃ k : Nat, k ≤ n ∧ i = .int .i64 k ∧ OB wr w.heap.size v (hexL (l.take k)) ∧ Below w.heap.size w wr) (fun _ v _ => n - (intOf v).toNat)
  case atStart => exact ⟨0, Nat.zero_le _, rfl, OB.nil _ _, Below.refl _ _⟩
  case round =>
    obtain ⟨k, hk, rfl, hown, hb⟩ := hrel
    by_cases hlt : k < n
    · have hkl : k < l.length := by rw [HL.out]; exact hlt
      obtain ⟨ad, rfl, hadlt, hc0⟩ := hr.at_ hkl
      have hbs := hb.size
      have hc := (hb.cell (p := ad.add k) (by rw [block_of_add]; exact hadlt)).trans hc0
      have hne : some (ad.add k).block ≠ u3.ownBlock := fun e => by rw [block_of_add] at e; have := hown.grown_ge _ e.symm; omega
      have HCA : Hid (∀ o, ((wr.alloc o).drew).cell? (ad.add k) = some (.int .u8 (l[k].toNat : Int))) := fun o => (World.cell?_alloc_lt wr o _ (by rw [block_of_add]; omega)).trans hc
      have HNE := Lib.hid hne
      clear hc0 hne
      have HS := Lib.hid hown
      clear hown hr
      generalize hx : l[k] = x at *
      have HX := Lib.hid hx
      clear hx
      have hx256 : (x.toNat : Int) < 256 := by have := x.toNat_lt; omega
      have hx0 : 0 ≤ (x.toNat : Int) := by omega
      have hki : (k : Int) < (n : Int) := by omega
      have hki0 : (0 : Int) ≤ (k : Int) := by omega
      go_wp2
      have h1 : x.toNat / 16 < 16 := by omega
      have h2 : x.toNat % 16 < 16 := by omega
      have q1 : (x.toNat : Int).tdiv 16 = (x.toNat : Int) / 16 := Int.tdiv_eq_ediv_of_nonneg (by omega)
      have q2 : (x.toNat : Int).tmod 16 = (x.toNat : Int) % 16 := Int.tmod_eq_emod_of_nonneg (by omega)
      have q3 : IntKind.u8.wrap ((x.toNat : Int) / 16) = (x.toNat : Int) / 16 := IntWalk.u8_in _ (by omega)
      have q4 : IntKind.u8.wrap ((x.toNat : Int) % 16) = (x.toNat : Int) % 16 := IntWalk.u8_in _ (by omega)
      have b1 : (0 : Int) ≤ (x.toNat : Int) / 16 := by omega
      have b2 : (x.toNat : Int) / 16 < 16 := by omega
      have b3 : (0 : Int) ≤ (x.toNat : Int) % 16 := by omega
      have b4 : (x.toNat : Int) % 16 < 16 := by omega
      have hle : (hexL (l.take k)).length + 2 ≤ 140737488355328 := by rw [hexL_length, List.length_take]; omega
      go_region_held3 (fun w' => w'.cell? (ad.add k) = some (.int .u8 (x.toNat : Int)))
        (first | go_keep | exact World.grownBy.cell hg1 (HCA.out _) HNE.out)
        ((refine step_app_bytes _ (by rfl) _ _ (by rfl) w.heap.size u3 _ (by rfl) (HS.out.alloc _).drew (some ⟨wr.heap.size, 0, none⟩) 2 2 [(({ data := #[48, 49, 50, 51, 52, 53, 54, 55, 56, 57, 97, 98, 99, 100, 101, 102] } : ByteArray)[x.toNat / 16]'h1), (({ data := #[48, 49, 50, 51, 52, 53, 54, 55, 56, 57, 97, 98, 99, 100, 101, 102] } : ByteArray)[x.toNat % 16]'h2)] (by rfl) (by rfl) (lit_rb wr _ _ rfl).drew' hle (by have := hb.size; simp; omega) ?_; intro v1 w2 ho1 hg1 hat))
      all_goals
        have hbl : Below w.heap.size w w2 := ((hb.alloc hb.size _).drew).grown hg1 (by simp; omega) (fun j hj => HS.out.grown_ge j hj)
        have HO1 := Lib.hid ho1
        clear ho1 hg1 hat
        go_wp2
        clear q1 q2 q3 q4
        go_roundw
        case rel => exact ⟨k + 1, by omega, by go_num, by rw [hexL_snoc2 l k x hkl HX.out h1 h2]; exact HO1.out, hbl⟩
        case measure => simp [intOf]; omega
    · have hkn : k = n := by omega
      have HK := Lib.hid hkn
      have HO := Lib.hid hown
      obtain ⟨A', c', rfl, _, _, hR, _⟩ := hown.shape
      have hstr := run_string hR _ c' rfl
      clear hkn hown hR
      go_wp2
      go_ret
      refine ⟨?_, hb⟩
      rw [HK.out, ← HL.out, List.take_length]; rfl

end Go.Proofs.YtcndkkagnobpmaaDoor
