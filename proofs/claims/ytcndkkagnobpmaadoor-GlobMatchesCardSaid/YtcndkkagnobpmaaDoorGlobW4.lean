/-
  glob.plain: bytes that may be, and none of some.
-/
import Derived.Test.YtcndkkagnobpmaaDoorGlobW3
import Derived.Test.YtcndkkagnobpmaaDoorSlcS
import Derived.Laws.RangeAny
namespace Go.Proofs.YtcndkkagnobpmaaDoor
open Go.RowKit Glob
set_option linter.unusedVariables false

namespace Glob
def okB (c : UInt8) : Bool := decide (33 ≤ c.toNat) && decide (c.toNat ≤ 126)
def plainL (not s : List UInt8) : Bool := s.all okB && (not.all (fun c => !s.contains c) && (!s.isEmpty && decide (s.length ≤ 128)))
theorem index_has (s : List UInt8) (c : UInt8) : s.contains c = decide (0 ≤ Lib.indexByte s c) := by
  induction s with
  | nil => rfl
  | cons b s ih =>
    unfold Lib.indexByte
    rw [List.contains_cons, ih]
    have hg := Lib.indexByte_ge s c
    by_cases h : b = c
    · subst h; simp
    · have h1 : (b == c) = false := beq_eq_false_iff_ne.2 h
      have h2 : (c == b) = false := beq_eq_false_iff_ne.2 (Ne.symm h)
      rw [h1, h2]
      simp only [Bool.false_or, Bool.false_eq_true, if_false]
      split
      · rename_i e; rw [beq_iff_eq] at e; rw [e]
      · rename_i e
        have e' : Lib.indexByte s c ≠ -1 := fun x => e (beq_iff_eq.2 x)
        rw [decide_eq_true (show 0 ≤ Lib.indexByte s c by omega), decide_eq_true (show 0 ≤ Lib.indexByte s c + 1 by omega)]
theorem plain_bad (t s : List UInt8) (c : UInt8) (h : c ∈ s) (hc : okB c = false) : plainL t s = false := by
  unfold plainL
  have : s.all okB = false := by rw [List.all_eq_false]; exact ⟨c, h, by rw [hc]; simp⟩
  rw [this]; rfl
theorem plain_has (t s : List UInt8) (c : UInt8) (h : c ∈ t) (hc : s.contains c = true) : plainL t s = false := by
  unfold plainL
  have : t.all (fun c => !s.contains c) = false := by rw [List.all_eq_false]; exact ⟨c, h, by rw [hc]; simp⟩
  rw [this]; simp
theorem mem_at (s : ByteArray) (k : Nat) (h : k < s.size) : s[k] ∈ s.data.toList := Array.mem_toList_iff.2 (Array.getElem_mem (xs := s.data) h)
end Glob

set_option maxHeartbeats 1600000 in
theorem plain_any (s t : ByteArray) (w : World) (hs : s.size ≤ 140737488351232) (ht : t.size ≤ 100) : Calls Tryd.prog 67 #[.string s, .string t] w fun e w' => e = .returned (.bool (plainL t.data.toList s.data.toList)) ∧ ∃ pos, w' = w.iter s pos := by
  have hsl : s.data.toList.length = s.size := by cases s; simp [ByteArray.size]
  have htl : t.data.toList.length = t.size := by cases t; simp [ByteArray.size]
  have HSL := Lib.hid hsl
  have HTL := Lib.hid htl
  clear hsl htl
  obtain ⟨r, hr⟩ : ∃ r, r = plainL t.data.toList s.data.toList := ⟨_, rfl⟩
  rw [← hr]
  have HR := Lib.hid hr
  clear hr
  go_enter Tryd.func67, Tryd.ntmps67
  go_wp2
  go_loopw [6] (fun _ wr => ∃ k : Nat, k ≤ s.size ∧ Hid ((s.data.toList.take k).all okB = true) ∧ wr = w.iter s k) (fun _ wr => s.size - wr.iterPos w.heap.size)
  case atStart => exact ⟨0, Nat.zero_le _, Lib.hid rfl, rfl⟩
  case round =>
    obtain ⟨k, hk, HB, rfl⟩ := hrel
    rcases (by omega : k < s.size ∨ k = s.size) with hlt | heq
    · rcases (by omega : (s[k]'hlt).toNat < 128 ∨ 128 ≤ (s[k]'hlt).toNat) with ha | ha
      · have hnx := fun ty => run_next_ascii (P := Tryd.prog) w s k ty hlt ha
        obtain ⟨c, hc⟩ : ∃ c, c = s[k]'hlt := ⟨_, rfl⟩
        rw [← hc] at hnx ha
        have HC := Lib.hid hc
        clear hc
        rcases (by omega : c.toNat < 33 ∨ (33 ≤ c.toNat ∧ 126 < c.toNat) ∨ (33 ≤ c.toNat ∧ c.toNat ≤ 126)) with g | ⟨g, g2⟩ | ⟨g, g2⟩
        · have e1 : decide ((c.toNat : Int) < 33) = true := by rw [decide_eq_true_iff]; omega
          have HI : Hid (r = false) := by
            show _ = _
            rw [HR.out]
            exact plain_bad t.data.toList s.data.toList c (by rw [HC.out]; exact mem_at s k hlt) (by unfold okB; rw [Bool.and_eq_false_iff, decide_eq_false_iff_not, decide_eq_false_iff_not]; omega)
          go_wp2
          go_ret
          exact ⟨by rw [HI.out]; rfl, _, rfl⟩
        · have e1 : decide ((c.toNat : Int) < 33) = false := by rw [decide_eq_false_iff_not]; omega
          have e2 : decide (126 < (c.toNat : Int)) = true := by rw [decide_eq_true_iff]; omega
          have HI : Hid (r = false) := by
            show _ = _
            rw [HR.out]
            exact plain_bad t.data.toList s.data.toList c (by rw [HC.out]; exact mem_at s k hlt) (by unfold okB; rw [Bool.and_eq_false_iff, decide_eq_false_iff_not, decide_eq_false_iff_not]; omega)
          go_wp2
          go_ret
          exact ⟨by rw [HI.out]; rfl, _, rfl⟩
        · have e1 : decide ((c.toNat : Int) < 33) = false := by rw [decide_eq_false_iff_not]; omega
          have e2 : decide (126 < (c.toNat : Int)) = false := by rw [decide_eq_false_iff_not]; omega
          have HI : Hid ((s.data.toList.take (k + 1)).all okB = true) := by
            show _ = _
            rw [List.take_succ_eq_append_getElem (by rw [HSL.out]; exact hlt), List.all_append, HB.out]
            show okB s[k] && true = true
            rw [← HC.out]
            unfold okB
            rw [decide_eq_true g, decide_eq_true g2]; rfl
          go_wp2
          go_roundw
          case rel => exact ⟨k + 1, by omega, HI, rfl⟩
          case measure => rw [World.iterPos_iter, World.iterPos_iter]; omega
      · have hnx := fun ty => run_next_any (P := Tryd.prog) w s k ty hlt
        obtain ⟨hd, _⟩ := decode_high s k hlt ha
        have hd2 := decode_le s k
        obtain ⟨z, hz⟩ : ∃ z, z = (Utf8.decode s k).1 := ⟨_, rfl⟩
        obtain ⟨y, hy⟩ : ∃ y, y = (Utf8.decode s k).2 := ⟨_, rfl⟩
        rw [← hz, ← hy] at hnx
        rw [← hz] at hd hd2
        clear hz hy
        have e1 : decide ((z : Int) < 33) = false := by rw [decide_eq_false_iff_not]; omega
        have e2 : decide (126 < (z : Int)) = true := by rw [decide_eq_true_iff]; omega
        have HI : Hid (r = false) := by
          show _ = _
          rw [HR.out]
          exact plain_bad t.data.toList s.data.toList (s[k]'hlt) (mem_at s k hlt) (by unfold okB; rw [Bool.and_eq_false_iff, decide_eq_false_iff_not, decide_eq_false_iff_not]; omega)
        go_wp2
        go_ret
        exact ⟨by rw [HI.out]; rfl, _, rfl⟩
    · have hnx := fun ty => run_next_end (P := Tryd.prog) w s k ty (by omega)
      have HA : Hid (s.data.toList.all okB = true) := by show _ = _; rw [← HB.out, heq, List.take_of_length_le (by rw [HSL.out]; omega)]
      clear heq
      go_wp2
      go_loopw [7, 21] (fun _ i wr => ∃ j : Nat, j ≤ t.size ∧ i = .int .i64 j ∧ Hid ((t.data.toList.take j).all (fun c => !s.data.toList.contains c) = true) ∧ wr = w.iter s k) (fun _ i _ => t.size - (intOf i).toNat)
      case atStart => exact ⟨0, Nat.zero_le _, rfl, Lib.hid rfl, rfl⟩
      case round =>
        obtain ⟨j, hj, rfl, HJ, rfl⟩ := hrel
        rcases (by omega : j < t.size ∨ j = t.size) with hlt | heq
        · obtain ⟨c, hc⟩ : ∃ c, c = t[j]'hlt := ⟨_, rfl⟩
          have hc' := hc.symm
          have HC := Lib.hid hc
          clear hc
          have hix := index_has s.data.toList c
          have hge := Lib.indexByte_ge s.data.toList c
          obtain ⟨z, hz⟩ : ∃ z, z = Lib.indexByte s.data.toList c := ⟨_, rfl⟩
          have hcall := fun w => Tryd.strings_IndexByte s (c.toNat : Int) w
          rw [show ((c.toNat : Int)).toNat.toUInt8 = c from by simp] at hcall
          rw [← hz] at hix hge hcall
          clear hz
          have HCALL := Lib.hid hcall
          clear hcall
          have hj0 : (j : Int) < (t.size : Int) := by omega
          rcases (by omega : 0 ≤ z ∨ z = -1) with g | g
          · have HI : Hid (r = false) := by
              show _ = _
              rw [HR.out]
              exact plain_has t.data.toList s.data.toList c (by rw [HC.out]; exact mem_at t j hlt) (by rw [hix]; exact decide_eq_true g)
            clear hix
            go_wp2_with fail
            refine (HCALL.out _).mono ?_
            rintro e w' ⟨rfl, rfl⟩
            go_wp2
            go_ret
            exact ⟨by rw [HI.out]; rfl, _, rfl⟩
          · have HI : Hid ((t.data.toList.take (j + 1)).all (fun c => !s.data.toList.contains c) = true) := by
              show _ = _
              rw [List.take_succ_eq_append_getElem (by rw [HTL.out]; exact hlt), List.all_append, HJ.out]
              show (!s.data.toList.contains t[j] && true) = true
              rw [← HC.out, hix, g]; rfl
            clear hix
            subst g
            go_wp2_with fail
            refine (HCALL.out _).mono ?_
            rintro e w' ⟨rfl, rfl⟩
            go_wp2
            go_roundw
            case rel => exact ⟨j + 1, by omega, by go_num, HI, trivial⟩
            case measure => simp [intOf]; omega
        · have e0 : decide (j < t.size) = false := by rw [decide_eq_false_iff_not]; omega
          have HT : Hid (t.data.toList.all (fun c => !s.data.toList.contains c) = true) := by show _ = _; rw [← HJ.out, heq, List.take_of_length_le (by rw [HTL.out]; omega)]
          have HI : Hid (r = (!s.data.toList.isEmpty && decide (s.size ≤ 128))) := by
            show _ = _
            rw [HR.out]; unfold plainL; rw [HA.out, HT.out, HSL.out]; rfl
          clear heq
          have HZ : Hid (decide ((s.size : Int) ≤ 128) = decide (s.size ≤ 128)) := by show _ = _; rw [Bool.eq_iff_iff, decide_eq_true_iff, decide_eq_true_iff]; omega
          go_wp2
          · rename_i h
            go_ret
            exact ⟨by rw [HI.out, ← Lib.toList_data, h]; rfl, _, rfl⟩
          · go_ret
            exact ⟨by rw [HI.out, ← Lib.toList_data]; simp; rw [HZ.out], _, rfl⟩
end Go.Proofs.YtcndkkagnobpmaaDoor
