/-
  The walk of the law RecordNobody.
-/
import Derived.Test.YtcndkkagnobpmaaDoorRecLives
namespace Go.Proofs.YtcndkkagnobpmaaDoor
open Go.RowKit
attribute [local go_sem ↓] Go.wp_at_zero Go.wp_at_succ
set_option linter.unusedVariables false

set_option maxRecDepth 100000 in
set_option maxHeartbeats 4000000 in
theorem recordNobody_walk (A : Option Addr) (c : Nat) (l : List UInt8) (first count : Int) (W : World) (hK : TabK W) (hr : RB W A l) (hc : l.length ≤ c) (hm : c ≤ maxLen) (hz : l.length ≤ 140737488351232) :
    Calls Tryd.prog 3 #[.slice A l.length c, .int .i64 first, .int .i64 count] W fun e w' => e = .returned (.bool true) ∧ Below W.heap.size W w' := by
  obtain ⟨n, hn⟩ : ∃ n, n = l.length := ⟨_, rfl⟩
  rw [← hn]
  have HO := Lib.hid (open_nil first count W)
  have HL := Lib.hid (rlives_any W hK)
  clear hK hr hc hm hz hn
  go_enter Tryd.func3, Tryd.ntmps3
  go_wp2_with fail
  refine HO.out.mono ?_
  rintro e W ⟨rfl, rfl⟩
  go_wp2_with fail
  refine HL.out.mono ?_
  rintro e w1 ⟨rfl, hb1⟩
  have HB1 := Lib.hid hb1
  have HT := Lib.hid (rtext_nil w1)
  have HN := Lib.hid (rnumber_nil w1)
  have HR := Lib.hid (rroom_nil w1)
  have HC := Lib.hid (rcommit_nil A n c w1)
  clear hb1
  go_wp2_with fail
  refine HT.out.mono ?_
  rintro e w1 ⟨rfl, rfl⟩
  go_wp2_with fail
  refine HN.out.mono ?_
  rintro e w1 ⟨rfl, rfl⟩
  go_wp2_with fail
  refine HR.out.mono ?_
  rintro e w1 ⟨rfl, rfl⟩
  go_wp2_with fail
  refine HC.out.mono ?_
  rintro e w2 ⟨rfl, hb2⟩
  have HB2 : Hid (Below W.heap.size W w2) := Lib.hid (HB1.out.trans (hb2.mono HB1.out.size))
  have HD := Lib.hid (rdead_nil w2)
  clear hb2
  go_wp2_with fail
  refine HD.out.mono ?_
  rintro e w2 ⟨rfl, rfl⟩
  go_wp2
  go_ret
  exact ⟨rfl, HB2.out⟩
end Go.Proofs.YtcndkkagnobpmaaDoor
