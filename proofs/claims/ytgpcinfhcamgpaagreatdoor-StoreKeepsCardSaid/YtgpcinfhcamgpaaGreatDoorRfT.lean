/-
  pursuivantref01.Text (cut out of RefPut).
-/
import Derived.Test.YtgpcinfhcamgpaaGreatDoorGA
namespace Go.Proofs.YtgpcinfhcamgpaaGreatDoor
open Go.RowKit
set_option linter.unusedVariables false

set_option maxRecDepth 100000 in
set_option maxHeartbeats 400000 in
theorem refText_ok (s : ByteArray) (w : World) (hs : s.size ≤ 1048576) :
    Calls Tryz.prog 48 #[.string s] w fun e w' => ∃ v, e = .returned v ∧ OB w' w.heap.size v (textBytes s.data.toList) ∧ Below w.heap.size w w' := by
  go_enter Tryz.func48, Tryz.ntmps48
  go_wp2_with fail
  refine (refPut_any s.size 4 _ (by omega) (by omega) (by omega)).mono ?_
  rintro e w1 (⟨_, v, rfl, hv, hb⟩ | ⟨h0, _⟩)
  · go_wp2_with (at_builtin; refine app_text _ rfl _ _ rfl w.heap.size v _ rfl hv s rfl (by rw [beBytes_length]; omega) hb.size ?_; intro v1 w2 ho1 hg1)
    go_ret
    exact ⟨v1, rfl, ho1, hb.grown hg1 hb.size (fun k hk => hv.grown_ge k hk)⟩
  · exact absurd (by show s.size / 4294967296 = 0; omega) h0

end Go.Proofs.YtgpcinfhcamgpaaGreatDoor
