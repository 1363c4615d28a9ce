/-
 The document's numbers and texts as values.
-/
import Derived.Test.YtefkpphahimkgaaGreatDoorTk
import Derived.Test.YtefkpphahimkgaaGreatDoorLiV4
namespace Go.Proofs.YtefkpphahimkgaaGreatDoor
open Go.RowKit
attribute [local go_sem ↓] Go.wp_at_zero Go.wp_at_succ
set_option linter.unusedVariables false
set_option linter.unusedSimpArgs false
theorem rInt_any (n : Int) (w : World) (hn : (Lit.int .i64 n).wf = true) : Calls Tryz.prog 36 #[.int .i64 n] w fun e w' => PF (OwP (inV n) w) e w' := by
 have HN := Ld hn
 clear hn
 go_enter Tryz.func36, Tryz.ntmps36
 go_wp2
 refine bodyPost_ret (v := (MV.one 3 n ⟨#[]⟩).val) (by simp [results, Tryz.results36, go_sem, MV.val, MV.one, MV.k, MV.n, MV.s, MV.lA, MV.lc, MV.l, MV.mA, MV.mc, MV.m]) rfl ?_
 exact ⟨_, rfl, rfl, VOwn.one _ _ _ rfl HN.out, below_new _ _⟩
theorem rText_any (s : ByteArray) (w : World) : Calls Tryz.prog 37 #[.string s] w fun e w' => PF (OwP (txV s) w) e w' := by
 go_enter Tryz.func37, Tryz.ntmps37
 go_wp2
 refine bodyPost_ret (v := (MV.one 4 0 s).val) (by simp [results, Tryz.results37, go_sem, MV.val, MV.one, MV.k, MV.n, MV.s, MV.lA, MV.lc, MV.l, MV.mA, MV.mc, MV.m]) rfl ?_
 exact ⟨_, rfl, rfl, VOwn.one _ _ _ rfl rfl, below_new _ _⟩
end Go.Proofs.YtefkpphahimkgaaGreatDoor
