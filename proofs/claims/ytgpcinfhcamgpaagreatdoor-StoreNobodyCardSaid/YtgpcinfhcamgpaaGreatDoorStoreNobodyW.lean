/-
  The walk of the law StoreNobody.
-/
import Derived.Test.YtgpcinfhcamgpaaGreatDoorStL3
import Derived.Deep.RegionHeld3
import Derived.Deep.DrawnRows
import Derived.Handy
namespace Go.Proofs.YtgpcinfhcamgpaaGreatDoor
open Go.RowKit Glob
attribute [local go_sem ↓] Go.wp_at_zero Go.wp_at_succ
set_option linter.unusedVariables false
set_option linter.unusedSimpArgs false

set_option maxRecDepth 100000 in
set_option maxHeartbeats 8000000 in
theorem storeNobody_walk (x : SV) (W : World) (hK : TabK W) (hT : Tab W) (hx : SAt W x) (hxb : SBd x) :
    Calls Tryz.prog 5 #[x.v] W fun e w' => e = .returned (.bool true) ∧ Below W.heap.size W w' := by
  have HK := Lib.hid hK
  have HT := Lib.hid hT
  have HCM := Lib.hid (fun V => scommit_nil x V)
  have hsame := fun V => rsame_any SV.none SV.none V (SAt.none V) (SAt.none V) SM.none SM.none
  rw [decide_eq_true rfl] at hsame
  have HSAME : Hid (∀ V, Calls Tryz.prog 15 #[SV.none.v, .agg #[.slice none 0 0, .slice none 0 0, .slice none 0 0, .slice none 0 0, .slice none 0 0]] V fun e w' => e = .returned (.bool true) ∧ Below V.heap.size V w') := Lib.hid hsame
  obtain ⟨a0, an0, ac0, a1, an1, ac1, a2, an2, ac2, a3, an3, ac3, a4, an4, ac4, hsv, -⟩ := x.five
  rw [hsv] at HCM ⊢
  clear hK hT hx hxb hsv hsame
  have HA : Hid (Below W.heap.size W (W.alloc (.cells #[.slice a0 an0 ac0, .slice a1 an1 ac1, .slice a2 an2 ac2, .slice a3 an3 ac3, .slice a4 an4 ac4] 25))) := Lib.hid ((Below.refl _ _).alloc (Nat.le_refl _) _)
  have HX : Hid (Blk (W.alloc (.cells #[.slice a0 an0 ac0, .slice a1 an1 ac1, .slice a2 an2 ac2, .slice a3 an3 ac3, .slice a4 an4 ac4] 25)) W.heap.size 25 #[.slice a0 an0 ac0, .slice a1 an1 ac1, .slice a2 an2 ac2, .slice a3 an3 ac3, .slice a4 an4 ac4]) := Lib.hid (Blk.new _ _ _)
  go_enter Tryz.func5, Tryz.ntmps5
  go_wp2_with fail
  refine (sopen_nil _).mono ?_
  rintro e w1 ⟨rfl, hww⟩
  rw [hww]
  clear hww
  go_wp2_with fail
  refine (slives_any _ (TabK.below HK.out HA.out) (Tab.below HT.out HA.out)).mono ?_
  rintro e w2 ⟨rfl, hb2⟩
  have HB2 : Hid (Below W.heap.size W w2) := Lib.hid (HA.out.trans (hb2.mono HA.out.size))
  have HX2 := Lib.hid (HX.out.below hb2 HX.out.lt)
  clear hb2 HA HX
  go_wp2_with fail
  refine (sstate_nil _).mono ?_
  rintro e w3 ⟨rfl, hb3⟩
  have HB3 : Hid (Below W.heap.size W w3) := Lib.hid (HB2.out.trans (hb3.mono HB2.out.size))
  have HX3 := Lib.hid (HX2.out.below hb3 HX2.out.lt)
  clear hb3
  go_wp2_with fail
  refine (HSAME.out _).mono ?_
  rintro e w4 ⟨rfl, hb4⟩
  have HB4 : Hid (Below W.heap.size W w4) := Lib.hid (HB3.out.trans (hb4.mono HB3.out.size))
  have HX4 := Lib.hid (HX3.out.below hb4 HX3.out.lt)
  clear hb4
  have s0 := HX4.out.cell 0
  have s1 := HX4.out.cell 1
  have s2 := HX4.out.cell 2
  have s3 := HX4.out.cell 3
  have s4 := HX4.out.cell 4
  simp only [List.getElem?_toArray, List.getElem?_cons_zero, List.getElem?_cons_succ] at s0 s1 s2 s3 s4
  go_wp2_with fail
  refine (HCM.out _).mono ?_
  rintro e w5 ⟨rfl, hb5⟩
  have HB5 : Hid (Below W.heap.size W w5) := Lib.hid (HB4.out.trans (hb5.mono HB4.out.size))
  clear hb5 s0 s1 s2 s3 s4
  go_wp2_with fail
  refine (snumber_nil _).mono ?_
  rintro e w' ⟨rfl, hww⟩
  rw [hww]
  clear hww
  go_wp2_with fail
  refine (sroom_nil _).mono ?_
  rintro e w' ⟨rfl, hww⟩
  rw [hww]
  clear hww
  go_wp2_with fail
  refine (sdead_nil _).mono ?_
  rintro e w' ⟨rfl, hww⟩
  rw [hww]
  clear hww
  go_wp2
  go_ret
  exact ⟨rfl, HB5.out⟩
end Go.Proofs.YtgpcinfhcamgpaaGreatDoor
