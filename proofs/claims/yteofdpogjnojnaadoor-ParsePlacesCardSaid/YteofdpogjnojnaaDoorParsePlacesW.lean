/-
  The walk of pursuivantlaw05.ParsePlaces.
-/
import Derived.Test.YteofdpogjnojnaaDoorPaLv
namespace Go.Proofs.YteofdpogjnojnaaDoor
open Go.RowKit Utf Pa
set_option linter.unusedVariables false
set_option linter.unusedSimpArgs false

set_option maxRecDepth 100000 in
set_option maxHeartbeats 4000000 in
theorem parsePlaces_walk (A : Option Addr) (c : Nat) (l : List UInt8) (n : Int) (w : World) (hT : tabV w) (hr : RB w A l) (hc : l.length ≤ c) (hm : c ≤ maxLen) (hz : l.length ≤ 140737488351232) (hn : A = none → c = 0) :
    Calls Tryd.prog 4 #[.slice A l.length c, .int .i64 n] w fun e w' => e = .returned (.bool true) ∧ Below w.heap.size w w' := by
  have HL : Hid (∀ V, Below w.heap.size w V → Calls Tryd.prog 5 #[] V fun e w' => e = .returned (.bool true) ∧ Below V.heap.size V w') := Lib.hid (fun V hV => lives_any V (hT.below hV))
  rcases (by omega : 5000 < l.length ∨ l.length ≤ 5000) with h1 | h1
  · have d1 : decide (5000 < (l.length : Int)) = true := by rw [decide_eq_true_iff]; omega
    have d2 : decide ((l.length : Int) > 5000) = true := d1
    clear hr hc hm hz hn hT
    go_enter Tryd.func4, Tryd.ntmps4
    go_wp2_with fail
    refine (HL.out _ (Below.refl _ _)).mono ?_
    rintro e w1 ⟨rfl, hb⟩
    go_wp2
    go_ret
    exact ⟨rfl, hb⟩
  · have d1 : decide (5000 < (l.length : Int)) = false := by rw [decide_eq_false_iff_not]; omega
    have d2 : decide ((l.length : Int) > 5000) = false := d1
    have HA := Lib.hid (at_any A c l n w hr hn hc hm (by omega))
    have HR : Hid (∀ V, Below w.heap.size w V → Calls Tryd.prog 9 #[.slice A l.length c, .int .i64 n] V fun e w' => PF (AtP l n V) e w') := Lib.hid (fun V hV => rat_any A c l n V (hr.below hV) (by omega))
    clear hr hc hm hz hn hT h1
    go_enter Tryd.func4, Tryd.ntmps4
    go_wp2_with fail
    refine HA.out.mono ?_
    rintro e w1 ⟨rfl, hb1⟩
    have HB1 := Lib.hid hb1
    clear hb1
    go_wp2_with fail
    refine (HR.out w1 HB1.out).mono ?_
    rintro e w2 ⟨rfl, hb2⟩
    have HB2 := Lib.hid (HB1.out.trans (hb2.mono HB1.out.size))
    clear hb2
    go_wp2_with fail
    refine (HL.out w2 HB2.out).mono ?_
    rintro e w3 ⟨rfl, hb3⟩
    have HB3 := Lib.hid (HB2.out.trans (hb3.mono HB2.out.size))
    clear hb3
    go_wp2
    go_ret
    exact ⟨rfl, HB3.out⟩
end Go.Proofs.YteofdpogjnojnaaDoor
