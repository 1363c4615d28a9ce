/-
  The laws of dates, walked: DateCivils.
-/
import Derived.Test.YtahcajhacfnffaaDoorDateW9
import Derived.Test.YtahcajhacfnffaaDoorDateW3
import Derived.Test.YtahcajhacfnffaaDoorDateTxt
namespace Go.Proofs.YtahcajhacfnffaaDoor
open Go.RowKit
set_option linter.unusedVariables false

theorem Blk.six {w : World} {g : Nat} {y m d a b c : Int} (h : Blk w g 23 #[.int .i64 y, .int .i64 m, .int .i64 d, .int .i64 a, .int .i64 b, .int .i64 c]) : six w g y m d a b c :=
  ⟨h.cell 0, h.cell 1, h.cell 2, h.cell 3, h.cell 4, h.cell 5⟩
theorem Blk.onw {w w' : World} {g : Nat} {t : TypeId} {cs : Array Value} (h : Blk w g t cs) (hb : Below w.heap.size w w') : Blk w' g t cs := h.below hb h.lt
theorem below3 {w w1 w2 w3 : World} (h1 : Below w.heap.size w w1) (h2 : Below w1.heap.size w1 w2) (h3 : Below w2.heap.size w2 w3) : Below w.heap.size w w3 :=
  (h1.trans (h2.mono h1.size)).trans (h3.mono (Nat.le_trans h1.size h2.size))
theorem below2 {w w1 w2 : World} (h1 : Below w.heap.size w w1) (h2 : Below w1.heap.size w1 w2) : Below w.heap.size w w2 := h1.trans (h2.mono h1.size)
theorem below_al {w w1 : World} (o : Obj) (h1 : Below w.heap.size w w1) : Below w.heap.size w (w1.alloc o) := h1.alloc h1.size _
theorem below_new (w : World) (o : Obj) : Below w.heap.size w (w.alloc o) := (Below.refl _ _).alloc (Nat.le_refl _) _

set_option maxRecDepth 100000 in
set_option maxHeartbeats 1600000 in
theorem dateCivils_no (t : Int) (W : World) (htab : tabP W) (h : mayB t = false) :
    Calls Tryd.prog 3 #[.int .i64 t] W fun e w' => e = .returned (.bool true) ∧ Below W.heap.size W w' := by
  have HT := Lib.hid htab
  clear htab
  go_enter Tryd.func3, Tryd.ntmps3
  go_wp2_with fail
  refine (civil_no t _ h).mono ?_
  rintro e w1 ⟨rfl, hb1⟩
  go_wp2_with fail
  refine (text_no t _ h).mono ?_
  rintro e w2 ⟨rfl, hb2⟩
  have K1 := Lib.hid ((Blk.new w1 23 #[.int .i64 0, .int .i64 0, .int .i64 0, .int .i64 0, .int .i64 0, .int .i64 0]).onw hb2)
  go_wp2_with fail
  refine (rcivil_no t _ h).mono ?_
  rintro e w3 ⟨rfl, hb3⟩
  have HB3 := Lib.hid (below3 (below_al _ hb1) hb2 hb3)
  have K2 := Lib.hid (Blk.new w3 23 #[.int .i64 0, .int .i64 0, .int .i64 0, .int .i64 0, .int .i64 0, .int .i64 0])
  have K3 := Lib.hid ((K1.out.onw hb3).alloc (.cells #[.int .i64 0, .int .i64 0, .int .i64 0, .int .i64 0, .int .i64 0, .int .i64 0] 23))
  clear hb1 hb2 hb3 K1
  go_wp2_with fail
  refine (lives_any _ (HT.out.below (below_al _ HB3.out))).mono ?_
  rintro e w4 ⟨rfl, hb4⟩
  have HB := Lib.hid (below2 (below_al _ HB3.out) hb4)
  obtain ⟨a0, a1, a2, a3, a4, a5⟩ := (K2.out.onw hb4).six
  obtain ⟨b0, b1, b2, b3, b4, b5⟩ := (K3.out.onw hb4).six
  clear hb4 K2 K3 HB3
  go_wp2_with (go_at_call 15; refine (weekday_no t _ h).mono ?_; rintro e w' ⟨rfl, rfl⟩)
  go_ret
  exact ⟨rfl, HB.out⟩

set_option maxRecDepth 100000 in
set_option maxHeartbeats 1600000 in
theorem dateCivils_yes (t y m d : Int) (W : World) (htab : tabP W) (h : mayB t = true) (hc : Cal.Civ (t / 86400 + 719162) y m d) :
    Calls Tryd.prog 3 #[.int .i64 t] W fun e w' => e = .returned (.bool true) ∧ Below W.heap.size W w' := by
  have HT := Lib.hid htab
  obtain ⟨ht0, ht1⟩ := mayB_true h
  obtain ⟨i1, i2, i3, i4, i5, i6⟩ := civ_dim hc
  obtain ⟨j1, j2, j3, j4, j5, j6⟩ := hms_bd t
  clear htab
  obtain ⟨tx, htx⟩ : ∃ x, x = strL (txtL y m d (hhT t) (mmT t) (ssT t)) := ⟨_, rfl⟩
  have HX := Lib.hid htx
  have htxt := fun w => text_yes t y m d w h hc
  rw [← htx] at htxt
  have HTXT := Lib.hid htxt
  have hrt := fun w => rtext_any y m d (hhT t) (mmT t) (ssT t) w (by omega) (by omega) (by omega) (by omega) (by omega) (by omega) (by omega) (by omega) (by omega) (by omega) (by omega) (by omega)
  rw [← htx] at hrt
  have HRT := Lib.hid hrt
  clear htx htxt hrt
  go_enter Tryd.func3, Tryd.ntmps3
  go_wp2_with fail
  refine (civil_yes t y m d _ h hc).mono ?_
  rintro e w1 ⟨rfl, hb1⟩
  go_wp2_with fail
  refine (HTXT.out _ (HT.out.below (below_al _ hb1))).mono ?_
  rintro e w2 ⟨rfl, hb2⟩
  have K1 := Lib.hid ((Blk.new w1 23 #[.int .i64 y, .int .i64 m, .int .i64 d, .int .i64 (hhT t), .int .i64 (mmT t), .int .i64 (ssT t)]).onw hb2)
  go_wp2_with fail
  refine (rcivil_yes t y m d _ h hc).mono ?_
  rintro e w3 ⟨rfl, hb3⟩
  have HB3 := Lib.hid (below3 (below_al _ hb1) hb2 hb3)
  have K2 := Lib.hid (Blk.new w3 23 #[.int .i64 y, .int .i64 m, .int .i64 d, .int .i64 (hhT t), .int .i64 (mmT t), .int .i64 (ssT t)])
  have K3 := Lib.hid ((K1.out.onw hb3).alloc (.cells #[.int .i64 y, .int .i64 m, .int .i64 d, .int .i64 (hhT t), .int .i64 (mmT t), .int .i64 (ssT t)] 23))
  clear hb1 hb2 hb3 K1
  go_wp2_with fail
  refine (lives_any _ (HT.out.below (below_al _ HB3.out))).mono ?_
  rintro e w4 ⟨rfl, hb4⟩
  have HB := Lib.hid (below2 (below_al _ HB3.out) hb4)
  have KA := Lib.hid (K2.out.onw hb4)
  have KB := Lib.hid (K3.out.onw hb4)
  obtain ⟨a0, a1, a2, a3, a4, a5⟩ := KA.out.six
  obtain ⟨b0, b1, b2, b3, b4, b5⟩ := KB.out.six
  clear hb4 K2 K3 HB3
  go_wp2_with fail
  refine (time_back t y m d _ hc).mono ?_
  rintro e w5 ⟨rfl, hb5⟩
  go_wp2_with fail
  refine (parse_back t y m d _ tx HX.out hc).mono ?_
  rintro e w6 ⟨rfl, hb6⟩
  have HB6 := Lib.hid (below3 HB.out hb5 hb6)
  clear a0 a1 a2 a3 a4 a5 b0 b1 b2 b3 b4 b5
  obtain ⟨a0, a1, a2, a3, a4, a5⟩ := ((KA.out.onw hb5).onw hb6).six
  clear hb5 hb6 KA KB HB
  go_wp2_with fail
  refine (HRT.out _).mono ?_
  rintro e w7 ⟨rfl, hb7⟩
  have HB7 := Lib.hid (below2 HB6.out hb7)
  clear hb7 HB6
  go_wp2_with (go_at_call 15; refine (weekday_yes t _ h).mono ?_; rintro e w' ⟨rfl, rfl⟩)
  go_ret
  exact ⟨rfl, HB7.out⟩
theorem dateCivils_walk (t : Int) (W : World) (htab : tabP W) :
    Calls Tryd.prog 3 #[.int .i64 t] W fun e w' => e = .returned (.bool true) ∧ Below W.heap.size W w' := by
  cases h : mayB t
  · exact dateCivils_no t W htab h
  · obtain ⟨y, m, d, hc⟩ := civ_t h
    exact dateCivils_yes t y m d W htab h hc
end Go.Proofs.YtahcajhacfnffaaDoor
