/-
  store.Store: State, Number, Room, Dead.
-/
import Derived.Test.YtgpcinfhcamgpaaGreatDoorStO1
import Derived.Test.YtgpcinfhcamgpaaGreatDoorGRc
namespace Go.Proofs.YtgpcinfhcamgpaaGreatDoor
open Go.RowKit Glob
attribute [local go_sem ↓] Go.wp_at_zero Go.wp_at_succ
set_option linter.unusedVariables false
set_option linter.unusedSimpArgs false

def storeV (r : Nat) (x : SV) : Array Value := #[.pointer (some ⟨r, 0, none⟩), .slice x.r.A x.r.l.length x.r.c, .slice x.t.A x.t.l.length x.t.c, .slice x.s.A x.s.l.length x.s.c, .slice x.tA x.tg.length x.tc, .slice x.iA x.ins.length x.ic]
theorem storeV_five (r : Nat) (x : SV) : ∃ a0 n0 c0 a1 n1 c1 a2 n2 c2 a3 n3 c3 a4 n4 c4, x.v = .agg #[.slice a0 n0 c0, .slice a1 n1 c1, .slice a2 n2 c2, .slice a3 n3 c3, .slice a4 n4 c4] ∧ storeV r x = #[.pointer (some ⟨r, 0, none⟩), .slice a0 n0 c0, .slice a1 n1 c1, .slice a2 n2 c2, .slice a3 n3 c3, .slice a4 n4 c4] :=
  ⟨_, _, _, _, _, _, _, _, _, _, _, _, _, _, _, rfl, rfl⟩
/-- a store in memory: its record's block, its state -/
structure StoreAt (w : World) (p r : Nat) (x : SV) : Prop where
  blk : Blk w p 89 (storeV r x)
  ty : STy w x
  sm : SM x
  may : mayS fnameL pathL x.sta = true
  len : (stB x.sta).length ≤ 100000
theorem StoreAt.below {w w' : World} {p r : Nat} {x : SV} (h : StoreAt w p r x) (hb : Below w.heap.size w w') : StoreAt w' p r x := ⟨h.blk.below hb h.blk.lt, h.ty.below hb, h.sm, h.may, h.len⟩
theorem StoreAt.fr {S : Nat → Prop} {w w' : World} {p r : Nat} {x : SV} (h : StoreAt w p r x) (hf : Fr S w w') (hp : ¬ S p) (hS : ∀ g, S g → NoBF w g) : StoreAt w' p r x := ⟨h.blk.fr hf hp, h.ty.fr hf hS, h.sm, h.may, h.len⟩
set_option maxHeartbeats 1000000 in
theorem sstate_nil (w : World) : Calls Tryz.prog 19 #[.pointer none] w fun e w' => e = .returned SV.none.v ∧ Below w.heap.size w w' := by
  show Calls Tryz.prog 19 #[.pointer none] w fun e w' => e = .returned (.agg #[.slice none 0 0, .slice none 0 0, .slice none 0 0, .slice none 0 0, .slice none 0 0]) ∧ Below w.heap.size w w'
  go_enter Tryz.func19, Tryz.ntmps19
  go_wp2
  exact bodyPost_ret (v := .agg #[.slice none 0 0, .slice none 0 0, .slice none 0 0, .slice none 0 0, .slice none 0 0]) (by simp [results, Tryz.results19, go_sem]) rfl ⟨rfl, (Below.refl _ _).alloc (Nat.le_refl _) _⟩
set_option maxRecDepth 100000 in
set_option maxHeartbeats 4000000 in
theorem sstate_any (p r : Nat) (s : SV) (w : World) (h : StoreAt w p r s) (hT : Tab w) :
    Calls Tryz.prog 19 #[.pointer (some ⟨p, 0, none⟩)] w fun e w' => ClonePost s w e w' := by
  have HA : Hid (Below w.heap.size w (w.alloc (.cells #[.slice none 0 0, .slice none 0 0, .slice none 0 0, .slice none 0 0, .slice none 0 0] 25))) := Lib.hid ((Below.refl _ _).alloc (Nat.le_refl _) _)
  have HB := Lib.hid (h.blk.below HA.out h.blk.lt)
  have HR : Hid (Blk (w.alloc (.cells #[.slice none 0 0, .slice none 0 0, .slice none 0 0, .slice none 0 0, .slice none 0 0] 25)) w.heap.size 25 #[.slice none 0 0, .slice none 0 0, .slice none 0 0, .slice none 0 0, .slice none 0 0]) := Lib.hid (Blk.new _ _ _)
  have HC := Lib.hid (sclone_any s _ (h.ty.at_.below HA.out) h.sm (hT.below HA.out) h.may h.len)
  unfold ClonePost at HC
  have HPOST : Hid (∀ x w', x.sta = s.sta → STy w' x → SM x → Below w.heap.size w w' → ClonePost s w (.returned x.v) w') := Lib.hid (fun x w' h1 h2 h3 h4 => ⟨x, rfl, h1, h2, h3, h4⟩)
  obtain ⟨a0, n0, c0, a1, n1, c1, a2, n2, c2, a3, n3, c3, a4, n4, c4, hsv, hst⟩ := storeV_five r s
  rw [hsv] at HC
  rw [hst] at HB
  have s1 := HB.out.cell 1
  have s2 := HB.out.cell 2
  have s3 := HB.out.cell 3
  have s4 := HB.out.cell 4
  have s5 := HB.out.cell 5
  simp only [List.getElem?_toArray, List.getElem?_cons_zero, List.getElem?_cons_succ] at s1 s2 s3 s4 s5
  clear h hT hsv hst
  go_enter Tryz.func19, Tryz.ntmps19
  go_wp2_with fail
  refine HC.out.mono ?_
  rintro e w2 ⟨x, rfl, hx, hty, hsm, hb2⟩
  have HX := Lib.hid hx
  have HB2 : Hid (Below w.heap.size w w2) := Lib.hid (HA.out.trans (hb2.mono HA.out.size))
  have HR3 := Lib.hid (HR.out.below hb2 HR.out.lt)
  have HTY3 := Lib.hid hty
  have HSM := Lib.hid hsm
  obtain ⟨b0, m0, d0, b1, m1, d1, b2, m2, d2, b3, m3, d3, b4, m4, d4, hxv, -⟩ := x.five
  have HXV := Lib.hid hxv
  rw [hxv]
  clear hx hty hsm hb2 hxv s1 s2 s3 s4 s5 HB HA
  have q0 := HR3.out.cell 0
  have z0 := HR3.out.frozen 0
  have q1 := HR3.out.cell 1
  have z1 := HR3.out.frozen 1
  have q2 := HR3.out.cell 2
  have z2 := HR3.out.frozen 2
  have q3 := HR3.out.cell 3
  have z3 := HR3.out.frozen 3
  have q4 := HR3.out.cell 4
  have z4 := HR3.out.frozen 4
  simp only [List.getElem?_toArray, List.getElem?_cons_zero, List.getElem?_cons_succ] at q0 q1 q2 q3 q4
  go_wp2
  have HF : Hid (Blk (((((w2.setCell ⟨w.heap.size, 0, none⟩ (.slice b0 m0 d0)).setCell ⟨w.heap.size, 1, none⟩ (.slice b1 m1 d1)).setCell ⟨w.heap.size, 2, none⟩ (.slice b2 m2 d2)).setCell ⟨w.heap.size, 3, none⟩ (.slice b3 m3 d3)).setCell ⟨w.heap.size, 4, none⟩ (.slice b4 m4 d4)) w.heap.size 25 #[.slice b0 m0 d0, .slice b1 m1 d1, .slice b2 m2 d2, .slice b3 m3 d3, .slice b4 m4 d4]) := Lib.hid (((((HR3.out.set_ 0 (.slice b0 m0 d0)).set_ 1 (.slice b1 m1 d1)).set_ 2 (.slice b2 m2 d2)).set_ 3 (.slice b3 m3 d3)).set_ 4 (.slice b4 m4 d4))
  have HTF : Hid (STy (((((w2.setCell ⟨w.heap.size, 0, none⟩ (.slice b0 m0 d0)).setCell ⟨w.heap.size, 1, none⟩ (.slice b1 m1 d1)).setCell ⟨w.heap.size, 2, none⟩ (.slice b2 m2 d2)).setCell ⟨w.heap.size, 3, none⟩ (.slice b3 m3 d3)).setCell ⟨w.heap.size, 4, none⟩ (.slice b4 m4 d4)) x) := Lib.hid (sty_set9 (sty_set9 (sty_set9 (sty_set9 (sty_set9 HTY3.out HR3.out 0 (.slice b0 m0 d0)) (HR3.out.set_ 0 (.slice b0 m0 d0)) 1 (.slice b1 m1 d1)) ((HR3.out.set_ 0 (.slice b0 m0 d0)).set_ 1 (.slice b1 m1 d1)) 2 (.slice b2 m2 d2)) (((HR3.out.set_ 0 (.slice b0 m0 d0)).set_ 1 (.slice b1 m1 d1)).set_ 2 (.slice b2 m2 d2)) 3 (.slice b3 m3 d3)) ((((HR3.out.set_ 0 (.slice b0 m0 d0)).set_ 1 (.slice b1 m1 d1)).set_ 2 (.slice b2 m2 d2)).set_ 3 (.slice b3 m3 d3)) 4 (.slice b4 m4 d4))
  have HBF : Hid (Below w.heap.size w (((((w2.setCell ⟨w.heap.size, 0, none⟩ (.slice b0 m0 d0)).setCell ⟨w.heap.size, 1, none⟩ (.slice b1 m1 d1)).setCell ⟨w.heap.size, 2, none⟩ (.slice b2 m2 d2)).setCell ⟨w.heap.size, 3, none⟩ (.slice b3 m3 d3)).setCell ⟨w.heap.size, 4, none⟩ (.slice b4 m4 d4))) := Lib.hid (((((HB2.out.setCell (Nat.le_refl _) (.slice b0 m0 d0)).setCell (Nat.le_refl _) (.slice b1 m1 d1)).setCell (Nat.le_refl _) (.slice b2 m2 d2)).setCell (Nat.le_refl _) (.slice b3 m3 d3)).setCell (Nat.le_refl _) (.slice b4 m4 d4))
  generalize (((((w2.setCell ⟨w.heap.size, 0, none⟩ (.slice b0 m0 d0)).setCell ⟨w.heap.size, 1, none⟩ (.slice b1 m1 d1)).setCell ⟨w.heap.size, 2, none⟩ (.slice b2 m2 d2)).setCell ⟨w.heap.size, 3, none⟩ (.slice b3 m3 d3)).setCell ⟨w.heap.size, 4, none⟩ (.slice b4 m4 d4)) = Wf at HF HTF HBF ⊢
  have k0 := HF.out.cell 0
  have k1' := HF.out.cell 1
  have k2 := HF.out.cell 2
  have k3 := HF.out.cell 3
  have k4 := HF.out.cell 4
  simp only [List.getElem?_toArray, List.getElem?_cons_zero, List.getElem?_cons_succ] at k0 k1' k2 k3 k4
  refine bodyPost_ret (v := .agg #[.slice b0 m0 d0, .slice b1 m1 d1, .slice b2 m2 d2, .slice b3 m3 d3, .slice b4 m4 d4]) (by simp [results, Tryz.results19, go_sem, k0, k1', k2, k3, k4]) rfl ?_
  rw [← HXV.out]
  exact HPOST.out x _ HX.out HTF.out HSM.out HBF.out
set_option maxHeartbeats 1000000 in
theorem snumber_nil (w : World) : Calls Tryz.prog 21 #[.pointer none] w fun e w' => e = .returned (.int .i64 0) ∧ w' = w := by
  go_enter Tryz.func21, Tryz.ntmps21
  go_wp2
  go_ret
  exact ⟨rfl, rfl⟩
set_option maxHeartbeats 1000000 in
theorem snumber_any {p r d first half N : Nat} {T : List UInt8} {dead : Bool} {x : SV} (w : World) (h : StoreAt w p r x) (hr : RecAt w r d first half N T dead) : Calls Tryz.prog 21 #[.pointer (some ⟨p, 0, none⟩)] w fun e w' => e = .returned (.int .i64 (N : Int)) ∧ w' = w := by
  have HC := Lib.hid (rnumber_any w hr)
  have s0 := h.blk.cell 0
  simp only [storeV, List.getElem?_toArray, List.getElem?_cons_zero] at s0
  clear h hr
  go_enter Tryz.func21, Tryz.ntmps21
  go_wp2_with fail
  refine HC.out.mono ?_
  rintro e w' ⟨rfl, rfl⟩
  go_wp2
  go_ret
  exact ⟨rfl, rfl⟩
set_option maxHeartbeats 1000000 in
theorem sroom_nil (w : World) : Calls Tryz.prog 22 #[.pointer none] w fun e w' => e = .returned (.int .i64 0) ∧ w' = w := by
  go_enter Tryz.func22, Tryz.ntmps22
  go_wp2
  go_ret
  exact ⟨rfl, rfl⟩
set_option maxHeartbeats 1000000 in
theorem sroom_any {p r d first half N : Nat} {T : List UInt8} {dead : Bool} {x : SV} (w : World) (h : StoreAt w p r x) (hr : RecAt w r d first half N T dead) (hh : 1 ≤ half) (hb : half ≤ 16384) : Calls Tryz.prog 22 #[.pointer (some ⟨p, 0, none⟩)] w fun e w' => e = .returned (.int .i64 (64 * ((half : Int) - 1))) ∧ w' = w := by
  have HC := Lib.hid (rroom_any w hr hh hb)
  have s0 := h.blk.cell 0
  simp only [storeV, List.getElem?_toArray, List.getElem?_cons_zero] at s0
  clear h hr
  go_enter Tryz.func22, Tryz.ntmps22
  go_wp2_with fail
  refine HC.out.mono ?_
  rintro e w' ⟨rfl, rfl⟩
  go_wp2
  go_ret
  exact ⟨rfl, rfl⟩
set_option maxHeartbeats 1000000 in
theorem sdead_nil (w : World) : Calls Tryz.prog 23 #[.pointer none] w fun e w' => e = .returned (.bool false) ∧ w' = w := by
  go_enter Tryz.func23, Tryz.ntmps23
  go_wp2
  go_ret
  exact ⟨rfl, rfl⟩
set_option maxHeartbeats 1000000 in
theorem sdead_any {p r d first half N : Nat} {T : List UInt8} {dead : Bool} {x : SV} (w : World) (h : StoreAt w p r x) (hr : RecAt w r d first half N T dead) : Calls Tryz.prog 23 #[.pointer (some ⟨p, 0, none⟩)] w fun e w' => e = .returned (.bool dead) ∧ w' = w := by
  have HC := Lib.hid (rdead_any w hr)
  have s0 := h.blk.cell 0
  simp only [storeV, List.getElem?_toArray, List.getElem?_cons_zero] at s0
  clear h hr
  go_enter Tryz.func23, Tryz.ntmps23
  go_wp2_with fail
  refine HC.out.mono ?_
  rintro e w' ⟨rfl, rfl⟩
  go_wp2
  go_ret
  exact ⟨rfl, rfl⟩
end Go.Proofs.YtgpcinfhcamgpaaGreatDoor
