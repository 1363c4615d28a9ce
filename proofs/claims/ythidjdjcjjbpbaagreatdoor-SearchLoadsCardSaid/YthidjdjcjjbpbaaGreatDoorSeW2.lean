/-
  target.Covers.
-/
import Derived.Test.YthidjdjcjjbpbaaGreatDoorSeG
namespace Go.Proofs.YthidjdjcjjbpbaaGreatDoor
open Go.RowKit Sea Glob
set_option linter.unusedVariables false
set_option linter.unusedSimpArgs false

/-- does a delegation cover a path? -/
def covP (path : ByteArray) (d : PD) : Bool := d.paths.any (fun p => matchL p.data.toList path.data.toList) || d.prefs.any (fun p => underL p.data.toList path.data.toList)
/-- the tables of the library that the code reads -/
def Tbs (w : World) : Prop := Tab w ∧ TabK w
theorem Tbs.bel {w w' : World} (h : Tbs w) (hb : Below w.heap.size w w') : Tbs w' := ⟨h.1.below hb, h.2.below hb⟩
theorem anyc_all (p path : ByteArray) (B : Nat) (w : World) (hp : p.size ≤ 140737488351232) (hs : path.size ≤ 1000) (hT : Tab w) (hB : w.cell? ⟨B, 0, none⟩ = some (.string path)) :
    Calls Tryz.prog 69 #[.string p, .pointer (some ⟨B, 0, none⟩)] w fun e w' => e = .returned (.bool (matchL p.data.toList path.data.toList)) ∧ Below w.heap.size w w' := by
  obtain ⟨r, hr⟩ : ∃ r, r = matchL p.data.toList path.data.toList := ⟨_, rfl⟩
  have HM := match_all p path w hp (by omega) hT
  rw [← hr] at HM ⊢
  clear hr
  have HM := Lib.hid HM
  go_enter Tryz.func69, Tryz.ntmps69
  go_wp2_with fail
  refine HM.out.mono ?_
  rintro e w' ⟨rfl, hb⟩
  go_wp2
  go_ret
  exact ⟨rfl, hb⟩
set_option maxHeartbeats 1000000 in
theorem anyG_all (A : Option Addr) (n c : Nat) (l : List ByteArray) (path : ByteArray) (w : World) (hl : SS w A l) (hn : l.length = n) (hbig : n ≤ 9223372036854775807) (hls : ∀ a ∈ l, a.size ≤ 140737488351232) (hs : path.size ≤ 1000) (hT : Tab w) :
    Calls Tryz.prog 59 #[.slice A n c, .string path] w fun e w' => e = .returned (.int .i64 (idxS (fun p => matchL p.data.toList path.data.toList) l)) ∧ Below w.heap.size w w' := by
  have hb0 : Below w.heap.size w (w.alloc (.cells #[.string path] 9)) := (Below.refl _ _).alloc (Nat.le_refl _) _
  have hc0 : (w.alloc (.cells #[.string path] 9)).cell? ⟨w.heap.size, 0, none⟩ = some (.string path) := (Blk.new w 9 #[.string path]).cell 0
  have HI := indexFunc_any 69 #[.pointer (some ⟨w.heap.size, 0, none⟩)] (enters_of Tryz.func69 (by kernel_rfl) rfl) A n c l (w.alloc (.cells #[.string path] 9)) (fun p => matchL p.data.toList path.data.toList) (hl.below hb0) hn hbig
    (fun k h1 W hb => (anyc_all l[k] path w.heap.size W (hls _ (List.getElem_mem h1)) hs ((hT.below hb0).below hb) ((hb.cell (p := ⟨w.heap.size, 0, none⟩) (by simp)).trans hc0)).mono fun e w' ⟨he, hw⟩ => ⟨he, hb.trans (hw.mono hb.size)⟩)
  obtain ⟨r, hr⟩ : ∃ r, r = idxS (fun p => matchL p.data.toList path.data.toList) l := ⟨_, rfl⟩
  rw [← hr] at HI ⊢
  have HI := Lib.hid HI
  clear hr hc0
  go_enter Tryz.func59, Tryz.ntmps59
  go_wp2_with fail
  refine HI.out.mono ?_
  rintro e w' ⟨rfl, hb⟩
  go_wp2
  go_ret
  exact ⟨rfl, hb0.trans (hb.mono (by simp))⟩
theorem covc_any (p path : ByteArray) (B : Nat) (w : World) (hs : path.size ≤ 1000) (hT : Tbs w) (hB : w.cell? ⟨B, 0, none⟩ = some (.string path)) :
    Calls Tryz.prog 60 #[.string p, .pointer (some ⟨B, 0, none⟩)] w fun e w' => e = .returned (.bool (underL p.data.toList path.data.toList)) ∧ Below w.heap.size w w' := by
  obtain ⟨r, hr⟩ : ∃ r, r = underL p.data.toList path.data.toList := ⟨_, rfl⟩
  have HM := under_all p path w (by omega) hT.1 hT.2
  rw [← hr] at HM ⊢
  clear hr
  have HM := Lib.hid HM
  go_enter Tryz.func60, Tryz.ntmps60
  go_wp2_with fail
  refine HM.out.mono ?_
  rintro e w' ⟨rfl, hb⟩
  go_wp2
  go_ret
  exact ⟨rfl, hb⟩
def BoP (b : Bool) (w : World) (e : Ending) (w' : World) : Prop := e = .returned (.bool b) ∧ Below w.heap.size w w'
set_option maxRecDepth 100000 in
set_option maxHeartbeats 2000000 in
theorem covers_any (X : Nat → Prop) (d : PD) (a : DA) (path : ByteArray) (w : World) (h : DOk X w d a) (hz : PDz d) (hp : path.size ≤ 1000) (hT : Tbs w) : Calls Tryz.prog 48 #[d.val a, .string path] w fun e w' => PF (BoP (covP path d) w) e w' := by
  obtain ⟨W2, hW2⟩ : ∃ W2, W2 = ((w.alloc (.cells #[.string d.name, .slice a.kA d.rk.length a.kc, .int .i64 d.thr, .bool d.term, .slice a.pA d.paths.length a.pc, .slice a.xA d.prefs.length a.xc] 59)).alloc (.cells #[.string path] 9)) := ⟨_, rfl⟩
  have hb2 : Below w.heap.size w W2 := by rw [hW2]; exact ((Below.refl _ _).alloc (Nat.le_refl _) _).alloc (by simp) _
  have hk0 : Blk W2 w.heap.size 59 #[.string d.name, .slice a.kA d.rk.length a.kc, .int .i64 d.thr, .bool d.term, .slice a.pA d.paths.length a.pc, .slice a.xA d.prefs.length a.xc] := by rw [hW2]; exact (Blk.new _ _ _).alloc _
  have hk1 : Blk W2 (w.heap.size + 1) 9 #[.string path] := by
    rw [hW2]
    have h2 := (Blk.new (w.alloc (.cells #[.string d.name, .slice a.kA d.rk.length a.kc, .int .i64 d.thr, .bool d.term, .slice a.pA d.paths.length a.pc, .slice a.xA d.prefs.length a.xc] 59)) 9 #[.string path])
    simpa using h2
  have hok := h.bel hb2
  have hcp := hok.cp
  have hcx := hok.cx
  have hT2 := hT.bel hb2
  have hg := anyG_all a.pA d.paths.length a.pc d.paths path W2 hok.rp.1 rfl (by unfold maxLen at hcp; omega) hz.1 hp hT2.1
  have hu : ∀ W, Below W2.heap.size W2 W → Calls Tryz.prog 56 #[.slice a.xA d.prefs.length a.xc, .func (.func 60) #[] #[.pointer (some ⟨w.heap.size + 1, 0, none⟩)]] W fun e w' => e = .returned (.bool (d.prefs.any (fun p => underL p.data.toList path.data.toList))) ∧ Below W.heap.size W w' := fun W hW =>
    containsFunc_any 60 #[.pointer (some ⟨w.heap.size + 1, 0, none⟩)] (enters_of Tryz.func60 (by kernel_rfl) rfl) a.xA d.prefs.length a.xc d.prefs W (fun p => underL p.data.toList path.data.toList) (hok.rx.bel hW).1 rfl (by unfold maxLen at hcx; omega)
      (fun k hk V hV => (covc_any d.prefs[k] path (w.heap.size + 1) V hp ((hT2.bel hW).bel hV) (((hk1.below hW hk1.lt).below hV (Nat.lt_of_lt_of_le hk1.lt hW.size)).cell 0)).mono fun e w' ⟨he, hw⟩ => ⟨he, hV.trans (hw.mono hV.size)⟩)
  obtain ⟨r, hr⟩ : ∃ r, r = covP path d := ⟨_, rfl⟩
  rw [← hr]
  have hi := idxS_any (fun p => matchL p.data.toList path.data.toList) d.paths
  have hge := idxS_ge (fun p => matchL p.data.toList path.data.toList) d.paths
  generalize idxS (fun p => matchL p.data.toList path.data.toList) d.paths = j at hg hi hge
  have HU := Lib.hid hu
  have HG := Lib.hid hg
  have HB2 := Lib.hid hb2
  have HW2 := Lib.hid hW2
  have HK0 := Lib.hid hk0
  unfold Sea.PD.val Sea.PD.cs
  clear h hz hp hT hb2 hk0 hk1 hok hcp hcx hT2 hg hu hW2
  cases hx : d.paths.any (fun p => matchL p.data.toList path.data.toList) with
  | true =>
    have HI : Hid (r = true) := Lib.hid (by rw [hr]; unfold covP; rw [hx]; rfl)
    rw [hx] at hi
    have q1 : decide (0 ≤ j) = true := hi
    have q0 : 0 ≤ j := of_decide_eq_true hi
    clear hx hr hi
    go_enter Tryz.func48, Tryz.ntmps48
    go_wp2_with fail
    rw [← HW2.out]
    refine HG.out.mono ?_
    rintro e w3 ⟨rfl, hb3⟩
    have HB3 : Hid (Below w.heap.size w w3) := Lib.hid (HB2.out.trans (hb3.mono HB2.out.size))
    clear hb3
    go_wp2
    go_ret
    exact ⟨by rw [HI.out]; rfl, HB3.out⟩
  | false =>
    obtain ⟨u, hu⟩ : ∃ u, u = d.prefs.any (fun p => underL p.data.toList path.data.toList) := ⟨_, rfl⟩
    rw [← hu] at HU
    have HI : Hid (r = u) := Lib.hid (by rw [hr, hu]; unfold covP; rw [hx]; rfl)
    rw [hx] at hi
    have q1 : decide (0 ≤ j) = false := hi
    have q0 : j < 0 := by have := of_decide_eq_false hi; omega
    clear hx hr hi hu
    go_enter Tryz.func48, Tryz.ntmps48
    go_wp2_with fail
    rw [← HW2.out]
    refine HG.out.mono ?_
    rintro e w3 ⟨rfl, hb3⟩
    have HB3 : Hid (Below w.heap.size w w3) := Lib.hid (HB2.out.trans (hb3.mono HB2.out.size))
    have e5 : w3.cell? ⟨w.heap.size, 5, none⟩ = some (.slice a.xA d.prefs.length a.xc) := (HK0.out.below hb3 HK0.out.lt).cell 5
    have HU3 := Lib.hid (HU.out w3 hb3)
    clear hb3
    go_wp2_with fail
    refine HU3.out.mono ?_
    rintro e w4 ⟨rfl, hb4⟩
    have HB4 : Hid (Below w.heap.size w w4) := Lib.hid (HB3.out.trans (hb4.mono HB3.out.size))
    clear hb4 e5
    go_wp2
    go_ret
    exact ⟨by rw [HI.out]; simp, HB4.out⟩
end Go.Proofs.YthidjdjcjjbpbaaGreatDoor
