/-
  value: Null, Bool, Int, Text, List, Map; the document's Large; at, Get.
-/
import Derived.Test.YteodigdcdhceiaaDoorVaW
import Derived.Deep.RegionHeld3
namespace Go.Proofs.YteodigdcdhceiaaDoor
open Go.RowKit
attribute [local go_sem ↓] Go.wp_at_zero Go.wp_at_succ
set_option linter.unusedVariables false
set_option linter.unusedSimpArgs false

def MV.one (k n : Int) (s : ByteArray) : MV := .mk ⟨#[]⟩ k n s none 0 [] none 0 []
def PV.one (k n : Int) (s : ByteArray) : PV := .mk k n s [] [] []
theorem VOwn.one (base : Nat) (w : World) {k n : Int} (s : ByteArray) (hk : (Lit.int .i64 k).wf = true) (hn : (Lit.int .i64 n).wf = true) : VOwn base w (.one k n s) :=
  ⟨.mk hk hn Reads.none_ (Nat.le_refl _) (by simp [maxLen]) Reads.none_ (Nat.le_refl _) (by simp [maxLen]) (fun x hx => by cases hx) (fun x hx => by cases hx), .mk (fun h => absurd rfl h) (fun h => absurd rfl h) (fun x hx => by cases hx) (fun x hx => by cases hx), ROwn.nil _ _, ROwn.nil _ _, (fun x hx => by cases hx), (fun x hx => by cases hx)⟩
/-- a value comes out of the cell of a result -/
theorem own_stored {w w3 w4 : World} {g : Nat} {v' : MV} {p : PV} {z0 z1 z2 z3 z4 : Value} (hy : Blk w4 g 25 #[z0, z1, z2, z3, z4]) (hg : w.heap.size ≤ g) (hlt : g < w3.heap.size) (hvo : VOwn w3.heap.size w4 v') (hb : Below w.heap.size w w4) (hb3 : w.heap.size ≤ w3.heap.size) (hp : v'.pv = p) :
    Blk (((((w4.setCell ⟨g, 0, none⟩ (.int .i64 v'.k)).setCell ⟨g, 1, none⟩ (.int .i64 v'.n)).setCell ⟨g, 2, none⟩ (.string v'.s)).setCell ⟨g, 3, none⟩ (.slice v'.lA v'.l.length v'.lc)).setCell ⟨g, 4, none⟩ (.slice v'.mA v'.m.length v'.mc)) g 25 #[.int .i64 v'.k, .int .i64 v'.n, .string v'.s, .slice v'.lA v'.l.length v'.lc, .slice v'.mA v'.m.length v'.mc] ∧
    OwP p w (.returned v'.val) (((((w4.setCell ⟨g, 0, none⟩ (.int .i64 v'.k)).setCell ⟨g, 1, none⟩ (.int .i64 v'.n)).setCell ⟨g, 2, none⟩ (.string v'.s)).setCell ⟨g, 3, none⟩ (.slice v'.lA v'.l.length v'.lc)).setCell ⟨g, 4, none⟩ (.slice v'.mA v'.m.length v'.mc)) :=
  ⟨blk_five hy, v', rfl, hp, (hvo.fr_low fr_five (fun k e => by rw [show k = g from e]; exact hlt)).base_le hb3, Fr.below_trans hb fr_five hb.size (fun b e => by rw [show b = g from e]; exact hg)⟩
theorem null_any (w : World) : Calls Tryd.prog 14 #[] w fun e w' => PF (OwP (.one 1 0 ⟨#[]⟩) w) e w' := by
  go_enter Tryd.func14, Tryd.ntmps14
  go_wp2
  have hk := Blk.new w 25 #[.int .i64 1, .int .i64 0, .string ⟨#[]⟩, .slice none 0 0, .slice none 0 0]
  obtain ⟨k0, k1, k2, k3, k4⟩ := five_cells hk
  refine bodyPost_ret (v := (MV.one 1 0 ⟨#[]⟩).val) (by simp [results, Tryd.results14, go_sem, MV.val, MV.one, MV.k, MV.n, MV.s, MV.lA, MV.lc, MV.l, MV.mA, MV.mc, MV.m]) rfl ?_
  exact ⟨_, rfl, rfl, VOwn.one _ _ _ rfl rfl, below_new _ _⟩
theorem bool_any (b : Bool) (w : World) : Calls Tryd.prog 15 #[.bool b] w fun e w' => PF (OwP (.one 2 (if b then 1 else 0) ⟨#[]⟩) w) e w' := by
  cases b
  · go_enter Tryd.func15, Tryd.ntmps15
    go_wp2
    refine bodyPost_ret (v := (MV.one 2 0 ⟨#[]⟩).val) (by simp [results, Tryd.results15, go_sem, MV.val, MV.one, MV.k, MV.n, MV.s, MV.lA, MV.lc, MV.l, MV.mA, MV.mc, MV.m]) rfl ?_
    exact ⟨_, rfl, rfl, VOwn.one _ _ _ rfl rfl, below_new _ _⟩
  · go_enter Tryd.func15, Tryd.ntmps15
    go_wp2
    refine bodyPost_ret (v := (MV.one 2 1 ⟨#[]⟩).val) (by simp [results, Tryd.results15, go_sem, MV.val, MV.one, MV.k, MV.n, MV.s, MV.lA, MV.lc, MV.l, MV.mA, MV.mc, MV.m]) rfl ?_
    exact ⟨_, rfl, rfl, VOwn.one _ _ _ rfl rfl, below_new _ _⟩
theorem int_any (n : Int) (w : World) (hn : (Lit.int .i64 n).wf = true) : Calls Tryd.prog 16 #[.int .i64 n] w fun e w' => PF (OwP (.one 3 n ⟨#[]⟩) w) e w' := by
  have HN := Lib.hid hn
  clear hn
  go_enter Tryd.func16, Tryd.ntmps16
  go_wp2
  refine bodyPost_ret (v := (MV.one 3 n ⟨#[]⟩).val) (by simp [results, Tryd.results16, go_sem, MV.val, MV.one, MV.k, MV.n, MV.s, MV.lA, MV.lc, MV.l, MV.mA, MV.mc, MV.m]) rfl ?_
  exact ⟨_, rfl, rfl, VOwn.one _ _ _ rfl HN.out, below_new _ _⟩
theorem text_any (s : ByteArray) (w : World) : Calls Tryd.prog 17 #[.string s] w fun e w' => PF (OwP (.one 4 0 s) w) e w' := by
  go_enter Tryd.func17, Tryd.ntmps17
  go_wp2
  refine bodyPost_ret (v := (MV.one 4 0 s).val) (by simp [results, Tryd.results17, go_sem, MV.val, MV.one, MV.k, MV.n, MV.s, MV.lA, MV.lc, MV.l, MV.mA, MV.mc, MV.m]) rfl ?_
  exact ⟨_, rfl, rfl, VOwn.one _ _ _ rfl rfl, below_new _ _⟩
set_option maxRecDepth 100000 in
set_option maxHeartbeats 1000000 in
theorem list_any {w : World} {key : ByteArray} {A : Option Addr} {c : Nat} {l : List MV} (h : VAt w (.mk key 5 0 ⟨#[]⟩ A c l none 0 [])) (hf : FitV (.mk key 5 0 ⟨#[]⟩ A c l none 0 [])) : Calls Tryd.prog 18 #[.slice A l.length c] w fun e w' => PF (OwP (.mk 5 0 ⟨#[]⟩ (MV.pvL l) [] []) w) e w' := by
  obtain ⟨W1, hW1⟩ : ∃ W1, W1 = w.alloc (.cells #[.int .i64 0, .int .i64 0, .string ⟨#[]⟩, .slice none 0 0, .slice none 0 0] 25) := ⟨_, rfl⟩
  have hb1 : Below w.heap.size w W1 := by rw [hW1]; exact below_new _ _
  have hk1 : Blk W1 w.heap.size 25 #[.int .i64 0, .int .i64 0, .string ⟨#[]⟩, .slice none 0 0, .slice none 0 0] := by rw [hW1]; exact Blk.new _ _ _
  have hc := clone_any (h.bel hb1) W1 (Below.refl _ _) hf
  unfold MV.val at hc
  simp only [MV.k, MV.n, MV.s, MV.lA, MV.lc, MV.l, MV.mA, MV.mc, MV.m, List.length_nil] at hc
  obtain ⟨nl, hnl⟩ : ∃ nl, nl = l.length := ⟨_, rfl⟩
  rw [← hnl] at hc ⊢
  have HC := Lib.hid hc
  have HW1 := Lib.hid hW1
  have HB1 := Lib.hid hb1
  have HK1 := Lib.hid hk1
  clear h hf hc hW1 hb1 hk1 hnl
  go_enter Tryd.func18, Tryd.ntmps18
  go_wp2_with fail
  rw [← HW1.out]
  refine HC.out.mono ?_
  rintro e w2 ⟨v', rfl, hpv, hvo, hb2⟩
  have hy := HK1.out.below hb2 HK1.out.lt
  have HB2 : Hid (Below w.heap.size w w2) := Lib.hid (HB1.out.trans (hb2.mono HB1.out.size))
  have HF := Lib.hid (own_stored hy (Nat.le_refl _) HK1.out.lt hvo HB2.out HB1.out.size (hpv.trans (by rw [MV.pv])))
  obtain ⟨t0, t1, t2, t3, t4⟩ := five_cells hy
  obtain ⟨z0, z1, z2, z3, z4⟩ := five_fr hy
  unfold MV.val
  clear hpv hvo hb2 hy
  go_wp2
  obtain ⟨k0, k1, k2, k3, k4⟩ := five_cells HF.out.1
  refine bodyPost_ret (v := v'.val) (by simp [results, Tryd.results18, go_sem, k0, k1, k2, k3, k4, MV.val]) rfl ?_
  exact HF.out.2
set_option maxRecDepth 100000 in
set_option maxHeartbeats 1000000 in
theorem map_any {w : World} {key : ByteArray} {A : Option Addr} {c : Nat} {m : List MV} (h : VAt w (.mk key 6 0 ⟨#[]⟩ none 0 [] A c m)) (hf : FitV (.mk key 6 0 ⟨#[]⟩ none 0 [] A c m)) : Calls Tryd.prog 19 #[.slice A m.length c] w fun e w' => PF (OwP (.mk 6 0 ⟨#[]⟩ [] (m.map MV.key) (MV.pvL m)) w) e w' := by
  obtain ⟨W1, hW1⟩ : ∃ W1, W1 = w.alloc (.cells #[.int .i64 0, .int .i64 0, .string ⟨#[]⟩, .slice none 0 0, .slice none 0 0] 25) := ⟨_, rfl⟩
  have hb1 : Below w.heap.size w W1 := by rw [hW1]; exact below_new _ _
  have hk1 : Blk W1 w.heap.size 25 #[.int .i64 0, .int .i64 0, .string ⟨#[]⟩, .slice none 0 0, .slice none 0 0] := by rw [hW1]; exact Blk.new _ _ _
  have hc := clone_any (h.bel hb1) W1 (Below.refl _ _) hf
  unfold MV.val at hc
  simp only [MV.k, MV.n, MV.s, MV.lA, MV.lc, MV.l, MV.mA, MV.mc, MV.m, List.length_nil] at hc
  obtain ⟨nl, hnl⟩ : ∃ nl, nl = m.length := ⟨_, rfl⟩
  rw [← hnl] at hc ⊢
  have HC := Lib.hid hc
  have HW1 := Lib.hid hW1
  have HB1 := Lib.hid hb1
  have HK1 := Lib.hid hk1
  clear h hf hc hW1 hb1 hk1 hnl
  go_enter Tryd.func19, Tryd.ntmps19
  go_wp2_with fail
  rw [← HW1.out]
  refine HC.out.mono ?_
  rintro e w2 ⟨v', rfl, hpv, hvo, hb2⟩
  have hy := HK1.out.below hb2 HK1.out.lt
  have HB2 : Hid (Below w.heap.size w w2) := Lib.hid (HB1.out.trans (hb2.mono HB1.out.size))
  have HF := Lib.hid (own_stored hy (Nat.le_refl _) HK1.out.lt hvo HB2.out HB1.out.size (hpv.trans (by rw [MV.pv])))
  obtain ⟨t0, t1, t2, t3, t4⟩ := five_cells hy
  obtain ⟨z0, z1, z2, z3, z4⟩ := five_fr hy
  unfold MV.val
  clear hpv hvo hb2 hy
  go_wp2
  obtain ⟨k0, k1, k2, k3, k4⟩ := five_cells HF.out.1
  refine bodyPost_ret (v := v'.val) (by simp [results, Tryd.results19, go_sem, k0, k1, k2, k3, k4, MV.val]) rfl ?_
  exact HF.out.2
/-- what Large answers -/
def LgP (v : MV) (w : World) (e : Ending) (w' : World) : Prop := ∃ b : Bool, e = .returned (.bool b) ∧ Below w.heap.size w w' ∧ (b = false → v.wt ≤ 6000 ∧ v.dep ≤ 21 ∧ FitV v)
theorem LgP.mk {v : MV} {w w' : World} {b : Bool} (h1 : Below w.heap.size w w') (h2 : b = false → v.wt ≤ 6000 ∧ v.dep ≤ 21 ∧ FitV v) : LgP v w (.returned (.bool b)) w' := ⟨b, rfl, h1, h2⟩
set_option maxRecDepth 100000 in
set_option maxHeartbeats 1000000 in
theorem rLarge_any {v : MV} {w : World} (h : VAt w v) (hs : SzV v) : Calls Tryd.prog 6 #[v.val] w fun e w' => PF (LgP v w) e w' := by
  obtain ⟨W1, hW1⟩ : ∃ W1, W1 = w.alloc (.cells #[.int .i64 v.k, .int .i64 v.n, .string v.s, .slice v.lA v.l.length v.lc, .slice v.mA v.m.length v.mc] 25) := ⟨_, rfl⟩
  have hb1 : Below w.heap.size w W1 := by rw [hW1]; exact below_new _ _
  have hc := rlarge_any (h.bel hb1) 0 W1 (Below.refl _ _) hs (by omega)
  unfold MV.val at hc ⊢
  have HC := Lib.hid hc
  have HW1 := Lib.hid hW1
  have HB1 := Lib.hid hb1
  clear h hs hc hW1 hb1
  go_enter Tryd.func6, Tryd.ntmps6
  go_wp2_with fail
  rw [← HW1.out]
  refine HC.out.mono ?_
  rintro e w2 ⟨r, rfl, h1, h2, hb2, h3⟩
  have HB2 : Hid (Below w.heap.size w w2) := Lib.hid (HB1.out.trans (hb2.mono HB1.out.size))
  have H3 := Lib.hid h3
  clear hb2 h3
  by_cases h6 : 6000 < r
  · have q1 : decide ((6000 : Int) < (r : Int)) = true := by rw [decide_eq_true_iff]; omega
    have q1' : decide (6000 < r) = true := by rw [decide_eq_true_iff]; omega
    have hr2 : (r : Int) ≤ 22000000000000000 := by omega
    clear h6
    go_wp2
    go_ret
    exact LgP.mk HB2.out (fun e => by cases e)
  · have q1 : decide ((6000 : Int) < (r : Int)) = false := by rw [decide_eq_false_iff_not]; omega
    have q1' : decide (6000 < r) = false := by rw [decide_eq_false_iff_not]; omega
    have HR := Lib.hid (H3.out (by omega))
    have HR6 : Hid (r ≤ 6000) := Lib.hid (by omega)
    clear h6
    go_wp2
    go_ret
    exact LgP.mk HB2.out (fun _ => ⟨by rw [← HR.out.1]; exact HR6.out, by have := HR.out.2.1; omega, HR.out.2.2⟩)

def idxG {α : Type} (p : α → Bool) (l : List α) : Int := if l.findIdx p < l.length then (l.findIdx p : Int) else -1
theorem idxG_hit {α : Type} (p : α → Bool) (l : List α) (k : Nat) (hk : k < l.length) (h : p l[k] = true) (hb : ∀ j (hj : j < l.length), j < k → p l[j] = false) : idxG p l = k := by
  have : l.findIdx p = k := (List.findIdx_eq hk).2 ⟨h, fun j hj => hb j (by omega) hj⟩
  unfold idxG
  rw [this, if_pos hk]
theorem idxG_miss {α : Type} (p : α → Bool) (l : List α) (hb : ∀ j (hj : j < l.length), p l[j] = false) : idxG p l = -1 := by
  unfold idxG
  rw [if_neg]
  intro h
  have := List.findIdx_getElem (w := h)
  rw [hb _ h] at this
  cases this
/-- either none, or the first one -/
theorem idxG_split {α : Type} (p : α → Bool) (l : List α) : (idxG p l = -1 ∧ ∀ j (hj : j < l.length), p l[j] = false) ∨ ∃ k, ∃ hk : k < l.length, idxG p l = k ∧ p l[k] = true ∧ ∀ j (hj : j < l.length), j < k → p l[j] = false := by
  by_cases h : l.findIdx p < l.length
  · refine .inr ⟨l.findIdx p, h, by unfold idxG; rw [if_pos h], List.findIdx_getElem (w := h), fun j hj hlt => ?_⟩
    have := List.not_of_lt_findIdx hlt
    simpa using this
  · refine .inl ⟨by unfold idxG; rw [if_neg h], fun j hj => ?_⟩
    have := List.not_of_lt_findIdx (p := p) (xs := l) (i := j) (by omega)
    simpa using this
/-- what a function value at one pair is asked: it answers p, and leaves what was there -/
def PredM (g : Nat) (lb : Array Value) (w : World) (fs : List MV) (p : MV → Bool) : Prop :=
  ∀ (k : Nat) (hk : k < fs.length) (W : World), Below w.heap.size w W → Calls Tryd.prog g (#[.agg #[.string fs[k].key, .int .i64 fs[k].k, .int .i64 fs[k].n, .string fs[k].s, .slice fs[k].lA fs[k].l.length fs[k].lc, .slice fs[k].mA fs[k].m.length fs[k].mc]] ++ lb) W fun e w' => e = .returned (.bool (p fs[k])) ∧ Below W.heap.size W w'
set_option maxRecDepth 100000 in
set_option maxHeartbeats 2000000 in
theorem indexPair_any (g : Nat) (lb : Array Value) (eg : ∀ args w, (callFunc g args).run Tryd.prog w = .ok (.enter g args) w) (v : MV) (A : Option Addr) (n c : Nat) (fs : List MV) (w : World) (p : MV → Bool)
    (hv : VAt w v) (hA : v.mA = A) (hfs : v.m = fs) (hn : fs.length = n) (hbig : n ≤ 9223372036854775807) (hp : PredM g lb w fs p) :
    Calls Tryd.prog 45 #[.slice A n c, .func (.func g) #[] lb] w fun e w' => e = .returned (.int .i64 (idxG p fs)) ∧ Below w.heap.size w w' := by
  have HN := Lib.hid hn
  have HV := Lib.hid hv
  have HA := Lib.hid hA
  have HFS := Lib.hid hfs
  have HPP := Lib.hid hp
  clear hn hv hA hp hfs
  obtain ⟨r, hr⟩ : ∃ r, r = idxG p fs := ⟨_, rfl⟩
  rw [← hr]
  have HR := Lib.hid hr
  clear hr
  go_enter Tryd.func45, Tryd.ntmps45
  go_wp2
  go_loopw [5, 8] (fun _ i wr => ∃ k : Nat, k ≤ n ∧ i = .int .i64 k ∧ Hid (∀ j (hj : j < fs.length), j < k → p fs[j] = false) ∧ Hid (Below w.heap.size w wr)) (fun _ i _ => n - (intOf i).toNat)
  case atStart => exact ⟨0, Nat.zero_le _, rfl, Lib.hid (fun j hj h => by omega), Lib.hid (Below.refl _ _)⟩
  case round =>
    obtain ⟨k, hk, rfl, HB, HW⟩ := hrel
    rcases (by omega : k < n ∨ k = n) with hlt | heq
    · have q0 : decide ((k : Int) < (n : Int)) = true := by rw [decide_eq_true_iff]; omega
      have q0' : decide (k < n) = true := by rw [decide_eq_true_iff]; omega
      have hkl : k < fs.length := by rw [HN.out]; exact hlt
      obtain ⟨b, o, hA0, hbl, hc0⟩ := (HV.out.bel HW.out).ma (i := k) (by rw [HFS.out]; exact hkl)
      rw [HA.out] at hA0
      subst hA0
      have hcall := HPP.out k hkl wr HW.out
      obtain ⟨x, hx⟩ : ∃ x, x = fs[k] := ⟨_, rfl⟩
      have hxx : v.m[k]'(by rw [HFS.out]; exact hkl) = x := by
        rw [hx]
        have := HFS.out
        subst this
        rfl
      rw [hxx] at hc0
      rw [← hx] at hcall
      have d0 : wr.cell? ⟨b, o + k * 6, none⟩ = some (.string x.key) := hc0 0 (by omega)
      have d1 : wr.cell? ⟨b, o + k * 6 + 1, none⟩ = some (.int .i64 x.k) := hc0 1 (by omega)
      have d2 : wr.cell? ⟨b, o + k * 6 + 2, none⟩ = some (.int .i64 x.n) := hc0 2 (by omega)
      have d3 : wr.cell? ⟨b, o + k * 6 + 3, none⟩ = some (.string x.s) := hc0 3 (by omega)
      have d4 : wr.cell? ⟨b, o + k * 6 + 4, none⟩ = some (.slice x.lA x.l.length x.lc) := hc0 4 (by omega)
      have d5 : wr.cell? ⟨b, o + k * 6 + 5, none⟩ = some (.slice x.mA x.m.length x.mc) := hc0 5 (by omega)
      have HX := Lib.hid hx
      have hki : (k : Int) < (n : Int) := by omega
      have hk0 : (0 : Int) ≤ (k : Int) := by omega
      clear hx hxx hc0 hbl
      cases hq : p x with
      | true =>
        rw [hq] at hcall
        have HQ := Lib.hid hq
        have HCC := Lib.hid hcall
        clear hq hcall
        have HI : Hid (r = (k : Int)) := by show _ = _; rw [HR.out]; exact idxG_hit p fs k hkl (by rw [← HX.out]; exact HQ.out) (fun j hj h => HB.out j hj h)
        go_wp2_with (go_at_fn g; refine HCC.out.mono ?_; rintro e w' ⟨rfl, hb'⟩; have HB9 := Lib.hid (HW.out.trans (hb'.mono HW.out.size)); clear hb')
        go_ret
        exact ⟨by rw [HI.out]; rfl, HB9.out⟩
      | false =>
        rw [hq] at hcall
        have HQ := Lib.hid hq
        have HCC := Lib.hid hcall
        clear hq hcall
        go_wp2_with (go_at_fn g; refine HCC.out.mono ?_; rintro e w' ⟨rfl, hb'⟩; have HB9 := Lib.hid (HW.out.trans (hb'.mono HW.out.size)); clear hb')
        go_roundw
        case rel => exact ⟨k + 1, by omega, by go_num, Lib.hid (fun j hj h => by
          rcases (by omega : j < k ∨ j = k) with h1 | h1
          · exact HB.out j hj h1
          · subst h1; rw [← HX.out]; exact HQ.out), HB9⟩
        case measure => simp [intOf]; omega
    · have q0 : decide ((k : Int) < (n : Int)) = false := by rw [decide_eq_false_iff_not]; omega
      have q0' : decide (k < n) = false := by rw [decide_eq_false_iff_not]; omega
      have HI : Hid (r = -1) := by show _ = _; rw [HR.out]; exact idxG_miss p fs (fun j hj => HB.out j hj (by rw [HN.out] at hj; omega))
      clear heq
      go_wp2
      go_ret
      exact ⟨by rw [HI.out]; rfl, HW.out⟩
set_option maxHeartbeats 2000000 in
theorem vat1_any (x : MV) (key : ByteArray) (g : Nat) (w : World) (h : w.cell? ⟨g, 0, none⟩ = some (.string key)) (hg : g < w.heap.size) :
    Calls Tryd.prog 46 #[.agg #[.string x.key, .int .i64 x.k, .int .i64 x.n, .string x.s, .slice x.lA x.l.length x.lc, .slice x.mA x.m.length x.mc], .pointer (some ⟨g, 0, none⟩)] w fun e w' => e = .returned (.bool (decide (x.key = key))) ∧ Below w.heap.size w w' := by
  have hq := nm_beq x.key key
  have h1 : (w.alloc (.cells #[.string x.key, .int .i64 x.k, .int .i64 x.n, .string x.s, .slice x.lA x.l.length x.lc, .slice x.mA x.m.length x.mc] 33)).cell? ⟨g, 0, none⟩ = some (.string key) := (World.cell?_alloc_lt _ _ _ hg).trans h
  by_cases he : x.key = key
  · rw [decide_eq_true he] at hq ⊢
    clear he h
    go_enter Tryd.func46, Tryd.ntmps46
    go_wp2
    go_ret
    exact ⟨rfl, (Below.refl _ _).alloc (Nat.le_refl _) _⟩
  · rw [decide_eq_false he] at hq ⊢
    clear he h
    go_enter Tryd.func46, Tryd.ntmps46
    go_wp2
    go_ret
    exact ⟨rfl, (Below.refl _ _).alloc (Nat.le_refl _) _⟩
/-- the place of a key -/
def atV (v : MV) (key : ByteArray) : Int := if v.k = 6 then idxG (fun x : MV => decide (x.key = key)) v.m else -1
set_option maxRecDepth 100000 in
set_option maxHeartbeats 1000000 in
theorem vat_any {v : MV} {w : World} (h : VAt w v) (key : ByteArray) : Calls Tryd.prog 36 #[v.val, .string key] w fun e w' => PF (IntP (atV v key) w) e w' := by
  obtain ⟨W2, hW2⟩ : ∃ W2, W2 = ((w.alloc (.cells #[.int .i64 v.k, .int .i64 v.n, .string v.s, .slice v.lA v.l.length v.lc, .slice v.mA v.m.length v.mc] 25)).alloc (.cells #[.string key] 9)) := ⟨_, rfl⟩
  have hb2 : Below w.heap.size w W2 := by rw [hW2]; exact below_al _ (below_new _ _)
  have hk2 : Blk W2 (w.heap.size + 1) 9 #[.string key] := by
    rw [hW2]
    have h2 := Blk.new (w.alloc (.cells #[.int .i64 v.k, .int .i64 v.n, .string v.s, .slice v.lA v.l.length v.lc, .slice v.mA v.m.length v.mc] 25)) 9 #[.string key]
    simpa using h2
  have hcap := h.caps
  obtain ⟨r, hr⟩ : ∃ r, r = atV v key := ⟨_, rfl⟩
  rw [← hr]
  have HR := Lib.hid hr
  have hix := indexPair_any 46 #[.pointer (some ⟨w.heap.size + 1, 0, none⟩)] (fun _ _ => by kernel_rfl) v v.mA v.m.length v.mc v.m W2 (fun x : MV => decide (x.key = key)) (h.bel hb2) rfl rfl rfl (by unfold maxLen at hcap; omega) (fun k hk V hV => vat1_any v.m[k] key (w.heap.size + 1) V ((hk2.below hV hk2.lt).cell 0) (Nat.lt_of_lt_of_le hk2.lt hV.size))
  have HIX := Lib.hid hix
  have HB2 := Lib.hid hb2
  have HW2 := Lib.hid hW2
  unfold MV.val
  clear h hb2 hk2 hcap hr hix hW2
  by_cases hk : v.k = 6
  · have HE : Hid (idxG (fun x : MV => decide (x.key = key)) v.m = r) := Lib.hid (by rw [HR.out, atV, if_pos hk])
    have q1 : (v.k == 6) = true := by rw [hk]; rfl
    have q2 : (v.k != 6) = false := by rw [hk]; rfl
    clear hk
    go_enter Tryd.func36, Tryd.ntmps36
    go_wp2_with fail
    rw [← HW2.out]
    refine HIX.out.mono ?_
    rintro e w3 ⟨rfl, hb3⟩
    have HB3 : Hid (Below w.heap.size w w3) := Lib.hid (HB2.out.trans (hb3.mono HB2.out.size))
    rw [HE.out]
    clear hb3
    go_wp2
    go_ret
    exact ⟨rfl, HB3.out⟩
  · have HE : Hid (r = -1) := Lib.hid (by rw [HR.out, atV, if_neg hk])
    have q1 : (v.k == 6) = false := by rw [beq_eq_false_iff_ne]; exact hk
    have q2 : (v.k != 6) = true := by rw [bne_iff_ne]; exact hk
    clear hk
    go_enter Tryd.func36, Tryd.ntmps36
    go_wp2
    go_ret
    exact ⟨by rw [HE.out]; rfl, by rw [← HW2.out]; exact HB2.out⟩
/-- what Get answers -/
def GetP (v : MV) (key : ByteArray) (w : World) (e : Ending) (w' : World) : Prop :=
  ∃ (v' : MV) (b : Bool), e = .returned (.tuple #[v'.val, .bool b]) ∧ VOwn w.heap.size w' v' ∧ Below w.heap.size w w' ∧ ((b = false ∧ atV v key = -1 ∧ v'.pv = PV.none_) ∨ (b = true ∧ ∃ i, ∃ h : i < v.m.length, atV v key = i ∧ v'.pv = v.m[i].pv))
theorem atV_split (v : MV) (key : ByteArray) : atV v key = -1 ∨ ∃ i, ∃ h : i < v.m.length, v.k = 6 ∧ atV v key = i ∧ v.m[i].key = key ∧ ∀ j (hj : j < v.m.length), j < i → v.m[j].key ≠ key := by
  unfold atV
  by_cases hk : v.k = 6
  · rw [if_pos hk]
    rcases idxG_split (fun x : MV => decide (x.key = key)) v.m with ⟨h, _⟩ | ⟨i, hi, h1, h2, h3⟩
    · exact .inl h
    · exact .inr ⟨i, hi, hk, h1, of_decide_eq_true h2, fun j hj hlt => of_decide_eq_false (h3 j hj hlt)⟩
  · rw [if_neg hk]; exact .inl rfl
set_option maxRecDepth 100000 in
set_option maxHeartbeats 1000000 in
theorem get_any {v : MV} {w : World} (h : VAt w v) (hfit : FitV v) (key : ByteArray) : Calls Tryd.prog 27 #[v.val, .string key] w fun e w' => PF (GetP v key w) e w' := by
  obtain ⟨W2, hW2⟩ : ∃ W2, W2 = ((w.alloc (.cells #[.int .i64 v.k, .int .i64 v.n, .string v.s, .slice v.lA v.l.length v.lc, .slice v.mA v.m.length v.mc] 25)).alloc (.cells #[.int .i64 0, .int .i64 0, .string ⟨#[]⟩, .slice none 0 0, .slice none 0 0] 25)) := ⟨_, rfl⟩
  have hb2 : Below w.heap.size w W2 := by rw [hW2]; exact below_al _ (below_new _ _)
  have hkx : Blk W2 w.heap.size 25 #[.int .i64 v.k, .int .i64 v.n, .string v.s, .slice v.lA v.l.length v.lc, .slice v.mA v.m.length v.mc] := by rw [hW2]; exact (Blk.new _ _ _).alloc _
  have hky : Blk W2 (w.heap.size + 1) 25 #[.int .i64 0, .int .i64 0, .string ⟨#[]⟩, .slice none 0 0, .slice none 0 0] := by
    rw [hW2]
    have h2 := Blk.new (w.alloc (.cells #[.int .i64 v.k, .int .i64 v.n, .string v.s, .slice v.lA v.l.length v.lc, .slice v.mA v.m.length v.mc] 25)) 25 #[.int .i64 0, .int .i64 0, .string ⟨#[]⟩, .slice none 0 0, .slice none 0 0]
    simpa using h2
  have hat := vat_any (h.bel hb2) key
  have hcap := h.caps
  have HV := Lib.hid (h.bel hb2)
  have HFI := Lib.hid hfit
  unfold MV.val at hat ⊢
  have HAT := Lib.hid hat
  have HB2 := Lib.hid hb2
  have HW2 := Lib.hid hW2
  have HKX := Lib.hid hkx
  have HKY := Lib.hid hky
  have hmx : (v.m.length : Int) ≤ 9223372036854775807 := by unfold maxLen at hcap; omega
  clear h hfit hat hb2 hW2 hkx hky hcap
  go_enter Tryd.func27, Tryd.ntmps27
  go_wp2_with fail
  rw [← HW2.out]
  refine HAT.out.mono ?_
  rintro e w3 ⟨rfl, hb3⟩
  have HB3 : Hid (Below w.heap.size w w3) := Lib.hid (HB2.out.trans (hb3.mono HB2.out.size))
  have HX3 := Lib.hid (HKX.out.below hb3 HKX.out.lt)
  have HY3 := Lib.hid (HKY.out.below hb3 HKY.out.lt)
  have HV3 := Lib.hid (HV.out.bel hb3)
  clear hb3
  rcases atV_split v key with hno | ⟨i, hi, hk6, hiv, hik, _⟩
  · have HNO := Lib.hid hno
    have HF := Lib.hid (own_stored (w := w) (v' := MV.none_) HY3.out (Nat.le_succ _) HY3.out.lt (VOwn.none_ _ _) HB3.out HB3.out.size rfl)
    unfold MV.none_ at HF
    unfold MV.val at HF
    simp only [MV.k, MV.n, MV.s, MV.lA, MV.lc, MV.l, MV.mA, MV.mc, MV.m, List.length_nil] at HF
    obtain ⟨t0, t1, t2, t3, t4⟩ := five_cells HY3.out
    obtain ⟨z0, z1, z2, z3, z4⟩ := five_fr HY3.out
    rw [hno]
    clear hno
    go_wp2
    obtain ⟨k0, k1, k2, k3, k4⟩ := five_cells HF.out.1
    refine bodyPost_ret (v := .tuple #[MV.none_.val, .bool false]) (by simp [results, Tryd.results27, go_sem, k0, k1, k2, k3, k4, MV.val, MV.none_, MV.k, MV.n, MV.s, MV.lA, MV.lc, MV.l, MV.mA, MV.mc, MV.m]) rfl ?_
    obtain ⟨v9, _, _, _, h4⟩ := HF.out.2
    exact ⟨MV.none_, false, rfl, VOwn.none_ _ _, h4, .inl ⟨rfl, HNO.out, rfl⟩⟩
  · obtain ⟨b, o, hA, hbl, hc⟩ := HV3.out.ma hi
    obtain ⟨x, hx⟩ : ∃ x, x = v.m[i] := ⟨_, rfl⟩
    rw [← hx] at hc
    have hxm : x ∈ v.m := by rw [hx]; exact List.getElem_mem hi
    have d1 : w3.cell? ⟨b, o + i * 6 + 1, none⟩ = some (.int .i64 x.k) := hc 1 (by omega)
    have d2 : w3.cell? ⟨b, o + i * 6 + 1 + 1, none⟩ = some (.int .i64 x.n) := hc 2 (by omega)
    have d3 : w3.cell? ⟨b, o + i * 6 + 1 + 2, none⟩ = some (.string x.s) := hc 3 (by omega)
    have d4 : w3.cell? ⟨b, o + i * 6 + 1 + 3, none⟩ = some (.slice x.lA x.l.length x.lc) := hc 4 (by omega)
    have d5 : w3.cell? ⟨b, o + i * 6 + 1 + 4, none⟩ = some (.slice x.mA x.m.length x.mc) := hc 5 (by omega)
    have hcall := clone_any (HV3.out.m x hxm) w3 (Below.refl _ _) (by
      have := HFI.out
      cases hfv : v with
      | mk a b c d e f g h i j => rw [hfv] at this hxm; cases this with | mk _ _ h3 => exact h3 x hxm)
    unfold MV.val at hcall
    have HCL := Lib.hid hcall
    obtain ⟨x0, x1, x2, x3, x4⟩ := five_cells HX3.out
    rw [hA] at x4
    have HIV := Lib.hid hiv
    have HXX := Lib.hid hx
    have hii : (i : Int) < (v.m.length : Int) := by omega
    have hi0 : (0 : Int) ≤ (i : Int) := by omega
    have HII := Lib.hid hi
    rw [hiv]
    clear hc hx hxm hcall hiv hk6 hik hA hbl
    go_wp2_with fail
    refine HCL.out.mono ?_
    rintro e w4 ⟨v', rfl, hpv, hvo, hb4⟩
    have hy := HY3.out.below hb4 HY3.out.lt
    have HB4 : Hid (Below w.heap.size w w4) := Lib.hid (HB3.out.trans (hb4.mono HB3.out.size))
    have HF := Lib.hid (own_stored hy (Nat.le_succ _) HY3.out.lt hvo HB4.out HB3.out.size hpv)
    obtain ⟨t0, t1, t2, t3, t4⟩ := five_cells hy
    obtain ⟨z0, z1, z2, z3, z4⟩ := five_fr hy
    unfold MV.val
    clear hpv hvo hb4 hy d1 d2 d3 d4 d5 x0 x1 x2 x3 x4
    go_wp2
    obtain ⟨k0, k1, k2, k3, k4⟩ := five_cells HF.out.1
    refine bodyPost_ret (v := .tuple #[v'.val, .bool true]) (by simp [results, Tryd.results27, go_sem, k0, k1, k2, k3, k4, MV.val]) rfl ?_
    obtain ⟨v9, h1, h2, h3, h4⟩ := HF.out.2
    have h19 : v'.val = v9.val := by injection h1
    exact ⟨v9, true, by rw [h19], h3, h4, .inr ⟨rfl, i, HII.out, HIV.out, by rw [h2, HXX.out]⟩⟩
end Go.Proofs.YteodigdcdhceiaaDoor
