/-
 value: Null, Bool, Int, Text, List, Map; the document's Large; at, Get.
 slices.DeleteFunc at pairs; value.Without.
 value.Without, value.With.
-/
import Derived.Test.YtefkpphahimkgaaGreatDoorTk
import Derived.Test.YtefkpphahimkgaaGreatDoorGR
import Derived.Deep.RegionHeld3
import Derived.Laws.CopyRow
namespace Go.Proofs.YtefkpphahimkgaaGreatDoor
open Go.RowKit
attribute [local go_sem ↓] Go.wp_at_zero Go.wp_at_succ
set_option linter.unusedVariables false
set_option linter.unusedSimpArgs false
def MV.one (k n : Int) (s : ByteArray) : MV := .mk ⟨#[]⟩ k n s none 0 [] none 0 []
def PV.one (k n : Int) (s : ByteArray) : PV := .mk k n s [] [] []
theorem VOwn.one (base : Nat) (w : World) {k n : Int} (s : ByteArray) (hk : (Lit.int .i64 k).wf = true) (hn : (Lit.int .i64 n).wf = true) : VOwn base w (.one k n s) :=
 ⟨.mk hk hn Reads.none_ (Nat.le_refl _) (by simp [maxLen]) Reads.none_ (Nat.le_refl _) (by simp [maxLen]) (fun x hx => by cases hx) (fun x hx => by cases hx), .mk (fun h => absurd rfl h) (fun h => absurd rfl h) (fun x hx => by cases hx) (fun x hx => by cases hx), ROwn.nil _ _, ROwn.nil _ _, (fun x hx => by cases hx), (fun x hx => by cases hx)⟩
theorem own_stored {w w3 w4 : World} {g : Nat} {v' : MV} {p : PV} {z0 z1 z2 z3 z4 : Value} (hy : Blk w4 g 30 #[z0, z1, z2, z3, z4]) (hg : w.heap.size ≤ g) (hlt : g < w3.heap.size) (hvo : VOwn w3.heap.size w4 v') (hb : Below w.heap.size w w4) (hb3 : w.heap.size ≤ w3.heap.size) (hp : v'.pv = p) :
  Blk (((((w4.setCell ⟨g, 0, none⟩ (.int .i64 v'.k)).setCell ⟨g, 1, none⟩ (.int .i64 v'.n)).setCell ⟨g, 2, none⟩ (.string v'.s)).setCell ⟨g, 3, none⟩ (.slice v'.lA v'.l.length v'.lc)).setCell ⟨g, 4, none⟩ (.slice v'.mA v'.m.length v'.mc)) g 30 #[.int .i64 v'.k, .int .i64 v'.n, .string v'.s, .slice v'.lA v'.l.length v'.lc, .slice v'.mA v'.m.length v'.mc] ∧
  OwP p w (.returned v'.val) (((((w4.setCell ⟨g, 0, none⟩ (.int .i64 v'.k)).setCell ⟨g, 1, none⟩ (.int .i64 v'.n)).setCell ⟨g, 2, none⟩ (.string v'.s)).setCell ⟨g, 3, none⟩ (.slice v'.lA v'.l.length v'.lc)).setCell ⟨g, 4, none⟩ (.slice v'.mA v'.m.length v'.mc)) :=
 ⟨blk_five hy, v', rfl, hp, (hvo.fr_low fr_five (fun k e => by rw [show k = g from e]; exact hlt)).base_le hb3, Fr.below_trans hb fr_five hb.size (fun b e => by rw [show b = g from e]; exact hg)⟩
theorem int_any (n : Int) (w : World) (hn : (Lit.int .i64 n).wf = true) : Calls Tryz.prog 64 #[.int .i64 n] w fun e w' => PF (OwP (.one 3 n ⟨#[]⟩) w) e w' := by
 have HN := Ld hn
 clear hn
 go_enter Tryz.func64, Tryz.ntmps64
 go_wp2
 refine bodyPost_ret (v := (MV.one 3 n ⟨#[]⟩).val) (by simp [results, Tryz.results64, go_sem, MV.val, MV.one, MV.k, MV.n, MV.s, MV.lA, MV.lc, MV.l, MV.mA, MV.mc, MV.m]) rfl ?_
 exact ⟨_, rfl, rfl, VOwn.one _ _ _ rfl HN.out, below_new _ _⟩
theorem text_any (s : ByteArray) (w : World) : Calls Tryz.prog 65 #[.string s] w fun e w' => PF (OwP (.one 4 0 s) w) e w' := by
 go_enter Tryz.func65, Tryz.ntmps65
 go_wp2
 refine bodyPost_ret (v := (MV.one 4 0 s).val) (by simp [results, Tryz.results65, go_sem, MV.val, MV.one, MV.k, MV.n, MV.s, MV.lA, MV.lc, MV.l, MV.mA, MV.mc, MV.m]) rfl ?_
 exact ⟨_, rfl, rfl, VOwn.one _ _ _ rfl rfl, below_new _ _⟩
set_option maxRecDepth 100000 in
set_option maxHeartbeats 1000000 in
theorem map_any {w : World} {key : ByteArray} {A : Option Addr} {c : Nat} {m : List MV} (h : VAt w (.mk key 6 0 ⟨#[]⟩ none 0 [] A c m)) (hf : FitV (.mk key 6 0 ⟨#[]⟩ none 0 [] A c m)) : Calls Tryz.prog 26 #[.slice A m.length c] w fun e w' => PF (OwP (.mk 6 0 ⟨#[]⟩ [] (m.map MV.key) (MV.pvL m)) w) e w' := by
 obtain ⟨W1, hW1⟩ : ∃ W1, W1 = w.alloc (.cells #[.int .i64 0, .int .i64 0, .string ⟨#[]⟩, .slice none 0 0, .slice none 0 0] 30) := ⟨_, rfl⟩
 have hb1 : Below w.heap.size w W1 := by rw [hW1]; exact below_new _ _
 have hk1 : Blk W1 w.heap.size 30 #[.int .i64 0, .int .i64 0, .string ⟨#[]⟩, .slice none 0 0, .slice none 0 0] := by rw [hW1]; exact Blk.new _ _ _
 have hc := vclone_any (h.bel hb1) W1 (Below.refl _ _) hf
 unfold MV.val at hc
 simp only [MV.k, MV.n, MV.s, MV.lA, MV.lc, MV.l, MV.mA, MV.mc, MV.m, List.length_nil] at hc
 obtain ⟨nl, hnl⟩ : ∃ nl, nl = m.length := ⟨_, rfl⟩
 rw [← hnl] at hc ⊢
 have HC := Ld hc
 have HW1 := Ld hW1
 have HB1 := Ld hb1
 have HK1 := Ld hk1
 clear h hf hc hW1 hb1 hk1 hnl
 go_enter Tryz.func26, Tryz.ntmps26
 go_wp2_with fail
 rw [← HW1.out]
 refine HC.out.mono ?_
 rintro e w2 ⟨v', rfl, hpv, hvo, hb2⟩
 have hy := HK1.out.below hb2 HK1.out.lt
 have HB2 : Hid (Below w.heap.size w w2) := Ld (HB1.out.trans (hb2.mono HB1.out.size))
 have HF := Ld (own_stored hy (Nat.le_refl _) HK1.out.lt hvo HB2.out HB1.out.size (hpv.trans (by rw [MV.pv])))
 obtain ⟨t0, t1, t2, t3, t4⟩ := five_cells hy
 obtain ⟨z0, z1, z2, z3, z4⟩ := five_fr hy
 unfold MV.val
 clear hpv hvo hb2 hy
 go_wp2
 obtain ⟨k0, k1, k2, k3, k4⟩ := five_cells HF.out.1
 refine bodyPost_ret (v := v'.val) (by simp [results, Tryz.results26, go_sem, k0, k1, k2, k3, k4, MV.val]) rfl ?_
 exact HF.out.2
def LgP (v : MV) (w : World) (e : Ending) (w' : World) : Prop := ∃ b : Bool, e = .returned (.bool b) ∧ Below w.heap.size w w' ∧ (b = false → v.wt ≤ 6000 ∧ v.dep ≤ 21 ∧ FitV v)
theorem LgP.mk {v : MV} {w w' : World} {b : Bool} (h1 : Below w.heap.size w w') (h2 : b = false → v.wt ≤ 6000 ∧ v.dep ≤ 21 ∧ FitV v) : LgP v w (.returned (.bool b)) w' := ⟨b, rfl, h1, h2⟩
def idxG {α : Type} (p : α → Bool) (l : List α) : Int := if l.findIdx p < l.length then (l.findIdx p : Int) else -1
theorem idxG_hit {α : Type} (p : α → Bool) (l : List α) (k : Nat) (hk : k < l.length) (h : p l[k] = true) (hb : ∀ j (hj : j < l.length), j < k → p l[j] = false) : idxG p l = k := by
 have : l.findIdx p = k := (List.findIdx_eq hk).2 ⟨h, fun j hj => hb j (by omega) hj⟩
 unfold idxG
 rw [this, if_pos hk]
theorem idxG_miss {α : Type} (p : α → Bool) (l : List α) (hb : ∀ j (hj : j < l.length), p l[j] = false) : idxG p l = -1 := by
 unfold idxG
 rw [if_neg]
 intro h
 have := List.findIdx_getElem (w := h)
 rw [hb _ h] at this
 cases this
theorem idxG_split {α : Type} (p : α → Bool) (l : List α) : (idxG p l = -1 ∧ ∀ j (hj : j < l.length), p l[j] = false) ∨ ∃ k, ∃ hk : k < l.length, idxG p l = k ∧ p l[k] = true ∧ ∀ j (hj : j < l.length), j < k → p l[j] = false := by
 by_cases h : l.findIdx p < l.length
 ·refine .inr ⟨l.findIdx p, h, by unfold idxG; rw [if_pos h], List.findIdx_getElem (w := h), fun j hj hlt => ?_⟩
  have := List.not_of_lt_findIdx hlt
  simpa using this
 ·refine .inl ⟨by unfold idxG; rw [if_neg h], fun j hj => ?_⟩
  have := List.not_of_lt_findIdx (p := p) (xs := l) (i := j) (by omega)
  simpa using this
def PredM (g : Nat) (lb : Array Value) (w : World) (fs : List MV) (p : MV → Bool) : Prop :=
 ∀ (k : Nat) (hk : k < fs.length) (W : World), Below w.heap.size w W → Calls Tryz.prog g (#[.agg #[.string fs[k].key, .int .i64 fs[k].k, .int .i64 fs[k].n, .string fs[k].s, .slice fs[k].lA fs[k].l.length fs[k].lc, .slice fs[k].mA fs[k].m.length fs[k].mc]] ++ lb) W fun e w' => e = .returned (.bool (p fs[k])) ∧ Below W.heap.size W w'
set_option maxRecDepth 100000 in
set_option maxHeartbeats 2000000 in
theorem indexPair_any (g : Nat) (lb : Array Value) (eg : ∀ args w, (callFunc g args).run Tryz.prog w = .ok (.enter g args) w) (v : MV) (A : Option Addr) (n c : Nat) (fs : List MV) (w : World) (p : MV → Bool)
  (hv : VAt w v) (hA : v.mA = A) (hfs : v.m = fs) (hn : fs.length = n) (hbig : n ≤ 9223372036854775807) (hp : PredM g lb w fs p) :
  Calls Tryz.prog 104 #[.slice A n c, .func (.func g) #[] lb] w fun e w' => e = .returned (.int .i64 (idxG p fs)) ∧ Below w.heap.size w w' := by
 have HN := Ld hn
 have HV := Ld hv
 have HA := Ld hA
 have HFS := Ld hfs
 have HPP := Ld hp
 clear hn hv hA hp hfs
 obtain ⟨r, hr⟩ : ∃ r, r = idxG p fs := ⟨_, rfl⟩
 rw [← hr]
 have HR := Ld hr
 clear hr
 go_enter Tryz.func104, Tryz.ntmps104
 go_wp2
 go_loopw [5, 8] (fun _ i wr => ∃ k : Nat, k ≤ n ∧ i = .int .i64 k ∧ Hid (∀ j (hj : j < fs.length), j < k → p fs[j] = false) ∧ Hid (Below w.heap.size w wr)) (fun _ i _ => n - (intOf i).toNat)
 case atStart => exact ⟨0, Nat.zero_le _, rfl, Ld (fun j hj h => by omega), Ld (Below.refl _ _)⟩
 case round =>
  obtain ⟨k, hk, rfl, HB, HW⟩ := hrel
  rcases (by omega : k < n ∨ k = n) with hlt | heq
  ·have q0 : decide ((k : Int) < (n : Int)) = true := by rw [decide_eq_true_iff]; omega
   have q0' : decide (k < n) = true := by rw [decide_eq_true_iff]; omega
   have hkl : k < fs.length := by rw [HN.out]; exact hlt
   obtain ⟨b, o, hA0, hbl, hc0⟩ := (HV.out.bel HW.out).ma (i := k) (by rw [HFS.out]; exact hkl)
   rw [HA.out] at hA0
   subst hA0
   have hcall := HPP.out k hkl wr HW.out
   obtain ⟨x, hx⟩ : ∃ x, x = fs[k] := ⟨_, rfl⟩
   have hxx : v.m[k]'(by rw [HFS.out]; exact hkl) = x := by
    rw [hx]
    have := HFS.out
    subst this
    rfl
   rw [hxx] at hc0
   rw [← hx] at hcall
   have d0 : wr.cell? ⟨b, o + k * 6, none⟩ = some (.string x.key) := hc0 0 (by omega)
   have d1 : wr.cell? ⟨b, o + k * 6 + 1, none⟩ = some (.int .i64 x.k) := hc0 1 (by omega)
   have d2 : wr.cell? ⟨b, o + k * 6 + 2, none⟩ = some (.int .i64 x.n) := hc0 2 (by omega)
   have d3 : wr.cell? ⟨b, o + k * 6 + 3, none⟩ = some (.string x.s) := hc0 3 (by omega)
   have d4 : wr.cell? ⟨b, o + k * 6 + 4, none⟩ = some (.slice x.lA x.l.length x.lc) := hc0 4 (by omega)
   have d5 : wr.cell? ⟨b, o + k * 6 + 5, none⟩ = some (.slice x.mA x.m.length x.mc) := hc0 5 (by omega)
   have HX := Ld hx
   have hki : (k : Int) < (n : Int) := by omega
   have hk0 : (0 : Int) ≤ (k : Int) := by omega
   clear hx hxx hc0 hbl
   cases hq : p x with
   | true =>
    rw [hq] at hcall
    have HQ := Ld hq
    have HCC := Ld hcall
    clear hq hcall
    have HI : Hid (r = (k : Int)) := by show _ = _; rw [HR.out]; exact idxG_hit p fs k hkl (by rw [← HX.out]; exact HQ.out) (fun j hj h => HB.out j hj h)
    go_wp2_with (go_at_fn g; refine HCC.out.mono ?_; rintro e w' ⟨rfl, hb'⟩; have HB9 := Ld (HW.out.trans (hb'.mono HW.out.size)); clear hb')
    go_ret
    exact ⟨by rw [HI.out]; rfl, HB9.out⟩
   | false =>
    rw [hq] at hcall
    have HQ := Ld hq
    have HCC := Ld hcall
    clear hq hcall
    go_wp2_with (go_at_fn g; refine HCC.out.mono ?_; rintro e w' ⟨rfl, hb'⟩; have HB9 := Ld (HW.out.trans (hb'.mono HW.out.size)); clear hb')
    go_roundw
    case rel => exact ⟨k + 1, by omega, by go_num, Ld (fun j hj h => by
     rcases (by omega : j < k ∨ j = k) with h1 | h1
     ·exact HB.out j hj h1
     ·subst h1; rw [← HX.out]; exact HQ.out), HB9⟩
    case measure => simp [intOf]; omega
  ·have q0 : decide ((k : Int) < (n : Int)) = false := by rw [decide_eq_false_iff_not]; omega
   have q0' : decide (k < n) = false := by rw [decide_eq_false_iff_not]; omega
   have HI : Hid (r = -1) := by show _ = _; rw [HR.out]; exact idxG_miss p fs (fun j hj => HB.out j hj (by rw [HN.out] at hj; omega))
   clear heq
   go_wp2
   go_ret
   exact ⟨by rw [HI.out]; rfl, HW.out⟩
set_option maxHeartbeats 2000000 in
theorem vat1_any (x : MV) (key : ByteArray) (g : Nat) (w : World) (h : w.cell? ⟨g, 0, none⟩ = some (.string key)) (hg : g < w.heap.size) :
  Calls Tryz.prog 105 #[.agg #[.string x.key, .int .i64 x.k, .int .i64 x.n, .string x.s, .slice x.lA x.l.length x.lc, .slice x.mA x.m.length x.mc], .pointer (some ⟨g, 0, none⟩)] w fun e w' => e = .returned (.bool (decide (x.key = key))) ∧ Below w.heap.size w w' := by
 have hq := nm_beq x.key key
 have h1 : (w.alloc (.cells #[.string x.key, .int .i64 x.k, .int .i64 x.n, .string x.s, .slice x.lA x.l.length x.lc, .slice x.mA x.m.length x.mc] 73)).cell? ⟨g, 0, none⟩ = some (.string key) := (World.cell?_alloc_lt _ _ _ hg).trans h
 by_cases he : x.key = key
 ·rw [decide_eq_true he] at hq ⊢
  clear he h
  go_enter Tryz.func105, Tryz.ntmps105
  go_wp2
  go_ret
  exact ⟨rfl, (Below.refl _ _).alloc (Nat.le_refl _) _⟩
 ·rw [decide_eq_false he] at hq ⊢
  clear he h
  go_enter Tryz.func105, Tryz.ntmps105
  go_wp2
  go_ret
  exact ⟨rfl, (Below.refl _ _).alloc (Nat.le_refl _) _⟩
def atV (v : MV) (key : ByteArray) : Int := if v.k = 6 then idxG (fun x : MV => decide (x.key = key)) v.m else -1
set_option maxRecDepth 100000 in
set_option maxHeartbeats 1000000 in
theorem vat_any {v : MV} {w : World} (h : VAt w v) (key : ByteArray) : Calls Tryz.prog 63 #[v.val, .string key] w fun e w' => PF (IntP (atV v key) w) e w' := by
 obtain ⟨W2, hW2⟩ : ∃ W2, W2 = ((w.alloc (.cells #[.int .i64 v.k, .int .i64 v.n, .string v.s, .slice v.lA v.l.length v.lc, .slice v.mA v.m.length v.mc] 30)).alloc (.cells #[.string key] 9)) := ⟨_, rfl⟩
 have hb2 : Below w.heap.size w W2 := by rw [hW2]; exact below_al _ (below_new _ _)
 have hk2 : Blk W2 (w.heap.size + 1) 9 #[.string key] := by
  rw [hW2]
  have h2 := Blk.new (w.alloc (.cells #[.int .i64 v.k, .int .i64 v.n, .string v.s, .slice v.lA v.l.length v.lc, .slice v.mA v.m.length v.mc] 30)) 9 #[.string key]
  simpa using h2
 have hcap := h.caps
 obtain ⟨r, hr⟩ : ∃ r, r = atV v key := ⟨_, rfl⟩
 rw [← hr]
 have HR := Ld hr
 have hix := indexPair_any 105 #[.pointer (some ⟨w.heap.size + 1, 0, none⟩)] (fun _ _ => by kernel_rfl) v v.mA v.m.length v.mc v.m W2 (fun x : MV => decide (x.key = key)) (h.bel hb2) rfl rfl rfl (by unfold maxLen at hcap; omega) (fun k hk V hV => vat1_any v.m[k] key (w.heap.size + 1) V ((hk2.below hV hk2.lt).cell 0) (Nat.lt_of_lt_of_le hk2.lt hV.size))
 have HIX := Ld hix
 have HB2 := Ld hb2
 have HW2 := Ld hW2
 unfold MV.val
 clear h hb2 hk2 hcap hr hix hW2
 by_cases hk : v.k = 6
 ·have HE : Hid (idxG (fun x : MV => decide (x.key = key)) v.m = r) := Ld (by rw [HR.out, atV, if_pos hk])
  have q1 : (v.k == 6) = true := by rw [hk]; rfl
  have q2 : (v.k != 6) = false := by rw [hk]; rfl
  clear hk
  go_enter Tryz.func63, Tryz.ntmps63
  go_wp2_with fail
  rw [← HW2.out]
  refine HIX.out.mono ?_
  rintro e w3 ⟨rfl, hb3⟩
  have HB3 : Hid (Below w.heap.size w w3) := Ld (HB2.out.trans (hb3.mono HB2.out.size))
  rw [HE.out]
  clear hb3
  go_wp2
  go_ret
  exact ⟨rfl, HB3.out⟩
 ·have HE : Hid (r = -1) := Ld (by rw [HR.out, atV, if_neg hk])
  have q1 : (v.k == 6) = false := by rw [beq_eq_false_iff_ne]; exact hk
  have q2 : (v.k != 6) = true := by rw [bne_iff_ne]; exact hk
  clear hk
  go_enter Tryz.func63, Tryz.ntmps63
  go_wp2
  go_ret
  exact ⟨by rw [HE.out]; rfl, by rw [← HW2.out]; exact HB2.out⟩
def GetP (v : MV) (key : ByteArray) (w : World) (e : Ending) (w' : World) : Prop :=
 ∃ (v' : MV) (b : Bool), e = .returned (.tuple #[v'.val, .bool b]) ∧ VOwn w.heap.size w' v' ∧ Below w.heap.size w w' ∧ ((b = false ∧ atV v key = -1 ∧ v'.pv = PV.none_) ∨ (b = true ∧ ∃ i, ∃ h : i < v.m.length, atV v key = i ∧ v'.pv = v.m[i].pv))
theorem atV_split (v : MV) (key : ByteArray) : atV v key = -1 ∨ ∃ i, ∃ h : i < v.m.length, v.k = 6 ∧ atV v key = i ∧ v.m[i].key = key ∧ ∀ j (hj : j < v.m.length), j < i → v.m[j].key ≠ key := by
 unfold atV
 by_cases hk : v.k = 6
 ·rw [if_pos hk]
  rcases idxG_split (fun x : MV => decide (x.key = key)) v.m with ⟨h, _⟩ | ⟨i, hi, h1, h2, h3⟩
  ·exact .inl h
  ·exact .inr ⟨i, hi, hk, h1, of_decide_eq_true h2, fun j hj hlt => of_decide_eq_false (h3 j hj hlt)⟩
 ·rw [if_neg hk]; exact .inl rfl
set_option maxRecDepth 100000 in
set_option maxHeartbeats 1000000 in
theorem get_any {v : MV} {w : World} (h : VAt w v) (hfit : FitV v) (key : ByteArray) : Calls Tryz.prog 124 #[v.val, .string key] w fun e w' => PF (GetP v key w) e w' := by
 obtain ⟨W2, hW2⟩ : ∃ W2, W2 = ((w.alloc (.cells #[.int .i64 v.k, .int .i64 v.n, .string v.s, .slice v.lA v.l.length v.lc, .slice v.mA v.m.length v.mc] 30)).alloc (.cells #[.int .i64 0, .int .i64 0, .string ⟨#[]⟩, .slice none 0 0, .slice none 0 0] 30)) := ⟨_, rfl⟩
 have hb2 : Below w.heap.size w W2 := by rw [hW2]; exact below_al _ (below_new _ _)
 have hkx : Blk W2 w.heap.size 30 #[.int .i64 v.k, .int .i64 v.n, .string v.s, .slice v.lA v.l.length v.lc, .slice v.mA v.m.length v.mc] := by rw [hW2]; exact (Blk.new _ _ _).alloc _
 have hky : Blk W2 (w.heap.size + 1) 30 #[.int .i64 0, .int .i64 0, .string ⟨#[]⟩, .slice none 0 0, .slice none 0 0] := by
  rw [hW2]
  have h2 := Blk.new (w.alloc (.cells #[.int .i64 v.k, .int .i64 v.n, .string v.s, .slice v.lA v.l.length v.lc, .slice v.mA v.m.length v.mc] 30)) 30 #[.int .i64 0, .int .i64 0, .string ⟨#[]⟩, .slice none 0 0, .slice none 0 0]
  simpa using h2
 have hat := vat_any (h.bel hb2) key
 have hcap := h.caps
 have HV := Ld (h.bel hb2)
 have HFI := Ld hfit
 unfold MV.val at hat ⊢
 have HAT := Ld hat
 have HB2 := Ld hb2
 have HW2 := Ld hW2
 have HKX := Ld hkx
 have HKY := Ld hky
 have hmx : (v.m.length : Int) ≤ 9223372036854775807 := by unfold maxLen at hcap; omega
 clear h hfit hat hb2 hW2 hkx hky hcap
 go_enter Tryz.func124, Tryz.ntmps124
 go_wp2_with fail
 rw [← HW2.out]
 refine HAT.out.mono ?_
 rintro e w3 ⟨rfl, hb3⟩
 have HB3 : Hid (Below w.heap.size w w3) := Ld (HB2.out.trans (hb3.mono HB2.out.size))
 have HX3 := Ld (HKX.out.below hb3 HKX.out.lt)
 have HY3 := Ld (HKY.out.below hb3 HKY.out.lt)
 have HV3 := Ld (HV.out.bel hb3)
 clear hb3
 rcases atV_split v key with hno | ⟨i, hi, hk6, hiv, hik, _⟩
 ·have HNO := Ld hno
  have HF := Ld (own_stored (w := w) (v' := MV.none_) HY3.out (Nat.le_succ _) HY3.out.lt (VOwn.none_ _ _) HB3.out HB3.out.size rfl)
  unfold MV.none_ at HF
  unfold MV.val at HF
  simp only [MV.k, MV.n, MV.s, MV.lA, MV.lc, MV.l, MV.mA, MV.mc, MV.m, List.length_nil] at HF
  obtain ⟨t0, t1, t2, t3, t4⟩ := five_cells HY3.out
  obtain ⟨z0, z1, z2, z3, z4⟩ := five_fr HY3.out
  rw [hno]
  clear hno
  go_wp2
  obtain ⟨k0, k1, k2, k3, k4⟩ := five_cells HF.out.1
  refine bodyPost_ret (v := .tuple #[MV.none_.val, .bool false]) (by simp [results, Tryz.results124, go_sem, k0, k1, k2, k3, k4, MV.val, MV.none_, MV.k, MV.n, MV.s, MV.lA, MV.lc, MV.l, MV.mA, MV.mc, MV.m]) rfl ?_
  obtain ⟨v9, _, _, _, h4⟩ := HF.out.2
  exact ⟨MV.none_, false, rfl, VOwn.none_ _ _, h4, .inl ⟨rfl, HNO.out, rfl⟩⟩
 ·obtain ⟨b, o, hA, hbl, hc⟩ := HV3.out.ma hi
  obtain ⟨x, hx⟩ : ∃ x, x = v.m[i] := ⟨_, rfl⟩
  rw [← hx] at hc
  have hxm : x ∈ v.m := by rw [hx]; exact List.getElem_mem hi
  have d1 : w3.cell? ⟨b, o + i * 6 + 1, none⟩ = some (.int .i64 x.k) := hc 1 (by omega)
  have d2 : w3.cell? ⟨b, o + i * 6 + 1 + 1, none⟩ = some (.int .i64 x.n) := hc 2 (by omega)
  have d3 : w3.cell? ⟨b, o + i * 6 + 1 + 2, none⟩ = some (.string x.s) := hc 3 (by omega)
  have d4 : w3.cell? ⟨b, o + i * 6 + 1 + 3, none⟩ = some (.slice x.lA x.l.length x.lc) := hc 4 (by omega)
  have d5 : w3.cell? ⟨b, o + i * 6 + 1 + 4, none⟩ = some (.slice x.mA x.m.length x.mc) := hc 5 (by omega)
  have hcall := vclone_any (HV3.out.m x hxm) w3 (Below.refl _ _) (by
   have := HFI.out
   cases hfv : v with
   | mk a b c d e f g h i j => rw [hfv] at this hxm; cases this with | mk _ _ h3 => exact h3 x hxm)
  unfold MV.val at hcall
  have HCL := Ld hcall
  obtain ⟨x0, x1, x2, x3, x4⟩ := five_cells HX3.out
  rw [hA] at x4
  have HIV := Ld hiv
  have HXX := Ld hx
  have hii : (i : Int) < (v.m.length : Int) := by omega
  have hi0 : (0 : Int) ≤ (i : Int) := by omega
  have HII := Ld hi
  rw [hiv]
  clear hc hx hxm hcall hiv hk6 hik hA hbl
  go_wp2_with fail
  refine HCL.out.mono ?_
  rintro e w4 ⟨v', rfl, hpv, hvo, hb4⟩
  have hy := HY3.out.below hb4 HY3.out.lt
  have HB4 : Hid (Below w.heap.size w w4) := Ld (HB3.out.trans (hb4.mono HB3.out.size))
  have HF := Ld (own_stored hy (Nat.le_succ _) HY3.out.lt hvo HB4.out HB3.out.size hpv)
  obtain ⟨t0, t1, t2, t3, t4⟩ := five_cells hy
  obtain ⟨z0, z1, z2, z3, z4⟩ := five_fr hy
  unfold MV.val
  clear hpv hvo hb4 hy d1 d2 d3 d4 d5 x0 x1 x2 x3 x4
  go_wp2
  obtain ⟨k0, k1, k2, k3, k4⟩ := five_cells HF.out.1
  refine bodyPost_ret (v := .tuple #[v'.val, .bool true]) (by simp [results, Tryz.results124, go_sem, k0, k1, k2, k3, k4, MV.val]) rfl ?_
  obtain ⟨v9, h1, h2, h3, h4⟩ := HF.out.2
  have h19 : v'.val = v9.val := by injection h1
  exact ⟨v9, true, by rw [h19], h3, h4, .inr ⟨rfl, i, HII.out, HIV.out, by rw [h2, HXX.out]⟩⟩
section
variable {w : World} {g : Nat} {t : TypeId} {cur : Array Value}
end
theorem ROwn.cut {base n c : Nat} {A : Option Addr} {w : World} {l : List MV} (h : ROwn 73 6 MV.pcs base w (.slice A n c) l) (hl : 0 < l.length) : ∃ g cur, A = some ⟨g, 0, none⟩ ∧ n = l.length ∧ base ≤ g ∧ Blk w g 73 cur ∧ l.length ≤ c ∧ c ≤ maxLen ∧ cur.size = c * 6 ∧ cur.toList.take (l.length * 6) = l.flatMap MV.pcs := by
 rcases h.own.2 with ⟨h0, h1⟩ | ⟨g, cap, cur, hv, hg, hh, hn, hm, hs, ht⟩
 ·omega
 ·injection hv with e1 e2 e3
  subst e3
  exact ⟨g, cur, e1, e2, hg, hh, hn, hm, hs, ht⟩
theorem filter_step {α : Type} (l : List α) (p : α → Bool) (j : Nat) (hj : j < l.length) : (l.take (j + 1)).filter p = (l.take j).filter p ++ if p l[j] then [l[j]] else [] := by
 rw [List.take_succ_eq_append_getElem hj, List.filter_append]
 congr 1
 simp only [List.filter_cons, List.filter_nil]
structure DelM (base : Nat) (w wr : World) (g cap n i j : Nat) (p : MV → Bool) (fs gs : List MV) : Prop where
 own : ROwn 73 6 MV.pcs base wr (.slice (some ⟨g, 0, none⟩) n cap) gs
 len : gs.length = n
 lt : i < j
 le : j ≤ n
 drp : gs.drop j = fs.drop j
 tak : gs.take i = (fs.take j).filter (fun f => !p f)
 sub : ∀ x ∈ gs, x ∈ fs
 fr : Fr (· = g) w wr
theorem DelM.put {base g cap n i j : Nat} {w wr w' : World} {p : MV → Bool} {fs gs : List MV} (h : DelM base w wr g cap n i j p fs gs) (hb : Below wr.heap.size wr w') (hfs : fs.length = n) (hj : j < n) (hp : p (fs[j]'(by omega)) = false) :
  ∃ gs', DelM base w (puts w' g (i * 6) (fs[j]'(by omega)).pcs) g cap n (i + 1) (j + 1) p fs gs' := by
 have hi : i < gs.length := by have h1 := h.lt; have h2 := h.len; omega
 have hjg : j < gs.length := by have h2 := h.len; omega
 have hx : gs[j] = fs[j]'(by omega) := by
  have h1 := congrArg (fun l : List MV => l[0]?) h.drp
  simpa [List.getElem?_drop, List.getElem?_eq_getElem hjg, List.getElem?_eq_getElem (show j < fs.length by omega)] using h1
 have hfm : fs[j]'(by omega) ∈ fs := List.getElem_mem _
 obtain ⟨x, hxx⟩ : ∃ x, x = fs[j]'(by omega) := ⟨_, rfl⟩
 rw [← hxx] at hx hp hfm ⊢
 have ho := h.own.below hb
 rw [split_at_ gs i hi] at ho
 have hxm : x ∈ gs := by rw [← hx]; exact List.getElem_mem _
 have hx0 := h.own.at_ x hxm
 obtain ⟨k1, k2⟩ := ho.set (x' := x) (d := 0) (vs := x.pcs) (fun _ => rfl) (i := i) (by rw [List.length_take]; omega) (by simp) rfl (hx0.bel hb) (h.own.fr x hxm) ((h.own.av x hxm).mono (fun b hb' e => hb' (by rw [e]; rfl)))
 have hlen : (gs.take i ++ x :: gs.drop (i + 1)).length = n := by
  have := h.len
  rw [List.length_append, List.length_cons, List.length_take, List.length_drop]
  omega
 refine ⟨gs.take i ++ x :: gs.drop (i + 1), k1, hlen, by have := h.lt; omega, hj, ?_, ?_, fun y hy => ?_, (h.fr.below hb).trans k2⟩
 ·have hl : (gs.take i).length = i := by rw [List.length_take]; omega
  rw [List.drop_append, hl, List.drop_of_length_le (by rw [hl]; have := h.lt; omega), List.nil_append, show j + 1 - i = (j - i) + 1 from by have := h.lt; omega, List.drop_succ_cons, List.drop_drop, show i + 1 + (j - i) = j + 1 from by have := h.lt; omega]
  have := congrArg (List.drop 1) h.drp
  rw [List.drop_drop, List.drop_drop] at this
  exact this
 ·have hl : (gs.take i).length = i := by rw [List.length_take]; omega
  rw [filter_step fs _ j (by omega), ← hxx, hp, ← h.tak, List.take_append, hl, List.take_of_length_le (by omega), show i + 1 - i = 1 from by omega]
  simp
 ·rw [List.mem_append, List.mem_cons] at hy
  rcases hy with hy | hy | hy
  ·exact h.sub y (List.mem_of_mem_take hy)
  ·rw [hy]; exact hfm
  ·exact h.sub y (List.mem_of_mem_drop hy)
def DelP (base : Nat) (v : Value) (l : List MV) (w : World) (e : Ending) (w' : World) : Prop := ∃ A c, e = .returned (.slice A l.length c) ∧ ROwn 73 6 MV.pcs base w' (.slice A l.length c) l ∧ Fr (fun j => v.ownBlock = some j) w w' ∧ ∀ g, (Value.slice A l.length c).ownBlock = some g → v.ownBlock = some g
theorem DelP.mk' {base : Nat} {v : Value} {l l' : List MV} {w w' : World} {A : Option Addr} {n c : Nat} (hl : l' = l) (hn : l.length = n) (h1 : ROwn 73 6 MV.pcs base w' (.slice A n c) l) (h2 : Fr (fun j => v.ownBlock = some j) w w') (h3 : ∀ g, (Value.slice A n c).ownBlock = some g → v.ownBlock = some g) : PF (DelP base v l' w) (.returned (.slice A n c)) w' := by
 subst hl
 subst hn
 exact ⟨A, c, rfl, h1, h2, h3⟩
end Go.Proofs.YtefkpphahimkgaaGreatDoor
namespace Go.Proofs.YtefkpphahimkgaaGreatDoor
open Go.RowKit
attribute [local go_sem ↓] Go.wp_at_zero Go.wp_at_succ
set_option linter.unusedVariables false
set_option linter.unusedSimpArgs false
def prs (m : List MV) : List PP := m.map (fun x => (x.key, x.pv))
def withM (key : ByteArray) (x : PV) : List PP → List PP
 | [] => [(key, x)]
 | p :: r => if p.1 = key then (key, x) :: r else p :: withM key x r
def PV.withP (p : PV) (key : ByteArray) (x : PV) : PV := match p with
 | .mk k n s l ks m => if k = 6 then .mk k n s l ((withM key x (ks.zip m)).map (·.1)) ((withM key x (ks.zip m)).map (·.2)) else PV.none_
theorem zip_prs (m : List MV) : (m.map MV.key).zip (MV.pvL m) = prs m := map_pair.symm
theorem prs_keys (m : List MV) : (prs m).map (·.1) = m.map MV.key := by unfold prs; rw [List.map_map]; rfl
theorem prs_pvs (m : List MV) : (prs m).map (·.2) = MV.pvL m := by unfold prs; rw [List.map_map, pvL_map]; rfl
theorem withM_hit {l : List PP} {key : ByteArray} {x : PV} {i : Nat} (hi : i < l.length) (h : l[i].1 = key) (hb : ∀ j (hj : j < l.length), j < i → l[j].1 ≠ key) : withM key x l = l.take i ++ (key, x) :: l.drop (i + 1) := by
 induction l generalizing i with
 | nil => simp at hi
 | cons p r ih =>
  rw [withM]
  cases i with
  | zero => rw [if_pos (by simpa using h)]; simp
  | succ i =>
   rw [if_neg (show ¬ p.1 = key from hb 0 (by simp) (by omega)), ih (by simpa using hi) (by simpa using h) (fun j hj hlt => show r[j].1 ≠ key from hb (j + 1) (by simpa using hj) (by omega))]
   simp
theorem withM_miss {l : List PP} {key : ByteArray} {x : PV} (hb : ∀ p ∈ l, p.1 ≠ key) : withM key x l = l ++ [(key, x)] := by
 induction l with
 | nil => rfl
 | cons p r ih =>
  rw [withM, if_neg (hb p (by simp)), ih (fun q hq => hb q (by simp [hq]))]
  rfl
theorem prs_set {m : List MV} {i : Nat} {x : MV} : prs (m.take i ++ x :: m.drop (i + 1)) = (prs m).take i ++ (x.key, x.pv) :: (prs m).drop (i + 1) := by
 unfold prs
 rw [List.map_append, List.map_cons, List.map_take, List.map_drop]
section
variable {w w4 w5 : World} {B base : Nat} {k n : Int} {s : ByteArray} {orig : Array Value} {vl vm vm' : Value} {l m m' : List MV} {wr w' : World}
theorem SoS.delM (h : SoS w B base k n s orig vl vm l m w4) (hr : ROwn 73 6 MV.pcs base w5 vm' m') (hf : Fr (fun g => vm.ownBlock = some g) w4 w5) (hsub : ∀ x ∈ m', x ∈ m) (hown : ∀ g, vm'.ownBlock = some g → vm.ownBlock = some g) (noL : ∀ y ∈ l, BlkP (fun b => ¬ b = B) y) (noM : ∀ y ∈ m', BlkP (fun b => ¬ b = B) y) :
  SoS w B base k n s orig vl vm' l m' (w5.setCell ⟨B, 4, none⟩ vm') ∧ Blk w5 B 30 #[.int .i64 k, .int .i64 n, .string s, vl, vm] := by
 have hge := h.rm.ge
 have hbs := h.bs
 have hk5 := h.box.fr hf (fun e => h.nm e)
 have hff : Fr (· = B) w5 (w5.setCell ⟨B, 4, none⟩ vm') := (Fr.refl (· = B) w5).setCell (p := ⟨B, 4, none⟩) (fun _ => rfl) _
 have hlt : B < w4.heap.size := h.box.lt
 have hl5 : ROwn 30 5 MV.cs base w5 vl l := h.rl.frS hf (fun b hb => h.ne hb) h.lm
 refine ⟨⟨Fr.below_trans (Fr.below_trans h.bel hf h.bel.size (fun b e => by have := hge b e; omega)) hff (Nat.le_trans h.bel.size hf.size) (fun b e => by rw [show b = B from e]; omega), (h.res.fr hf (fun e => by have := hge _ e; omega)).fr hff (fun e => by have e' : w.heap.size + 1 = B := e; omega), hk5.set_ 4 _, h.bs, ?_, ?_, fun y hy => (h.lm y hy).mono (fun b hb e => hb (hown b e)), fun y hy => h.ml y (hsub y hy), h.nl, fun e => h.nm (hown B e)⟩, hk5⟩
 ·refine ⟨⟨hl5.own.1, ?_⟩, fun y hy => (hl5.at_ y hy).fr hff (noL y hy), hl5.fr, hl5.av⟩
  rcases hl5.own.2 with h0 | ⟨g, cap, cur, hv', hg, hh, hn⟩
  ·exact .inl h0
  ·exact .inr ⟨g, cap, cur, hv', hg, (hff.block g (Blk.lt (t := 30) hh) (fun e => h.nl (by rw [hv']; rw [show g = B from e]; rfl))).trans hh, hn⟩
 ·refine ⟨⟨hr.own.1, ?_⟩, fun y hy => (hr.at_ y hy).fr hff (noM y hy), hr.fr, hr.av⟩
  rcases hr.own.2 with h0 | ⟨g, cap, cur, hv', hg, hh, hn⟩
  ·exact .inl h0
  ·exact .inr ⟨g, cap, cur, hv', hg, (hff.block g (Blk.lt (t := 73) hh) (fun e => h.nm (hown B (by rw [hv']; rw [show g = B from e]; rfl)))).trans hh, hn⟩
theorem SoS.setP {g c N i : Nat} {l1 r : List MV} {x x' : MV} {H : Nat} (h : SoS w B base k n s orig vl (.slice (some ⟨g, 0, none⟩) N c) l (l1 ++ x :: r) wr) (hi : l1.length = i) (hx : VAt wr x') (hfr : BlkP (H ≤ ·) x') (hw : base ≤ H) (h1 : ∀ b, (Value.slice (some ⟨g, 0, none⟩) N c).ownBlock = some b → b < H) (h2 : ∀ b, vl.ownBlock = some b → b < H) :
  SoS w B base k n s orig vl (.slice (some ⟨g, 0, none⟩) N c) l (l1 ++ x' :: r) (puts wr g (i * 6) x'.pcs) := by
 have hg : base ≤ g := h.rm.ge g rfl
 have hgw := h1 g rfl
 have hav : BlkP (fun b => ¬ b = g) x' := hfr.mono (fun b hb e => by have hb' : H ≤ b := hb; omega)
 have hbs := h.bs
 obtain ⟨k1, k2⟩ := h.rm.set (x' := x') (d := 0) (vs := x'.pcs) (fun _ => rfl) hi (by simp) rfl hx (hfr.mono (fun b hb => Nat.le_trans hw hb)) hav
 refine ⟨Fr.below_trans h.bel k2 h.bel.size (fun b e => by rw [show b = g from e]; omega), h.res.fr k2 (fun e => by have e' : w.heap.size + 1 = g := e; omega), h.box.fr k2 (fun e => h.nm (by rw [show B = g from e]; rfl)), h.bs, h.rl.frS k2 (fun b hb e => h.ne hb (by rw [show b = g from e]; rfl)) (fun y hy => (h.lm y hy).mono (fun b hb e => hb (by rw [show b = g from e]; rfl))), k1, h.lm, fun y hy => ?_, h.nl, h.nm⟩
 rw [List.mem_append, List.mem_cons] at hy
 rcases hy with hy | hy | hy
 ·exact h.ml y (List.mem_append_left _ hy)
 ·subst hy
  exact hfr.mono (fun b hb e => by have hb' : H ≤ b := hb; have := h2 b e; omega)
 ·exact h.ml y (List.mem_append_right _ (List.mem_cons_of_mem _ hy))
theorem SoS.appM {x' : MV} {A : Option Addr} {N c : Nat} (h : SoS w B base k n s orig vl vm l m w4) (hrow : ROwn 73 6 MV.pcs base w5 (.slice A N c) (m ++ [x'])) (hg : w4.grownBy w5 vm.ownBlock) (hat : (Value.slice A N c).ownBlock = vm.ownBlock ∨ (Value.slice A N c).ownBlock = some w4.heap.size) (hav : BlkP (fun b => ¬ vl.ownBlock = some b) x') (noL : ∀ y ∈ l, BlkP (fun b => ¬ b = B) y) (noM : ∀ y ∈ m ++ [x'], BlkP (fun b => ¬ b = B) y) :
  SoS w B base k n s orig vl (.slice A N c) l (m ++ [x']) (w5.setCell ⟨B, 4, none⟩ (.slice A N c)) ∧ Blk w5 B 30 #[.int .i64 k, .int .i64 n, .string s, vl, vm] := by
 have hge := h.rm.ge
 have hbs := h.bs
 have hlt : B < w4.heap.size := h.box.lt
 have hf : Fr (fun b => vm.ownBlock = some b) w4 w5 := Fr.of_grown hg (fun b e => e)
 have hk5 := h.box.fr hf (fun e => h.nm e)
 have hff : Fr (· = B) w5 (w5.setCell ⟨B, 4, none⟩ (.slice A N c)) := (Fr.refl (· = B) w5).setCell (p := ⟨B, 4, none⟩) (fun _ => rfl) _
 have hl5 : ROwn 30 5 MV.cs base w5 vl l := h.rl.frS hf (fun b hb => h.ne hb) h.lm
 have hnmB : ¬ (Value.slice A N c).ownBlock = some B := fun e => by
  rcases hat with h1 | h1
  ·exact h.nm (by rw [← h1]; exact e)
  ·rw [h1] at e; injection e with e; omega
 refine ⟨⟨Fr.below_trans (Fr.below_trans h.bel hf h.bel.size (fun b e => by have := hge b e; omega)) hff (Nat.le_trans h.bel.size hf.size) (fun b e => by rw [show b = B from e]; omega), (h.res.fr hf (fun e => by have := hge _ e; omega)).fr hff (fun e => by have e' : w.heap.size + 1 = B := e; omega), hk5.set_ 4 _, h.bs, ?_, ?_, fun y hy => ?_, fun y hy => ?_, h.nl, hnmB⟩, hk5⟩
 ·exact hl5.frS hff (fun b hb e => h.nl (by rw [← show b = B from e]; exact hb)) noL
 ·exact hrow.frS hff (fun b hb e => hnmB (by rw [← show b = B from e]; exact hb)) noM
 ·rcases hat with e | e
  ·rw [e]; exact h.lm y hy
  ·rw [e]
   exact (h.rl.at_ y hy).lt.mono (fun b hb e => by injection e with e; omega)
 ·rcases List.mem_append.1 hy with hy | hy
  ·exact h.ml y hy
  ·rw [List.mem_singleton] at hy
   subst hy
   exact hav
end
theorem atV_prs {v : MV} {key : ByteArray} {x : PV} (h6 : v.k = 6) : (atV v key = -1 ∧ withM key x (prs v.m) = prs v.m ++ [(key, x)]) ∨ ∃ i, ∃ hi : i < v.m.length, atV v key = i ∧ v.m[i].key = key ∧ withM key x (prs v.m) = (prs v.m).take i ++ (key, x) :: (prs v.m).drop (i + 1) := by
 unfold atV
 rw [if_pos h6]
 rcases idxG_split (fun x : MV => decide (x.key = key)) v.m with ⟨h, hno⟩ | ⟨i, hi, h1, h2, h3⟩
 ·refine .inl ⟨h, withM_miss (fun p hp => ?_)⟩
  unfold prs at hp
  obtain ⟨y, hy, rfl⟩ := List.mem_map.1 hp
  obtain ⟨j, hj, rfl⟩ := List.getElem_of_mem hy
  exact of_decide_eq_false (hno j hj)
 ·refine .inr ⟨i, hi, h1, of_decide_eq_true h2, ?_⟩
  have hl : (prs v.m).length = v.m.length := by unfold prs; rw [List.length_map]
  have hg : ∀ j (hj : j < (prs v.m).length) (hj' : j < v.m.length), (prs v.m)[j] = (v.m[j].key, v.m[j].pv) := fun j hj hj' => by simp [prs]
  refine withM_hit (by rw [hl]; exact hi) ?_ (fun j hj hlt => ?_)
  ·rw [hg i (by rw [hl]; exact hi) hi]
   exact of_decide_eq_true h2
  ·rw [hg j hj (by rw [hl] at hj; exact hj)]
   exact of_decide_eq_false (h3 j (by rw [hl] at hj; exact hj) hlt)
theorem SoS.fin5 {w w' : World} {B base : Nat} {k n : Int} {s : ByteArray} {vl vm : Value} {l m : List MV} {p : PV} (h : SoS w B base k n s #[] vl vm l m w') (hk : (Lit.int .i64 k).wf = true ∧ (Lit.int .i64 n).wf = true) (hp : PV.mk k n s (MV.pvL l) (m.map MV.key) (MV.pvL m) = p) :
  Blk (((((w'.setCell ⟨w.heap.size + 1, 0, none⟩ (.int .i64 k)).setCell ⟨w.heap.size + 1, 1, none⟩ (.int .i64 n)).setCell ⟨w.heap.size + 1, 2, none⟩ (.string s)).setCell ⟨w.heap.size + 1, 3, none⟩ vl).setCell ⟨w.heap.size + 1, 4, none⟩ vm) (w.heap.size + 1) 30 #[.int .i64 k, .int .i64 n, .string s, vl, vm] ∧
  ∃ v' : MV, (.agg #[.int .i64 k, .int .i64 n, .string s, vl, vm]) = v'.val ∧ v'.pv = p ∧ VOwn w.heap.size (((((w'.setCell ⟨w.heap.size + 1, 0, none⟩ (.int .i64 k)).setCell ⟨w.heap.size + 1, 1, none⟩ (.int .i64 n)).setCell ⟨w.heap.size + 1, 2, none⟩ (.string s)).setCell ⟨w.heap.size + 1, 3, none⟩ vl).setCell ⟨w.heap.size + 1, 4, none⟩ vm) v' ∧ Below w.heap.size w (((((w'.setCell ⟨w.heap.size + 1, 0, none⟩ (.int .i64 k)).setCell ⟨w.heap.size + 1, 1, none⟩ (.int .i64 n)).setCell ⟨w.heap.size + 1, 2, none⟩ (.string s)).setCell ⟨w.heap.size + 1, 3, none⟩ vl).setCell ⟨w.heap.size + 1, 4, none⟩ vm) :=
 ⟨blk_five h.res, h.fin fr_five hk.1 hk.2 hp⟩
theorem MV.val_mk {key : ByteArray} {k n : Int} {s : ByteArray} {lA : Option Addr} {lc : Nat} {l : List MV} {mA : Option Addr} {mc : Nat} {m : List MV} : (MV.mk key k n s lA lc l mA mc m).val = .agg #[.int .i64 k, .int .i64 n, .string s, .slice lA l.length lc, .slice mA m.length mc] := rfl
theorem sixc {w : World} {b : Nat} {t : TypeId} {v0 v1 v2 v3 v4 v5 : Value} (h : Blk w b t #[v0, v1, v2, v3, v4, v5]) : w.cell? ⟨b, 0, none⟩ = some v0 ∧ w.cell? ⟨b, 1, none⟩ = some v1 ∧ w.cell? ⟨b, 2, none⟩ = some v2 ∧ w.cell? ⟨b, 3, none⟩ = some v3 ∧ w.cell? ⟨b, 4, none⟩ = some v4 ∧ w.cell? ⟨b, 5, none⟩ = some v5 :=
 ⟨h.cell 0, h.cell 1, h.cell 2, h.cell 3, h.cell 4, h.cell 5⟩
theorem OwP.up {w0 w wf : World} {p : PV} {v : Value} (h : ∃ v' : MV, v = v'.val ∧ v'.pv = p ∧ VOwn w.heap.size wf v' ∧ Below w.heap.size w wf) (hb : Below w0.heap.size w0 w) : OwP p w0 (.returned v) wf := by
 obtain ⟨v', h1, h2, h3, h4⟩ := h
 exact ⟨v', by rw [h1], h2, h3.base_le hb.size, hb.trans (h4.mono hb.size)⟩
set_option maxRecDepth 100000 in
set_option maxHeartbeats 2000000 in
theorem with_any {v x : MV} {w : World} (h : VAt w v) (hfit : FitV v) (hx : VAt w x) (hfx : FitV x) (key : ByteArray) : Calls Tryz.prog 27 #[v.val, .string key, x.val] w fun e w' => PF (OwP (v.pv.withP key x.pv) w) e w' := by
 obtain ⟨W1, hW1⟩ : ∃ W1, W1 = w.alloc (.cells #[.int .i64 v.k, .int .i64 v.n, .string v.s, .slice v.lA v.l.length v.lc, .slice v.mA v.m.length v.mc] 30) := ⟨_, rfl⟩
 have hb1 : Below w.heap.size w W1 := by rw [hW1]; exact below_new _ _
 have hs1 : W1.heap.size = w.heap.size + 1 := by rw [hW1]; simp
 have hx1 : Blk W1 w.heap.size 30 #[.int .i64 v.k, .int .i64 v.n, .string v.s, .slice v.lA v.l.length v.lc, .slice v.mA v.m.length v.mc] := by rw [hW1]; exact Blk.new _ _ _
 obtain ⟨W3, hW3⟩ : ∃ W3, W3 = ((W1.alloc (.cells #[.int .i64 x.k, .int .i64 x.n, .string x.s, .slice x.lA x.l.length x.lc, .slice x.mA x.m.length x.mc] 30)).alloc (.cells #[.int .i64 0, .int .i64 0, .string ⟨#[]⟩, .slice none 0 0, .slice none 0 0] 30)) := ⟨_, rfl⟩
 have hb3 : Below W1.heap.size W1 W3 := by rw [hW3]; exact below_al _ (below_new _ _)
 have hs3 : W3.heap.size = W1.heap.size + 2 := by rw [hW3]; simp
 have hk3 : Blk W3 W1.heap.size 30 #[.int .i64 x.k, .int .i64 x.n, .string x.s, .slice x.lA x.l.length x.lc, .slice x.mA x.m.length x.mc] := by rw [hW3]; exact (Blk.new _ _ _).alloc _
 have hr3 : Blk W3 (W1.heap.size + 1) 30 #[.int .i64 0, .int .i64 0, .string ⟨#[]⟩, .slice none 0 0, .slice none 0 0] := by
  rw [hW3]
  have h2 := Blk.new (W1.alloc (.cells #[.int .i64 x.k, .int .i64 x.n, .string x.s, .slice x.lA x.l.length x.lc, .slice x.mA x.m.length x.mc] 30)) 30 #[.int .i64 0, .int .i64 0, .string ⟨#[]⟩, .slice none 0 0, .slice none 0 0]
  simpa using h2
 have hb13 := hb1.trans (hb3.mono hb1.size)
 have hcl := vclone_any (h.bel hb13) W3 (Below.refl _ _) hfit
 have hcx := fun V (hV : Below W3.heap.size W3 V) => vclone_any ((hx.bel hb13).bel hV) V (Below.refl _ _) hfx
 obtain ⟨P, hP⟩ : ∃ P, P = v.pv.withP key x.pv := ⟨_, rfl⟩
 rw [← hP]
 have HP := Ld hP
 have HX3 := Ld (hx1.below hb3 hx1.lt)
 have hwk := h.wk
 have hlen : v.m.length ≤ 3001 := by cases hfit with | mk h1 _ _ => simp only [MV.m]; omega
 unfold MV.val at hcl hcx ⊢
 have HCL := Ld hcl
 have HCX := Ld hcx
 have HB1 := Ld hb1
 have HB3 := Ld hb3
 have HB13 := Ld hb13
 have HS1 := Ld hs1
 have HS3 := Ld hs3
 have HK3 := Ld hk3
 have HR3 := Ld hr3
 have HWK := Ld hwk
 have HLEN := Ld hlen
 rw [hW1] at hW3
 have HW3 := Ld hW3
 clear h hfit hx hfx hcl hcx hb1 hs1 hx1 hb3 hs3 hk3 hr3 hb13 hwk hlen hW1 hW3 hP
 by_cases hk : v.k = 6
 rotate_left
 ·have q1 : (v.k == 6) = false := by rw [beq_eq_false_iff_ne]; exact hk
  have q2 : (v.k != 6) = true := by rw [bne_iff_ne]; exact hk
  have HPP : Hid (PV.none_ = P) := Ld (by
   rw [HP.out]
   cases v with
   | mk a b c d e f g h i j =>
    rw [MV.pv, PV.withP]
    exact (if_neg hk).symm)
  obtain ⟨k0, k1, k2, k3, k4⟩ := five_cells HR3.out
  rw [HS1.out] at k0 k1 k2 k3 k4
  clear hk
  go_enter Tryz.func27, Tryz.ntmps27
  go_wp2
  rw [← HW3.out]
  refine bodyPost_ret (v := MV.none_.val) (by simp [results, Tryz.results27, go_sem, k0, k1, k2, k3, k4, MV.val, MV.none_, MV.k, MV.n, MV.s, MV.lA, MV.lc, MV.l, MV.mA, MV.mc, MV.m]) rfl ?_
  exact ⟨MV.none_, rfl, HPP.out, VOwn.none_ _ _, HB13.out⟩
 have q1 : (v.k == 6) = true := by rw [hk]; rfl
 have q2 : (v.k != 6) = false := by rw [hk]; rfl
 have HK6 := Ld hk
 clear hk
 go_enter Tryz.func27, Tryz.ntmps27
 go_wp2_with fail
 rw [← HW3.out]
 refine HCL.out.mono ?_
 rintro e w2 ⟨v', rfl, hpv, hvo, hb2⟩
 have hss := SoS.new HB3.out HS3.out HR3.out hb2 hvo
 have HVO := Ld hvo
 have HPV := Ld hpv
 have hkx := HK3.out.below hb2 HK3.out.lt
 have hpv' := hpv
 obtain ⟨key', k', n', s', lA, lc, l, mA, mc, m⟩ := v'
 rw [MV.val_mk]
 simp only [MV.k, MV.n, MV.s, MV.lA, MV.lc, MV.l, MV.mA, MV.mc, MV.m] at hss
 have hkk : k' = v.k ∧ n' = v.n ∧ m.length = v.m.length := by
  cases v with
  | mk a b c d e f g h i j =>
   rw [MV.pv, MV.pv] at hpv'
   injection hpv' with e1 e2 e3 e4 e5 e6
   exact ⟨e1, e2, by rw [← pvL_len m, e6, pvL_len]; rfl⟩
 have HKK := Ld hkk
 obtain ⟨nm, hnm⟩ : ∃ nm, nm = m.length := ⟨_, rfl⟩
 rw [← hnm] at hss ⊢
 obtain ⟨WB, hWB⟩ : ∃ WB, WB = (w2.alloc (.cells #[.int .i64 k', .int .i64 n', .string s', .slice lA l.length lc, .slice mA nm mc] 30)) := ⟨_, rfl⟩
 rw [← hWB] at hss
 have hb4 : Below w2.heap.size w2 WB := by rw [hWB]; exact below_new _ _
 have HSS := Ld hss
 have HNM := Ld hnm
 have HB4 := Ld hb4
 have HB3B : Hid (Below W3.heap.size W3 WB) := Ld (hb2.trans (hb4.mono hb2.size))
 obtain ⟨y0, y1, y2, y3, y4⟩ := five_cells (hkx.below hb4 hkx.lt)
 have hml : nm ≤ 3001 := by rw [hnm, hkk.2.2]; exact HLEN.out
 have hcx2 := HCX.out WB HB3B.out
 have HCX2 := Ld hcx2
 rw [HS1.out, hWB] at y0 y1 y2 y3 y4
 have HVB := Ld (hvo.at_.bel hb4)
 have HWB := Ld hWB
 clear hpv hpv' hvo hb2 hss hkk hb4 hnm hkx hcx2 hWB HCX
 go_wp2_with fail
 rw [← HWB.out]
 refine HCX2.out.mono ?_
 clear y0 y1 y2 y3 y4
 rintro e w4 ⟨x', rfl, hpx, hvx, hb5⟩
 obtain ⟨W6, hW6⟩ : ∃ W6, W6 = w4.alloc (.cells #[.string key, .int .i64 x'.k, .int .i64 x'.n, .string x'.s, .slice x'.lA x'.l.length x'.lc, .slice x'.mA x'.m.length x'.mc] 73) := ⟨_, rfl⟩
 have hb6 : Below w4.heap.size w4 W6 := by rw [hW6]; exact below_new _ _
 have hk6 : Blk W6 w4.heap.size 73 #[.string key, .int .i64 x'.k, .int .i64 x'.n, .string x'.s, .slice x'.lA x'.l.length x'.lc, .slice x'.mA x'.m.length x'.mc] := by rw [hW6]; exact Blk.new _ _ _
 have hbw : Below WB.heap.size WB W6 := hb5.trans (hb6.mono hb5.size)
 have hs6 := HSS.out.below hbw
 have HPX := Ld hpx
 have HVX := Ld hvx
 have hat := vat_any (HVB.out.bel hbw) key
 unfold MV.val at hat ⊢
 simp only [MV.k, MV.n, MV.s, MV.lA, MV.lc, MV.l, MV.mA, MV.mc, MV.m] at hat
 rw [← HNM.out] at hat
 have HAT := Ld hat
 have HS6 := Ld hs6
 have HK7 := Ld hk6
 have HB6 := Ld hb6
 have HBW := Ld hbw
 have HXW := Ld (hvx.at_.bel hb6)
 obtain ⟨c0, c1, c2, c3, c4⟩ := five_cells hs6.box
 rw [hW6] at c0 c1 c2 c3 c4
 have HW6 := Ld hW6
 clear hpx hvx hb5 hb6 hk6 hbw hat hs6 hW6
 go_wp2_with fail
 rw [← HW6.out]
 refine HAT.out.mono ?_
 clear c0 c1 c2 c3 c4
 rintro e w7 ⟨rfl, hb7⟩
 have HS7 := Ld (HS6.out.below hb7)
 have HK8 := Ld (HK7.out.below hb7 HK7.out.lt)
 have HX7 := Ld (HXW.out.bel hb7)
 obtain ⟨x'', hx''⟩ : ∃ x'' : MV, x'' = .mk key x'.k x'.n x'.s x'.lA x'.lc x'.l x'.mA x'.mc x'.m := ⟨_, rfl⟩
 have HXX : Hid (x''.key = key ∧ x''.pv = x'.pv ∧ x''.pcs = [.string key, .int .i64 x'.k, .int .i64 x'.n, .string x'.s, .slice x'.lA x'.l.length x'.lc, .slice x'.mA x'.m.length x'.mc] ∧ VAt w7 x'' ∧ BlkP (WB.heap.size ≤ ·) x'') := Ld (by rw [hx'']; exact ⟨rfl, by cases x'; rfl, rfl, HX7.out.rekey, HVX.out.fr.rekey⟩)
 have hwkk : (Lit.int .i64 k').wf = true ∧ (Lit.int .i64 n').wf = true := by rw [HKK.out.1, HKK.out.2.1]; exact HWK.out
 have HWKK := Ld hwkk
 have HPF : Hid (∀ m' : List MV, prs m' = withM key x.pv (prs m) → PV.mk k' n' s' (MV.pvL l) (m'.map MV.key) (MV.pvL m') = P) := Ld (fun m' hm' => by
  rw [HP.out, ← HPV.out, MV.pv, PV.withP]
  simp only [HKK.out.1, HK6.out, if_true]
  rw [zip_prs, ← hm', prs_keys, prs_pvs])
 have HPP2 : Hid (x''.pv = x.pv) := Ld (HXX.out.2.1.trans HPX.out)
 have HNB : Hid ((∀ y ∈ l, BlkP (fun b => ¬ b = w2.heap.size) y) ∧ ∀ y ∈ m, BlkP (fun b => ¬ b = w2.heap.size) y) := Ld ⟨fun y hy => (HVO.out.at_.l y hy).lt.mono (fun b hb => Nat.ne_of_lt hb), fun y hy => (HVO.out.at_.m y hy).lt.mono (fun b hb => Nat.ne_of_lt hb)⟩
 have HLTB : Hid (w2.heap.size < WB.heap.size) := Ld HSS.out.box.lt
 have HVV : Hid ((MV.mk key' k' n' s' lA lc l mA mc m).k = 6) := Ld (HKK.out.1.trans HK6.out)
 clear hb7 hx'' hwkk
 obtain ⟨c0, c1, c2, c3, c4⟩ := five_cells HS7.out.box
 obtain ⟨p0, p1, p2, p3, p4, p5⟩ := sixc HK8.out
 rcases atV_prs (v := .mk key' k' n' s' lA lc l mA mc m) (key := key) (x := x.pv) HVV.out with ⟨hi1, hpr⟩ | ⟨i, hi, hi1, hi2, hpr⟩
 ·change withM key x.pv (prs m) = prs m ++ [(key, x.pv)] at hpr
  obtain ⟨i0, hi0, hz0, hz1, hz2⟩ := info_parts infoPair
  have HINF := Ld (And.intro hi0 (And.intro hz0 (And.intro hz1 hz2)))
  obtain ⟨W9, hW9⟩ : ∃ W9, W9 = w7.alloc (.cells #[.string key, .int .i64 x'.k, .int .i64 x'.n, .string x'.s, .slice x'.lA x'.l.length x'.lc, .slice x'.mA x'.m.length x'.mc] 73) := ⟨_, rfl⟩
  have hb9 : Below w7.heap.size w7 W9 := by rw [hW9]; exact below_new _ _
  have hk9 : Blk W9 w7.heap.size 73 #[.string key, .int .i64 x'.k, .int .i64 x'.n, .string x'.s, .slice x'.lA x'.l.length x'.lc, .slice x'.mA x'.m.length x'.mc] := by rw [hW9]; exact Blk.new _ _ _
  have hs9 := HS7.out.below hb9
  have HOB : Hid (W9.ownsRow W3.heap.size 73 6 (.slice mA nm mc) nm (m.flatMap MV.pcs)) := Ld (by have h1 := hs9.rm.own; rw [← HNM.out] at h1; exact h1)
  have HXB : Hid (Reads W9 W9.heap.size 6 (some ⟨w7.heap.size, 0, none⟩) 1 x''.pcs) := Ld (by
   rw [HXX.out.2.2.1]
   exact ⟨rfl, fun _ => ⟨_, rfl, hk9.lt, fun j u hu => by
    rw [Addr.add_lit, Nat.zero_add, hk9.cell j]
    simpa using hu⟩⟩)
  have hbs : W3.heap.size ≤ W9.heap.size := by have h1 := hs9.bs.2; have h2 := hs9.box.lt; omega
  have hxb : BlkP (fun b => ¬ b = w2.heap.size) x'' := HXX.out.2.2.2.2.mono (fun b hb e => by have := HLTB.out; have hb' : WB.heap.size ≤ b := hb; omega)
  have HAP : Hid (∀ v1 w1, w1.ownsRow W3.heap.size 73 6 v1 (nm + 1) (m.flatMap MV.pcs ++ x''.pcs) → W9.grownBy w1 (Value.slice mA nm mc).ownBlock → (v1.ownBlock = (Value.slice mA nm mc).ownBlock ∨ v1.ownBlock = some W9.heap.size) → ∃ A9 c9, v1 = .slice A9 (nm + 1) c9 ∧ SoS W1 w2.heap.size W3.heap.size k' n' s' #[] (.slice lA l.length lc) (.slice A9 (nm + 1) c9) l (m ++ [x'']) (w1.setCell ⟨w2.heap.size, 4, none⟩ (.slice A9 (nm + 1) c9)) ∧ Blk w1 w2.heap.size 30 #[.int .i64 k', .int .i64 n', .string s', .slice lA l.length lc, .slice mA nm mc]) := Ld (fun v1 w1 h1 h2 h3 => by
   have hbl : BlkP (WB.heap.size ≤ ·) x'' := HXX.out.2.2.2.2
   have hrow := hs9.rm.app (HXX.out.2.2.2.1.bel hb9) (hbl.mono (fun b hb => Nat.le_trans HB3B.out.size hb)) (hbl.mono (fun b hb e => by have h4 := HSS.out.rm.ltS b e; have hb' : WB.heap.size ≤ b := hb; omega)) (by rw [← HNM.out]; exact h1) h2 h3
   have hln : (m ++ [x'']).length = nm + 1 := by rw [List.length_append, HNM.out]; rfl
   obtain ⟨A9, c9, hv9, _, _, _⟩ := hrow.shape
   rw [hln] at hv9
   subst hv9
   obtain ⟨k1, k2⟩ := hs9.appM hrow h2 h3 (hbl.mono (fun b hb e => by have h4 := HSS.out.rl.ltS b e; have hb' : WB.heap.size ≤ b := hb; omega)) HNB.out.1 (fun y hy => by
    rcases List.mem_append.1 hy with hy | hy
    ·exact HNB.out.2 y hy
    ·rw [List.mem_singleton] at hy; subst hy; exact hxb)
   exact ⟨A9, c9, rfl, k1, k2⟩)
  have HPF2 := Ld (HPF.out (m ++ [x'']) (by rw [hpr]; unfold prs; rw [List.map_append]; simp only [List.map_cons, List.map_nil]; rw [HXX.out.1, HPP2.out]))
  have HX1 : Hid (∀ u ∈ x''.pcs, u.oneCell' = true) := Ld (oneC_pcs x'')
  rw [hi1]
  rw [hW9] at HOB HXB HAP hbs
  clear hi0 hz0 hz1 hz2 hW9 hb9 hk9 hs9 hxb hpr hi1
  go_wp2_with (at_builtin; refine wpList_append_any _ rfl _ _ 28 rfl W3.heap.size 73 i0 _ 6 96 Tryz.underlying28 HINF.out.1 HINF.out.2.1 HINF.out.2.2.1 HINF.out.2.2.2 rfl (by omega) _ nm _ rfl HOB.out _ _ 1 1 x''.pcs rfl HXB.out HX1.out (by simp only [maxLen]; omega) (by omega) hbs ?_; intro v1 w1 hown1 hg1 hat1; obtain ⟨A9, c9, hv9, hs9, hk9⟩ := HAP.out v1 w1 hown1 hg1 hat1; subst hv9; have HS9 := Ld hs9; have hz := hk9.frozen 4; have hd := hk9.cell 4; simp only [gz] at hd; obtain ⟨s0, s1, s2, s3, s4⟩ := five_cells hs9.box; obtain ⟨t0, t1, t2, t3, t4⟩ := five_cells hs9.res; obtain ⟨z0, z1, z2, z3, z4⟩ := five_fr hs9.res; rw [HS1.out] at t0 t1 t2 t3 t4 z0 z1 z2 z3 z4; clear hown1 hg1 hat1 hs9 hk9)
  have HFIN := Ld (HS9.out.fin5 HWKK.out HPF2.out)
  rw [← HS1.out]
  obtain ⟨k0, k1, k2, k3, k4⟩ := five_cells HFIN.out.1
  refine bodyPost_ret (v := .agg #[.int .i64 k', .int .i64 n', .string s', .slice lA l.length lc, .slice A9 (nm + 1) c9]) (by simp [results, Tryz.results27, go_sem, k0, k1, k2, k3, k4]) rfl ?_
  exact OwP.up HFIN.out.2 HB1.out
 ·have hi' : i < m.length := hi
  change withM key x.pv (prs m) = (prs m).take i ++ (key, x.pv) :: (prs m).drop (i + 1) at hpr
  obtain ⟨g, c9, hv9, hgl, hc⟩ := HS7.out.rm.cellM (i := i) hi'
  injection hv9 with hA hz1 hz2
  clear hz1 hz2
  subst hA
  obtain ⟨cur, hcur⟩ := own_blk (g := g) HS7.out.rm rfl
  obtain ⟨y, hy⟩ : ∃ y, y = m[i]'hi' := ⟨_, rfl⟩
  rw [← hy] at hc
  have z0 := hcur.frozen (i * 6)
  have z1 := hcur.frozen (i * 6 + 1)
  have z2 := hcur.frozen (i * 6 + 2)
  have z3 := hcur.frozen (i * 6 + 3)
  have z4 := hcur.frozen (i * 6 + 4)
  have z5 := hcur.frozen (i * 6 + 5)
  have f0 := hc 0 (by omega)
  have f1 := hc 1 (by omega)
  have f2 := hc 2 (by omega)
  have f3 := hc 3 (by omega)
  have f4 := hc 4 (by omega)
  have f5 := hc 5 (by omega)
  simp only [Nat.add_zero, MV.pcs, MV.cs, List.getElem?_cons_zero, List.getElem?_cons_succ] at f0 f1 f2 f3 f4 f5
  have hs9 : SoS W1 w2.heap.size W3.heap.size k' n' s' #[] (.slice lA l.length lc) (.slice (some ⟨g, 0, none⟩) nm mc) l (m.take i ++ x'' :: m.drop (i + 1)) ((((((w7.setCell ⟨g, i * 6, none⟩ (.string key)).setCell ⟨g, i * 6 + 1, none⟩ (.int .i64 x'.k)).setCell ⟨g, i * 6 + 2, none⟩ (.int .i64 x'.n)).setCell ⟨g, i * 6 + 3, none⟩ (.string x'.s)).setCell ⟨g, i * 6 + 4, none⟩ (.slice x'.lA x'.l.length x'.lc)).setCell ⟨g, i * 6 + 5, none⟩ (.slice x'.mA x'.m.length x'.mc)) := by
   have h3 := HS7.out
   rw [split_at_ m i hi'] at h3
   have hbl : BlkP (WB.heap.size ≤ ·) x'' := HXX.out.2.2.2.2
   have h4 := h3.setP (H := WB.heap.size) (i := i) (by rw [List.length_take]; omega) HXX.out.2.2.2.1 hbl HB3B.out.size (fun b e => HSS.out.rm.ltS b e) (fun b e => HSS.out.rl.ltS b e)
   rw [HXX.out.2.2.1] at h4
   exact h4
  have HS9 := Ld hs9
  have HPF2 := Ld (HPF.out (m.take i ++ x'' :: m.drop (i + 1)) (by rw [hpr, prs_set, HXX.out.1, HPP2.out]))
  have hii : (i : Int) < (nm : Int) := by have := HNM.out; omega
  have hi0 : (0 : Int) ≤ (i : Int) := by omega
  have HHI := Ld hi'
  rw [hi1]
  clear hi1 hi2 hpr hi hcur hc hs9 hgl hy hi'
  go_upto_region 9 with (fail)
  generalize ((((((w7.setCell ⟨g, i * 6, none⟩ (.string key)).setCell ⟨g, i * 6 + 1, none⟩ (.int .i64 x'.k)).setCell ⟨g, i * 6 + 2, none⟩ (.int .i64 x'.n)).setCell ⟨g, i * 6 + 3, none⟩ (.string x'.s)).setCell ⟨g, i * 6 + 4, none⟩ (.slice x'.lA x'.l.length x'.lc)).setCell ⟨g, i * 6 + 5, none⟩ (.slice x'.mA x'.m.length x'.mc)) = W10 at HS9 ⊢
  obtain ⟨s0, s1, s2, s3, s4⟩ := five_cells HS9.out.box
  obtain ⟨t0, t1, t2, t3, t4⟩ := five_cells HS9.out.res
  obtain ⟨y0, y1, y2, y3, y4⟩ := five_fr HS9.out.res
  rw [HS1.out] at t0 t1 t2 t3 t4 y0 y1 y2 y3 y4
  go_wp2
  have HFIN := Ld (HS9.out.fin5 HWKK.out HPF2.out)
  rw [← HS1.out]
  obtain ⟨k0, k1, k2, k3, k4⟩ := five_cells HFIN.out.1
  refine bodyPost_ret (v := .agg #[.int .i64 k', .int .i64 n', .string s', .slice lA l.length lc, .slice (some ⟨g, 0, none⟩) nm mc]) (by simp [results, Tryz.results27, go_sem, k0, k1, k2, k3, k4]) rfl ?_
  exact OwP.up HFIN.out.2 HB1.out
end Go.Proofs.YtefkpphahimkgaaGreatDoor
