/-
  value.sorted, whole.
-/
import Derived.Test.YteodigdcdhceiaaDoorVaS4
import Derived.Test.YteodigdcdhceiaaDoorLastOp
namespace Go.Proofs.YteodigdcdhceiaaDoor
open Go.RowKit
attribute [local go_sem ↓] Go.wp_at_zero Go.wp_at_succ
set_option linter.unusedVariables false
set_option linter.unusedSimpArgs false

theorem ROwn.cellL {base : Nat} {w : World} {v : Value} {l : List MV} (h : ROwn 25 5 MV.cs base w v l) {i : Nat} (hi : i < l.length) : ∃ g c, v = .slice (some ⟨g, 0, none⟩) l.length c ∧ g < w.heap.size ∧ ∀ j, j < 5 → w.cell? ⟨g, i * 5 + j, none⟩ = l[i].cs[j]? := by
  obtain ⟨g, cap, hv, _, hlt⟩ := h.own.form (by omega)
  refine ⟨g, cap, hv, hlt, fun j hj => ?_⟩
  have ho := h.own
  rw [hv] at ho
  have h1 := csL_at l i hi j hj
  have hx : ∃ u, (l[i]'hi).cs[j]? = some u := by
    rw [List.getElem?_eq_getElem (show j < (l[i]'hi).cs.length by simp [MV.cs]; omega)]
    exact ⟨_, rfl⟩
  obtain ⟨u, hu⟩ := hx
  have h2 := ho.cells (g := g) rfl _ u (h1.trans hu)
  rw [Addr.add_lit, Nat.zero_add] at h2
  exact h2.trans hu.symm
theorem ROwn.cellM {base : Nat} {w : World} {v : Value} {l : List MV} (h : ROwn 33 6 MV.pcs base w v l) {i : Nat} (hi : i < l.length) : ∃ g c, v = .slice (some ⟨g, 0, none⟩) l.length c ∧ g < w.heap.size ∧ ∀ j, j < 6 → w.cell? ⟨g, i * 6 + j, none⟩ = l[i].pcs[j]? := by
  obtain ⟨g, cap, hv, _, hlt⟩ := h.own.form (by omega)
  refine ⟨g, cap, hv, hlt, fun j hj => ?_⟩
  have ho := h.own
  rw [hv] at ho
  have h1 := csM_at l i hi j hj
  have hx : ∃ u, (l[i]'hi).pcs[j]? = some u := by
    rw [List.getElem?_eq_getElem (show j < (l[i]'hi).pcs.length by simp [MV.pcs, MV.cs]; omega)]
    exact ⟨_, rfl⟩
  obtain ⟨u, hu⟩ := hx
  have h2 := ho.cells (g := g) rfl _ u (h1.trans hu)
  rw [Addr.add_lit, Nat.zero_add] at h2
  exact h2.trans hu.symm
theorem pvL_length (l : List MV) : (MV.pvL l).length = l.length := by rw [pvL_map, List.length_map]
/-- what stands at i where a part is done -/
theorem half_at {A : Type} {f : A → A} {ps xs : List A} {i : Nat} (hx : xs = (ps.take i).map f ++ ps.drop i) (hi : i < ps.length) : ∃ h : i < xs.length, xs[i] = ps[i] := by
  have hl : ((ps.take i).map f).length = i := by rw [List.length_map, List.length_take]; omega
  have hlt : i < xs.length := by rw [hx, List.length_append, hl, List.length_drop]; omega
  refine ⟨hlt, ?_⟩
  subst hx
  rw [List.getElem_append_right (by omega)]
  simp only [List.getElem_drop, hl, Nat.sub_self, Nat.add_zero]
theorem half_next {A : Type} {f : A → A} {ps xs : List A} {i : Nat} {y : A} (hx : xs = (ps.take i).map f ++ ps.drop i) (hi : i < ps.length) (hy : y = f ps[i]) : xs.take i ++ y :: xs.drop (i + 1) = (ps.take (i + 1)).map f ++ ps.drop (i + 1) := by
  have hl : ((ps.take i).map f).length = i := by rw [List.length_map, List.length_take]; omega
  have h1 : xs.take i = (ps.take i).map f := by
    rw [hx, List.take_append_of_le_length (by omega), List.take_of_length_le (by omega)]
  have h2 : xs.drop (i + 1) = ps.drop (i + 1) := by
    rw [hx, List.drop_append, hl, List.drop_of_length_le (by omega), List.nil_append, List.drop_drop, show i + (i + 1 - i) = i + 1 from by omega]
  rw [h1, h2, List.take_succ_eq_append_getElem hi, List.map_append, hy]
  simp
theorem split_at_ {A : Type} (l : List A) (i : Nat) (hi : i < l.length) : l = l.take i ++ l[i] :: l.drop (i + 1) := by
  rw [← List.drop_eq_getElem_cons hi, List.take_append_drop]
theorem depLP_mem {l : List PV} {p : PV} (h : p ∈ l) : p.dep ≤ PV.depL l := by
  induction l with
  | nil => cases h
  | cons v r ih =>
    rw [PV.depL]
    rcases List.mem_cons.1 h with e | h
    · rw [e]; exact Nat.le_max_left _ _
    · exact Nat.le_trans (ih h) (Nat.le_max_right _ _)
def SIH (D : Nat) : Prop := ∀ (x : MV) (w : World), x.pv.dep < D → VAt w x → OkP x.pv → x.pv.right = true → Calls Tryd.prog 28 #[x.val] w fun e w' => PF (SrtP x w) e w'
/-- what lies behind a sort's loops -/
theorem SoS.fin {w w' wf : World} {B base : Nat} {k n : Int} {s : ByteArray} {vl vm : Value} {l m : List MV} {p : PV} (h : SoS w B base k n s #[] vl vm l m w') (hf : Fr (· = w.heap.size + 1) w' wf) (hk : (Lit.int .i64 k).wf = true) (hn : (Lit.int .i64 n).wf = true) (hp : PV.mk k n s (MV.pvL l) (m.map MV.key) (MV.pvL m) = p) : ∃ v' : MV, (.agg #[.int .i64 k, .int .i64 n, .string s, vl, vm]) = v'.val ∧ v'.pv = p ∧ VOwn w.heap.size wf v' ∧ Below w.heap.size w wf := by
  have hbs := h.bs
  have hav : ∀ y, BlkP (base ≤ ·) y → BlkP (fun b => ¬ b = w.heap.size + 1) y := fun y hy => hy.mono (fun b hb => by omega)
  obtain ⟨v', e1, e2, e3, e4, e5, e6, e7, e8, e9⟩ := VOwn.mk' (base := base) hk hn (h.rl.frS hf (fun g hg e => by have := h.rl.ge g hg; have e' : g = w.heap.size + 1 := e; omega) (fun y hy => hav y (h.rl.fr y hy))) (h.rm.frS hf (fun g hg e => by have := h.rm.ge g hg; have e' : g = w.heap.size + 1 := e; omega) (fun y hy => hav y (h.rm.fr y hy))) h.lm h.ml (s := s)
  have hle : w.heap.size ≤ base := by omega
  refine ⟨v', ?_, e8.trans hp, ⟨e9.at_, e9.fr.mono (fun b hb => Nat.le_trans hle hb), e9.l.base_le hle, e9.m.base_le hle, e9.lm, e9.ml⟩, Fr.below_trans h.bel hf h.bel.size (fun b e => by rw [show b = w.heap.size + 1 from e]; omega)⟩
  rw [MV.val, e1, e2, e3, e4, e5, ← e6, ← e7]
/-- the box of a copy -/
theorem SoS.new {w w1 w2 : World} {v : MV} (hb : Below w.heap.size w w1) (hs : w1.heap.size = w.heap.size + 2) (hr : Blk w1 (w.heap.size + 1) 25 #[.int .i64 0, .int .i64 0, .string ⟨#[]⟩, .slice none 0 0, .slice none 0 0]) (hb2 : Below w1.heap.size w1 w2) (hv : VOwn w1.heap.size w2 v) :
    SoS w w2.heap.size w1.heap.size v.k v.n v.s #[] (.slice v.lA v.l.length v.lc) (.slice v.mA v.m.length v.mc) v.l v.m (w2.alloc (.cells #[.int .i64 v.k, .int .i64 v.n, .string v.s, .slice v.lA v.l.length v.lc, .slice v.mA v.m.length v.mc] 25)) := by
  have hb3 := below_new w2 (.cells #[.int .i64 v.k, .int .i64 v.n, .string v.s, .slice v.lA v.l.length v.lc, .slice v.mA v.m.length v.mc] 25)
  have hs2 := hb2.size
  exact ⟨hb.trans ((hb2.trans (hb3.mono hb2.size)).mono (by omega)), (hr.below hb2 hr.lt).alloc _, Blk.new _ _ _, ⟨by omega, hs2⟩, hv.l.below hb3, hv.m.below hb3, hv.lm, hv.ml, fun e => Nat.lt_irrefl _ (hv.l.ltS _ e), fun e => Nat.lt_irrefl _ (hv.m.ltS _ e)⟩
set_option maxRecDepth 100000 in
set_option maxHeartbeats 2000000 in
theorem sorted_one {v : MV} {w : World} (hih : SIH v.pv.dep) (hv : VAt w v) (hok : OkP v.pv) (hr : v.pv.right = true) :
    Calls Tryd.prog 28 #[v.val] w fun e w' => PF (SrtP v w) e w' := by
  have hfit := hok.fit hv
  have hb1 : Below w.heap.size w ((w.alloc (.cells #[.int .i64 v.k, .int .i64 v.n, .string v.s, .slice v.lA v.l.length v.lc, .slice v.mA v.m.length v.mc] 25)).alloc (.cells #[.int .i64 0, .int .i64 0, .string ⟨#[]⟩, .slice none 0 0, .slice none 0 0] 25)) := below_al _ (below_new _ _)
  have hcl := clone_any (hv.bel hb1) _ (Below.refl _ _) hfit
  have hk1 : Blk ((w.alloc (.cells #[.int .i64 v.k, .int .i64 v.n, .string v.s, .slice v.lA v.l.length v.lc, .slice v.mA v.m.length v.mc] 25)).alloc (.cells #[.int .i64 0, .int .i64 0, .string ⟨#[]⟩, .slice none 0 0, .slice none 0 0] 25)) (w.heap.size + 1) 25 #[.int .i64 0, .int .i64 0, .string ⟨#[]⟩, .slice none 0 0, .slice none 0 0] := by
    have h2 := Blk.new (w.alloc (.cells #[.int .i64 v.k, .int .i64 v.n, .string v.s, .slice v.lA v.l.length v.lc, .slice v.mA v.m.length v.mc] 25)) 25 #[.int .i64 0, .int .i64 0, .string ⟨#[]⟩, .slice none 0 0, .slice none 0 0]
    simpa using h2
  unfold MV.val at hcl ⊢
  have HCL := Lib.hid hcl
  have HB1 := Lib.hid hb1
  have HK1 := Lib.hid hk1
  have HS1 : Hid (((w.alloc (.cells #[.int .i64 v.k, .int .i64 v.n, .string v.s, .slice v.lA v.l.length v.lc, .slice v.mA v.m.length v.mc] 25)).alloc (.cells #[.int .i64 0, .int .i64 0, .string ⟨#[]⟩, .slice none 0 0, .slice none 0 0] 25)).heap.size = w.heap.size + 2) := Lib.hid (by simp)
  have HV := Lib.hid hv
  have HIH := Lib.hid hih
  have HOK := Lib.hid hok
  have HR := Lib.hid hr
  clear hfit hb1 hcl hk1 hv hih hok hr
  go_enter Tryd.func28, Tryd.ntmps28
  go_wp2_with fail
  refine HCL.out.mono ?_
  rintro e w2 ⟨v', rfl, hpv, hvo, hb2⟩
  have hss := SoS.new HB1.out HS1.out HK1.out hb2 hvo
  obtain ⟨key, k, n, s, lA, lc, l, mA, mc, m⟩ := v'
  obtain ⟨key0, k0, n0, s0, lA0, lc0, l0, mA0, mc0, m0⟩ := v
  rw [MV.pv, MV.pv] at hpv
  injection hpv with e1 e2 e3 e4 e5 e6
  unfold MV.val
  simp only [MV.k, MV.n, MV.s, MV.lA, MV.lc, MV.l, MV.mA, MV.mc, MV.m] at hss HB1 HS1 HK1 hb2 ⊢
  subst e1 e2 e3
  have hwk := HV.out.wk
  have hrr := HR.out
  have hor := HOK.out
  rw [MV.pv] at hrr hor
  obtain ⟨r0, r1, r2, r3, r4⟩ := rightP hrr
  have hlen : l.length = l0.length := by rw [← pvL_len l, e4, pvL_len]
  have hlem : m.length = m0.length := by rw [← pvL_len m, e6, pvL_len]
  obtain ⟨ps, hps⟩ : ∃ ps, ps = MV.pvL l0 := ⟨_, rfl⟩
  obtain ⟨pm, hpm⟩ : ∃ pm, pm = MV.pvL m0 := ⟨_, rfl⟩
  obtain ⟨ks, hks⟩ : ∃ ks, ks = m0.map MV.key := ⟨_, rfl⟩
  have HSRT : Hid ((MV.mk key0 k n s lA0 lc0 l0 mA0 mc0 m0).pv.sort = .mk k n s (PV.sortL ps) ((isortP (ks.zip (PV.sortL pm))).map (·.1)) ((isortP (ks.zip (PV.sortL pm))).map (·.2))) := Lib.hid (by rw [MV.pv, PV.sort, hps, hpm, hks])
  rw [← hps] at e4 hor r0 r3
  rw [← hpm] at e6 hor r0 r2 r4
  rw [← hks] at e5 hor r1 r2
  have HD : Hid ((MV.mk key0 k n s lA0 lc0 l0 mA0 mc0 m0).pv.dep = max (PV.depL ps) (PV.depL pm) + 1) := Lib.hid (by rw [MV.pv, PV.dep, hps, hpm])
  obtain ⟨nl, hnl⟩ : ∃ nl, nl = l.length := ⟨_, rfl⟩
  obtain ⟨nm, hnm⟩ : ∃ nm, nm = m.length := ⟨_, rfl⟩
  rw [← hnl] at hss hlen ⊢
  rw [← hnm] at hss hlem ⊢
  have HSS0 := Lib.hid hss
  have HNL : Hid (l.length = nl) := Lib.hid hnl.symm
  have HNM : Hid (m.length = nm) := Lib.hid hnm.symm
  have HPS : Hid (MV.pvL l = ps) := Lib.hid e4
  have HPM : Hid (MV.pvL m = pm) := Lib.hid e6
  have HKS : Hid (m.map MV.key = ks) := Lib.hid e5
  have hlp : ps.length = nl := by rw [← e4, pvL_len, hnl]
  have hmp : pm.length = nm := by rw [← e6, pvL_len, hnm]
  have HLP := Lib.hid hlp
  have HMP := Lib.hid hmp
  have HKN := Lib.hid (keysB_nodup r1)
  have HRL : Hid (∀ p ∈ ps, p.right = true ∧ OkP p ∧ p.dep < (MV.mk key0 k n s lA0 lc0 l0 mA0 mc0 m0).pv.dep) := Lib.hid (fun p hp => by
    rw [rightL_all, List.all_eq_true] at r3
    cases hor with
    | mk a b c d e f => exact ⟨r3 p hp, e p hp, by rw [HD.out]; have := depLP_mem hp; omega⟩)
  have HRM : Hid (∀ p ∈ pm, p.right = true ∧ OkP p ∧ p.dep < (MV.mk key0 k n s lA0 lc0 l0 mA0 mc0 m0).pv.dep) := Lib.hid (fun p hp => by
    rw [rightL_all, List.all_eq_true] at r4
    cases hor with
    | mk a b c d e f => exact ⟨r4 p hp, f p hp, by rw [HD.out]; have := depLP_mem hp; omega⟩)
  have hn3 : nl ≤ 3001 ∧ nm ≤ 3001 := by
    cases hor with
    | mk a b c d e f => constructor <;> omega
  have hnl3 : (nl : Int) ≤ 3001 := by omega
  have hnm3 : (nm : Int) ≤ 3001 := by omega
  have HWK := Lib.hid hwk
  have HIH' : Hid (SIH (MV.mk key0 k n s lA0 lc0 l0 mA0 mc0 m0).pv.dep) := HIH
  obtain ⟨c0, c1, c2, c3, c4⟩ := five_cells HSS0.out.box
  clear hss hb2 hvo hwk hrr hor r0 r1 r2 r3 r4 hlen hlem hps hpm hks e4 e5 e6 hnl hnm hn3 hlp hmp HCL HIH HB1 HK1 HS1 HV HR HOK
  go_wp2
  clear c0 c1 c2 c3 c4
  go_loopw [4, 11] (fun y z wr => ∃ (i : Nat) (z0 : Value) (lx : List MV), y = z0 ∧ z = .int .i64 (i : Int) ∧ i ≤ nl ∧ Hid (lx.length = nl) ∧ Hid (MV.pvL lx = (ps.take i).map PV.sort ++ ps.drop i) ∧ Hid (SoS w w2.heap.size ((w.alloc (.cells #[.int .i64 k, .int .i64 n, .string s, .slice lA0 l0.length lc0, .slice mA0 m0.length mc0] 25)).alloc (.cells #[.int .i64 0, .int .i64 0, .string ⟨#[]⟩, .slice none 0 0, .slice none 0 0] 25)).heap.size k n s #[] (.slice lA nl lc) (.slice mA nm mc) lx m wr)) (fun _ z _ => nl - (intOf z).toNat)
  case atStart => exact ⟨0, _, l, rfl, rfl, Nat.zero_le _, HNL, Lib.hid (by rw [HPS.out]; rfl), HSS0⟩
  case round =>
    clear HSS0
    obtain ⟨i, z0, lx, rfl, rfl, hi, HLX, HPX, HS⟩ := hrel
    rcases (by omega : i < nl ∨ i = nl) with hlt | heq
    · have q0 : decide ((i : Int) < (nl : Int)) = true := by rw [decide_eq_true_iff]; omega
      have q0' : decide (i < nl) = true := by rw [decide_eq_true_iff]; omega
      have hil : i < lx.length := by rw [HLX.out]; exact hlt
      obtain ⟨g, c9, hv9, hgl, hc⟩ := HS.out.rl.cellL hil
      injection hv9 with hA hz1 hz2
      clear hz1 hz2
      subst hA
      obtain ⟨x, hx⟩ : ∃ x, x = lx[i] := ⟨_, rfl⟩
      rw [← hx] at hc
      have hpi : i < ps.length := by rw [HLP.out]; exact hlt
      have hxp : x.pv = ps[i] := by
        obtain ⟨h1, h2⟩ := half_at HPX.out hpi
        rw [← h2, hx]
        simp [pvL_map]
      obtain ⟨x1, x2, x3⟩ := HRL.out _ (List.getElem_mem hpi)
      rw [← hxp] at x1 x2 x3
      have HSV : Hid (∀ V, Below wr.heap.size wr V → V.cell? ⟨w2.heap.size, 3, none⟩ = some (.slice (some ⟨g, 0, none⟩) nl lc) ∧ V.cell? ⟨g, i * 5, none⟩ = some (.int .i64 x.k) ∧ V.cell? ⟨g, i * 5 + 1, none⟩ = some (.int .i64 x.n) ∧ V.cell? ⟨g, i * 5 + 2, none⟩ = some (.string x.s) ∧ V.cell? ⟨g, i * 5 + 3, none⟩ = some (.slice x.lA x.l.length x.lc) ∧ V.cell? ⟨g, i * 5 + 4, none⟩ = some (.slice x.mA x.m.length x.mc)) := Lib.hid (fun V hV => by
        have h1 := (HS.out.box.below hV HS.out.box.lt).cell 3
        exact ⟨h1, (hV.cell (p := ⟨g, _, none⟩) hgl).trans (hc 0 (by omega)), (hV.cell (p := ⟨g, _, none⟩) hgl).trans (hc 1 (by omega)), (hV.cell (p := ⟨g, _, none⟩) hgl).trans (hc 2 (by omega)), (hV.cell (p := ⟨g, _, none⟩) hgl).trans (hc 3 (by omega)), (hV.cell (p := ⟨g, _, none⟩) hgl).trans (hc 4 (by omega))⟩)
      have hcall := fun V hV => HIH'.out x V x3 hV x2 x1
      unfold MV.val at hcall
      have hxa : VAt wr x := HS.out.rl.at_ x (by rw [hx]; exact List.getElem_mem hil)
      have HCC : Hid (∀ V, Below wr.heap.size wr V → Calls Tryd.prog 28 #[.agg #[.int .i64 x.k, .int .i64 x.n, .string x.s, .slice x.lA x.l.length x.lc, .slice x.mA x.m.length x.mc]] V fun e w' => PF (SrtP x V) e w') := Lib.hid (fun V hV => hcall V (hxa.bel hV))
      have HXP := Lib.hid hxp
      have HXX := Lib.hid hx
      have HIL := Lib.hid hil
      have HPI := Lib.hid hpi
      have hii : (i : Int) < (nl : Int) := by omega
      have hi0 : (0 : Int) ≤ (i : Int) := by omega
      clear hc hx hxp hcall hgl x1 x2 x3 hxa
      go_wp2_with fail
      refine wp_region_last (S := fun V => Below wr.heap.size wr V) (st := 10) (n := 10) (by kernel_rfl) rfl (by kernel_rfl) rfl ((Below.refl _ _).drew) (fun hS1 => ?_)
      refine wpAnyH_take (i := 0) (oi := ⟨some 14, _, _, _, _, _⟩) (v := .pointer (some ⟨w2.heap.size, 3, none⟩)) rfl (by kernel_rfl) (by kernel_rfl) (by kernel_rfl) (fun _ _ _ h => h) (.inl ⟨by kernel_rfl, fun V hS => by go_simp⟩) hS1 ?_
      simp only [Act.put, List.setIfInBounds_toArray, List.set_cons_zero, List.set_cons_succ]
      refine wpAnyH_take (i := 1) (oi := ⟨some 15, _, _, _, _, _⟩) (v := .slice (some ⟨g, 0, none⟩) nl lc) rfl (by kernel_rfl) (by kernel_rfl) (by kernel_rfl) (fun _ _ _ h => h) (.inl ⟨by kernel_rfl, fun V hS => by obtain ⟨h0, h1, h2, h3, h4, h5⟩ := HSV.out V hS; go_simp⟩) hS1 ?_
      simp only [Act.put, List.setIfInBounds_toArray, List.set_cons_zero, List.set_cons_succ]
      refine wpAnyH_take (i := 2) (oi := ⟨some 16, _, _, _, _, _⟩) (v := .int .i64 (i : Int)) rfl (by kernel_rfl) (by kernel_rfl) (by kernel_rfl) (fun _ _ _ h => h) (.inl ⟨by kernel_rfl, fun V hS => by go_simp⟩) hS1 ?_
      simp only [Act.put, List.setIfInBounds_toArray, List.set_cons_zero, List.set_cons_succ]
      refine wpAnyH_take (i := 3) (oi := ⟨some 17, _, _, _, _, _⟩) (v := .pointer (some ⟨w2.heap.size, 3, none⟩)) rfl (by kernel_rfl) (by kernel_rfl) (by kernel_rfl) (fun _ _ _ h => h) (.inl ⟨by kernel_rfl, fun V hS => by go_simp⟩) hS1 ?_
      simp only [Act.put, List.setIfInBounds_toArray, List.set_cons_zero, List.set_cons_succ]
      refine wpAnyH_take (i := 4) (oi := ⟨some 18, _, _, _, _, _⟩) (v := .slice (some ⟨g, 0, none⟩) nl lc) rfl (by kernel_rfl) (by kernel_rfl) (by kernel_rfl) (fun _ _ _ h => h) (.inl ⟨by kernel_rfl, fun V hS => by obtain ⟨h0, h1, h2, h3, h4, h5⟩ := HSV.out V hS; go_simp⟩) hS1 ?_
      simp only [Act.put, List.setIfInBounds_toArray, List.set_cons_zero, List.set_cons_succ]
      refine wpAnyH_take (i := 5) (oi := ⟨some 19, _, _, _, _, _⟩) (v := .int .i64 (i : Int)) rfl (by kernel_rfl) (by kernel_rfl) (by kernel_rfl) (fun _ _ _ h => h) (.inl ⟨by kernel_rfl, fun V hS => by go_simp⟩) hS1 ?_
      simp only [Act.put, List.setIfInBounds_toArray, List.set_cons_zero, List.set_cons_succ]
      refine wpAnyH_take (i := 6) (oi := ⟨some 20, _, _, _, _, _⟩) (v := .pointer (some ⟨g, i * 5, none⟩)) rfl (by kernel_rfl) (by kernel_rfl) (by kernel_rfl) (fun _ _ _ h => h) (.inl ⟨by kernel_rfl, fun V hS => by go_simp⟩) hS1 ?_
      simp only [Act.put, List.setIfInBounds_toArray, List.set_cons_zero, List.set_cons_succ]
      refine wpAnyH_take (i := 7) (oi := ⟨some 21, _, _, _, _, _⟩) (v := .agg #[.int .i64 x.k, .int .i64 x.n, .string x.s, .slice x.lA x.l.length x.lc, .slice x.mA x.m.length x.mc]) rfl (by kernel_rfl) (by kernel_rfl) (by kernel_rfl) (fun _ _ _ h => h) (.inl ⟨by kernel_rfl, fun V hS => by obtain ⟨h0, h1, h2, h3, h4, h5⟩ := HSV.out V hS; go_simp⟩) hS1 ?_
      simp only [Act.put, List.setIfInBounds_toArray, List.set_cons_zero, List.set_cons_succ]
      refine wpAnyH_ready (rs := [8]) (by kernel_rfl) (by simp) ?_
      refine AllReadyH.cons rfl (fun K' hK => ?_) AllReadyH.nil
      go_simp
      refine (HCC.out _ hS1).mono ?_
      rintro e w3 ⟨x', rfl, hpv, hvo, hb3⟩
      unfold MV.val
      have HPV := Lib.hid hpv
      have HVO := Lib.hid hvo
      have HS3 := Lib.hid ((HS.out.below ((Below.refl _ _).drew)).below hb3)
      clear hpv hvo
      go_simp
      refine hK.out _ _ ((hS1).trans (hb3.mono (hS1).size)) (fun hS2 => ?_)
      clear hK K' hS1
      refine wpAnyH_take (i := 9) (oi := ⟨some 23, _, _, _, _, _⟩) (v := .pointer (some ⟨g, i * 5, none⟩)) rfl (by kernel_rfl) (by kernel_rfl) (by kernel_rfl) (fun _ _ _ h => h) (.inl ⟨by kernel_rfl, fun V hS => by go_simp⟩) hS2 ?_
      simp only [Act.put, List.setIfInBounds_toArray, List.set_cons_zero, List.set_cons_succ]
      refine wpAnyH_done (by kernel_rfl) ?_ _
      refine lastQ_normal (wpOp_step rfl (fun K' hK => ?_))
      obtain ⟨cur, hcur⟩ := own_blk HS3.out.rl rfl
      have z0 := hcur.frozen (i * 5)
      have z1 := hcur.frozen (i * 5 + 1)
      have z2 := hcur.frozen (i * 5 + 2)
      have z3 := hcur.frozen (i * 5 + 3)
      have z4 := hcur.frozen (i * 5 + 4)
      obtain ⟨h0, h1, h2, h3, h4, h5⟩ := HSV.out _ hS2
      clear hcur
      go_simp
      refine hK _ _ ?_
      clear hK K' hS2 z0 z1 z2 z3 z4 h0 h1 h2 h3 h4 h5
      have HPX2 : Hid (MV.pvL (lx.take i ++ x' :: lx.drop (i + 1)) = (ps.take (i + 1)).map PV.sort ++ ps.drop (i + 1)) := Lib.hid (by
        have hh := half_next (y := x'.pv) HPX.out HPI.out (by rw [HPV.out, HXP.out])
        rw [← hh, pvL_map, pvL_map, List.map_append, List.map_cons, List.map_take, List.map_drop])
      have HLX2 : Hid ((lx.take i ++ x' :: lx.drop (i + 1)).length = nl) := Lib.hid (by rw [List.length_append, List.length_cons, List.length_take, List.length_drop]; have := HLX.out; omega)
      have HS4 : Hid (SoS w w2.heap.size ((w.alloc (.cells #[.int .i64 k, .int .i64 n, .string s, .slice lA0 l0.length lc0, .slice mA0 m0.length mc0] 25)).alloc (.cells #[.int .i64 0, .int .i64 0, .string ⟨#[]⟩, .slice none 0 0, .slice none 0 0] 25)).heap.size k n s #[] (.slice (some ⟨g, 0, none⟩) nl lc) (.slice mA nm mc) (lx.take i ++ x' :: lx.drop (i + 1)) m (puts w3 g (i * 5) x'.cs)) := Lib.hid (by
        have h3 := HS3.out
        rw [split_at_ lx i HIL.out] at h3
        exact h3.setL (w' := wr.drew) (by rw [List.length_take]; have := HLX.out; omega) HVO.out (Nat.le_trans HS.out.bs.2 (Nat.le_of_lt HS.out.box.lt)) (fun b e => HS.out.rl.ltS b e) (fun b e => HS.out.rm.ltS b e))
      go_wp2
      go_roundw
      case rel => exact ⟨i + 1, _, lx.take i ++ x' :: lx.drop (i + 1), rfl, by go_num, by omega, HLX2, HPX2, HS4⟩
      case measure => simp [intOf]; omega
    · have q0 : decide ((i : Int) < (nl : Int)) = false := by rw [decide_eq_false_iff_not]; omega
      have q0' : decide (i < nl) = false := by rw [decide_eq_false_iff_not]; omega
      have HPL : Hid (MV.pvL lx = PV.sortL ps) := Lib.hid (by rw [HPX.out, heq, List.take_of_length_le (by rw [HLP.out]; exact Nat.le_refl _), List.drop_of_length_le (by rw [HLP.out]; exact Nat.le_refl _), List.append_nil, sortL_map])
      obtain ⟨c0, c1, c2, c3, c4⟩ := five_cells HS.out.box
      clear heq HPX
      go_wp2
      clear c0 c1 c2 c3 c4
      go_loopw [5, 28] (fun y z wr => ∃ (i : Nat) (z0 : Value) (mx : List MV), y = z0 ∧ z = .int .i64 (i : Int) ∧ i ≤ nm ∧ Hid (mx.length = nm) ∧ Hid (mx.map MV.key = ks) ∧ Hid (MV.pvL mx = (pm.take i).map PV.sort ++ pm.drop i) ∧ Hid (SoS w w2.heap.size ((w.alloc (.cells #[.int .i64 k, .int .i64 n, .string s, .slice lA0 l0.length lc0, .slice mA0 m0.length mc0] 25)).alloc (.cells #[.int .i64 0, .int .i64 0, .string ⟨#[]⟩, .slice none 0 0, .slice none 0 0] 25)).heap.size k n s #[] (.slice lA nl lc) (.slice mA nm mc) lx mx wr)) (fun _ z _ => nm - (intOf z).toNat)
      case atStart => exact ⟨0, _, m, rfl, rfl, Nat.zero_le _, HNM, HKS, Lib.hid (by rw [HPM.out]; rfl), HS⟩
      case round =>
        clear HS
        obtain ⟨i, z0, mx, rfl, rfl, hi, HLX, HKX, HPX, HS⟩ := hrel
        rcases (by omega : i < nm ∨ i = nm) with hlt | heq
        · have q5 : decide ((i : Int) < (nm : Int)) = true := by rw [decide_eq_true_iff]; omega
          have q5' : decide (i < nm) = true := by rw [decide_eq_true_iff]; omega
          have hil : i < mx.length := by rw [HLX.out]; exact hlt
          obtain ⟨g, c9, hv9, hgl, hc⟩ := HS.out.rm.cellM hil
          injection hv9 with hA hz1 hz2
          clear hz1 hz2
          subst hA
          obtain ⟨x, hx⟩ : ∃ x, x = mx[i] := ⟨_, rfl⟩
          rw [← hx] at hc
          have hpi : i < pm.length := by rw [HMP.out]; exact hlt
          have hxp : x.pv = pm[i] := by
            obtain ⟨h1, h2⟩ := half_at HPX.out hpi
            rw [← h2, hx]
            simp [pvL_map]
          obtain ⟨x1, x2, x3⟩ := HRM.out _ (List.getElem_mem hpi)
          rw [← hxp] at x1 x2 x3
          have HSV : Hid (∀ V, Below wr.heap.size wr V → V.cell? ⟨w2.heap.size, 4, none⟩ = some (.slice (some ⟨g, 0, none⟩) nm mc) ∧ V.cell? ⟨g, i * 6 + 1, none⟩ = some (.int .i64 x.k) ∧ V.cell? ⟨g, i * 6 + 1 + 1, none⟩ = some (.int .i64 x.n) ∧ V.cell? ⟨g, i * 6 + 1 + 2, none⟩ = some (.string x.s) ∧ V.cell? ⟨g, i * 6 + 1 + 3, none⟩ = some (.slice x.lA x.l.length x.lc) ∧ V.cell? ⟨g, i * 6 + 1 + 4, none⟩ = some (.slice x.mA x.m.length x.mc)) := Lib.hid (fun V hV => by
            have h1 := (HS.out.box.below hV HS.out.box.lt).cell 4
            exact ⟨h1, (hV.cell (p := ⟨g, _, none⟩) hgl).trans (hc 1 (by omega)), (hV.cell (p := ⟨g, _, none⟩) hgl).trans (hc 2 (by omega)), (hV.cell (p := ⟨g, _, none⟩) hgl).trans (hc 3 (by omega)), (hV.cell (p := ⟨g, _, none⟩) hgl).trans (hc 4 (by omega)), (hV.cell (p := ⟨g, _, none⟩) hgl).trans (hc 5 (by omega))⟩)
          have hcall := fun V hV => HIH'.out x V x3 hV x2 x1
          unfold MV.val at hcall
          have hxa : VAt wr x := HS.out.rm.at_ x (by rw [hx]; exact List.getElem_mem hil)
          have HCC : Hid (∀ V, Below wr.heap.size wr V → Calls Tryd.prog 28 #[.agg #[.int .i64 x.k, .int .i64 x.n, .string x.s, .slice x.lA x.l.length x.lc, .slice x.mA x.m.length x.mc]] V fun e w' => PF (SrtP x V) e w') := Lib.hid (fun V hV => hcall V (hxa.bel hV))
          have HXP := Lib.hid hxp
          have HXX := Lib.hid hx
          have HIL := Lib.hid hil
          have HPI := Lib.hid hpi
          have hii : (i : Int) < (nm : Int) := by omega
          have hi0 : (0 : Int) ≤ (i : Int) := by omega
          clear hc hx hxp hcall hgl x1 x2 x3 hxa
          go_wp2_with fail
          refine wp_region_last (S := fun V => Below wr.heap.size wr V) (st := 12) (n := 12) (by kernel_rfl) rfl (by kernel_rfl) rfl ((Below.refl _ _).drew) (fun hS1 => ?_)
          refine wpAnyH_take (i := 0) (oi := ⟨some 31, _, _, _, _, _⟩) (v := .pointer (some ⟨w2.heap.size, 4, none⟩)) rfl (by kernel_rfl) (by kernel_rfl) (by kernel_rfl) (fun _ _ _ h => h) (.inl ⟨by kernel_rfl, fun V hS => by go_simp⟩) hS1 ?_
          simp only [Act.put, List.setIfInBounds_toArray, List.set_cons_zero, List.set_cons_succ]
          refine wpAnyH_take (i := 1) (oi := ⟨some 32, _, _, _, _, _⟩) (v := .slice (some ⟨g, 0, none⟩) nm mc) rfl (by kernel_rfl) (by kernel_rfl) (by kernel_rfl) (fun _ _ _ h => h) (.inl ⟨by kernel_rfl, fun V hS => by obtain ⟨h0, h1, h2, h3, h4, h5⟩ := HSV.out V hS; go_simp⟩) hS1 ?_
          simp only [Act.put, List.setIfInBounds_toArray, List.set_cons_zero, List.set_cons_succ]
          refine wpAnyH_take (i := 2) (oi := ⟨some 33, _, _, _, _, _⟩) (v := .int .i64 (i : Int)) rfl (by kernel_rfl) (by kernel_rfl) (by kernel_rfl) (fun _ _ _ h => h) (.inl ⟨by kernel_rfl, fun V hS => by go_simp⟩) hS1 ?_
          simp only [Act.put, List.setIfInBounds_toArray, List.set_cons_zero, List.set_cons_succ]
          refine wpAnyH_take (i := 3) (oi := ⟨some 34, _, _, _, _, _⟩) (v := .pointer (some ⟨w2.heap.size, 4, none⟩)) rfl (by kernel_rfl) (by kernel_rfl) (by kernel_rfl) (fun _ _ _ h => h) (.inl ⟨by kernel_rfl, fun V hS => by go_simp⟩) hS1 ?_
          simp only [Act.put, List.setIfInBounds_toArray, List.set_cons_zero, List.set_cons_succ]
          refine wpAnyH_take (i := 4) (oi := ⟨some 35, _, _, _, _, _⟩) (v := .slice (some ⟨g, 0, none⟩) nm mc) rfl (by kernel_rfl) (by kernel_rfl) (by kernel_rfl) (fun _ _ _ h => h) (.inl ⟨by kernel_rfl, fun V hS => by obtain ⟨h0, h1, h2, h3, h4, h5⟩ := HSV.out V hS; go_simp⟩) hS1 ?_
          simp only [Act.put, List.setIfInBounds_toArray, List.set_cons_zero, List.set_cons_succ]
          refine wpAnyH_take (i := 5) (oi := ⟨some 36, _, _, _, _, _⟩) (v := .int .i64 (i : Int)) rfl (by kernel_rfl) (by kernel_rfl) (by kernel_rfl) (fun _ _ _ h => h) (.inl ⟨by kernel_rfl, fun V hS => by go_simp⟩) hS1 ?_
          simp only [Act.put, List.setIfInBounds_toArray, List.set_cons_zero, List.set_cons_succ]
          refine wpAnyH_take (i := 6) (oi := ⟨some 37, _, _, _, _, _⟩) (v := .pointer (some ⟨g, i * 6, none⟩)) rfl (by kernel_rfl) (by kernel_rfl) (by kernel_rfl) (fun _ _ _ h => h) (.inl ⟨by kernel_rfl, fun V hS => by go_simp⟩) hS1 ?_
          simp only [Act.put, List.setIfInBounds_toArray, List.set_cons_zero, List.set_cons_succ]
          refine wpAnyH_take (i := 7) (oi := ⟨some 38, _, _, _, _, _⟩) (v := .pointer (some ⟨g, i * 6 + 1, none⟩)) rfl (by kernel_rfl) (by kernel_rfl) (by kernel_rfl) (fun _ _ _ h => h) (.inl ⟨by kernel_rfl, fun V hS => by go_simp⟩) hS1 ?_
          simp only [Act.put, List.setIfInBounds_toArray, List.set_cons_zero, List.set_cons_succ]
          refine wpAnyH_take (i := 8) (oi := ⟨some 39, _, _, _, _, _⟩) (v := .agg #[.int .i64 x.k, .int .i64 x.n, .string x.s, .slice x.lA x.l.length x.lc, .slice x.mA x.m.length x.mc]) rfl (by kernel_rfl) (by kernel_rfl) (by kernel_rfl) (fun _ _ _ h => h) (.inl ⟨by kernel_rfl, fun V hS => by obtain ⟨h0, h1, h2, h3, h4, h5⟩ := HSV.out V hS; go_simp⟩) hS1 ?_
          simp only [Act.put, List.setIfInBounds_toArray, List.set_cons_zero, List.set_cons_succ]
          refine wpAnyH_ready (rs := [9]) (by kernel_rfl) (by simp) ?_
          refine AllReadyH.cons rfl (fun K' hK => ?_) AllReadyH.nil
          go_simp
          refine (HCC.out _ hS1).mono ?_
          rintro e w3 ⟨x', rfl, hpv, hvo, hb3⟩
          unfold MV.val
          have HPV := Lib.hid hpv
          have HVO := Lib.hid hvo
          have HS3 := Lib.hid ((HS.out.below ((Below.refl _ _).drew)).below hb3)
          clear hpv hvo
          go_simp
          refine hK.out _ _ ((hS1).trans (hb3.mono (hS1).size)) (fun hS2 => ?_)
          clear hK K' hS1
          refine wpAnyH_take (i := 10) (oi := ⟨some 41, _, _, _, _, _⟩) (v := .pointer (some ⟨g, i * 6, none⟩)) rfl (by kernel_rfl) (by kernel_rfl) (by kernel_rfl) (fun _ _ _ h => h) (.inl ⟨by kernel_rfl, fun V hS => by go_simp⟩) hS2 ?_
          simp only [Act.put, List.setIfInBounds_toArray, List.set_cons_zero, List.set_cons_succ]
          refine wpAnyH_take (i := 11) (oi := ⟨some 42, _, _, _, _, _⟩) (v := .pointer (some ⟨g, i * 6 + 1, none⟩)) rfl (by kernel_rfl) (by kernel_rfl) (by kernel_rfl) (fun _ _ _ h => h) (.inl ⟨by kernel_rfl, fun V hS => by go_simp⟩) hS2 ?_
          simp only [Act.put, List.setIfInBounds_toArray, List.set_cons_zero, List.set_cons_succ]
          refine wpAnyH_done (by kernel_rfl) ?_ _
          refine lastQ_normal (wpOp_step rfl (fun K' hK => ?_))
          obtain ⟨cur, hcur⟩ := own_blk HS3.out.rm rfl
          have z0 := hcur.frozen (i * 6 + 1)
          have z1 := hcur.frozen (i * 6 + 1 + 1)
          have z2 := hcur.frozen (i * 6 + 1 + 2)
          have z3 := hcur.frozen (i * 6 + 1 + 3)
          have z4 := hcur.frozen (i * 6 + 1 + 4)
          obtain ⟨h0, h1, h2, h3, h4, h5⟩ := HSV.out _ hS2
          clear hcur
          go_simp
          refine hK _ _ ?_
          clear hK K' hS2 z0 z1 z2 z3 z4 h0 h1 h2 h3 h4 h5
          obtain ⟨x'', hx''⟩ : ∃ x'' : MV, x'' = .mk x.key x'.k x'.n x'.s x'.lA x'.lc x'.l x'.mA x'.mc x'.m := ⟨_, rfl⟩
          have HX2 : Hid (x''.key = x.key ∧ x''.pv = x'.pv) := Lib.hid (by rw [hx'']; exact ⟨rfl, by cases x'; rfl⟩)
          have HPX2 : Hid (MV.pvL (mx.take i ++ x'' :: mx.drop (i + 1)) = (pm.take (i + 1)).map PV.sort ++ pm.drop (i + 1)) := Lib.hid (by
            have hh := half_next (y := x''.pv) HPX.out HPI.out (by rw [HX2.out.2, HPV.out, HXP.out])
            rw [← hh, pvL_map, pvL_map, List.map_append, List.map_cons, List.map_take, List.map_drop])
          have HLX2 : Hid ((mx.take i ++ x'' :: mx.drop (i + 1)).length = nm) := Lib.hid (by rw [List.length_append, List.length_cons, List.length_take, List.length_drop]; have := HLX.out; omega)
          have HKX2 : Hid ((mx.take i ++ x'' :: mx.drop (i + 1)).map MV.key = ks) := Lib.hid (by
            rw [List.map_append, List.map_cons, HX2.out.1, HXX.out, ← HKX.out]
            conv => rhs; rw [split_at_ mx i HIL.out, List.map_append, List.map_cons])
          have HS4 : Hid (SoS w w2.heap.size ((w.alloc (.cells #[.int .i64 k, .int .i64 n, .string s, .slice lA0 l0.length lc0, .slice mA0 m0.length mc0] 25)).alloc (.cells #[.int .i64 0, .int .i64 0, .string ⟨#[]⟩, .slice none 0 0, .slice none 0 0] 25)).heap.size k n s #[] (.slice lA nl lc) (.slice (some ⟨g, 0, none⟩) nm mc) lx (mx.take i ++ x'' :: mx.drop (i + 1)) (puts w3 g (i * 6 + 1) x'.cs)) := Lib.hid (by
            have h3 := HS3.out
            rw [split_at_ mx i HIL.out] at h3
            rw [hx'', HXX.out]
            exact h3.setM (w' := wr.drew) (by rw [List.length_take]; have := HLX.out; omega) HVO.out (Nat.le_trans HS.out.bs.2 (Nat.le_of_lt HS.out.box.lt)) (fun b e => HS.out.rm.ltS b e) (fun b e => HS.out.rl.ltS b e))
          clear hx''
          go_wp2
          go_roundw
          case rel => exact ⟨i + 1, _, mx.take i ++ x'' :: mx.drop (i + 1), rfl, by go_num, by omega, HLX2, HKX2, HPX2, HS4⟩
          case measure => simp [intOf]; omega
        · have q5 : decide ((i : Int) < (nm : Int)) = false := by rw [decide_eq_false_iff_not]; omega
          have q5' : decide (i < nm) = false := by rw [decide_eq_false_iff_not]; omega
          have HPM2 : Hid (MV.pvL mx = PV.sortL pm) := Lib.hid (by rw [HPX.out, heq, List.take_of_length_le (by rw [HMP.out]; exact Nat.le_refl _), List.drop_of_length_le (by rw [HMP.out]; exact Nat.le_refl _), List.append_nil, sortL_map])
          obtain ⟨c0, c1, c2, c3, c4⟩ := five_cells HS.out.box
          have HMX : Hid (mx.length ≤ 1000000) := Lib.hid (by rw [HLX.out]; omega)
          have HLM : Hid (.slice mA nm mc = Value.slice mA nm mc) := Lib.hid rfl
          clear heq HPX
          go_wp2_with fail
          refine (sort_any HS.out.rm HMX.out).mono ?_
          rintro e w5 ⟨m5, rfl, hp5, hs5, hr5, hf5⟩
          have HS5 := Lib.hid (HS.out.sortM hp5 hr5 hf5)
          have HSP := Lib.hid (sort_pairs HKX.out HPM2.out HKN.out hp5 hs5)
          obtain ⟨s0, s1, s2, s3, s4⟩ := five_cells HS5.out.box
          obtain ⟨t0, t1, t2, t3, t4⟩ := five_cells HS5.out.res
          obtain ⟨z0, z1, z2, z3, z4⟩ := five_fr HS5.out.res
          have HFIN := Lib.hid (HS5.out.fin (wf := (((((w5.setCell ⟨w.heap.size + 1, 0, none⟩ (.int .i64 k)).setCell ⟨w.heap.size + 1, 1, none⟩ (.int .i64 n)).setCell ⟨w.heap.size + 1, 2, none⟩ (.string s)).setCell ⟨w.heap.size + 1, 3, none⟩ (.slice lA nl lc)).setCell ⟨w.heap.size + 1, 4, none⟩ (.slice mA nm mc))) ((((((Fr.refl (· = w.heap.size + 1) w5).setCell (p := ⟨w.heap.size + 1, 0, none⟩) (fun _ => rfl) _).setCell (p := ⟨w.heap.size + 1, 1, none⟩) (fun _ => rfl) _).setCell (p := ⟨w.heap.size + 1, 2, none⟩) (fun _ => rfl) _).setCell (p := ⟨w.heap.size + 1, 3, none⟩) (fun _ => rfl) _).setCell (p := ⟨w.heap.size + 1, 4, none⟩) (fun _ => rfl) _) HWK.out.1 HWK.out.2 (p := (MV.mk key0 k n s lA0 lc0 l0 mA0 mc0 m0).pv.sort) (by rw [HSRT.out, HSP.out.1, HSP.out.2, HPL.out]))
          have HKF : Hid (Blk (((((w5.setCell ⟨w.heap.size + 1, 0, none⟩ (.int .i64 k)).setCell ⟨w.heap.size + 1, 1, none⟩ (.int .i64 n)).setCell ⟨w.heap.size + 1, 2, none⟩ (.string s)).setCell ⟨w.heap.size + 1, 3, none⟩ (.slice lA nl lc)).setCell ⟨w.heap.size + 1, 4, none⟩ (.slice mA nm mc)) (w.heap.size + 1) 25 #[.int .i64 k, .int .i64 n, .string s, .slice lA nl lc, .slice mA nm mc]) := Lib.hid (((((HS5.out.res.set_ 0 _).set_ 1 _).set_ 2 _).set_ 3 _).set_ 4 _)
          clear hp5 hs5 hr5 hf5 c0 c1 c2 c3 c4
          go_wp2
          generalize (((((w5.setCell ⟨w.heap.size + 1, 0, none⟩ (.int .i64 k)).setCell ⟨w.heap.size + 1, 1, none⟩ (.int .i64 n)).setCell ⟨w.heap.size + 1, 2, none⟩ (.string s)).setCell ⟨w.heap.size + 1, 3, none⟩ (.slice lA nl lc)).setCell ⟨w.heap.size + 1, 4, none⟩ (.slice mA nm mc)) = Wf at HKF HFIN ⊢
          obtain ⟨k0, k1, k2, k3, k4⟩ := five_cells HKF.out
          obtain ⟨v9, f1, f2, f3, f4⟩ := HFIN.out
          refine bodyPost_ret (v := .agg #[.int .i64 k, .int .i64 n, .string s, .slice lA nl lc, .slice mA nm mc]) (by simp [results, Tryd.results28, go_sem, k0, k1, k2, k3, k4]) rfl ?_
          exact ⟨v9, by rw [f1], f2, f3, f4⟩
theorem sorted_any : ∀ (D : Nat) (v : MV) (w : World), v.pv.dep < D → VAt w v → OkP v.pv → v.pv.right = true → Calls Tryd.prog 28 #[v.val] w fun e w' => PF (SrtP v w) e w'
  | 0, _, _, h, _, _, _ => absurd h (Nat.not_lt_zero _)
  | D + 1, v, w, h, hv, hok, hr => sorted_one (fun x W hx => sorted_any D x W (by omega)) hv hok hr
end Go.Proofs.YteodigdcdhceiaaDoor
