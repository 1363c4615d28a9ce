/-
  parse: lists.
-/
import Derived.Test.YteofdpogjnojnaaGreatDoorPaR
import Derived.Test.YteofdpogjnojnaaGreatDoorGPc
namespace Go.Proofs.YteofdpogjnojnaaGreatDoor
open Go.RowKit Utf Pa
attribute [local go_sem ↓] Go.wp_at_zero Go.wp_at_succ
set_option linter.unusedVariables false
set_option linter.unusedSimpArgs false

def zMV : MV := .mk ⟨#[]⟩ 0 0 ⟨#[]⟩ none 0 [] none 0 []
theorem zMV_at (w : World) : VAt w zMV := .mk rfl rfl Reads.none_ (Nat.le_refl _) (by simp [maxLen]) Reads.none_ (Nat.le_refl _) (by simp [maxLen]) (fun x hx => by cases hx) (fun x hx => by cases hx)
theorem zMV_blk {P : Nat → Prop} : BlkP P zMV := .mk (fun h => absurd rfl h) (fun h => absurd rfl h) (fun x hx => by cases hx) (fun x hx => by cases hx)
theorem VOwn.below {base : Nat} {w w' : World} {v : MV} (h : VOwn base w v) (hb : Below w.heap.size w w') : VOwn base w' v := ⟨h.at_.bel hb, h.fr, h.l.below hb, h.m.below hb, h.lm, h.ml⟩
theorem vown_le {base base' : Nat} {w : World} {v : MV} (h : VOwn base w v) (hb : base' ≤ base) : VOwn base' w v := ⟨h.at_, h.fr.mono (fun b hb' => Nat.le_trans hb hb'), h.l.base_le hb, h.m.base_le hb, h.lm, h.ml⟩
/-- what value answers -/
def ValP (W : World) (B : Nat) (s : ByteArray) (r : St × PV) (w : World) (e : Ending) (w' : World) : Prop := ∃ v : MV, e = .returned v.val ∧ v.pv = r.2 ∧ VOwn w.heap.size w' v ∧ PSt W B s w' r.1 ∧ Fr (· = B) w w'
def VC (W : World) (B : Nat) (s : ByteArray) (d : Nat) : Prop := ∀ w p, PSt W B s w p → Calls Tryz.prog 17 #[.pointer (some ⟨B, 0, none⟩), .int .i64 (d : Int)] w fun e w' => PF (ValP W B s (valP d p) w) e w'

/-- what stands while a list is read: the boxes, the row -/
structure JL (B BV BP BD bs : Nat) (d : Int) (w : World) (l : List PV) : Prop where
  ex : ∃ vl ml, Blk w BV 25 #[.int .i64 5, .int .i64 0, .string ⟨#[]⟩, vl, .slice none 0 0] ∧ ROwn 25 5 MV.cs bs w vl ml ∧ MV.pvL ml = l
  bp : Blk w BP 43 #[.pointer (some ⟨B, 0, none⟩)]
  bd : Blk w BD 3 #[.int .i64 d]
theorem row_z {base g cap : Nat} {w : World} {ml : List MV} (h : ROwn 25 5 MV.cs base w (.slice (some ⟨g, 0, none⟩) (ml.length + 1) cap) (ml ++ [zMV])) (j : Nat) (hj : j < 5) : w.cell? ⟨g, ml.length * 5 + j, none⟩ = zMV.cs[j]? := by
  have h1 : w.ownsRow base 25 5 (.slice (some ⟨g, 0, none⟩) (ml.length + 1) cap) (ml.length + 1) ((ml ++ [zMV]).flatMap MV.cs) := by have := h.own; simpa using this
  rw [h1.cellAt _ (by omega)]
  have := csL_at (ml ++ [zMV]) ml.length (by simp) j hj
  rw [this]
  simp
theorem row_own {base g cap : Nat} {w : World} {ml : List MV} (h : ROwn 25 5 MV.cs base w (.slice (some ⟨g, 0, none⟩) (ml.length + 1) cap) (ml ++ [zMV])) : w.ownsRow base 25 5 (.slice (some ⟨g, 0, none⟩) (ml.length + 1) cap) (ml.length + 1) ((ml ++ [zMV]).flatMap MV.cs) := by
  have := h.own
  simpa using this
theorem row_form {base : Nat} {w w4 : World} {v4 : Value} {ml : List MV} (h : ROwn 25 5 MV.cs base w4 v4 (ml ++ [zMV])) : ∃ g cap, v4 = .slice (some ⟨g, 0, none⟩) (ml.length + 1) cap ∧ base ≤ g := by
  obtain ⟨g, cap, e, h1, _⟩ := h.own.form (by simp)
  exact ⟨g, cap, by rw [e]; simp, h1⟩
section
variable {W w w4 w5 w6 : World} {B BV BP BD bs g cap base : Nat} {d : Int} {s : ByteArray} {p' : St} {ml : List MV} {v : MV} {l : List PV} {pv : PV} {old : Value}
theorem lst_end (hbv : Blk w5 BV 25 #[.int .i64 5, .int .i64 0, .string ⟨#[]⟩, old, .slice none 0 0]) (hbp : Blk w4 BP 43 #[.pointer (some ⟨B, 0, none⟩)]) (hbd : Blk w4 BD 3 #[.int .i64 d]) (hp : PSt W B s w4 p') (hf : Fr (· = g) w4 w5) (hr : ROwn 25 5 MV.cs bs w5 (.slice (some ⟨g, 0, none⟩) (ml.length + 1) cap) (ml ++ [v])) (hv : v.pv = pv) (hw : Fr (fun b => b = B ∨ bs ≤ b) w w4) (hne : B < base ∧ base ≤ BV ∧ B < BP ∧ B < BD ∧ BV < bs ∧ BP < bs ∧ BD < bs ∧ BP ≠ BV ∧ BD ≠ BV ∧ W.heap.size ≤ B) (hg : bs ≤ g) :
    OneP W B s base (JL B BV BP BD bs d) (p', MV.pvL ml ++ [pv]) w (.returned (.tuple #[])) (w5.setCell ⟨BV, 3, none⟩ (.slice (some ⟨g, 0, none⟩) (ml.length + 1) cap)) := by
  have hs : Fr (· = BV) w5 (w5.setCell ⟨BV, 3, none⟩ (.slice (some ⟨g, 0, none⟩) (ml.length + 1) cap)) := frB
  refine ⟨rfl, (hp.fr hf (by omega) (fun b e => by omega)).fr hs (by omega) (fun b e => by omega), ⟨⟨_, ml ++ [v], ?_, hr.frS hs (fun k hk e => by have := hr.ge k hk; omega) (fun x hx => (hr.fr x hx).mono (fun b hb e => by omega)), by rw [pvL_snoc, hv]⟩, ?_, ?_⟩, ((hw.mono (fun b _ e => e.imp id (fun e => by omega))).trans (hf.mono (fun b _ e => .inr (by omega)))).trans (hs.mono (fun b _ e => .inr (by omega)))⟩
  · have := hbv.set_ 3 (.slice (some ⟨g, 0, none⟩) (ml.length + 1) cap)
    simpa using this
  · exact (hbp.fr hf (by omega)).fr hs (by omega)
  · exact (hbd.fr hf (by omega)).fr hs (by omega)
theorem lst_end2 (hbv : Blk w5 BV 25 #[.int .i64 5, .int .i64 0, .string ⟨#[]⟩, .slice (some ⟨g, 0, none⟩) (ml.length + 1) cap, .slice none 0 0]) (hbp : Blk w4 BP 43 #[.pointer (some ⟨B, 0, none⟩)]) (hbd : Blk w4 BD 3 #[.int .i64 d]) (hp : PSt W B s w4 p') (hs : Fr (· = BV) w4 w5) (hf : Fr (· = g) w5 w6) (hr : ROwn 25 5 MV.cs bs w6 (.slice (some ⟨g, 0, none⟩) (ml.length + 1) cap) (ml ++ [v])) (hv : v.pv = pv) (hw : Fr (fun b => b = B ∨ bs ≤ b) w w4) (hne : B < base ∧ base ≤ BV ∧ B < BP ∧ B < BD ∧ BV < bs ∧ BP < bs ∧ BD < bs ∧ BP ≠ BV ∧ BD ≠ BV ∧ W.heap.size ≤ B) (hg : bs ≤ g) :
    OneP W B s base (JL B BV BP BD bs d) (p', MV.pvL ml ++ [pv]) w (.returned (.tuple #[])) w6 := by
  refine ⟨rfl, (hp.fr hs (by omega) (fun b e => by omega)).fr hf (by omega) (fun b e => by omega), ⟨⟨_, ml ++ [v], hbv.fr hf (by omega), hr, by rw [pvL_snoc, hv]⟩, ?_, ?_⟩, ((hw.mono (fun b _ e => e.imp id (fun e => by omega))).trans (hs.mono (fun b _ e => .inr (by omega)))).trans (hf.mono (fun b _ e => .inr (by omega)))⟩
  · exact (hbp.fr hs (by omega)).fr hf (by omega)
  · exact (hbd.fr hs (by omega)).fr hf (by omega)
end
set_option maxRecDepth 100000 in
set_option maxHeartbeats 16000000 in
theorem list1_any {W : World} {B : Nat} {s : ByteArray} (d : Nat) (hC : VC W B s d) (BV BP BD bs base : Nat) (hne : B < base ∧ base ≤ BV ∧ B < BP ∧ B < BD ∧ BV < bs ∧ BP < bs ∧ BD < bs ∧ BP ≠ BV ∧ BD ≠ BV ∧ W.heap.size ≤ B) {w : World} {p : St} {l : List PV} (hbs : bs ≤ w.heap.size) (hp : PSt W B s w p) (he : p.e = 0) (hl : l.length ≤ p.c) (hj : JL B BV BP BD bs d w l) :
    Calls Tryz.prog 63 #[.pointer (some ⟨BV, 0, none⟩), .pointer (some ⟨BP, 0, none⟩), .pointer (some ⟨BD, 0, none⟩)] w fun e w' => PF (OneP W B s base (JL B BV BP BD bs d) (oneL (valP d) p l) w) e w' := by
  obtain ⟨⟨vl, ml, hbv, hrow, hpl⟩, hbp, hbd⟩ := hj
  subst hpl
  rw [pvL_len] at hl
  obtain ⟨vA, vc, rfl, _⟩ := hrow.shape
  have HC := Lib.hid hC
  have HNE := Lib.hid hne
  have HBS := Lib.hid hbs
  have HPS0 := Lib.hid hp
  have HROW := Lib.hid hrow
  have HLEN : Hid (ml.length ≤ 1000000000) := Lib.hid (by have := hp.pc.2 he; omega)
  have hml9 : (ml.length : Int) ≤ 4096 := by have := hp.pc.2 he; omega
  have hml0 : (0 : Int) ≤ (ml.length : Int) := by omega
  have HS0 : Hid ((fun V => Blk V BV 25 #[.int .i64 5, .int .i64 0, .string ⟨#[]⟩, .slice vA ml.length vc, .slice none 0 0] ∧ Blk V BP 43 #[.pointer (some ⟨B, 0, none⟩)] ∧ Blk V BD 3 #[.int .i64 d]) w.drew) := Lib.hid ⟨hbv, hbp, hbd⟩
  clear hC hne hbs hp hrow hbv hbp hbd hl he
  unfold oneL
  go_enter Tryz.func63, Tryz.ntmps63
  go_wp2_with fail
  refine wp_region_heldT (S := fun V => Blk V BV 25 #[.int .i64 5, .int .i64 0, .string ⟨#[]⟩, .slice vA ml.length vc, .slice none 0 0] ∧ Blk V BP 43 #[.pointer (some ⟨B, 0, none⟩)] ∧ Blk V BD 3 #[.int .i64 d]) 7 (by kernel_rfl) (HS0.out) (fun hS1 => ?_)
  obtain ⟨WD, hWD⟩ : ∃ WD, WD = w.drew := ⟨_, rfl⟩
  rw [← hWD] at hS1 ⊢
  have HBD : Hid (Below w.heap.size w WD) := Lib.hid (by rw [hWD]; exact (Below.refl _ _).drew)
  clear hWD
  refine wpAnyT_pure (i := 0) (oi := ⟨some 3, _, _, _, _, _⟩) (v := .pointer (some ⟨BV, 3, none⟩)) rfl (by kernel_rfl) (by kernel_rfl) (by kernel_rfl) (by decide) (fun _ _ _ h => h) (.inl ⟨by kernel_rfl, fun V hS => by go_simp⟩) hS1 ?_
  simp only [Act.put, List.setIfInBounds_toArray, List.set_cons_zero, List.set_cons_succ]
  refine wpAnyT_take (i := 1) (oi := ⟨some 4, _, _, _, _, _⟩) (v := .slice vA ml.length vc) rfl (by kernel_rfl) (by kernel_rfl) (by kernel_rfl) (by kernel_rfl) (by kernel_rfl) (fun _ _ _ h => h) (.inl ⟨by kernel_rfl, fun V hS => by have sc := hS.1.cell 3; simp at sc; go_simp⟩) hS1 ?_
  simp only [Act.put, List.setIfInBounds_toArray, List.set_cons_zero, List.set_cons_succ]
  refine wpAnyT_take (i := 2) (oi := ⟨some 5, _, _, _, _, _⟩) (v := .pointer (some ⟨B, 0, none⟩)) rfl (by kernel_rfl) (by kernel_rfl) (by kernel_rfl) (by kernel_rfl) (by kernel_rfl) (fun _ _ _ h => h) (.inl ⟨by kernel_rfl, fun V hS => by have sc := hS.2.1.cell 0; simp at sc; go_simp⟩) hS1 ?_
  simp only [Act.put, List.setIfInBounds_toArray, List.set_cons_zero, List.set_cons_succ]
  refine wpAnyT_take (i := 3) (oi := ⟨some 6, _, _, _, _, _⟩) (v := .int .i64 d) rfl (by kernel_rfl) (by kernel_rfl) (by kernel_rfl) (by kernel_rfl) (by kernel_rfl) (fun _ _ _ h => h) (.inl ⟨by kernel_rfl, fun V hS => by have sc := hS.2.2.cell 0; simp at sc; go_simp⟩) hS1 ?_
  simp only [Act.put, List.setIfInBounds_toArray, List.set_cons_zero, List.set_cons_succ]
  refine wpAnyT_pure (i := 5) (oi := ⟨some 8, _, _, _, _, _⟩) (v := .int .i64 (ml.length : Int)) rfl (by kernel_rfl) (by kernel_rfl) (by kernel_rfl) (by decide) (fun _ _ _ h => h) (.inl ⟨by kernel_rfl, fun V hS => by go_simp⟩) hS1 ?_
  simp only [Act.put, List.setIfInBounds_toArray, List.set_cons_zero, List.set_cons_succ]
  refine wpAnyT_ready (rs := [4, 6]) (by kernel_rfl) (by simp) ?_
  refine AllReadyT.cons rfl (fun K' hK => ?_) (AllReadyT.cons rfl (fun K' hK => ?_) AllReadyT.nil)
  · go_simp
    refine (HC.out WD _ (HPS0.out.below HBD.out)).mono ?_
    rintro e w1 ⟨v, rfl, hpv, hvo, hps, hfr⟩
    unfold MV.val
    have HPV := Lib.hid hpv
    have HVO : Hid (VOwn w.heap.size w1 v) := Lib.hid (vown_le hvo HBD.out.size)
    have HVX : Hid (BlkP (fun b => WD.heap.size ≤ b) v) := Lib.hid hvo.fr
    have HPS := Lib.hid hps
    have HFC : Hid (Fr (· = B) WD w1) := Lib.hid hfr
    clear hpv hvo hps hfr
    refine hK.out _ _ (⟨(hS1).1.fr HFC.out (by have := HNE.out; omega), (hS1).2.1.fr HFC.out (by have := HNE.out; omega), (hS1).2.2.fr HFC.out (by have := HNE.out; omega)⟩) (fun hS2 => ?_)
    clear hK K' hS1
    have HFW : Hid (Fr (· = B) w w1) := Lib.hid ((Fr.of_below HBD.out).trans HFC.out)
    refine wpAnyT_ready (rs := [6]) (by kernel_rfl) (by simp) ?_
    refine AllReadyT.cons rfl (fun K' hK => ?_) AllReadyT.nil
    go_simp
    obtain ⟨w2, hw2⟩ : ∃ w2, w2 = w1.alloc (.cells #[.int .i64 0, .int .i64 0, .string ⟨#[]⟩, .slice none 0 0, .slice none 0 0] 25) := ⟨_, rfl⟩
    rw [← hw2]
    have hb2 : Below w1.heap.size w1 w2 := by rw [hw2]; exact (Below.refl _ _).alloc (Nat.le_refl _) _
    obtain ⟨Q, hQ⟩ : ∃ Q, Q = w1.heap.size := ⟨_, rfl⟩
    have HQ : Hid (Blk w2 Q 25 #[.int .i64 0, .int .i64 0, .string ⟨#[]⟩, .slice none 0 0, .slice none 0 0]) := Lib.hid (by rw [hw2, hQ]; exact Blk.new _ _ _)
    rw [← hQ]
    have HQN : Hid (w.heap.size ≤ Q) := Lib.hid (by rw [hQ]; exact HFW.out.size)
    refine hK.out _ _ (⟨(hS2).1.below hb2 (hS2).1.lt, (hS2).2.1.below hb2 (hS2).2.1.lt, (hS2).2.2.below hb2 (hS2).2.2.lt⟩) (fun hS3 => ?_)
    clear hK K' hS2
    have HVO2 : Hid (VOwn w.heap.size w2 v) := Lib.hid (HVO.out.below hb2)
    have HPS2 := Lib.hid (HPS.out.below hb2)
    have HFW2 : Hid (Fr (· = B) w w2) := Lib.hid (HFW.out.below hb2)
    clear hb2 hw2 hQ
    have HVX2 : Hid (BlkP (fun b => (w.heap.size ≤ b ∧ b < w2.heap.size) ∧ ¬ (Value.slice vA ml.length vc).ownBlock = some b) v) := Lib.hid ((HVO2.out.fr.and HVO2.out.at_.lt).and (HVO2.out.fr.mono (fun b hb e => by have := HROW.out.ltS b e; omega)))
    refine wpAnyT_T (by kernel_rfl) rfl (by kernel_rfl) (fun K' hK => ?_)
    have HRW : Hid (ROwn 25 5 MV.cs bs w2 (.slice vA ml.length vc) ml) := Lib.hid (HROW.out.frS HFW2.out (fun g hg e => by have := (HROW.out.ge g hg); have := HNE.out; omega) (fun x hx => (HROW.out.fr x hx).mono (fun b hb e => by have := HNE.out; omega)))
    have HAV : Hid (BlkP (fun b => ¬ (Value.slice vA ml.length vc).ownBlock = some b) v) := Lib.hid (HVO2.out.fr.mono (fun b hb e => by have := HROW.out.ltS b e; omega))
    refine step_app_row w2 infoValue Tryz.underlying22 rfl (by omega) (by omega) (fun _ => rfl) oneC_cs rfl (some 10) rfl _ _ rfl bs (.slice vA ml.length vc) ml rfl HRW.out Q rfl zMV HQ.out (zMV_at w2) zMV_blk zMV_blk HLEN.out (Nat.le_trans HBS.out HFW2.out.size) ?_
    intro v4 w4 hrow hg hat
    have HF4 : Hid (Fr (fun b => (Value.slice vA ml.length vc).ownBlock = some b) w2 w4) := Lib.hid (Fr.of_grown hg (fun g e => e))
    obtain ⟨g, cap, rfl, hgb⟩ := row_form (w := w2) hrow
    have HR4 := Lib.hid hrow
    have HV4 : Hid (VAt w4 v) := Lib.hid (HVO2.out.at_.fr HF4.out (HAV.out))
    have HVG : Hid (BlkP (fun b => ¬ b = g) v) := Lib.hid (HVX2.out.mono (fun b hb e => by
      subst e
      rcases hat with q | q
      · have q2 : (Value.slice vA ml.length vc).ownBlock = some b := by rw [← q]; rfl
        exact hb.2 q2
      · injection q with q; exact Nat.ne_of_lt hb.1.2 q))
    have HGB : Hid (bs ≤ g) := Lib.hid hgb
    have HBV4 : Hid (Blk w4 BV 25 #[.int .i64 5, .int .i64 0, .string ⟨#[]⟩, .slice vA ml.length vc, .slice none 0 0]) := Lib.hid ((hS3).1.fr HF4.out (fun e => by have := HRW.out.ge BV e; have := HNE.out; omega))
    have HBP4 := Lib.hid ((hS3).2.1.fr HF4.out (fun e => by have := HRW.out.ge BP e; have := HNE.out; omega))
    have HBD4 := Lib.hid ((hS3).2.2.fr HF4.out (fun e => by have := HRW.out.ge BD e; have := HNE.out; omega))
    have HPS4 := Lib.hid (HPS2.out.fr HF4.out (fun e => by have := HRW.out.ge B e; have := HNE.out; omega) (fun b e => by have := HRW.out.ge b e; have := HNE.out; omega))
    have HFW4 : Hid (Fr (fun b => b = B ∨ bs ≤ b) w w4) := Lib.hid ((HFW2.out.mono (fun b _ e => .inl e)).trans (HF4.out.mono (fun b _ e => .inr (HRW.out.ge b e))))
    clear hg hat hgb hrow
    refine hK.out _ _ ?_
    clear hK K' hS3
    simp only [Act.put, List.setIfInBounds_toArray, List.set_cons_zero, List.set_cons_succ]
    refine wpAnyH_take (i := 8) (oi := ⟨some 11, _, _, _, _, _⟩) (v := .pointer (some ⟨g, ml.length * 5, none⟩)) rfl (by kernel_rfl) (by kernel_rfl) (by kernel_rfl) (fun _ _ _ h => h) (.inl ⟨by kernel_rfl, fun V hS => by go_simp; try (intro hx; exfalso; omega)⟩) trivial ?_
    simp only [Act.put, List.setIfInBounds_toArray, List.set_cons_zero, List.set_cons_succ]
    refine wpAnyH_take (i := 10) (oi := ⟨some 12, _, _, _, _, _⟩) (v := .pointer (some ⟨BV, 3, none⟩)) rfl (by kernel_rfl) (by kernel_rfl) (by kernel_rfl) (fun _ _ _ h => h) (.inl ⟨by kernel_rfl, fun V hS => by go_simp⟩) trivial ?_
    simp only [Act.put, List.setIfInBounds_toArray, List.set_cons_zero, List.set_cons_succ]
    refine wpAnyH_ready (rs := [9, 11]) (by kernel_rfl) (by simp) ?_
    refine AllReadyH.cons rfl (fun K' hK => ?_) (AllReadyH.cons rfl (fun K' hK => ?_) AllReadyH.nil)
    · have x0 : w4.cell? ⟨g, ml.length * 5, none⟩ = some (.int .i64 0) := row_z HR4.out 0 (by omega)
      have y0 : w4.frozen? ⟨g, ml.length * 5, none⟩ = false := (row_own HR4.out).frozenAt _
      have x1 : w4.cell? ⟨g, ml.length * 5 + 1, none⟩ = some (.int .i64 0) := row_z HR4.out 1 (by omega)
      have y1 : w4.frozen? ⟨g, ml.length * 5 + 1, none⟩ = false := (row_own HR4.out).frozenAt _
      have x2 : w4.cell? ⟨g, ml.length * 5 + 2, none⟩ = some (.string ⟨#[]⟩) := row_z HR4.out 2 (by omega)
      have y2 : w4.frozen? ⟨g, ml.length * 5 + 2, none⟩ = false := (row_own HR4.out).frozenAt _
      have x3 : w4.cell? ⟨g, ml.length * 5 + 3, none⟩ = some (.slice none 0 0) := row_z HR4.out 3 (by omega)
      have y3 : w4.frozen? ⟨g, ml.length * 5 + 3, none⟩ = false := (row_own HR4.out).frozenAt _
      have x4 : w4.cell? ⟨g, ml.length * 5 + 4, none⟩ = some (.slice none 0 0) := row_z HR4.out 4 (by omega)
      have y4 : w4.frozen? ⟨g, ml.length * 5 + 4, none⟩ = false := (row_own HR4.out).frozenAt _
      go_simp
      clear x0 x1 x2 x3 x4 y0 y1 y2 y3 y4
      obtain ⟨w5, hw5⟩ : ∃ w5, w5 = (((((w4.setCell ⟨g, ml.length * 5, none⟩ (.int .i64 v.k)).setCell ⟨g, ml.length * 5 + 1, none⟩ (.int .i64 v.n)).setCell ⟨g, ml.length * 5 + 2, none⟩ (.string v.s)).setCell ⟨g, ml.length * 5 + 3, none⟩ (.slice v.lA v.l.length v.lc)).setCell ⟨g, ml.length * 5 + 4, none⟩ (.slice v.mA v.m.length v.mc)) := ⟨_, rfl⟩
      rw [← hw5]
      have HF5 : Hid (Fr (· = g) w4 w5) := Lib.hid (by rw [hw5]; exact fr_put5)
      have HR5 : Hid (ROwn 25 5 MV.cs bs w5 (.slice (some ⟨g, 0, none⟩) (ml.length + 1) cap) (ml ++ [v])) := Lib.hid (HR4.out.put rfl HV4.out (HVX2.out.mono (fun b hb => Nat.le_trans HBS.out hb.1.1)) HVG.out (by rw [hw5]; exact own_put5 (by have := HR4.out.own; simpa using this) rfl) HF5.out)
      refine hK.out _ _ trivial (fun _ => ?_)
      clear hK K' hw5
      have bv := HBV4.out.fr HF5.out (fun e => by have := HGB.out; have := HNE.out; omega)
      have b3 : w5.cell? ⟨BV, 3, none⟩ = some (.slice vA ml.length vc) := by have := bv.cell 3; simpa using this
      have f3 : w5.frozen? ⟨BV, 3, none⟩ = false := bv.frozen 3
      have HBV5 := Lib.hid bv
      clear bv
      refine wpAnyH_ready (rs := [11]) (by kernel_rfl) (by simp) ?_
      refine AllReadyH.cons rfl (fun K' hK => ?_) AllReadyH.nil
      go_simp
      refine hK.out _ _ trivial (fun _ => ?_)
      clear hK K' b3 f3
      refine wpAnyH_done (by kernel_rfl) ?_ _
      go_wp2
      go_end0
      exact lst_end (g := g) HBV5.out HBP4.out HBD4.out HPS4.out HF5.out HR5.out HPV.out HFW4.out HNE.out HGB.out
    · have b3 : w4.cell? ⟨BV, 3, none⟩ = some (.slice vA ml.length vc) := by have := HBV4.out.cell 3; simpa using this
      have f3 : w4.frozen? ⟨BV, 3, none⟩ = false := HBV4.out.frozen 3
      go_simp
      obtain ⟨w5, hw5⟩ : ∃ w5, w5 = w4.setCell ⟨BV, 3, none⟩ (.slice (some ⟨g, 0, none⟩) (ml.length + 1) cap) := ⟨_, rfl⟩
      rw [← hw5]
      have HF5 : Hid (Fr (· = BV) w4 w5) := Lib.hid (by rw [hw5]; exact frB)
      have HBV5 : Hid (Blk w5 BV 25 #[.int .i64 5, .int .i64 0, .string ⟨#[]⟩, .slice (some ⟨g, 0, none⟩) (ml.length + 1) cap, .slice none 0 0]) := Lib.hid (by rw [hw5]; have := HBV4.out.set_ 3 (.slice (some ⟨g, 0, none⟩) (ml.length + 1) cap); simpa using this)
      have HR5 : Hid (ROwn 25 5 MV.cs bs w5 (.slice (some ⟨g, 0, none⟩) (ml.length + 1) cap) (ml ++ [zMV])) := Lib.hid (HR4.out.frS HF5.out (fun k hk e => by have := HR4.out.ge k hk; have := HNE.out; omega) (fun x hx => (HR4.out.fr x hx).mono (fun b hb e => by have := HNE.out; omega)))
      have HV5 : Hid (VAt w5 v) := Lib.hid (HV4.out.fr HF5.out (HVX2.out.mono (fun b hb e => by have := HNE.out; have := HBS.out; have := hb.1.1; omega)))
      refine hK.out _ _ trivial (fun _ => ?_)
      clear hK K' b3 f3 hw5
      refine wpAnyH_ready (rs := [9]) (by kernel_rfl) (by simp) ?_
      refine AllReadyH.cons rfl (fun K' hK => ?_) AllReadyH.nil
      have x0 : w5.cell? ⟨g, ml.length * 5, none⟩ = some (.int .i64 0) := row_z HR5.out 0 (by omega)
      have y0 : w5.frozen? ⟨g, ml.length * 5, none⟩ = false := (row_own HR5.out).frozenAt _
      have x1 : w5.cell? ⟨g, ml.length * 5 + 1, none⟩ = some (.int .i64 0) := row_z HR5.out 1 (by omega)
      have y1 : w5.frozen? ⟨g, ml.length * 5 + 1, none⟩ = false := (row_own HR5.out).frozenAt _
      have x2 : w5.cell? ⟨g, ml.length * 5 + 2, none⟩ = some (.string ⟨#[]⟩) := row_z HR5.out 2 (by omega)
      have y2 : w5.frozen? ⟨g, ml.length * 5 + 2, none⟩ = false := (row_own HR5.out).frozenAt _
      have x3 : w5.cell? ⟨g, ml.length * 5 + 3, none⟩ = some (.slice none 0 0) := row_z HR5.out 3 (by omega)
      have y3 : w5.frozen? ⟨g, ml.length * 5 + 3, none⟩ = false := (row_own HR5.out).frozenAt _
      have x4 : w5.cell? ⟨g, ml.length * 5 + 4, none⟩ = some (.slice none 0 0) := row_z HR5.out 4 (by omega)
      have y4 : w5.frozen? ⟨g, ml.length * 5 + 4, none⟩ = false := (row_own HR5.out).frozenAt _
      go_simp
      clear x0 x1 x2 x3 x4 y0 y1 y2 y3 y4
      obtain ⟨w6, hw6⟩ : ∃ w6, w6 = (((((w5.setCell ⟨g, ml.length * 5, none⟩ (.int .i64 v.k)).setCell ⟨g, ml.length * 5 + 1, none⟩ (.int .i64 v.n)).setCell ⟨g, ml.length * 5 + 2, none⟩ (.string v.s)).setCell ⟨g, ml.length * 5 + 3, none⟩ (.slice v.lA v.l.length v.lc)).setCell ⟨g, ml.length * 5 + 4, none⟩ (.slice v.mA v.m.length v.mc)) := ⟨_, rfl⟩
      rw [← hw6]
      have HF6 : Hid (Fr (· = g) w5 w6) := Lib.hid (by rw [hw6]; exact fr_put5)
      have HR6 : Hid (ROwn 25 5 MV.cs bs w6 (.slice (some ⟨g, 0, none⟩) (ml.length + 1) cap) (ml ++ [v])) := Lib.hid (HR5.out.put rfl HV5.out (HVX2.out.mono (fun b hb => Nat.le_trans HBS.out hb.1.1)) HVG.out (by rw [hw6]; exact own_put5 (by have := HR5.out.own; simpa using this) rfl) HF6.out)
      refine hK.out _ _ trivial (fun _ => ?_)
      clear hK K' hw6
      refine wpAnyH_done (by kernel_rfl) ?_ _
      go_wp2
      go_end0
      exact lst_end2 (g := g) HBV5.out HBP4.out HBD4.out HPS4.out HF5.out HF6.out HR6.out HPV.out HFW4.out HNE.out HGB.out
  · go_simp
    obtain ⟨w1, hw1⟩ : ∃ w1, w1 = WD.alloc (.cells #[.int .i64 0, .int .i64 0, .string ⟨#[]⟩, .slice none 0 0, .slice none 0 0] 25) := ⟨_, rfl⟩
    rw [← hw1]
    have hb1 : Below WD.heap.size WD w1 := by rw [hw1]; exact (Below.refl _ _).alloc (Nat.le_refl _) _
    obtain ⟨Q, hQ⟩ : ∃ Q, Q = WD.heap.size := ⟨_, rfl⟩
    have HQ1 : Hid (Blk w1 Q 25 #[.int .i64 0, .int .i64 0, .string ⟨#[]⟩, .slice none 0 0, .slice none 0 0]) := Lib.hid (by rw [hw1, hQ]; exact Blk.new _ _ _)
    rw [← hQ]
    have HQN : Hid (w.heap.size ≤ Q) := Lib.hid (by rw [hQ]; exact HBD.out.size)
    refine hK.out _ _ (⟨(hS1).1.below hb1 (hS1).1.lt, (hS1).2.1.below hb1 (hS1).2.1.lt, (hS1).2.2.below hb1 (hS1).2.2.lt⟩) (fun hS2 => ?_)
    clear hK K' hS1
    have HB1 : Hid (Below w.heap.size w w1) := Lib.hid (HBD.out.trans (hb1.mono HBD.out.size))
    clear hb1 hw1 hQ
    refine wpAnyT_ready (rs := [4]) (by kernel_rfl) (by simp) ?_
    refine AllReadyT.cons rfl (fun K' hK => ?_) AllReadyT.nil
    go_simp
    refine (HC.out w1 _ (HPS0.out.below HB1.out)).mono ?_
    rintro e w2 ⟨v, rfl, hpv, hvo, hps, hfr⟩
    unfold MV.val
    have HPV := Lib.hid hpv
    have HVO : Hid (VOwn w.heap.size w2 v) := Lib.hid (vown_le hvo HB1.out.size)
    have HVX : Hid (BlkP (fun b => w1.heap.size ≤ b) v) := Lib.hid hvo.fr
    have HPS := Lib.hid hps
    have HFC : Hid (Fr (· = B) w1 w2) := Lib.hid hfr
    clear hpv hvo hps hfr
    refine hK.out _ _ (⟨(hS2).1.fr HFC.out (by have := HNE.out; omega), (hS2).2.1.fr HFC.out (by have := HNE.out; omega), (hS2).2.2.fr HFC.out (by have := HNE.out; omega)⟩) (fun hS3 => ?_)
    clear hK K' hS2
    have HVO2 := HVO
    have HPS2 := HPS
    have HFW2 : Hid (Fr (· = B) w w2) := Lib.hid ((Fr.of_below HB1.out).trans HFC.out)
    have HQ : Hid (Blk w2 Q 25 #[.int .i64 0, .int .i64 0, .string ⟨#[]⟩, .slice none 0 0, .slice none 0 0]) := Lib.hid (HQ1.out.fr HFC.out (by have := HNE.out; have := HQN.out; have := HBS.out; omega))
    have HVX2 : Hid (BlkP (fun b => (w.heap.size ≤ b ∧ b < w2.heap.size) ∧ ¬ (Value.slice vA ml.length vc).ownBlock = some b) v) := Lib.hid ((HVO2.out.fr.and HVO2.out.at_.lt).and (HVO2.out.fr.mono (fun b hb e => by have := HROW.out.ltS b e; omega)))
    refine wpAnyT_T (by kernel_rfl) rfl (by kernel_rfl) (fun K' hK => ?_)
    have HRW : Hid (ROwn 25 5 MV.cs bs w2 (.slice vA ml.length vc) ml) := Lib.hid (HROW.out.frS HFW2.out (fun g hg e => by have := (HROW.out.ge g hg); have := HNE.out; omega) (fun x hx => (HROW.out.fr x hx).mono (fun b hb e => by have := HNE.out; omega)))
    have HAV : Hid (BlkP (fun b => ¬ (Value.slice vA ml.length vc).ownBlock = some b) v) := Lib.hid (HVO2.out.fr.mono (fun b hb e => by have := HROW.out.ltS b e; omega))
    refine step_app_row w2 infoValue Tryz.underlying22 rfl (by omega) (by omega) (fun _ => rfl) oneC_cs rfl (some 10) rfl _ _ rfl bs (.slice vA ml.length vc) ml rfl HRW.out Q rfl zMV HQ.out (zMV_at w2) zMV_blk zMV_blk HLEN.out (Nat.le_trans HBS.out HFW2.out.size) ?_
    intro v4 w4 hrow hg hat
    have HF4 : Hid (Fr (fun b => (Value.slice vA ml.length vc).ownBlock = some b) w2 w4) := Lib.hid (Fr.of_grown hg (fun g e => e))
    obtain ⟨g, cap, rfl, hgb⟩ := row_form (w := w2) hrow
    have HR4 := Lib.hid hrow
    have HV4 : Hid (VAt w4 v) := Lib.hid (HVO2.out.at_.fr HF4.out (HAV.out))
    have HVG : Hid (BlkP (fun b => ¬ b = g) v) := Lib.hid (HVX2.out.mono (fun b hb e => by
      subst e
      rcases hat with q | q
      · have q2 : (Value.slice vA ml.length vc).ownBlock = some b := by rw [← q]; rfl
        exact hb.2 q2
      · injection q with q; exact Nat.ne_of_lt hb.1.2 q))
    have HGB : Hid (bs ≤ g) := Lib.hid hgb
    have HBV4 : Hid (Blk w4 BV 25 #[.int .i64 5, .int .i64 0, .string ⟨#[]⟩, .slice vA ml.length vc, .slice none 0 0]) := Lib.hid ((hS3).1.fr HF4.out (fun e => by have := HRW.out.ge BV e; have := HNE.out; omega))
    have HBP4 := Lib.hid ((hS3).2.1.fr HF4.out (fun e => by have := HRW.out.ge BP e; have := HNE.out; omega))
    have HBD4 := Lib.hid ((hS3).2.2.fr HF4.out (fun e => by have := HRW.out.ge BD e; have := HNE.out; omega))
    have HPS4 := Lib.hid (HPS2.out.fr HF4.out (fun e => by have := HRW.out.ge B e; have := HNE.out; omega) (fun b e => by have := HRW.out.ge b e; have := HNE.out; omega))
    have HFW4 : Hid (Fr (fun b => b = B ∨ bs ≤ b) w w4) := Lib.hid ((HFW2.out.mono (fun b _ e => .inl e)).trans (HF4.out.mono (fun b _ e => .inr (HRW.out.ge b e))))
    clear hg hat hgb hrow
    refine hK.out _ _ ?_
    clear hK K' hS3
    simp only [Act.put, List.setIfInBounds_toArray, List.set_cons_zero, List.set_cons_succ]
    refine wpAnyH_take (i := 8) (oi := ⟨some 11, _, _, _, _, _⟩) (v := .pointer (some ⟨g, ml.length * 5, none⟩)) rfl (by kernel_rfl) (by kernel_rfl) (by kernel_rfl) (fun _ _ _ h => h) (.inl ⟨by kernel_rfl, fun V hS => by go_simp; try (intro hx; exfalso; omega)⟩) trivial ?_
    simp only [Act.put, List.setIfInBounds_toArray, List.set_cons_zero, List.set_cons_succ]
    refine wpAnyH_take (i := 10) (oi := ⟨some 12, _, _, _, _, _⟩) (v := .pointer (some ⟨BV, 3, none⟩)) rfl (by kernel_rfl) (by kernel_rfl) (by kernel_rfl) (fun _ _ _ h => h) (.inl ⟨by kernel_rfl, fun V hS => by go_simp⟩) trivial ?_
    simp only [Act.put, List.setIfInBounds_toArray, List.set_cons_zero, List.set_cons_succ]
    refine wpAnyH_ready (rs := [9, 11]) (by kernel_rfl) (by simp) ?_
    refine AllReadyH.cons rfl (fun K' hK => ?_) (AllReadyH.cons rfl (fun K' hK => ?_) AllReadyH.nil)
    · have x0 : w4.cell? ⟨g, ml.length * 5, none⟩ = some (.int .i64 0) := row_z HR4.out 0 (by omega)
      have y0 : w4.frozen? ⟨g, ml.length * 5, none⟩ = false := (row_own HR4.out).frozenAt _
      have x1 : w4.cell? ⟨g, ml.length * 5 + 1, none⟩ = some (.int .i64 0) := row_z HR4.out 1 (by omega)
      have y1 : w4.frozen? ⟨g, ml.length * 5 + 1, none⟩ = false := (row_own HR4.out).frozenAt _
      have x2 : w4.cell? ⟨g, ml.length * 5 + 2, none⟩ = some (.string ⟨#[]⟩) := row_z HR4.out 2 (by omega)
      have y2 : w4.frozen? ⟨g, ml.length * 5 + 2, none⟩ = false := (row_own HR4.out).frozenAt _
      have x3 : w4.cell? ⟨g, ml.length * 5 + 3, none⟩ = some (.slice none 0 0) := row_z HR4.out 3 (by omega)
      have y3 : w4.frozen? ⟨g, ml.length * 5 + 3, none⟩ = false := (row_own HR4.out).frozenAt _
      have x4 : w4.cell? ⟨g, ml.length * 5 + 4, none⟩ = some (.slice none 0 0) := row_z HR4.out 4 (by omega)
      have y4 : w4.frozen? ⟨g, ml.length * 5 + 4, none⟩ = false := (row_own HR4.out).frozenAt _
      go_simp
      clear x0 x1 x2 x3 x4 y0 y1 y2 y3 y4
      obtain ⟨w5, hw5⟩ : ∃ w5, w5 = (((((w4.setCell ⟨g, ml.length * 5, none⟩ (.int .i64 v.k)).setCell ⟨g, ml.length * 5 + 1, none⟩ (.int .i64 v.n)).setCell ⟨g, ml.length * 5 + 2, none⟩ (.string v.s)).setCell ⟨g, ml.length * 5 + 3, none⟩ (.slice v.lA v.l.length v.lc)).setCell ⟨g, ml.length * 5 + 4, none⟩ (.slice v.mA v.m.length v.mc)) := ⟨_, rfl⟩
      rw [← hw5]
      have HF5 : Hid (Fr (· = g) w4 w5) := Lib.hid (by rw [hw5]; exact fr_put5)
      have HR5 : Hid (ROwn 25 5 MV.cs bs w5 (.slice (some ⟨g, 0, none⟩) (ml.length + 1) cap) (ml ++ [v])) := Lib.hid (HR4.out.put rfl HV4.out (HVX2.out.mono (fun b hb => Nat.le_trans HBS.out hb.1.1)) HVG.out (by rw [hw5]; exact own_put5 (by have := HR4.out.own; simpa using this) rfl) HF5.out)
      refine hK.out _ _ trivial (fun _ => ?_)
      clear hK K' hw5
      have bv := HBV4.out.fr HF5.out (fun e => by have := HGB.out; have := HNE.out; omega)
      have b3 : w5.cell? ⟨BV, 3, none⟩ = some (.slice vA ml.length vc) := by have := bv.cell 3; simpa using this
      have f3 : w5.frozen? ⟨BV, 3, none⟩ = false := bv.frozen 3
      have HBV5 := Lib.hid bv
      clear bv
      refine wpAnyH_ready (rs := [11]) (by kernel_rfl) (by simp) ?_
      refine AllReadyH.cons rfl (fun K' hK => ?_) AllReadyH.nil
      go_simp
      refine hK.out _ _ trivial (fun _ => ?_)
      clear hK K' b3 f3
      refine wpAnyH_done (by kernel_rfl) ?_ _
      go_wp2
      go_end0
      exact lst_end (g := g) HBV5.out HBP4.out HBD4.out HPS4.out HF5.out HR5.out HPV.out HFW4.out HNE.out HGB.out
    · have b3 : w4.cell? ⟨BV, 3, none⟩ = some (.slice vA ml.length vc) := by have := HBV4.out.cell 3; simpa using this
      have f3 : w4.frozen? ⟨BV, 3, none⟩ = false := HBV4.out.frozen 3
      go_simp
      obtain ⟨w5, hw5⟩ : ∃ w5, w5 = w4.setCell ⟨BV, 3, none⟩ (.slice (some ⟨g, 0, none⟩) (ml.length + 1) cap) := ⟨_, rfl⟩
      rw [← hw5]
      have HF5 : Hid (Fr (· = BV) w4 w5) := Lib.hid (by rw [hw5]; exact frB)
      have HBV5 : Hid (Blk w5 BV 25 #[.int .i64 5, .int .i64 0, .string ⟨#[]⟩, .slice (some ⟨g, 0, none⟩) (ml.length + 1) cap, .slice none 0 0]) := Lib.hid (by rw [hw5]; have := HBV4.out.set_ 3 (.slice (some ⟨g, 0, none⟩) (ml.length + 1) cap); simpa using this)
      have HR5 : Hid (ROwn 25 5 MV.cs bs w5 (.slice (some ⟨g, 0, none⟩) (ml.length + 1) cap) (ml ++ [zMV])) := Lib.hid (HR4.out.frS HF5.out (fun k hk e => by have := HR4.out.ge k hk; have := HNE.out; omega) (fun x hx => (HR4.out.fr x hx).mono (fun b hb e => by have := HNE.out; omega)))
      have HV5 : Hid (VAt w5 v) := Lib.hid (HV4.out.fr HF5.out (HVX2.out.mono (fun b hb e => by have := HNE.out; have := HBS.out; have := hb.1.1; omega)))
      refine hK.out _ _ trivial (fun _ => ?_)
      clear hK K' b3 f3 hw5
      refine wpAnyH_ready (rs := [9]) (by kernel_rfl) (by simp) ?_
      refine AllReadyH.cons rfl (fun K' hK => ?_) AllReadyH.nil
      have x0 : w5.cell? ⟨g, ml.length * 5, none⟩ = some (.int .i64 0) := row_z HR5.out 0 (by omega)
      have y0 : w5.frozen? ⟨g, ml.length * 5, none⟩ = false := (row_own HR5.out).frozenAt _
      have x1 : w5.cell? ⟨g, ml.length * 5 + 1, none⟩ = some (.int .i64 0) := row_z HR5.out 1 (by omega)
      have y1 : w5.frozen? ⟨g, ml.length * 5 + 1, none⟩ = false := (row_own HR5.out).frozenAt _
      have x2 : w5.cell? ⟨g, ml.length * 5 + 2, none⟩ = some (.string ⟨#[]⟩) := row_z HR5.out 2 (by omega)
      have y2 : w5.frozen? ⟨g, ml.length * 5 + 2, none⟩ = false := (row_own HR5.out).frozenAt _
      have x3 : w5.cell? ⟨g, ml.length * 5 + 3, none⟩ = some (.slice none 0 0) := row_z HR5.out 3 (by omega)
      have y3 : w5.frozen? ⟨g, ml.length * 5 + 3, none⟩ = false := (row_own HR5.out).frozenAt _
      have x4 : w5.cell? ⟨g, ml.length * 5 + 4, none⟩ = some (.slice none 0 0) := row_z HR5.out 4 (by omega)
      have y4 : w5.frozen? ⟨g, ml.length * 5 + 4, none⟩ = false := (row_own HR5.out).frozenAt _
      go_simp
      clear x0 x1 x2 x3 x4 y0 y1 y2 y3 y4
      obtain ⟨w6, hw6⟩ : ∃ w6, w6 = (((((w5.setCell ⟨g, ml.length * 5, none⟩ (.int .i64 v.k)).setCell ⟨g, ml.length * 5 + 1, none⟩ (.int .i64 v.n)).setCell ⟨g, ml.length * 5 + 2, none⟩ (.string v.s)).setCell ⟨g, ml.length * 5 + 3, none⟩ (.slice v.lA v.l.length v.lc)).setCell ⟨g, ml.length * 5 + 4, none⟩ (.slice v.mA v.m.length v.mc)) := ⟨_, rfl⟩
      rw [← hw6]
      have HF6 : Hid (Fr (· = g) w5 w6) := Lib.hid (by rw [hw6]; exact fr_put5)
      have HR6 : Hid (ROwn 25 5 MV.cs bs w6 (.slice (some ⟨g, 0, none⟩) (ml.length + 1) cap) (ml ++ [v])) := Lib.hid (HR5.out.put rfl HV5.out (HVX2.out.mono (fun b hb => Nat.le_trans HBS.out hb.1.1)) HVG.out (by rw [hw6]; exact own_put5 (by have := HR5.out.own; simpa using this) rfl) HF6.out)
      refine hK.out _ _ trivial (fun _ => ?_)
      clear hK K' hw6
      refine wpAnyH_done (by kernel_rfl) ?_ _
      go_wp2
      go_end0
      exact lst_end2 (g := g) HBV5.out HBP4.out HBD4.out HPS4.out HF5.out HF6.out HR6.out HPV.out HFW4.out HNE.out HGB.out
end Go.Proofs.YteofdpogjnojnaaGreatDoor
