/-
  StoreKeeps, a round's end: the crash, what is opened, what is found.
-/
import Derived.Test.YtgpcinfhcamgpaaGreatDoorStK3
import Derived.Deep.RegionHeld3
import Derived.Deep.DrawnRows
import Derived.Handy
namespace Go.Proofs.YtgpcinfhcamgpaaGreatDoor
open Go.RowKit Glob
attribute [local go_sem ↓] Go.wp_at_zero Go.wp_at_succ
set_option linter.unusedVariables false
set_option linter.unusedSimpArgs false

theorem five_cells {w : World} {b : Nat} {t : TypeId} {v0 v1 v2 v3 v4 : Value} (h : Blk w b t #[v0, v1, v2, v3, v4]) : w.cell? ⟨b, 0, none⟩ = some v0 ∧ w.cell? ⟨b, 1, none⟩ = some v1 ∧ w.cell? ⟨b, 2, none⟩ = some v2 ∧ w.cell? ⟨b, 3, none⟩ = some v3 ∧ w.cell? ⟨b, 4, none⟩ = some v4 :=
  ⟨h.cell 0, h.cell 1, h.cell 2, h.cell 3, h.cell 4⟩
theorem five_fr {w : World} {b : Nat} {t : TypeId} {v0 v1 v2 v3 v4 : Value} (h : Blk w b t #[v0, v1, v2, v3, v4]) : w.frozen? ⟨b, 0, none⟩ = false ∧ w.frozen? ⟨b, 1, none⟩ = false ∧ w.frozen? ⟨b, 2, none⟩ = false ∧ w.frozen? ⟨b, 3, none⟩ = false ∧ w.frozen? ⟨b, 4, none⟩ = false :=
  ⟨h.frozen 0, h.frozen 1, h.frozen 2, h.frozen 3, h.frozen 4⟩
theorem noby5 (u0 : Option Addr) (v0 t0 : Nat) (u1 : Option Addr) (v1 t1 : Nat) (u2 : Option Addr) (v2 t2 : Nat) (u3 : Option Addr) (v3 t3 : Nat) (u4 : Option Addr) (v4 t4 : Nat) (k : Nat) (x : Int) : (#[.slice u0 v0 t0, .slice u1 v1 t1, .slice u2 v2 t2, .slice u3 v3 t3, .slice u4 v4 t4] : Array Value)[k]? ≠ some (.int .u8 x) := by
  rcases (by omega : k = 0 ∨ k = 1 ∨ k = 2 ∨ k = 3 ∨ k = 4 ∨ 5 ≤ k) with rfl | rfl | rfl | rfl | rfl | h
  all_goals first | (intro h; cases h) | (rw [Array.getElem?_eq_none (by simpa using h)]; intro h; cases h)
/-- what the loop's next round may be given -/
def NextK (W : World) (d s g half nd N k : Nat) (v0 v1 : Value) (Q : Exit → Act → World → Prop) : Prop :=
  ∀ (a : Act) (w' : World) (M' p' r' N' : Nat) (T' : List UInt8) (st' : Sta) (xw' : SV), a.tmps.size = 210 → a.defers = [] → a.tmps.getD 0 undef = v0 → a.tmps.getD 1 undef = v1 → a.tmps.getD 5 undef = .pointer (some ⟨d, 0, none⟩) → a.tmps.getD 7 undef = .pointer (some ⟨p', 0, none⟩) →
    a.tmps.getD 9 undef = .pointer (some ⟨g, 0, none⟩) → a.tmps.getD 10 undef = .int .i64 (k : Int) → KW W d s M' p' r' g half nd N' T' st' xw' w' → N' ≤ N + 1 → Q .normal a w'
noncomputable def kOpn : Code := partC [1] kFin
/-- what may be found behind a round -/
def FndK (want gv : Int) (st0 st1 st' : Sta) : Prop := (want ≠ 0 ∧ st' = st0) ∨ (want = 0 ∧ gv = 0 ∧ st' = st1) ∨ (want = 0 ∧ gv = 210 ∧ (st' = st0 ∨ st' = st1))
set_option maxRecDepth 100000 in
set_option maxHeartbeats 16000000 in
theorem keeps_opn (W : World) (d s M9 g half nd N k nl c b oo : Nat) (want gv : Int) (op : OpS) (st0 : Sta) (xw : SV) (Kc : Dk) (N9 : Nat) (T9 : List UInt8) (st9 : Sta) (u : Nat → Value) (w9 : World) (Q : Exit → Act → World → Prop) (hQP : ∀ (c : List PanicEntry) (a a' : Act) (w : World), Q (.panic c) a w → Q (.panic c) a' w) (hu1 : u 1 = .slice (some ⟨b, oo, none⟩) nl c) (hu5 : u 5 = .pointer (some ⟨d, 0, none⟩)) (hu9 : u 9 = .pointer (some ⟨g, 0, none⟩)) (hu10 : u 10 = .int .i64 (k : Int)) (hu11 : u 11 = .int .i64 want) (hu12 : u 12 = .int .i64 gv)
    (hk : k < nl) (hnl : nl ≤ 9223372036854775807) (hK : TabK W) (hT : Tab W) (hD : RecD w9 d s M9 0 half N9 T9 Kc) (hlen : Kc.sure.length = nd) (h4 : 4 ≤ nd) (hhalf : nd / 2 = half) (hb : Below W.heap.size W w9) (hop : OpSAt W W.heap.size b (oo + k * 8) op) (hss : SSm op.x)
    (hm9 : W.heap.size ≤ M9) (hgg : W.heap.size ≤ g) (hwas : Blk w9 g 25 xw.cs) (hwty : STy w9 xw) (hwm : SM xw) (hws : xw.sta = st0)
    (hw : (want ≠ 0 ∧ gv = want) ∨ (want = 0 ∧ (gv = 0 ∨ gv = 210))) (hs9 : StIs T9 st9) (hl9 : T9.length ≤ 64 * (half - 1) ∧ T9.length ≤ 100000) (hN9 : N9 ≤ N + 1) (ho9 : FndK want gv st0 op.x.sta st9)
    (hQ : NextK W d s g half nd N k (u 0) (.slice (some ⟨b, oo, none⟩) nl c) Q) :
    Code.wp Tryz.prog kOpn Q (kAct u) w9 := by
  have HK := Lib.hid hK
  have HT := Lib.hid hT
  have HD9 := Lib.hid hD
  have HLS := Lib.hid hlen
  have HHF := Lib.hid hhalf
  have HB9 := Lib.hid hb
  have HOP := Lib.hid (fun V (hV : Below W.heap.size W V) => OpSAt.below hop hV)
  have HSS := Lib.hid hss
  have HM9 := Lib.hid hm9
  have HGG := Lib.hid hgg
  have HW9 := Lib.hid hwas
  have HY9 := Lib.hid hwty
  have HWM := Lib.hid hwm
  have HWS := Lib.hid hws
  have HW := Lib.hid hw
  have HS9 := Lib.hid hs9
  have HL9 := Lib.hid hl9
  have HN9 := Lib.hid hN9
  have HO9 := Lib.hid ho9
  have HQ := Lib.hid hQ
  have HQP := Lib.hid hQP
  obtain ⟨o0, on0, oc0, o1, on1, oc1, o2, on2, oc2, o3, on3, oc3, o4, on4, oc4, hov, hoc⟩ := op.x.five
  have HOV := Lib.hid hov
  have HOC := Lib.hid hoc
  obtain ⟨e0, en0, ec0, e1, en1, ec1, e2, en2, ec2, e3, en3, ec3, e4, en4, ec4, hev, hec⟩ := xw.five
  have HEV := Lib.hid hev
  rw [hec] at HW9
  have hki : (k : Int) < (nl : Int) := by omega
  have hk0 : (0 : Int) ≤ (k : Int) := by omega
  have hOPN := sopen_any st9 w9 HD9.out.disk HD9.out.dg (TabK.below HK.out HB9.out) (Tab.below HT.out HB9.out) (by rw [HLS.out]; exact h4) (by rw [HLS.out]; exact HHF.out) HS9.out HL9.out.2
  unfold OpenP at hOPN
  have HOPN := Lib.hid hOPN
  clear hK hT hD hlen hhalf hb hop hss hm9 hgg hwas hwty hwm hws hw hs9 hl9 hN9 ho9 hQ hQP hov hoc hev hec hOPN
  conv => arg 2; whnf
  unfold kAct
  rw [hu1, hu5, hu9, hu10, hu11, hu12]
  clear hu1 hu5 hu9 hu10 hu11 hu12
  go_wp2_with fail
  refine HOPN.out.mono ?_
  rintro e w10 ⟨p', r', x10, rfl, hp, hr, hSA, hsta, hR, hb10⟩
  have HB10 : Hid (Below W.heap.size W w10) := Lib.hid (HB9.out.trans (hb10.mono HB9.out.size))
  have HGP : Hid (W.heap.size ≤ p') := Lib.hid (Nat.le_trans HB9.out.size hp)
  have HGR : Hid (W.heap.size ≤ r') := Lib.hid (Nat.le_trans HB9.out.size hr)
  have HD10 := Lib.hid (HD9.out.below hb10)
  have HR10 := Lib.hid hR
  have HSA10 := Lib.hid hSA
  have HW10 := Lib.hid (HW9.out.below hb10 HW9.out.lt)
  have HY10 := Lib.hid (HY9.out.below hb10)
  have hSTA := sstate_any p' r' x10 w10 hSA (Tab.below HT.out HB10.out)
  unfold ClonePost at hSTA
  have HSTA := Lib.hid hSTA
  have HX10 := Lib.hid hsta
  clear hp hr hSA hsta hR hb10 hSTA HOPN HD9 HW9 HY9
  go_wp2_with fail
  refine HSTA.out.mono ?_
  rintro e w11 ⟨y, rfl, hy, hty, hsm, hb11⟩
  have HYS : Hid (y.sta = st9) := Lib.hid (hy.trans HX10.out)
  have HYM := Lib.hid hsm
  obtain ⟨y0, yn0, yc0, y1, yn1, yc1, y2, yn2, yc2, y3, yn3, yc3, y4, yn4, yc4, hyv, hyc⟩ := y.five
  have HYV := Lib.hid hyv
  have HYC := Lib.hid hyc
  rw [hyv]
  have HB11 : Hid (Below W.heap.size W w11) := Lib.hid (HB10.out.trans (hb11.mono HB10.out.size))
  have HA11 : Hid (Below w11.heap.size w11 (w11.alloc (.cells #[.slice y0 yn0 yc0, .slice y1 yn1 yc1, .slice y2 yn2 yc2, .slice y3 yn3 yc3, .slice y4 yn4 yc4] 25))) := Lib.hid ((Below.refl _ _).alloc (Nat.le_refl _) _)
  have HT11 : Hid (Below w10.heap.size w10 (w11.alloc (.cells #[.slice y0 yn0 yc0, .slice y1 yn1 yc1, .slice y2 yn2 yc2, .slice y3 yn3 yc3, .slice y4 yn4 yc4] 25))) := Lib.hid (hb11.trans (HA11.out.mono hb11.size))
  have HB12 : Hid (Below W.heap.size W (w11.alloc (.cells #[.slice y0 yn0 yc0, .slice y1 yn1 yc1, .slice y2 yn2 yc2, .slice y3 yn3 yc3, .slice y4 yn4 yc4] 25))) := Lib.hid (HB11.out.trans (HA11.out.mono HB11.out.size))
  have HBY : Hid (Blk (w11.alloc (.cells #[.slice y0 yn0 yc0, .slice y1 yn1 yc1, .slice y2 yn2 yc2, .slice y3 yn3 yc3, .slice y4 yn4 yc4] 25)) w11.heap.size 25 #[.slice y0 yn0 yc0, .slice y1 yn1 yc1, .slice y2 yn2 yc2, .slice y3 yn3 yc3, .slice y4 yn4 yc4]) := Lib.hid (Blk.new _ _ _)
  have HBW := Lib.hid (HW10.out.below HT11.out HW10.out.lt)
  have HTW := Lib.hid (HY10.out.below HT11.out)
  have HTY := Lib.hid (hty.below HA11.out)
  have HD12 := Lib.hid (HD10.out.below HT11.out)
  have HR12 := Lib.hid (HR10.out.below HT11.out)
  have HSA12 := Lib.hid (HSA10.out.below HT11.out)
  clear hy hty hsm hb11 hyv hyc HSTA HA11 HT11 HD10 HR10 HSA10 HW10 HY10
  go_wp2
  generalize w11.alloc (.cells #[.slice y0 yn0 yc0, .slice y1 yn1 yc1, .slice y2 yn2 yc2, .slice y3 yn3 yc3, .slice y4 yn4 yc4] 25) = WR at HB12 HBY HBW HTW HTY HD12 HR12 HSA12 ⊢
  have HOX : Hid (∀ V, Below WR.heap.size WR V → V.cell? ⟨b, oo + k * 8, none⟩ = some (.slice o0 on0 oc0) ∧ V.cell? ⟨b, oo + k * 8 + 1, none⟩ = some (.slice o1 on1 oc1) ∧ V.cell? ⟨b, oo + k * 8 + 2, none⟩ = some (.slice o2 on2 oc2) ∧ V.cell? ⟨b, oo + k * 8 + 3, none⟩ = some (.slice o3 on3 oc3) ∧ V.cell? ⟨b, oo + k * 8 + 4, none⟩ = some (.slice o4 on4 oc4)) := Lib.hid (fun V hV => by
    have h := (HOP.out V (HB12.out.trans (hV.mono HB12.out.size))).st
    rw [HOC.out] at h
    exact ⟨h 0 (by omega), h 1 (by omega), h 2 (by omega), h 3 (by omega), h 4 (by omega)⟩)
  have hsm9 := fun V (hV : Below WR.heap.size WR V) => rsame_any y xw V (HTY.out.below hV).at_ (HTW.out.below hV).at_ HYM.out HWM.out
  have hso9 := fun V (hV : Below WR.heap.size WR V) => rsame_any y op.x V (HTY.out.below hV).at_ (HOP.out V (HB12.out.trans (hV.mono HB12.out.size))).at_ HYM.out HSS.out.m
  rw [HYV.out, HEV.out] at hsm9
  rw [HYV.out, HOV.out] at hso9
  have hway : (y.sta = xw.sta ∧ gv ≠ 0) ∨ (y.sta = xw.sta ∧ gv = 0 ∧ want = 0 ∧ y.sta = op.x.sta) ∨ (y.sta ≠ xw.sta ∧ want = 0 ∧ y.sta = op.x.sta) := by
    have h1 := HO9.out
    have h2 := HW.out
    rw [HYS.out, HWS.out]
    by_cases e : st9 = st0
    · rcases h1 with ⟨a1, a2⟩ | ⟨a1, a2, a3⟩ | ⟨a1, a2, a3⟩
      · rcases h2 with ⟨b1, b2⟩ | ⟨b1, _⟩
        · exact .inl ⟨e, by rw [b2]; exact b1⟩
        · exact absurd b1 a1
      · exact .inr (.inl ⟨e, a2, a1, a3⟩)
      · exact .inl ⟨e, by omega⟩
    · rcases h1 with ⟨a1, a2⟩ | ⟨a1, a2, a3⟩ | ⟨a1, a2, a3⟩
      · exact absurd a2 e
      · exact .inr (.inr ⟨e, a1, a3⟩)
      · exact .inr (.inr ⟨e, a1, a3.resolve_left e⟩)
  clear HX10
  rcases hway with ⟨e1, e2⟩ | ⟨e1, e2, e3, e4⟩ | ⟨e1, e3, e4⟩
  · rw [decide_eq_true e1] at hsm9
    have HSM := Lib.hid hsm9
    have hgv : (gv != 0) = true := by rw [bne_iff_ne]; exact e2
    clear hsm9 hso9 e1 e2
    refine wp_region_held_drew (S := fun V => Below WR.heap.size WR V) (by kernel_rfl) ((Below.refl _ _).drew) (fun hS1 => ?_)
    refine wpAnyH_take (i := 0) (oi := ⟨some 187, _, _, _, _, _⟩) (v := .agg #[.slice y0 yn0 yc0, .slice y1 yn1 yc1, .slice y2 yn2 yc2, .slice y3 yn3 yc3, .slice y4 yn4 yc4]) rfl (by kernel_rfl) (by kernel_rfl) (by kernel_rfl) (fun _ _ _ h => HQP.out _ _ _ _ h) (.inl ⟨by kernel_rfl, fun V hS => by obtain ⟨h0, h1, h2, h3, h4⟩ := five_cells (HBY.out.below hS HBY.out.lt); go_simp⟩) hS1 ?_
    simp only [Act.put, List.setIfInBounds_toArray, List.set_cons_zero, List.set_cons_succ]
    refine wpAnyH_take (i := 1) (oi := ⟨some 188, _, _, _, _, _⟩) (v := .agg #[.slice e0 en0 ec0, .slice e1 en1 ec1, .slice e2 en2 ec2, .slice e3 en3 ec3, .slice e4 en4 ec4]) rfl (by kernel_rfl) (by kernel_rfl) (by kernel_rfl) (fun _ _ _ h => HQP.out _ _ _ _ h) (.inl ⟨by kernel_rfl, fun V hS => by obtain ⟨h0, h1, h2, h3, h4⟩ := five_cells (HBW.out.below hS HBW.out.lt); go_simp⟩) hS1 ?_
    simp only [Act.put, List.setIfInBounds_toArray, List.set_cons_zero, List.set_cons_succ]
    refine wpAnyH_ready (rs := [2]) (by kernel_rfl) (by simp) ?_
    refine AllReadyH.cons rfl (fun K' hK => ?_) AllReadyH.nil
    go_simp
    refine (HSM.out _ hS1).mono ?_
    rintro e v1 ⟨rfl, hb1⟩
    go_simp
    refine hK.out _ _ ((hS1).trans (hb1.mono (hS1).size)) (fun hS2 => ?_)
    clear hK K' hS1
    refine wpAnyH_take (i := 3) (oi := ⟨some 190, _, _, _, _, _⟩) (v := .bool true) rfl (by kernel_rfl) (by kernel_rfl) (by kernel_rfl) (fun _ _ _ h => HQP.out _ _ _ _ h) (.inl ⟨by kernel_rfl, fun V hS => by go_simp⟩) hS2 ?_
    simp only [Act.put, List.setIfInBounds_toArray, List.set_cons_zero, List.set_cons_succ]
    refine wpAnyH_take (i := 4) (oi := ⟨some 191, _, _, _, _, _⟩) (v := .int .i64 gv) rfl (by kernel_rfl) (by kernel_rfl) (by kernel_rfl) (fun _ _ _ h => HQP.out _ _ _ _ h) (.inl ⟨by kernel_rfl, fun V hS => by go_simp⟩) hS2 ?_
    simp only [Act.put, List.setIfInBounds_toArray, List.set_cons_zero, List.set_cons_succ]
    refine wpAnyH_take (i := 5) (oi := ⟨some 192, _, _, _, _, _⟩) (v := .bool true) rfl (by kernel_rfl) (by kernel_rfl) (by kernel_rfl) (fun _ _ _ h => HQP.out _ _ _ _ h) (.inl ⟨by kernel_rfl, fun V hS => by go_simp⟩) hS2 ?_
    simp only [Act.put, List.setIfInBounds_toArray, List.set_cons_zero, List.set_cons_succ]
    refine wpAnyH_take (i := 6) (oi := ⟨some 193, _, _, _, _, _⟩) (v := .bool true) rfl (by kernel_rfl) (by kernel_rfl) (by kernel_rfl) (fun _ _ _ h => HQP.out _ _ _ _ h) (.inl ⟨by kernel_rfl, fun V hS => by go_simp⟩) hS2 ?_
    simp only [Act.put, List.setIfInBounds_toArray, List.set_cons_zero, List.set_cons_succ]
    refine wpAnyH_take (i := 7) (oi := ⟨some 194, _, _, _, _, _⟩) (v := .bool true) rfl (by kernel_rfl) (by kernel_rfl) (by kernel_rfl) (fun _ _ _ h => HQP.out _ _ _ _ h) (.inl ⟨by kernel_rfl, fun V hS => by go_simp⟩) hS2 ?_
    simp only [Act.put, List.setIfInBounds_toArray, List.set_cons_zero, List.set_cons_succ]
    refine wpAnyH_take (i := 8) (oi := ⟨some 195, _, _, _, _, _⟩) (v := undef) rfl (by kernel_rfl) (by kernel_rfl) (by kernel_rfl) (fun _ _ _ h => HQP.out _ _ _ _ h) (.inr ⟨by kernel_rfl, rfl⟩) hS2 ?_
    simp only [Act.put, List.setIfInBounds_toArray, List.set_cons_zero, List.set_cons_succ]
    refine wpAnyH_take (i := 9) (oi := ⟨some 196, _, _, _, _, _⟩) (v := undef) rfl (by kernel_rfl) (by kernel_rfl) (by kernel_rfl) (fun _ _ _ h => HQP.out _ _ _ _ h) (.inr ⟨by kernel_rfl, rfl⟩) hS2 ?_
    simp only [Act.put, List.setIfInBounds_toArray, List.set_cons_zero, List.set_cons_succ]
    refine wpAnyH_take (i := 10) (oi := ⟨some 197, _, _, _, _, _⟩) (v := undef) rfl (by kernel_rfl) (by kernel_rfl) (by kernel_rfl) (fun _ _ _ h => HQP.out _ _ _ _ h) (.inr ⟨by kernel_rfl, rfl⟩) hS2 ?_
    simp only [Act.put, List.setIfInBounds_toArray, List.set_cons_zero, List.set_cons_succ]
    refine wpAnyH_take (i := 11) (oi := ⟨some 198, _, _, _, _, _⟩) (v := undef) rfl (by kernel_rfl) (by kernel_rfl) (by kernel_rfl) (fun _ _ _ h => HQP.out _ _ _ _ h) (.inr ⟨by kernel_rfl, rfl⟩) hS2 ?_
    simp only [Act.put, List.setIfInBounds_toArray, List.set_cons_zero, List.set_cons_succ]
    refine wpAnyH_take (i := 12) (oi := ⟨some 199, _, _, _, _, _⟩) (v := undef) rfl (by kernel_rfl) (by kernel_rfl) (by kernel_rfl) (fun _ _ _ h => HQP.out _ _ _ _ h) (.inr ⟨by kernel_rfl, rfl⟩) hS2 ?_
    simp only [Act.put, List.setIfInBounds_toArray, List.set_cons_zero, List.set_cons_succ]
    refine wpAnyH_take (i := 13) (oi := ⟨some 200, _, _, _, _, _⟩) (v := undef) rfl (by kernel_rfl) (by kernel_rfl) (by kernel_rfl) (fun _ _ _ h => HQP.out _ _ _ _ h) (.inr ⟨by kernel_rfl, rfl⟩) hS2 ?_
    simp only [Act.put, List.setIfInBounds_toArray, List.set_cons_zero, List.set_cons_succ]
    refine wpAnyH_take (i := 14) (oi := ⟨some 201, _, _, _, _, _⟩) (v := undef) rfl (by kernel_rfl) (by kernel_rfl) (by kernel_rfl) (fun _ _ _ h => HQP.out _ _ _ _ h) (.inr ⟨by kernel_rfl, rfl⟩) hS2 ?_
    simp only [Act.put, List.setIfInBounds_toArray, List.set_cons_zero, List.set_cons_succ]
    refine wpAnyH_take (i := 15) (oi := ⟨some 202, _, _, _, _, _⟩) (v := undef) rfl (by kernel_rfl) (by kernel_rfl) (by kernel_rfl) (fun _ _ _ h => HQP.out _ _ _ _ h) (.inr ⟨by kernel_rfl, rfl⟩) hS2 ?_
    simp only [Act.put, List.setIfInBounds_toArray, List.set_cons_zero, List.set_cons_succ]
    refine wpAnyH_take (i := 16) (oi := ⟨some 203, _, _, _, _, _⟩) (v := undef) rfl (by kernel_rfl) (by kernel_rfl) (by kernel_rfl) (fun _ _ _ h => HQP.out _ _ _ _ h) (.inr ⟨by kernel_rfl, rfl⟩) hS2 ?_
    simp only [Act.put, List.setIfInBounds_toArray, List.set_cons_zero, List.set_cons_succ]
    refine wpAnyH_take (i := 17) (oi := ⟨some 204, _, _, _, _, _⟩) (v := undef) rfl (by kernel_rfl) (by kernel_rfl) (by kernel_rfl) (fun _ _ _ h => HQP.out _ _ _ _ h) (.inr ⟨by kernel_rfl, rfl⟩) hS2 ?_
    simp only [Act.put, List.setIfInBounds_toArray, List.set_cons_zero, List.set_cons_succ]
    refine wpAnyH_take (i := 18) (oi := ⟨some 205, _, _, _, _, _⟩) (v := undef) rfl (by kernel_rfl) (by kernel_rfl) (by kernel_rfl) (fun _ _ _ h => HQP.out _ _ _ _ h) (.inr ⟨by kernel_rfl, rfl⟩) hS2 ?_
    simp only [Act.put, List.setIfInBounds_toArray, List.set_cons_zero, List.set_cons_succ]
    refine wpAnyH_take (i := 19) (oi := ⟨some 206, _, _, _, _, _⟩) (v := .bool true) rfl (by kernel_rfl) (by kernel_rfl) (by kernel_rfl) (fun _ _ _ h => HQP.out _ _ _ _ h) (.inl ⟨by kernel_rfl, fun V hS => by go_simp⟩) hS2 ?_
    simp only [Act.put, List.setIfInBounds_toArray, List.set_cons_zero, List.set_cons_succ]
    refine wpAnyH_take (i := 20) (oi := ⟨some 207, _, _, _, _, _⟩) (v := .bool false) rfl (by kernel_rfl) (by kernel_rfl) (by kernel_rfl) (fun _ _ _ h => HQP.out _ _ _ _ h) (.inl ⟨by kernel_rfl, fun V hS => by go_simp⟩) hS2 ?_
    simp only [Act.put, List.setIfInBounds_toArray, List.set_cons_zero, List.set_cons_succ]
    refine wpAnyH_done (by kernel_rfl) ?_ _
    have HTV : Hid (Below WR.heap.size WR v1) := Lib.hid hS2
    have HBV : Hid (Below W.heap.size W v1) := Lib.hid (HB12.out.trans (hS2.mono HB12.out.size))
    have HWV := Lib.hid (HBW.out.below HTV.out HBW.out.lt)
    have HYB := Lib.hid (HBY.out.below HTV.out HBY.out.lt)
    have HTYV := Lib.hid (HTY.out.below HTV.out)
    have HDV := Lib.hid (HD12.out.below HTV.out)
    have HRV := Lib.hid (HR12.out.below HTV.out)
    have HSV := Lib.hid (HSA12.out.below HTV.out)
    obtain ⟨s0, s1, s2, s3, s4⟩ := five_cells HYB.out
    obtain ⟨q0, q1, q2, q3, q4⟩ := five_cells HWV.out
    obtain ⟨z0, z1, z2, z3, z4⟩ := five_fr HWV.out
    go_wp2
    have HF : Hid (Blk (((((v1.setCell ⟨g, 0, none⟩ (.slice y0 yn0 yc0)).setCell ⟨g, 1, none⟩ (.slice y1 yn1 yc1)).setCell ⟨g, 2, none⟩ (.slice y2 yn2 yc2)).setCell ⟨g, 3, none⟩ (.slice y3 yn3 yc3)).setCell ⟨g, 4, none⟩ (.slice y4 yn4 yc4)) g 25 #[.slice y0 yn0 yc0, .slice y1 yn1 yc1, .slice y2 yn2 yc2, .slice y3 yn3 yc3, .slice y4 yn4 yc4]) := Lib.hid (((((HWV.out.set_ 0 (.slice y0 yn0 yc0)).set_ 1 (.slice y1 yn1 yc1)).set_ 2 (.slice y2 yn2 yc2)).set_ 3 (.slice y3 yn3 yc3)).set_ 4 (.slice y4 yn4 yc4))
    have HFR : Hid (Fr (· = g) v1 (((((v1.setCell ⟨g, 0, none⟩ (.slice y0 yn0 yc0)).setCell ⟨g, 1, none⟩ (.slice y1 yn1 yc1)).setCell ⟨g, 2, none⟩ (.slice y2 yn2 yc2)).setCell ⟨g, 3, none⟩ (.slice y3 yn3 yc3)).setCell ⟨g, 4, none⟩ (.slice y4 yn4 yc4))) := Lib.hid ((((((Fr.refl (· = g) v1).setCell (p := ⟨g, 0, none⟩) (fun _ => rfl) (.slice y0 yn0 yc0)).setCell (p := ⟨g, 1, none⟩) (fun _ => rfl) (.slice y1 yn1 yc1)).setCell (p := ⟨g, 2, none⟩) (fun _ => rfl) (.slice y2 yn2 yc2)).setCell (p := ⟨g, 3, none⟩) (fun _ => rfl) (.slice y3 yn3 yc3)).setCell (p := ⟨g, 4, none⟩) (fun _ => rfl) (.slice y4 yn4 yc4))
    generalize (((((v1.setCell ⟨g, 0, none⟩ (.slice y0 yn0 yc0)).setCell ⟨g, 1, none⟩ (.slice y1 yn1 yc1)).setCell ⟨g, 2, none⟩ (.slice y2 yn2 yc2)).setCell ⟨g, 3, none⟩ (.slice y3 yn3 yc3)).setCell ⟨g, 4, none⟩ (.slice y4 yn4 yc4)) = Wf at HF HFR ⊢
    have hng : ∀ j, j = g → NoBF v1 j := fun j e => by subst e; exact NoBF.of_blk HWV.out (by decide) (by decide)
    have hny : ∀ j, j = g → j < v1.heap.size → NoBy v1 j := fun j e _ => by subst e; exact NoBy.of_blk HWV.out (noby5 _ _ _ _ _ _ _ _ _ _ _ _ _ _ _)
    have HKW : Hid (KW W d s M9 p' r' g half nd N9 T9 y.sta y Wf) := Lib.hid ⟨⟨_, HDV.out.fr HFR.out (fun j hj e => by subst e; exact HDV.out.disk.notT HWV.out (by decide) (by decide) hj) hny, HLS.out⟩, HRV.out.fr HFR.out (fun e => by obtain ⟨_, hb⟩ := HRV.out.blk; exact hb.ne_ HWV.out (by decide) e) hny, by rw [HYS.out]; exact HS9.out, HL9.out.1, HL9.out.2,
      ⟨_, HSV.out.fr HFR.out (fun e => HSV.out.blk.ne_ HWV.out (by decide) e) hng⟩, by rw [HYC.out]; exact HF.out, HTYV.out.fr HFR.out hng, HYM.out, rfl, Fr.below_trans HBV.out HFR.out HBV.out.size (fun j e => e ▸ HGG.out), HGR.out, HGP.out, HM9.out, HGG.out⟩
    exact HQ.out _ Wf M9 p' r' N9 T9 y.sta y rfl rfl rfl rfl rfl rfl rfl rfl HKW.out HN9.out
  · rw [decide_eq_true e1] at hsm9
    have HSM := Lib.hid hsm9
    rw [decide_eq_true e4] at hso9
    have HSO := Lib.hid hso9
    subst e3
    subst e2
    clear hsm9 hso9 e1 e4
    refine wp_region_held_drew (S := fun V => Below WR.heap.size WR V) (by kernel_rfl) ((Below.refl _ _).drew) (fun hS1 => ?_)
    refine wpAnyH_take (i := 0) (oi := ⟨some 187, _, _, _, _, _⟩) (v := .agg #[.slice y0 yn0 yc0, .slice y1 yn1 yc1, .slice y2 yn2 yc2, .slice y3 yn3 yc3, .slice y4 yn4 yc4]) rfl (by kernel_rfl) (by kernel_rfl) (by kernel_rfl) (fun _ _ _ h => HQP.out _ _ _ _ h) (.inl ⟨by kernel_rfl, fun V hS => by obtain ⟨h0, h1, h2, h3, h4⟩ := five_cells (HBY.out.below hS HBY.out.lt); go_simp⟩) hS1 ?_
    simp only [Act.put, List.setIfInBounds_toArray, List.set_cons_zero, List.set_cons_succ]
    refine wpAnyH_take (i := 1) (oi := ⟨some 188, _, _, _, _, _⟩) (v := .agg #[.slice e0 en0 ec0, .slice e1 en1 ec1, .slice e2 en2 ec2, .slice e3 en3 ec3, .slice e4 en4 ec4]) rfl (by kernel_rfl) (by kernel_rfl) (by kernel_rfl) (fun _ _ _ h => HQP.out _ _ _ _ h) (.inl ⟨by kernel_rfl, fun V hS => by obtain ⟨h0, h1, h2, h3, h4⟩ := five_cells (HBW.out.below hS HBW.out.lt); go_simp⟩) hS1 ?_
    simp only [Act.put, List.setIfInBounds_toArray, List.set_cons_zero, List.set_cons_succ]
    refine wpAnyH_ready (rs := [2]) (by kernel_rfl) (by simp) ?_
    refine AllReadyH.cons rfl (fun K' hK => ?_) AllReadyH.nil
    go_simp
    refine (HSM.out _ hS1).mono ?_
    rintro e v1 ⟨rfl, hb1⟩
    go_simp
    refine hK.out _ _ ((hS1).trans (hb1.mono (hS1).size)) (fun hS2 => ?_)
    clear hK K' hS1
    refine wpAnyH_take (i := 3) (oi := ⟨some 190, _, _, _, _, _⟩) (v := .bool true) rfl (by kernel_rfl) (by kernel_rfl) (by kernel_rfl) (fun _ _ _ h => HQP.out _ _ _ _ h) (.inl ⟨by kernel_rfl, fun V hS => by go_simp⟩) hS2 ?_
    simp only [Act.put, List.setIfInBounds_toArray, List.set_cons_zero, List.set_cons_succ]
    refine wpAnyH_take (i := 4) (oi := ⟨some 191, _, _, _, _, _⟩) (v := .int .i64 0) rfl (by kernel_rfl) (by kernel_rfl) (by kernel_rfl) (fun _ _ _ h => HQP.out _ _ _ _ h) (.inl ⟨by kernel_rfl, fun V hS => by go_simp⟩) hS2 ?_
    simp only [Act.put, List.setIfInBounds_toArray, List.set_cons_zero, List.set_cons_succ]
    refine wpAnyH_take (i := 5) (oi := ⟨some 192, _, _, _, _, _⟩) (v := .bool false) rfl (by kernel_rfl) (by kernel_rfl) (by kernel_rfl) (fun _ _ _ h => HQP.out _ _ _ _ h) (.inl ⟨by kernel_rfl, fun V hS => by go_simp⟩) hS2 ?_
    simp only [Act.put, List.setIfInBounds_toArray, List.set_cons_zero, List.set_cons_succ]
    refine wpAnyH_take (i := 6) (oi := ⟨some 193, _, _, _, _, _⟩) (v := .bool false) rfl (by kernel_rfl) (by kernel_rfl) (by kernel_rfl) (fun _ _ _ h => HQP.out _ _ _ _ h) (.inl ⟨by kernel_rfl, fun V hS => by go_simp⟩) hS2 ?_
    simp only [Act.put, List.setIfInBounds_toArray, List.set_cons_zero, List.set_cons_succ]
    refine wpAnyH_take (i := 7) (oi := ⟨some 194, _, _, _, _, _⟩) (v := .bool false) rfl (by kernel_rfl) (by kernel_rfl) (by kernel_rfl) (fun _ _ _ h => HQP.out _ _ _ _ h) (.inl ⟨by kernel_rfl, fun V hS => by go_simp⟩) hS2 ?_
    simp only [Act.put, List.setIfInBounds_toArray, List.set_cons_zero, List.set_cons_succ]
    refine wpAnyH_take (i := 8) (oi := ⟨some 195, _, _, _, _, _⟩) (v := .int .i64 0) rfl (by kernel_rfl) (by kernel_rfl) (by kernel_rfl) (fun _ _ _ h => HQP.out _ _ _ _ h) (.inl ⟨by kernel_rfl, fun V hS => by go_simp⟩) hS2 ?_
    simp only [Act.put, List.setIfInBounds_toArray, List.set_cons_zero, List.set_cons_succ]
    refine wpAnyH_take (i := 9) (oi := ⟨some 196, _, _, _, _, _⟩) (v := .bool true) rfl (by kernel_rfl) (by kernel_rfl) (by kernel_rfl) (fun _ _ _ h => HQP.out _ _ _ _ h) (.inl ⟨by kernel_rfl, fun V hS => by go_simp⟩) hS2 ?_
    simp only [Act.put, List.setIfInBounds_toArray, List.set_cons_zero, List.set_cons_succ]
    refine wpAnyH_take (i := 10) (oi := ⟨some 197, _, _, _, _, _⟩) (v := .bool true) rfl (by kernel_rfl) (by kernel_rfl) (by kernel_rfl) (fun _ _ _ h => HQP.out _ _ _ _ h) (.inl ⟨by kernel_rfl, fun V hS => by go_simp⟩) hS2 ?_
    simp only [Act.put, List.setIfInBounds_toArray, List.set_cons_zero, List.set_cons_succ]
    refine wpAnyH_take (i := 11) (oi := ⟨some 198, _, _, _, _, _⟩) (v := .agg #[.slice y0 yn0 yc0, .slice y1 yn1 yc1, .slice y2 yn2 yc2, .slice y3 yn3 yc3, .slice y4 yn4 yc4]) rfl (by kernel_rfl) (by kernel_rfl) (by kernel_rfl) (fun _ _ _ h => HQP.out _ _ _ _ h) (.inl ⟨by kernel_rfl, fun V hS => by obtain ⟨h0, h1, h2, h3, h4⟩ := five_cells (HBY.out.below hS HBY.out.lt); go_simp⟩) hS2 ?_
    simp only [Act.put, List.setIfInBounds_toArray, List.set_cons_zero, List.set_cons_succ]
    refine wpAnyH_take (i := 12) (oi := ⟨some 199, _, _, _, _, _⟩) (v := .slice (some ⟨b, oo, none⟩) nl c) rfl (by kernel_rfl) (by kernel_rfl) (by kernel_rfl) (fun _ _ _ h => HQP.out _ _ _ _ h) (.inl ⟨by kernel_rfl, fun V hS => by go_simp⟩) hS2 ?_
    simp only [Act.put, List.setIfInBounds_toArray, List.set_cons_zero, List.set_cons_succ]
    refine wpAnyH_take (i := 13) (oi := ⟨some 200, _, _, _, _, _⟩) (v := .int .i64 (k : Int)) rfl (by kernel_rfl) (by kernel_rfl) (by kernel_rfl) (fun _ _ _ h => HQP.out _ _ _ _ h) (.inl ⟨by kernel_rfl, fun V hS => by go_simp⟩) hS2 ?_
    simp only [Act.put, List.setIfInBounds_toArray, List.set_cons_zero, List.set_cons_succ]
    refine wpAnyH_take (i := 14) (oi := ⟨some 201, _, _, _, _, _⟩) (v := .pointer (some ⟨b, oo + k * 8, none⟩)) rfl (by kernel_rfl) (by kernel_rfl) (by kernel_rfl) (fun _ _ _ h => HQP.out _ _ _ _ h) (.inl ⟨by kernel_rfl, fun V hS => by go_simp⟩) hS2 ?_
    simp only [Act.put, List.setIfInBounds_toArray, List.set_cons_zero, List.set_cons_succ]
    refine wpAnyH_take (i := 15) (oi := ⟨some 202, _, _, _, _, _⟩) (v := .pointer (some ⟨b, oo + k * 8, none⟩)) rfl (by kernel_rfl) (by kernel_rfl) (by kernel_rfl) (fun _ _ _ h => HQP.out _ _ _ _ h) (.inl ⟨by kernel_rfl, fun V hS => by go_simp⟩) hS2 ?_
    simp only [Act.put, List.setIfInBounds_toArray, List.set_cons_zero, List.set_cons_succ]
    refine wpAnyH_take (i := 16) (oi := ⟨some 203, _, _, _, _, _⟩) (v := .agg #[.slice o0 on0 oc0, .slice o1 on1 oc1, .slice o2 on2 oc2, .slice o3 on3 oc3, .slice o4 on4 oc4]) rfl (by kernel_rfl) (by kernel_rfl) (by kernel_rfl) (fun _ _ _ h => HQP.out _ _ _ _ h) (.inl ⟨by kernel_rfl, fun V hS => by obtain ⟨h0, h1, h2, h3, h4⟩ := HOX.out V hS; go_simp⟩) hS2 ?_
    simp only [Act.put, List.setIfInBounds_toArray, List.set_cons_zero, List.set_cons_succ]
    refine wpAnyH_ready (rs := [17]) (by kernel_rfl) (by simp) ?_
    refine AllReadyH.cons rfl (fun K' hK => ?_) AllReadyH.nil
    go_simp
    refine (HSO.out _ hS2).mono ?_
    rintro e v2 ⟨rfl, hb2⟩
    go_simp
    refine hK.out _ _ ((hS2).trans (hb2.mono (hS2).size)) (fun hS3 => ?_)
    clear hK K' hS2
    refine wpAnyH_take (i := 18) (oi := ⟨some 205, _, _, _, _, _⟩) (v := .bool true) rfl (by kernel_rfl) (by kernel_rfl) (by kernel_rfl) (fun _ _ _ h => HQP.out _ _ _ _ h) (.inl ⟨by kernel_rfl, fun V hS => by go_simp⟩) hS3 ?_
    simp only [Act.put, List.setIfInBounds_toArray, List.set_cons_zero, List.set_cons_succ]
    refine wpAnyH_take (i := 19) (oi := ⟨some 206, _, _, _, _, _⟩) (v := .bool true) rfl (by kernel_rfl) (by kernel_rfl) (by kernel_rfl) (fun _ _ _ h => HQP.out _ _ _ _ h) (.inl ⟨by kernel_rfl, fun V hS => by go_simp⟩) hS3 ?_
    simp only [Act.put, List.setIfInBounds_toArray, List.set_cons_zero, List.set_cons_succ]
    refine wpAnyH_take (i := 20) (oi := ⟨some 207, _, _, _, _, _⟩) (v := .bool false) rfl (by kernel_rfl) (by kernel_rfl) (by kernel_rfl) (fun _ _ _ h => HQP.out _ _ _ _ h) (.inl ⟨by kernel_rfl, fun V hS => by go_simp⟩) hS3 ?_
    simp only [Act.put, List.setIfInBounds_toArray, List.set_cons_zero, List.set_cons_succ]
    refine wpAnyH_done (by kernel_rfl) ?_ _
    have HTV : Hid (Below WR.heap.size WR v2) := Lib.hid hS3
    have HBV : Hid (Below W.heap.size W v2) := Lib.hid (HB12.out.trans (hS3.mono HB12.out.size))
    have HWV := Lib.hid (HBW.out.below HTV.out HBW.out.lt)
    have HYB := Lib.hid (HBY.out.below HTV.out HBY.out.lt)
    have HTYV := Lib.hid (HTY.out.below HTV.out)
    have HDV := Lib.hid (HD12.out.below HTV.out)
    have HRV := Lib.hid (HR12.out.below HTV.out)
    have HSV := Lib.hid (HSA12.out.below HTV.out)
    obtain ⟨s0, s1, s2, s3, s4⟩ := five_cells HYB.out
    obtain ⟨q0, q1, q2, q3, q4⟩ := five_cells HWV.out
    obtain ⟨z0, z1, z2, z3, z4⟩ := five_fr HWV.out
    go_wp2
    have HF : Hid (Blk (((((v2.setCell ⟨g, 0, none⟩ (.slice y0 yn0 yc0)).setCell ⟨g, 1, none⟩ (.slice y1 yn1 yc1)).setCell ⟨g, 2, none⟩ (.slice y2 yn2 yc2)).setCell ⟨g, 3, none⟩ (.slice y3 yn3 yc3)).setCell ⟨g, 4, none⟩ (.slice y4 yn4 yc4)) g 25 #[.slice y0 yn0 yc0, .slice y1 yn1 yc1, .slice y2 yn2 yc2, .slice y3 yn3 yc3, .slice y4 yn4 yc4]) := Lib.hid (((((HWV.out.set_ 0 (.slice y0 yn0 yc0)).set_ 1 (.slice y1 yn1 yc1)).set_ 2 (.slice y2 yn2 yc2)).set_ 3 (.slice y3 yn3 yc3)).set_ 4 (.slice y4 yn4 yc4))
    have HFR : Hid (Fr (· = g) v2 (((((v2.setCell ⟨g, 0, none⟩ (.slice y0 yn0 yc0)).setCell ⟨g, 1, none⟩ (.slice y1 yn1 yc1)).setCell ⟨g, 2, none⟩ (.slice y2 yn2 yc2)).setCell ⟨g, 3, none⟩ (.slice y3 yn3 yc3)).setCell ⟨g, 4, none⟩ (.slice y4 yn4 yc4))) := Lib.hid ((((((Fr.refl (· = g) v2).setCell (p := ⟨g, 0, none⟩) (fun _ => rfl) (.slice y0 yn0 yc0)).setCell (p := ⟨g, 1, none⟩) (fun _ => rfl) (.slice y1 yn1 yc1)).setCell (p := ⟨g, 2, none⟩) (fun _ => rfl) (.slice y2 yn2 yc2)).setCell (p := ⟨g, 3, none⟩) (fun _ => rfl) (.slice y3 yn3 yc3)).setCell (p := ⟨g, 4, none⟩) (fun _ => rfl) (.slice y4 yn4 yc4))
    generalize (((((v2.setCell ⟨g, 0, none⟩ (.slice y0 yn0 yc0)).setCell ⟨g, 1, none⟩ (.slice y1 yn1 yc1)).setCell ⟨g, 2, none⟩ (.slice y2 yn2 yc2)).setCell ⟨g, 3, none⟩ (.slice y3 yn3 yc3)).setCell ⟨g, 4, none⟩ (.slice y4 yn4 yc4)) = Wf at HF HFR ⊢
    have hng : ∀ j, j = g → NoBF v2 j := fun j e => by subst e; exact NoBF.of_blk HWV.out (by decide) (by decide)
    have hny : ∀ j, j = g → j < v2.heap.size → NoBy v2 j := fun j e _ => by subst e; exact NoBy.of_blk HWV.out (noby5 _ _ _ _ _ _ _ _ _ _ _ _ _ _ _)
    have HKW : Hid (KW W d s M9 p' r' g half nd N9 T9 y.sta y Wf) := Lib.hid ⟨⟨_, HDV.out.fr HFR.out (fun j hj e => by subst e; exact HDV.out.disk.notT HWV.out (by decide) (by decide) hj) hny, HLS.out⟩, HRV.out.fr HFR.out (fun e => by obtain ⟨_, hb⟩ := HRV.out.blk; exact hb.ne_ HWV.out (by decide) e) hny, by rw [HYS.out]; exact HS9.out, HL9.out.1, HL9.out.2,
      ⟨_, HSV.out.fr HFR.out (fun e => HSV.out.blk.ne_ HWV.out (by decide) e) hng⟩, by rw [HYC.out]; exact HF.out, HTYV.out.fr HFR.out hng, HYM.out, rfl, Fr.below_trans HBV.out HFR.out HBV.out.size (fun j e => e ▸ HGG.out), HGR.out, HGP.out, HM9.out, HGG.out⟩
    exact HQ.out _ Wf M9 p' r' N9 T9 y.sta y rfl rfl rfl rfl rfl rfl rfl rfl HKW.out HN9.out
  · rw [decide_eq_false e1] at hsm9
    have HSM := Lib.hid hsm9
    rw [decide_eq_true e4] at hso9
    have HSO := Lib.hid hso9
    subst e3
    clear hsm9 hso9 e1 e4
    refine wp_region_held_drew (S := fun V => Below WR.heap.size WR V) (by kernel_rfl) ((Below.refl _ _).drew) (fun hS1 => ?_)
    refine wpAnyH_take (i := 0) (oi := ⟨some 187, _, _, _, _, _⟩) (v := .agg #[.slice y0 yn0 yc0, .slice y1 yn1 yc1, .slice y2 yn2 yc2, .slice y3 yn3 yc3, .slice y4 yn4 yc4]) rfl (by kernel_rfl) (by kernel_rfl) (by kernel_rfl) (fun _ _ _ h => HQP.out _ _ _ _ h) (.inl ⟨by kernel_rfl, fun V hS => by obtain ⟨h0, h1, h2, h3, h4⟩ := five_cells (HBY.out.below hS HBY.out.lt); go_simp⟩) hS1 ?_
    simp only [Act.put, List.setIfInBounds_toArray, List.set_cons_zero, List.set_cons_succ]
    refine wpAnyH_take (i := 1) (oi := ⟨some 188, _, _, _, _, _⟩) (v := .agg #[.slice e0 en0 ec0, .slice e1 en1 ec1, .slice e2 en2 ec2, .slice e3 en3 ec3, .slice e4 en4 ec4]) rfl (by kernel_rfl) (by kernel_rfl) (by kernel_rfl) (fun _ _ _ h => HQP.out _ _ _ _ h) (.inl ⟨by kernel_rfl, fun V hS => by obtain ⟨h0, h1, h2, h3, h4⟩ := five_cells (HBW.out.below hS HBW.out.lt); go_simp⟩) hS1 ?_
    simp only [Act.put, List.setIfInBounds_toArray, List.set_cons_zero, List.set_cons_succ]
    refine wpAnyH_ready (rs := [2]) (by kernel_rfl) (by simp) ?_
    refine AllReadyH.cons rfl (fun K' hK => ?_) AllReadyH.nil
    go_simp
    refine (HSM.out _ hS1).mono ?_
    rintro e v1 ⟨rfl, hb1⟩
    go_simp
    refine hK.out _ _ ((hS1).trans (hb1.mono (hS1).size)) (fun hS2 => ?_)
    clear hK K' hS1
    refine wpAnyH_take (i := 3) (oi := ⟨some 190, _, _, _, _, _⟩) (v := .bool false) rfl (by kernel_rfl) (by kernel_rfl) (by kernel_rfl) (fun _ _ _ h => HQP.out _ _ _ _ h) (.inl ⟨by kernel_rfl, fun V hS => by go_simp⟩) hS2 ?_
    simp only [Act.put, List.setIfInBounds_toArray, List.set_cons_zero, List.set_cons_succ]
    refine wpAnyH_take (i := 4) (oi := ⟨some 191, _, _, _, _, _⟩) (v := undef) rfl (by kernel_rfl) (by kernel_rfl) (by kernel_rfl) (fun _ _ _ h => HQP.out _ _ _ _ h) (.inr ⟨by kernel_rfl, rfl⟩) hS2 ?_
    simp only [Act.put, List.setIfInBounds_toArray, List.set_cons_zero, List.set_cons_succ]
    refine wpAnyH_take (i := 5) (oi := ⟨some 192, _, _, _, _, _⟩) (v := undef) rfl (by kernel_rfl) (by kernel_rfl) (by kernel_rfl) (fun _ _ _ h => HQP.out _ _ _ _ h) (.inr ⟨by kernel_rfl, rfl⟩) hS2 ?_
    simp only [Act.put, List.setIfInBounds_toArray, List.set_cons_zero, List.set_cons_succ]
    refine wpAnyH_take (i := 6) (oi := ⟨some 193, _, _, _, _, _⟩) (v := .bool false) rfl (by kernel_rfl) (by kernel_rfl) (by kernel_rfl) (fun _ _ _ h => HQP.out _ _ _ _ h) (.inl ⟨by kernel_rfl, fun V hS => by go_simp⟩) hS2 ?_
    simp only [Act.put, List.setIfInBounds_toArray, List.set_cons_zero, List.set_cons_succ]
    refine wpAnyH_take (i := 7) (oi := ⟨some 194, _, _, _, _, _⟩) (v := .bool false) rfl (by kernel_rfl) (by kernel_rfl) (by kernel_rfl) (fun _ _ _ h => HQP.out _ _ _ _ h) (.inl ⟨by kernel_rfl, fun V hS => by go_simp⟩) hS2 ?_
    simp only [Act.put, List.setIfInBounds_toArray, List.set_cons_zero, List.set_cons_succ]
    refine wpAnyH_take (i := 8) (oi := ⟨some 195, _, _, _, _, _⟩) (v := .int .i64 0) rfl (by kernel_rfl) (by kernel_rfl) (by kernel_rfl) (fun _ _ _ h => HQP.out _ _ _ _ h) (.inl ⟨by kernel_rfl, fun V hS => by go_simp⟩) hS2 ?_
    simp only [Act.put, List.setIfInBounds_toArray, List.set_cons_zero, List.set_cons_succ]
    refine wpAnyH_take (i := 9) (oi := ⟨some 196, _, _, _, _, _⟩) (v := .bool true) rfl (by kernel_rfl) (by kernel_rfl) (by kernel_rfl) (fun _ _ _ h => HQP.out _ _ _ _ h) (.inl ⟨by kernel_rfl, fun V hS => by go_simp⟩) hS2 ?_
    simp only [Act.put, List.setIfInBounds_toArray, List.set_cons_zero, List.set_cons_succ]
    refine wpAnyH_take (i := 10) (oi := ⟨some 197, _, _, _, _, _⟩) (v := .bool true) rfl (by kernel_rfl) (by kernel_rfl) (by kernel_rfl) (fun _ _ _ h => HQP.out _ _ _ _ h) (.inl ⟨by kernel_rfl, fun V hS => by go_simp⟩) hS2 ?_
    simp only [Act.put, List.setIfInBounds_toArray, List.set_cons_zero, List.set_cons_succ]
    refine wpAnyH_take (i := 11) (oi := ⟨some 198, _, _, _, _, _⟩) (v := .agg #[.slice y0 yn0 yc0, .slice y1 yn1 yc1, .slice y2 yn2 yc2, .slice y3 yn3 yc3, .slice y4 yn4 yc4]) rfl (by kernel_rfl) (by kernel_rfl) (by kernel_rfl) (fun _ _ _ h => HQP.out _ _ _ _ h) (.inl ⟨by kernel_rfl, fun V hS => by obtain ⟨h0, h1, h2, h3, h4⟩ := five_cells (HBY.out.below hS HBY.out.lt); go_simp⟩) hS2 ?_
    simp only [Act.put, List.setIfInBounds_toArray, List.set_cons_zero, List.set_cons_succ]
    refine wpAnyH_take (i := 12) (oi := ⟨some 199, _, _, _, _, _⟩) (v := .slice (some ⟨b, oo, none⟩) nl c) rfl (by kernel_rfl) (by kernel_rfl) (by kernel_rfl) (fun _ _ _ h => HQP.out _ _ _ _ h) (.inl ⟨by kernel_rfl, fun V hS => by go_simp⟩) hS2 ?_
    simp only [Act.put, List.setIfInBounds_toArray, List.set_cons_zero, List.set_cons_succ]
    refine wpAnyH_take (i := 13) (oi := ⟨some 200, _, _, _, _, _⟩) (v := .int .i64 (k : Int)) rfl (by kernel_rfl) (by kernel_rfl) (by kernel_rfl) (fun _ _ _ h => HQP.out _ _ _ _ h) (.inl ⟨by kernel_rfl, fun V hS => by go_simp⟩) hS2 ?_
    simp only [Act.put, List.setIfInBounds_toArray, List.set_cons_zero, List.set_cons_succ]
    refine wpAnyH_take (i := 14) (oi := ⟨some 201, _, _, _, _, _⟩) (v := .pointer (some ⟨b, oo + k * 8, none⟩)) rfl (by kernel_rfl) (by kernel_rfl) (by kernel_rfl) (fun _ _ _ h => HQP.out _ _ _ _ h) (.inl ⟨by kernel_rfl, fun V hS => by go_simp⟩) hS2 ?_
    simp only [Act.put, List.setIfInBounds_toArray, List.set_cons_zero, List.set_cons_succ]
    refine wpAnyH_take (i := 15) (oi := ⟨some 202, _, _, _, _, _⟩) (v := .pointer (some ⟨b, oo + k * 8, none⟩)) rfl (by kernel_rfl) (by kernel_rfl) (by kernel_rfl) (fun _ _ _ h => HQP.out _ _ _ _ h) (.inl ⟨by kernel_rfl, fun V hS => by go_simp⟩) hS2 ?_
    simp only [Act.put, List.setIfInBounds_toArray, List.set_cons_zero, List.set_cons_succ]
    refine wpAnyH_take (i := 16) (oi := ⟨some 203, _, _, _, _, _⟩) (v := .agg #[.slice o0 on0 oc0, .slice o1 on1 oc1, .slice o2 on2 oc2, .slice o3 on3 oc3, .slice o4 on4 oc4]) rfl (by kernel_rfl) (by kernel_rfl) (by kernel_rfl) (fun _ _ _ h => HQP.out _ _ _ _ h) (.inl ⟨by kernel_rfl, fun V hS => by obtain ⟨h0, h1, h2, h3, h4⟩ := HOX.out V hS; go_simp⟩) hS2 ?_
    simp only [Act.put, List.setIfInBounds_toArray, List.set_cons_zero, List.set_cons_succ]
    refine wpAnyH_ready (rs := [17]) (by kernel_rfl) (by simp) ?_
    refine AllReadyH.cons rfl (fun K' hK => ?_) AllReadyH.nil
    go_simp
    refine (HSO.out _ hS2).mono ?_
    rintro e v2 ⟨rfl, hb2⟩
    go_simp
    refine hK.out _ _ ((hS2).trans (hb2.mono (hS2).size)) (fun hS3 => ?_)
    clear hK K' hS2
    refine wpAnyH_take (i := 18) (oi := ⟨some 205, _, _, _, _, _⟩) (v := .bool true) rfl (by kernel_rfl) (by kernel_rfl) (by kernel_rfl) (fun _ _ _ h => HQP.out _ _ _ _ h) (.inl ⟨by kernel_rfl, fun V hS => by go_simp⟩) hS3 ?_
    simp only [Act.put, List.setIfInBounds_toArray, List.set_cons_zero, List.set_cons_succ]
    refine wpAnyH_take (i := 19) (oi := ⟨some 206, _, _, _, _, _⟩) (v := .bool true) rfl (by kernel_rfl) (by kernel_rfl) (by kernel_rfl) (fun _ _ _ h => HQP.out _ _ _ _ h) (.inl ⟨by kernel_rfl, fun V hS => by go_simp⟩) hS3 ?_
    simp only [Act.put, List.setIfInBounds_toArray, List.set_cons_zero, List.set_cons_succ]
    refine wpAnyH_take (i := 20) (oi := ⟨some 207, _, _, _, _, _⟩) (v := .bool false) rfl (by kernel_rfl) (by kernel_rfl) (by kernel_rfl) (fun _ _ _ h => HQP.out _ _ _ _ h) (.inl ⟨by kernel_rfl, fun V hS => by go_simp⟩) hS3 ?_
    simp only [Act.put, List.setIfInBounds_toArray, List.set_cons_zero, List.set_cons_succ]
    refine wpAnyH_done (by kernel_rfl) ?_ _
    have HTV : Hid (Below WR.heap.size WR v2) := Lib.hid hS3
    have HBV : Hid (Below W.heap.size W v2) := Lib.hid (HB12.out.trans (hS3.mono HB12.out.size))
    have HWV := Lib.hid (HBW.out.below HTV.out HBW.out.lt)
    have HYB := Lib.hid (HBY.out.below HTV.out HBY.out.lt)
    have HTYV := Lib.hid (HTY.out.below HTV.out)
    have HDV := Lib.hid (HD12.out.below HTV.out)
    have HRV := Lib.hid (HR12.out.below HTV.out)
    have HSV := Lib.hid (HSA12.out.below HTV.out)
    obtain ⟨s0, s1, s2, s3, s4⟩ := five_cells HYB.out
    obtain ⟨q0, q1, q2, q3, q4⟩ := five_cells HWV.out
    obtain ⟨z0, z1, z2, z3, z4⟩ := five_fr HWV.out
    go_wp2
    have HF : Hid (Blk (((((v2.setCell ⟨g, 0, none⟩ (.slice y0 yn0 yc0)).setCell ⟨g, 1, none⟩ (.slice y1 yn1 yc1)).setCell ⟨g, 2, none⟩ (.slice y2 yn2 yc2)).setCell ⟨g, 3, none⟩ (.slice y3 yn3 yc3)).setCell ⟨g, 4, none⟩ (.slice y4 yn4 yc4)) g 25 #[.slice y0 yn0 yc0, .slice y1 yn1 yc1, .slice y2 yn2 yc2, .slice y3 yn3 yc3, .slice y4 yn4 yc4]) := Lib.hid (((((HWV.out.set_ 0 (.slice y0 yn0 yc0)).set_ 1 (.slice y1 yn1 yc1)).set_ 2 (.slice y2 yn2 yc2)).set_ 3 (.slice y3 yn3 yc3)).set_ 4 (.slice y4 yn4 yc4))
    have HFR : Hid (Fr (· = g) v2 (((((v2.setCell ⟨g, 0, none⟩ (.slice y0 yn0 yc0)).setCell ⟨g, 1, none⟩ (.slice y1 yn1 yc1)).setCell ⟨g, 2, none⟩ (.slice y2 yn2 yc2)).setCell ⟨g, 3, none⟩ (.slice y3 yn3 yc3)).setCell ⟨g, 4, none⟩ (.slice y4 yn4 yc4))) := Lib.hid ((((((Fr.refl (· = g) v2).setCell (p := ⟨g, 0, none⟩) (fun _ => rfl) (.slice y0 yn0 yc0)).setCell (p := ⟨g, 1, none⟩) (fun _ => rfl) (.slice y1 yn1 yc1)).setCell (p := ⟨g, 2, none⟩) (fun _ => rfl) (.slice y2 yn2 yc2)).setCell (p := ⟨g, 3, none⟩) (fun _ => rfl) (.slice y3 yn3 yc3)).setCell (p := ⟨g, 4, none⟩) (fun _ => rfl) (.slice y4 yn4 yc4))
    generalize (((((v2.setCell ⟨g, 0, none⟩ (.slice y0 yn0 yc0)).setCell ⟨g, 1, none⟩ (.slice y1 yn1 yc1)).setCell ⟨g, 2, none⟩ (.slice y2 yn2 yc2)).setCell ⟨g, 3, none⟩ (.slice y3 yn3 yc3)).setCell ⟨g, 4, none⟩ (.slice y4 yn4 yc4)) = Wf at HF HFR ⊢
    have hng : ∀ j, j = g → NoBF v2 j := fun j e => by subst e; exact NoBF.of_blk HWV.out (by decide) (by decide)
    have hny : ∀ j, j = g → j < v2.heap.size → NoBy v2 j := fun j e _ => by subst e; exact NoBy.of_blk HWV.out (noby5 _ _ _ _ _ _ _ _ _ _ _ _ _ _ _)
    have HKW : Hid (KW W d s M9 p' r' g half nd N9 T9 y.sta y Wf) := Lib.hid ⟨⟨_, HDV.out.fr HFR.out (fun j hj e => by subst e; exact HDV.out.disk.notT HWV.out (by decide) (by decide) hj) hny, HLS.out⟩, HRV.out.fr HFR.out (fun e => by obtain ⟨_, hb⟩ := HRV.out.blk; exact hb.ne_ HWV.out (by decide) e) hny, by rw [HYS.out]; exact HS9.out, HL9.out.1, HL9.out.2,
      ⟨_, HSV.out.fr HFR.out (fun e => HSV.out.blk.ne_ HWV.out (by decide) e) hng⟩, by rw [HYC.out]; exact HF.out, HTYV.out.fr HFR.out hng, HYM.out, rfl, Fr.below_trans HBV.out HFR.out HBV.out.size (fun j e => e ▸ HGG.out), HGR.out, HGP.out, HM9.out, HGG.out⟩
    exact HQ.out _ Wf M9 p' r' N9 T9 y.sta y rfl rfl rfl rfl rfl rfl rfl rfl HKW.out HN9.out
set_option maxRecDepth 100000 in
set_option maxHeartbeats 16000000 in
theorem keeps_fin (W : World) (d s M g half nd N k nl c b oo m8 : Nat) (want gv : Int) (op : OpS) (st0 : Sta) (xw : SV) (K8 : Dk) (u : Nat → Value) (w8 : World) (Q : Exit → Act → World → Prop) (hQP : ∀ (c : List PanicEntry) (a a' : Act) (w : World), Q (.panic c) a w → Q (.panic c) a' w) (hu1 : u 1 = .slice (some ⟨b, oo, none⟩) nl c) (hu5 : u 5 = .pointer (some ⟨d, 0, none⟩)) (hu9 : u 9 = .pointer (some ⟨g, 0, none⟩)) (hu10 : u 10 = .int .i64 (k : Int)) (hu11 : u 11 = .int .i64 want) (hu12 : u 12 = .int .i64 gv)
    (hk : k < nl) (hnl : nl ≤ 9223372036854775807) (hK : TabK W) (hT : Tab W) (hD : DiskAt w8 d s M m8 K8) (hlen : K8.sure.length = nd) (h4 : 4 ≤ nd) (hhalf : nd / 2 = half) (hb : Below W.heap.size W w8) (hop : OpSAt W W.heap.size b (oo + k * 8) op) (hol : op.l.length ≤ 70) (hss : SSm op.x)
    (hds : ∀ k, DS d s M k → W.heap.size ≤ k) (hgg : W.heap.size ≤ g) (hwas : Blk w8 g 25 xw.cs) (hwty : STy w8 xw) (hwm : SM xw) (hws : xw.sta = st0)
    (hw : (want ≠ 0 ∧ gv = want) ∨ (want = 0 ∧ (gv = 0 ∨ gv = 210)))
    (hfin : ∀ sure : List (List UInt8), sure.length = K8.sure.length → (∀ i, i < K8.sure.length → Took K8 i (sure.getD i [])) → Full (K8.crashed sure) →
      ∃ N' T' st', DG (K8.crashed sure) 0 half N' T' ∧ StIs T' st' ∧ T'.length ≤ 64 * (half - 1) ∧ T'.length ≤ 100000 ∧ N' ≤ N + 1 ∧ FndK want gv st0 op.x.sta st')
    (hQ : NextK W d s g half nd N k (u 0) (.slice (some ⟨b, oo, none⟩) nl c) Q) :
    Code.wp Tryz.prog kFin Q (kAct u) w8 := by
  have HHO : ∀ (w7 w9 : World) (a : Act) (M9 : Nat) (sure : List (List UInt8)), a.tmps.size = 210 → a.defers = [] → a.tmps.getD 0 undef = u 0 → a.tmps.getD 1 undef = .slice (some ⟨b, oo, none⟩) nl c → a.tmps.getD 5 undef = .pointer (some ⟨d, 0, none⟩) → a.tmps.getD 9 undef = .pointer (some ⟨g, 0, none⟩) → a.tmps.getD 10 undef = .int .i64 (k : Int) → a.tmps.getD 11 undef = .int .i64 want → a.tmps.getD 12 undef = .int .i64 gv →
      Below w8.heap.size w8 w7 → sure.length = K8.sure.length → (∀ i, i < K8.sure.length → Took K8 i (sure.getD i [])) → w7.heap.size ≤ M9 → DiskAt w9 d s M9 0 (K8.crashed sure) → Fr (fun k => DS d s M k) w7 w9 → Code.wp Tryz.prog kOpn Q a w9 := by
    intro w7 w9 a M9 sure hs hd h0 h1 h5 h9 h10 h11 h12 hb7 hle htook hM9 hD9 hf9
    obtain ⟨v, hv, rfl⟩ := kact_lit a hs hd
    have hB7 : Below W.heap.size W w7 := hb.trans (hb7.mono hb.size)
    have hD7 := hD.below hb7
    have hW7 := hwas.below hb7 hwas.lt
    have hY7 := hwty.below hb7
    obtain ⟨N9, T9, st9, hg9, hs9, hl9, hb9', hN9, ho9⟩ := hfin sure hle htook hD9.full
    exact keeps_opn W d s M9 g half nd N k nl c b oo want gv op st0 xw (K8.crashed sure) N9 T9 st9 v w9 Q hQP ((hv 1).symm.trans h1) ((hv 5).symm.trans h5) ((hv 9).symm.trans h9) ((hv 10).symm.trans h10) ((hv 11).symm.trans h11) ((hv 12).symm.trans h12) hk hnl hK hT ⟨hD9, by show (-1 : Int) < 0; omega, hg9⟩ (hle.trans hlen) h4 hhalf
      (Fr.below_trans hB7 hf9 hB7.size hds) hop hss (Nat.le_trans hB7.size hM9) hgg (hW7.fr hf9 (fun e => hD7.notT hW7 (by decide) (by decide) e)) (hY7.fr hf9 hD7.noBF) hwm hws hw hs9 ⟨hl9, hb9'⟩ hN9 ho9 (by rw [← hv 0, h0]; exact hQ)
  have HO := Lib.hid HHO
  have HD := Lib.hid hD
  have HB := Lib.hid hb
  have HOP := Lib.hid (fun V (hV : Below W.heap.size W V) => OpSAt.below hop hV)
  have HDS := Lib.hid hds
  obtain ⟨nk, hnk⟩ : ∃ nk, nk = op.l.length := ⟨_, rfl⟩
  have HNK : Hid (op.l.length = nk) := Lib.hid hnk.symm
  have hki : (k : Int) < (nl : Int) := by omega
  have hk0 : (0 : Int) ≤ (k : Int) := by omega
  have p7 := (HOP.out w8 hb).l
  rw [← hnk] at p7
  rw [← hnk] at hol
  have HCR := Lib.hid (crash_in W.heap.size op.Ak nk op.ck op.l w8 HD.out HNK.out (by omega) (HOP.out w8 HB.out).kp HB.out.size HDS.out)
  clear HHO hK hT hD hlen hhalf hb hop hss hds hgg hwas hwty hwm hws hw hfin hQ hQP hnk
  rw [show kFin = (partC [0] kFin).seq kOpn from rfl]
  generalize kOpn = KO at HO ⊢
  conv => arg 2; arg 1; whnf
  unfold kAct
  rw [hu1, hu5, hu9, hu10, hu11, hu12]
  clear hu1 hu5 hu9 hu10 hu11 hu12
  go_wp2_with fail
  refine HCR.out.mono ?_
  rintro e w9 (⟨_, rfl, hb9⟩ | ⟨sure, M9, rfl, hle, htook, hM9, hD9, hf9⟩)
  · have HB9 := Lib.hid hb9
    have HB8b : Hid (Below W.heap.size W w9) := Lib.hid (HB.out.trans (hb9.mono HB.out.size))
    have HCN := Lib.hid (crash_in W.heap.size none 0 0 [] w9 (HD.out.below hb9) rfl (by omega) (fun i p hp => by simp at hp) HB8b.out.size HDS.out)
    clear hb9 HCR p7
    go_wp2_with fail
    refine HCN.out.mono ?_
    rintro e w10 (⟨hne, _⟩ | ⟨sure, M9, rfl, hle, htook, hM9, hD9, hf9⟩)
    · exact absurd rfl hne
    have HH9 := Lib.hid (And.intro hle (And.intro htook (And.intro hM9 (And.intro hD9 hf9))))
    clear hle htook hM9 hD9 hf9
    go_wp2
    obtain ⟨hle, htook, hM9, hD9, hf9⟩ := HH9.out
    exact HO.out _ _ _ M9 sure rfl rfl rfl rfl rfl rfl rfl rfl rfl HB9.out hle htook hM9 hD9 hf9
  · have HH9 := Lib.hid (And.intro hle (And.intro htook (And.intro hM9 (And.intro hD9 hf9))))
    clear p7 hle htook hM9 hD9 hf9
    go_wp2
    obtain ⟨hle, htook, hM9, hD9, hf9⟩ := HH9.out
    exact HO.out _ _ _ M9 sure rfl rfl rfl rfl rfl rfl rfl rfl rfl (Below.refl _ _) hle htook hM9 hD9 hf9
end Go.Proofs.YtgpcinfhcamgpaaGreatDoor
