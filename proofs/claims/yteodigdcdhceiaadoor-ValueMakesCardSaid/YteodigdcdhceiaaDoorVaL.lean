/-
  The law's lives.
-/
import Derived.Test.YteodigdcdhceiaaDoorVaLP
import Derived.Test.YteodigdcdhceiaaDoorLastOp
namespace Go.Proofs.YteodigdcdhceiaaDoor
open Go.RowKit
attribute [local go_sem ↓] Go.wp_at_zero Go.wp_at_succ
set_option linter.unusedVariables false
set_option linter.unusedSimpArgs false

theorem vat_list {w : World} {l : List MV} (hl : ∀ x ∈ l, VAt w x) (hn : l.length ≤ maxLen) (key : ByteArray) : VAt (w.alloc (.cells (l.flatMap MV.cs).toArray 25)) (.mk key 5 0 ⟨#[]⟩ (some ⟨w.heap.size, 0, none⟩) l.length l none 0 []) := by
  have hk := Blk.new w 25 (l.flatMap MV.cs).toArray
  refine .mk rfl rfl ⟨csL_len l, fun _ => ⟨_, rfl, hk.lt, fun j u hu => ?_⟩⟩ (Nat.le_refl _) hn Reads.none_ (Nat.le_refl _) (by simp [maxLen]) (fun x hx => (hl x hx).bel (below_new _ _)) (fun x hx => by cases hx)
  rw [Addr.add_lit, Nat.zero_add, hk.cell j]
  simpa using hu
theorem vat_pairs {w : World} {l : List MV} (hl : ∀ x ∈ l, VAt w x) (hn : l.length ≤ maxLen) (key : ByteArray) : VAt (w.alloc (.cells (l.flatMap MV.pcs).toArray 33)) (.mk key 6 0 ⟨#[]⟩ none 0 [] (some ⟨w.heap.size, 0, none⟩) l.length l) := by
  have hk := Blk.new w 33 (l.flatMap MV.pcs).toArray
  refine .mk rfl rfl Reads.none_ (Nat.le_refl _) (by simp [maxLen]) ⟨csM_len l, fun _ => ⟨_, rfl, hk.lt, fun j u hu => ?_⟩⟩ (Nat.le_refl _) hn (fun x hx => by cases hx) (fun x hx => (hl x hx).bel (below_new _ _))
  rw [Addr.add_lit, Nat.zero_add, hk.cell j]
  simpa using hu
/-- what stands while lives runs: the boxes of a and b, and what is read of b -/
structure LS (w V : World) (va vb : MV) (ga gb b o bl ol xc : Nat) : Prop where
  bel : Below w.heap.size w V
  fa : Fine V va
  fb : Fine V vb
  ka : Blk V ga 25 #[.int .i64 va.k, .int .i64 va.n, .string va.s, .slice va.lA va.l.length va.lc, .slice va.mA 2 va.mc]
  kb : Blk V gb 25 #[.int .i64 vb.k, .int .i64 vb.n, .string vb.s, .slice vb.lA vb.l.length vb.lc, .slice (some ⟨b, o, none⟩) 2 vb.mc]
  e0 : V.cell? ⟨b, o, none⟩ = some (.string ⟨#[97]⟩)
  e4 : V.cell? ⟨b, o + 4, none⟩ = some (.slice (some ⟨bl, ol, none⟩) 3 xc)
  e5 : V.cell? ⟨bl, ol + 5 + 1, none⟩ = some (.int .i64 1)
  lt : b < V.heap.size ∧ bl < V.heap.size
theorem LS.below {w V W : World} {va vb : MV} {ga gb b o bl ol xc : Nat} (h : LS w V va vb ga gb b o bl ol xc) (hb : Below V.heap.size V W) : LS w W va vb ga gb b o bl ol xc :=
  ⟨h.bel.trans (hb.mono h.bel.size), h.fa.bel hb, h.fb.bel hb, h.ka.below hb h.ka.lt, h.kb.below hb h.kb.lt, (hb.cell (p := ⟨b, _, none⟩) h.lt.1).trans h.e0, (hb.cell (p := ⟨b, _, none⟩) h.lt.1).trans h.e4, (hb.cell (p := ⟨bl, _, none⟩) h.lt.2).trans h.e5, Nat.lt_of_lt_of_le h.lt.1 hb.size, Nat.lt_of_lt_of_le h.lt.2 hb.size⟩
theorem MV.pv_rekey {v : MV} {key : ByteArray} : (MV.mk key v.k v.n v.s v.lA v.lc v.l v.mA v.mc v.m).pv = v.pv := by cases v; rfl
set_option maxRecDepth 100000 in
set_option maxHeartbeats 4000000 in
theorem vlives_any (w : World) (ht : tabU w) : Calls Tryd.prog 7 #[] w fun e w' => PF (RiP true w) e w' := by
  have HT := Lib.hid ht
  clear ht
  go_enter Tryd.func7, Tryd.ntmps7
  go_wp2_with fail
  refine (int_any 1 w rfl).mono ?_
  rintro e w1 ⟨v8, rfl, hp8, ho8, hb1⟩
  have H8 := Lib.hid (And.intro hp8 ho8.at_)
  have B1 := Lib.hid hb1
  unfold MV.val
  clear hp8 ho8 hb1
  go_wp2_with fail
  refine (null_any w1).mono ?_
  rintro e w2 ⟨v10, rfl, hp, ho, hb⟩
  have H10 := Lib.hid (And.intro hp ho.at_)
  have B2 := Lib.hid (B1.out.trans (hb.mono B1.out.size))
  have H8 := Lib.hid (And.intro H8.out.1 (H8.out.2.bel hb))
  unfold MV.val
  clear hp ho hb
  go_wp2_with fail
  refine (bool_any true w2).mono ?_
  rintro e w3 ⟨v11, rfl, hp, ho, hb⟩
  have H11 := Lib.hid (And.intro hp ho.at_)
  have B3 := Lib.hid (B2.out.trans (hb.mono B2.out.size))
  have H8 := Lib.hid (And.intro H8.out.1 (H8.out.2.bel hb))
  have H10 := Lib.hid (And.intro H10.out.1 (H10.out.2.bel hb))
  unfold MV.val
  clear hp ho hb
  go_wp2_with fail
  refine (text_any ⟨#[120]⟩ w3).mono ?_
  rintro e w4 ⟨v12, rfl, hp, ho, hb⟩
  have H12 := Lib.hid (And.intro hp ho.at_)
  have B4 := Lib.hid (B3.out.trans (hb.mono B3.out.size))
  have H8 := Lib.hid (And.intro H8.out.1 (H8.out.2.bel hb))
  have H10 := Lib.hid (And.intro H10.out.1 (H10.out.2.bel hb))
  have H11 := Lib.hid (And.intro H11.out.1 (H11.out.2.bel hb))
  unfold MV.val
  clear hp ho hb
  have hl3 := vat_list (w := w4) (l := [v10, v11, v12]) (fun x hx => by
    simp only [List.mem_cons, List.not_mem_nil, or_false] at hx
    rcases hx with rfl | rfl | rfl
    · exact H10.out.2
    · exact H11.out.2
    · exact H12.out.2) (by simp [maxLen]) bA
  have hp3 : MV.pvL [v10, v11, v12] = [.one 1 0 bE, .one 2 1 bE, .one 4 0 bX] := by
    rw [MV.pvL, MV.pvL, MV.pvL, MV.pvL, H10.out.1, H11.out.1, H12.out.1]
    rfl
  have hcl := list_any hl3 (by
    refine OkP.fit hl3 ?_
    rw [MV.pv, hp3]
    exact l3_ok)
  rw [hp3] at hcl
  have hbn := below_new w4 (.cells ([v10, v11, v12].flatMap MV.cs).toArray 25)
  have B5 := Lib.hid (B4.out.trans (hbn.mono B4.out.size))
  have H8 := Lib.hid (And.intro H8.out.1 (H8.out.2.bel hbn))
  have HCL := Lib.hid hcl
  clear hl3 hp3 hcl hbn
  go_wp2_with fail
  refine HCL.out.mono ?_
  rintro e w6 ⟨v14, rfl, hp, ho, hb⟩
  have H14 : Hid (v14.pv = pvL3 ∧ VAt w6 v14) := Lib.hid (And.intro hp ho.at_)
  have B6 := Lib.hid (B5.out.trans (hb.mono B5.out.size))
  have H8 := Lib.hid (And.intro H8.out.1 (H8.out.2.bel hb))
  unfold MV.val
  clear hp ho hb HCL
  have hl3 := vat_pairs (w := w6) (l := [.mk bB v8.k v8.n v8.s v8.lA v8.lc v8.l v8.mA v8.mc v8.m, .mk bA v14.k v14.n v14.s v14.lA v14.lc v14.l v14.mA v14.mc v14.m]) (fun x hx => by
    simp only [List.mem_cons, List.not_mem_nil, or_false] at hx
    rcases hx with rfl | rfl
    · exact H8.out.2.rekey
    · exact H14.out.2.rekey) (by simp [maxLen]) bA
  have hp3 : MV.pvL [.mk bB v8.k v8.n v8.s v8.lA v8.lc v8.l v8.mA v8.mc v8.m, .mk bA v14.k v14.n v14.s v14.lA v14.lc v14.l v14.mA v14.mc v14.m] = [.one 3 1 bE, pvL3] := by
    rw [MV.pvL, MV.pvL, MV.pvL, MV.pv_rekey, MV.pv_rekey, H8.out.1, H14.out.1]
    rfl
  have hcl := map_any hl3 (by
    refine OkP.fit hl3 ?_
    rw [MV.pv, hp3]
    exact A_ok)
  rw [hp3] at hcl
  have hbn := below_new w6 (.cells ([MV.mk bB v8.k v8.n v8.s v8.lA v8.lc v8.l v8.mA v8.mc v8.m, .mk bA v14.k v14.n v14.s v14.lA v14.lc v14.l v14.mA v14.mc v14.m].flatMap MV.pcs).toArray 33)
  have B7 := Lib.hid (B6.out.trans (hbn.mono B6.out.size))
  have HCL := Lib.hid hcl
  clear hl3 hp3 hcl hbn H8 H10 H11 H12 H14 B1 B2 B3 B4 B5
  go_wp2_with fail
  refine HCL.out.mono ?_
  rintro e w8 ⟨va, rfl, hp, ho, hb⟩
  have hp : va.pv = pvA := hp
  have HPA : Hid (va.pv = pvA) := Lib.hid hp
  have B8 := Lib.hid (B7.out.trans (hb.mono B7.out.size))
  have hbn := below_new w8 (.cells #[.int .i64 va.k, .int .i64 va.n, .string va.s, .slice va.lA va.l.length va.lc, .slice va.mA va.m.length va.mc] 25)
  have B9 := Lib.hid (B8.out.trans (hbn.mono B8.out.size))
  have hkA := Blk.new w8 25 #[.int .i64 va.k, .int .i64 va.n, .string va.s, .slice va.lA va.l.length va.lc, .slice va.mA va.m.length va.mc]
  have hfa := fine_of (ho.at_.bel hbn) hp A_ok (by rw [A_cnt]; omega)
  have hs := srtd_any hfa (HT.out.below B9.out)
  rw [hp, if_pos A_chk, A_sort] at hs
  unfold MV.val at hs ⊢
  have HS := Lib.hid hs
  have HFA := Lib.hid hfa
  have HKA := Lib.hid hkA
  clear hp ho hb HCL hbn hkA hfa hs B6 B7 B8
  go_wp2_with fail
  refine HS.out.mono ?_
  rintro e w10 ⟨vb, rfl, hp, ho, hb⟩
  have HPB : Hid (vb.pv = pvB) := Lib.hid hp
  have B10 := Lib.hid (B9.out.trans (hb.mono B9.out.size))
  have hbn := below_new w10 (.cells #[.int .i64 vb.k, .int .i64 vb.n, .string vb.s, .slice vb.lA vb.l.length vb.lc, .slice vb.mA vb.m.length vb.mc] 25)
  have B11 := Lib.hid (B10.out.trans (hbn.mono B10.out.size))
  have hkB := Blk.new w10 25 #[.int .i64 vb.k, .int .i64 vb.n, .string vb.s, .slice vb.lA vb.l.length vb.lc, .slice vb.mA vb.m.length vb.mc]
  have HFB := Lib.hid (fine_of (ho.at_.bel hbn) hp B_ok (by rw [B_cnt]; omega))
  have HFA := Lib.hid ((HFA.out.bel hb).bel hbn)
  have HKA := Lib.hid ((HKA.out.below hb HKA.out.lt).below hbn (HKA.out.below hb HKA.out.lt).lt)
  have HKB := Lib.hid hkB
  obtain ⟨W, hW⟩ : ∃ W, W = w10.alloc (.cells #[.int .i64 vb.k, .int .i64 vb.n, .string vb.s, .slice vb.lA vb.l.length vb.lc, .slice vb.mA vb.m.length vb.mc] 25) := ⟨_, rfl⟩
  rw [← hW] at HFB HFA HKA HKB B11
  have hlA : va.m.length = 2 := len_m HPA.out
  have hlB : vb.m.length = 2 := len_m hp
  obtain ⟨x0, x1, hm, hx0, p0, p1, p2, hl0, hn1⟩ := B_parts hp
  obtain ⟨b, o, hA, hbl, hc⟩ := (HFB.out.at_).ma (i := 0) (by rw [hlB]; omega)
  have he0 : vb.m[0]'(by rw [hlB]; omega) = x0 := by simp [hm]
  rw [he0] at hc
  have e0 : W.cell? ⟨b, o, none⟩ = some (.string ⟨#[97]⟩) := by
    have h9 := hc 0 (by omega)
    rw [show x0.pcs[0]? = some (.string x0.key) from rfl, hx0] at h9
    exact h9
  have e4 : W.cell? ⟨b, o + 4, none⟩ = some (.slice x0.lA 3 x0.lc) := by
    have h9 := hc 4 (by omega)
    rw [show x0.pcs[4]? = some (.slice x0.lA x0.l.length x0.lc) from rfl, hl0] at h9
    simpa using h9
  obtain ⟨bl, ol, hAl, hbll, hcl⟩ := (HFB.out.at_.m x0 (by rw [hm]; simp)).la (i := 1) (by rw [hl0]; simp)
  have he1 : x0.l[1]'(by rw [hl0]; simp) = p1 := by simp [hl0]
  rw [he1] at hcl
  have e5 : W.cell? ⟨bl, ol + 5 + 1, none⟩ = some (.int .i64 1) := by
    have h9 := hcl 1 (by omega)
    rw [show p1.cs[1]? = some (.int .i64 p1.n) from rfl, hn1] at h9
    simpa using h9
  rw [hAl] at e4
  obtain ⟨a0, a1, a2, a3, a4⟩ := five_cells HKA.out
  obtain ⟨b0, b1, b2, b3, b4⟩ := five_cells HKB.out
  have hls : LS w W va vb w8.heap.size w10.heap.size b o bl ol x0.lc := by
    refine ⟨B11.out, HFA.out, HFB.out, ?_, ?_, e0, e4, e5, hbl, hbll⟩
    · have h9 := HKA.out
      rw [hlA] at h9
      exact h9
    · have h9 := HKB.out
      rw [hlB, hA] at h9
      exact h9
  have HLS := Lib.hid hls
  have HLA := Lib.hid hlA
  have HLB := Lib.hid (And.intro hlB hA)
  rw [hlA] at a4
  rw [hlB, hA] at b4
  have hgb := get_any HFA.out.at_ (HFA.out.ok.fit HFA.out.at_) bB
  unfold MV.val at hgb ⊢
  rw [hlA] at hgb
  have HGB := Lib.hid hgb
  generalize hxc : x0.lc = xc at HLS e4
  clear hgb hls hlA hlB hm hx0 hl0 hn1 hc he0 he1 hcl hA hAl hbl hbll hp ho hb HS hbn hkB B9 B10 B11 HFA HFB HKA HKB hxc e5
  go_upto_region 3 with (fail)
  rw [← hW]
  clear hW
  go_wp2_with fail
  refine HGB.out.mono ?_
  clear a0 a1 a2 a3 a4 b0 b1 b2 b3 b4 e0 e4
  rintro e w12 ⟨v3, b3, rfl, ho, hb, hor⟩
  have hab := at_b HPA.out
  have h3 : b3 = true ∧ v3.n = 1 := by
    obtain ⟨h6, x, y, hm, hx, hy, hxp, hyp⟩ := A_parts HPA.out
    rcases hor with ⟨_, h, _⟩ | ⟨h, i, hi, hai, hpi⟩
    · rw [hab] at h; omega
    · rw [hab] at hai
      obtain rfl : i = 0 := by omega
      refine ⟨h, one_parts (hpi.trans (?_ : _ = PV.one 3 1 bE))⟩
      simp only [hm, List.getElem_cons_zero]
      exact hxp
  obtain ⟨rfl, hn3⟩ := h3
  obtain ⟨W13, hW13⟩ : ∃ W13, W13 = w12.alloc (.cells #[.int .i64 v3.k, .int .i64 v3.n, .string v3.s, .slice v3.lA v3.l.length v3.lc, .slice v3.mA v3.m.length v3.mc] 25) := ⟨_, rfl⟩
  have hk3 : Blk W13 w12.heap.size 25 #[.int .i64 v3.k, .int .i64 v3.n, .string v3.s, .slice v3.lA v3.l.length v3.lc, .slice v3.mA v3.m.length v3.mc] := by rw [hW13]; exact Blk.new _ _ _
  rw [hn3] at hk3
  have HK3 := Lib.hid hk3
  have hb13 : Below w12.heap.size w12 W13 := by rw [hW13]; exact below_new _ _
  have HLS := Lib.hid ((HLS.out.below hb).below hb13)
  unfold MV.val
  clear hor hab ho hb hn3 hk3 hb13 HGB
  go_upto_region 6 with (fail)
  rw [← hW13]
  clear hW13
  have hgb := get_any HLS.out.fa.at_ (HLS.out.fa.ok.fit HLS.out.fa.at_) bC
  unfold MV.val at hgb
  rw [HLA.out] at hgb
  have HGB := Lib.hid hgb
  obtain ⟨a0, a1, a2, a3, a4⟩ := five_cells HLS.out.ka
  clear hgb
  go_wp2_with fail
  refine HGB.out.mono ?_
  clear a0 a1 a2 a3 a4
  rintro e w14 ⟨v5, b5, rfl, ho, hb, hor⟩
  have hac := at_c HPA.out
  obtain rfl : b5 = false := by
    rcases hor with ⟨h, _, _⟩ | ⟨_, i, hi, hai, _⟩
    · exact h
    · rw [hac] at hai; omega
  obtain ⟨W15, hW15⟩ : ∃ W15, W15 = w14.alloc (.cells #[.int .i64 v5.k, .int .i64 v5.n, .string v5.s, .slice v5.lA v5.l.length v5.lc, .slice v5.mA v5.m.length v5.mc] 25) := ⟨_, rfl⟩
  have hb15 : Below w14.heap.size w14 W15 := by rw [hW15]; exact below_new _ _
  have HK3 := Lib.hid ((HK3.out.below hb HK3.out.lt).below hb15 (HK3.out.below hb HK3.out.lt).lt)
  have HLS := Lib.hid ((HLS.out.below hb).below hb15)
  unfold MV.val
  clear hor hac ho hb hb15 HGB
  go_upto_region 7 with (fail)
  rw [← hW15]
  clear hW15
  have HSV : Hid (∀ V, Below W15.heap.size W15 V → V.cell? ⟨w8.heap.size, 0, none⟩ = some (.int .i64 va.k) ∧ V.cell? ⟨w8.heap.size, 1, none⟩ = some (.int .i64 va.n) ∧ V.cell? ⟨w8.heap.size, 2, none⟩ = some (.string va.s) ∧ V.cell? ⟨w8.heap.size, 3, none⟩ = some (.slice va.lA va.l.length va.lc) ∧ V.cell? ⟨w8.heap.size, 4, none⟩ = some (.slice va.mA 2 va.mc)) := Lib.hid (fun V hV => five_cells (HLS.out.below hV).ka)
  refine wp_region_last (S := fun V => Below W15.heap.size W15 V) (st := 4) (n := 4) (by kernel_rfl) rfl (by kernel_rfl) rfl ((Below.refl _ _).drew) (fun hS1 => ?_)
  generalize W15.drew = W0 at hS1 ⊢
  refine wpAnyH_take (i := 0) (oi := ⟨some 58, _, _, _, _, _⟩) (v := .agg #[.int .i64 va.k, .int .i64 va.n, .string va.s, .slice va.lA va.l.length va.lc, .slice va.mA 2 va.mc]) rfl (by kernel_rfl) (by kernel_rfl) (by kernel_rfl) (fun _ _ _ h => h) (.inl ⟨by kernel_rfl, fun V hS => by obtain ⟨h0, h1, h2, h3, h4⟩ := HSV.out V hS; go_simp⟩) hS1 ?_
  simp only [Act.put, List.setIfInBounds_toArray, List.set_cons_zero, List.set_cons_succ]
  refine wpAnyH_ready (rs := [1, 3]) (by kernel_rfl) (by simp) ?_
  refine AllReadyH.cons rfl (fun K' hK => ?_) (AllReadyH.cons rfl (fun K' hK => ?_) AllReadyH.nil)
  · go_simp
    refine (int_any 2 _ rfl).mono ?_
    rintro e w16 ⟨vi, rfl, hpi, hoi, hb⟩
    unfold MV.val
    have HPI := Lib.hid (And.intro hpi hoi.at_)
    clear hpi hoi
    go_simp
    refine hK.out _ _ (hS1.trans (hb.mono hS1.size)) (fun hS2 => ?_)
    clear hK K' hS1
    refine wpAnyH_ready (rs := [2, 3]) (by kernel_rfl) (by simp) ?_
    refine AllReadyH.cons rfl (fun K' hK => ?_) (AllReadyH.cons rfl (fun K' hK => ?_) AllReadyH.nil)
    · have hwt := with_any (HLS.out.below hS2).fa.at_ ((HLS.out.below hS2).fa.ok.fit (HLS.out.below hS2).fa.at_) HPI.out.2 (OkP.fit HPI.out.2 (by rw [HPI.out.1]; exact one_ok _ _ (by decide))) bB
      rw [HPA.out, HPI.out.1] at hwt
      unfold MV.val at hwt
      rw [HLA.out] at hwt
      have HWT := Lib.hid hwt
      clear hwt
      go_simp
      refine HWT.out.mono ?_
      rintro e w17 ⟨vc, rfl, hpc, hoc, hb⟩
      have hpc : vc.pv = pvC := hpc.trans A_with
      unfold MV.val
      have HPC := Lib.hid (And.intro hpc hoc.at_)
      clear hpc hoc HWT
      go_simp
      refine hK.out _ _ (hS2.trans (hb.mono hS2.size)) (fun hS3 => ?_)
      clear hK K' hS2
      have HCV := Lib.hid HPC.out.2.lt
      refine wpAnyH_ready (rs := [3]) (by kernel_rfl) (by simp) ?_
      refine AllReadyH.cons rfl (fun K' hK => ?_) AllReadyH.nil
      go_simp
      have HZ : Hid (Blk (w17.alloc (.cells #[.int .i64 0, .int .i64 0, .string ⟨#[]⟩, .slice none 0 0, .slice none 0 0] 25)) w17.heap.size 25 #[.int .i64 0, .int .i64 0, .string ⟨#[]⟩, .slice none 0 0, .slice none 0 0]) := Lib.hid (Blk.new _ _ _)
      have HGE : Hid (W15.heap.size ≤ w17.heap.size) := Lib.hid hS3.size
      have HPC := Lib.hid (And.intro HPC.out.1 (HPC.out.2.bel (below_new w17 (.cells #[.int .i64 0, .int .i64 0, .string ⟨#[]⟩, .slice none 0 0, .slice none 0 0] 25))))
      have HCB : Hid (BlkP (fun b => ¬ b = w17.heap.size) vc) := Lib.hid (HCV.out.mono (fun b hb => Nat.ne_of_lt hb))
      refine hK.out _ _ (hS3.alloc hS3.size _) (fun hS4 => ?_)
      clear hK K' hS3
      generalize w17.alloc (.cells #[.int .i64 0, .int .i64 0, .string ⟨#[]⟩, .slice none 0 0, .slice none 0 0] 25) = w18 at HZ HPC hS4 ⊢
      generalize HG7E : w17.heap.size = g7 at HZ HGE HCB ⊢
      clear HG7E
      refine wpAnyH_done (by kernel_rfl) ?_ _
      refine lastQ_normal (wpOp_step rfl (fun K' hK => ?_))
      obtain ⟨z0, z1, z2, z3, z4⟩ := five_cells HZ.out
      obtain ⟨y0, y1, y2, y3, y4⟩ := five_fr HZ.out
      have HZ6 := Lib.hid (blk_five (a := .int .i64 vc.k) (b := .int .i64 vc.n) (c := .string vc.s) (d := .slice vc.lA vc.l.length vc.lc) (e := .slice vc.mA vc.m.length vc.mc) HZ.out)
      have HF6 := Lib.hid (fr_five (w := w18) (g := g7) (a := .int .i64 vc.k) (b := .int .i64 vc.n) (c := .string vc.s) (d := .slice vc.lA vc.l.length vc.lc) (e := .slice vc.mA vc.m.length vc.mc))
      have HB6 := Lib.hid (Fr.below_trans hS4 HF6.out hS4.size (fun k e => by rw [show k = g7 from e]; exact HGE.out))
      have HC6 := Lib.hid (HPC.out.2.fr HF6.out HCB.out)
      have HPC2 : Hid (vc.pv = pvC) := Lib.hid HPC.out.1
      go_simp
      refine hK _ _ ?_
      clear hK K' hS4 z0 z1 z2 z3 z4 y0 y1 y2 y3 y4
      generalize (((((w18.setCell ⟨g7, 0, none⟩ (.int .i64 vc.k)).setCell ⟨g7, 1, none⟩ (.int .i64 vc.n)).setCell ⟨g7, 2, none⟩ (.string vc.s)).setCell ⟨g7, 3, none⟩ (.slice vc.lA vc.l.length vc.lc)).setCell ⟨g7, 4, none⟩ (.slice vc.mA vc.m.length vc.mc)) = w6 at HZ6 HF6 HB6 HC6 ⊢
      clear HPC HF6 HZ HCB HGE HPI HSV
      have HLS := Lib.hid (HLS.out.below HB6.out)
      have HK3 := Lib.hid (HK3.out.below HB6.out HK3.out.lt)
      have HFC := Lib.hid (fine_of HC6.out HPC2.out C_ok (by rw [C_cnt]; omega))
      clear HB6 HC6
      obtain ⟨a0, a1, a2, a3, a4⟩ := five_cells HLS.out.ka
      have hcc := check_any HLS.out.fa (HT.out.below HLS.out.bel)
      unfold MV.val at hcc
      rw [HLA.out] at hcc
      rw [HPA.out, A_chk] at hcc
      have HCC := Lib.hid hcc
      clear hcc
      go_wp2_with fail
      refine HCC.out.mono ?_
      clear a0 a1 a2 a3 a4
      rintro e u1 ⟨rfl, hb⟩
      have HLS := Lib.hid (HLS.out.below hb)
      have HK3 := Lib.hid (HK3.out.below hb HK3.out.lt)
      have HFC := Lib.hid (HFC.out.bel hb)
      have HZ6 := Lib.hid (HZ6.out.below hb HZ6.out.lt)
      clear hb HCC
      obtain ⟨a0, a1, a2, a3, a4⟩ := five_cells HLS.out.ka
      obtain ⟨b0, b1, b2, b3, b4⟩ := five_cells HLS.out.kb
      have hcc := same_any HLS.out.fa HLS.out.fb (HT.out.below HLS.out.bel)
      unfold MV.val at hcc
      rw [HLA.out] at hcc
      rw [HPA.out, HPB.out, A_B] at hcc
      rw [HLB.out.1, HLB.out.2] at hcc
      have HCC := Lib.hid hcc
      clear hcc
      go_wp2_with fail
      refine HCC.out.mono ?_
      clear a0 a1 a2 a3 a4 b0 b1 b2 b3 b4
      rintro e u2 ⟨rfl, hb⟩
      have HLS := Lib.hid (HLS.out.below hb)
      have HK3 := Lib.hid (HK3.out.below hb HK3.out.lt)
      have HFC := Lib.hid (HFC.out.bel hb)
      have HZ6 := Lib.hid (HZ6.out.below hb HZ6.out.lt)
      clear hb HCC
      obtain ⟨a0, a1, a2, a3, a4⟩ := five_cells HLS.out.ka
      obtain ⟨c0, c1, c2, c3, c4⟩ := five_cells HZ6.out
      have hcc := same_any HLS.out.fa HFC.out (HT.out.below HLS.out.bel)
      unfold MV.val at hcc
      rw [HLA.out] at hcc
      rw [HPA.out, HPC2.out, A_C] at hcc
      have HCC := Lib.hid hcc
      clear hcc
      go_wp2_with fail
      refine HCC.out.mono ?_
      clear a0 a1 a2 a3 a4 c0 c1 c2 c3 c4
      rintro e u3 ⟨rfl, hb⟩
      have HLS := Lib.hid (HLS.out.below hb)
      have HK3 := Lib.hid (HK3.out.below hb HK3.out.lt)
      have HFC := Lib.hid (HFC.out.bel hb)
      have HZ6 := Lib.hid (HZ6.out.below hb HZ6.out.lt)
      clear hb HCC
      obtain ⟨a0, a1, a2, a3, a4⟩ := five_cells HLS.out.ka
      obtain ⟨x0, x1, x2, x3, x4⟩ := five_cells HK3.out
      have hcc := without_any HLS.out.fa.at_ (HLS.out.fa.ok.fit HLS.out.fa.at_) bB
      unfold MV.val at hcc
      rw [HLA.out] at hcc
      rw [HPA.out, A_wo] at hcc
      have HCC := Lib.hid hcc
      clear hcc
      go_wp2_with fail
      refine HCC.out.mono ?_
      clear a0 a1 a2 a3 a4 x0 x1 x2 x3 x4
      rintro e u4 ⟨vo, rfl, hpo, hoo, hb⟩
      have HLS := Lib.hid (HLS.out.below hb)
      have HK3 := Lib.hid (HK3.out.below hb HK3.out.lt)
      have HFC := Lib.hid (HFC.out.bel hb)
      have HZ6 := Lib.hid (HZ6.out.below hb HZ6.out.lt)
      clear hb HCC
      have hol := len_m hpo
      unfold MV.val
      rw [hol]
      clear hol hpo hoo
      have hfd : ∀ (a b c d e : Value) W, (Instr.field 25 (.agg #[a, b, c, d, e]) 4).run Tryd.prog W = .ok e W := fun _ _ _ _ _ _ => rfl
      obtain ⟨a0, a1, a2, a3, a4⟩ := five_cells HLS.out.ka
      have hcc := depth_any HLS.out.fa (HT.out.below HLS.out.bel)
      unfold MV.val at hcc
      rw [HLA.out] at hcc
      rw [HPA.out, A_dep] at hcc
      have HCC := Lib.hid hcc
      clear hcc
      go_wp2_with fail
      refine HCC.out.mono ?_
      clear a0 a1 a2 a3 a4
      rintro e u5 ⟨rfl, hb⟩
      have HLS := Lib.hid (HLS.out.below hb)
      have HK3 := Lib.hid (HK3.out.below hb HK3.out.lt)
      have HFC := Lib.hid (HFC.out.bel hb)
      have HZ6 := Lib.hid (HZ6.out.below hb HZ6.out.lt)
      clear hb HCC
      clear hfd
      obtain ⟨a0, a1, a2, a3, a4⟩ := five_cells HLS.out.ka
      have hcc := count_any HLS.out.fa (HT.out.below HLS.out.bel)
      unfold MV.val at hcc
      rw [HLA.out] at hcc
      rw [HPA.out, A_cnt] at hcc
      have HCC := Lib.hid hcc
      clear hcc
      go_wp2_with fail
      refine HCC.out.mono ?_
      clear a0 a1 a2 a3 a4
      rintro e u6 ⟨rfl, hb⟩
      have HLS := Lib.hid (HLS.out.below hb)
      have HK3 := Lib.hid (HK3.out.below hb HK3.out.lt)
      have HFC := Lib.hid (HFC.out.bel hb)
      have HZ6 := Lib.hid (HZ6.out.below hb HZ6.out.lt)
      clear hb HCC
      have hcc := check_any (v := MV.none_) (w := u6) (fine_of (VOwn.none_ 0 _).at_ rfl none_ok (by decide)) (HT.out.below HLS.out.bel)
      unfold MV.val at hcc
      rw [show MV.none_.pv = PV.none_ from rfl, none_chk] at hcc
      have HCC := Lib.hid hcc
      clear hcc
      go_wp2_with fail
      refine HCC.out.mono ?_
      rintro e u7 ⟨rfl, hb⟩
      have HLS := Lib.hid (HLS.out.below hb)
      have HK3 := Lib.hid (HK3.out.below hb HK3.out.lt)
      have HFC := Lib.hid (HFC.out.bel hb)
      have HZ6 := Lib.hid (HZ6.out.below hb HZ6.out.lt)
      clear hb HCC
      obtain ⟨b0, b1, b2, b3, b4⟩ := five_cells HLS.out.kb
      have e0 := HLS.out.e0
      have e4 := HLS.out.e4
      have e5 := HLS.out.e5
      have HBE := Lib.hid HLS.out.bel
      go_wp2
      go_ret
      exact ⟨rfl, HBE.out⟩
    · go_simp
      have HZ : Hid (Blk (w16.alloc (.cells #[.int .i64 0, .int .i64 0, .string ⟨#[]⟩, .slice none 0 0, .slice none 0 0] 25)) w16.heap.size 25 #[.int .i64 0, .int .i64 0, .string ⟨#[]⟩, .slice none 0 0, .slice none 0 0]) := Lib.hid (Blk.new _ _ _)
      have HGE : Hid (W15.heap.size ≤ w16.heap.size) := Lib.hid hS2.size
      have HPI := Lib.hid (And.intro HPI.out.1 (HPI.out.2.bel (below_new w16 (.cells #[.int .i64 0, .int .i64 0, .string ⟨#[]⟩, .slice none 0 0, .slice none 0 0] 25))))
      refine hK.out _ _ (hS2.alloc hS2.size _) (fun hS3 => ?_)
      clear hK K' hS2
      generalize w16.alloc (.cells #[.int .i64 0, .int .i64 0, .string ⟨#[]⟩, .slice none 0 0, .slice none 0 0] 25) = w18 at HZ HPI hS3 ⊢
      generalize HG7E : w16.heap.size = g7 at HZ HGE ⊢
      clear HG7E
      refine wpAnyH_ready (rs := [2]) (by kernel_rfl) (by simp) ?_
      refine AllReadyH.cons rfl (fun K' hK => ?_) AllReadyH.nil
      have hwt := with_any (HLS.out.below hS3).fa.at_ ((HLS.out.below hS3).fa.ok.fit (HLS.out.below hS3).fa.at_) HPI.out.2 (OkP.fit HPI.out.2 (by rw [HPI.out.1]; exact one_ok _ _ (by decide))) bB
      rw [HPA.out, HPI.out.1] at hwt
      unfold MV.val at hwt
      rw [HLA.out] at hwt
      have HWT := Lib.hid hwt
      clear hwt
      go_simp
      refine HWT.out.mono ?_
      rintro e w17 ⟨vc, rfl, hpc, hoc, hb⟩
      have hpc : vc.pv = pvC := hpc.trans A_with
      unfold MV.val
      have HPC := Lib.hid (And.intro hpc hoc.at_)
      have HCB : Hid (BlkP (fun b => ¬ b = g7) vc) := Lib.hid (hoc.fr.mono (fun b hb' e => by have h1 := HZ.out.lt; have h2 : w18.heap.size ≤ b := hb'; omega))
      have HZ := Lib.hid (HZ.out.below hb HZ.out.lt)
      clear hpc hoc HWT
      go_simp
      refine hK.out _ _ (hS3.trans (hb.mono hS3.size)) (fun hS4 => ?_)
      clear hK K' hS3
      refine wpAnyH_done (by kernel_rfl) ?_ _
      refine lastQ_normal (wpOp_step rfl (fun K' hK => ?_))
      obtain ⟨z0, z1, z2, z3, z4⟩ := five_cells HZ.out
      obtain ⟨y0, y1, y2, y3, y4⟩ := five_fr HZ.out
      have HZ6 := Lib.hid (blk_five (a := .int .i64 vc.k) (b := .int .i64 vc.n) (c := .string vc.s) (d := .slice vc.lA vc.l.length vc.lc) (e := .slice vc.mA vc.m.length vc.mc) HZ.out)
      have HF6 := Lib.hid (fr_five (w := w17) (g := g7) (a := .int .i64 vc.k) (b := .int .i64 vc.n) (c := .string vc.s) (d := .slice vc.lA vc.l.length vc.lc) (e := .slice vc.mA vc.m.length vc.mc))
      have HB6 := Lib.hid (Fr.below_trans hS4 HF6.out hS4.size (fun k e => by rw [show k = g7 from e]; exact HGE.out))
      have HC6 := Lib.hid (HPC.out.2.fr HF6.out HCB.out)
      have HPC2 : Hid (vc.pv = pvC) := Lib.hid HPC.out.1
      go_simp
      refine hK _ _ ?_
      clear hK K' hS4 z0 z1 z2 z3 z4 y0 y1 y2 y3 y4
      generalize (((((w17.setCell ⟨g7, 0, none⟩ (.int .i64 vc.k)).setCell ⟨g7, 1, none⟩ (.int .i64 vc.n)).setCell ⟨g7, 2, none⟩ (.string vc.s)).setCell ⟨g7, 3, none⟩ (.slice vc.lA vc.l.length vc.lc)).setCell ⟨g7, 4, none⟩ (.slice vc.mA vc.m.length vc.mc)) = w6 at HZ6 HF6 HB6 HC6 ⊢
      clear HPC HF6 HZ HCB HGE HPI HSV
      have HLS := Lib.hid (HLS.out.below HB6.out)
      have HK3 := Lib.hid (HK3.out.below HB6.out HK3.out.lt)
      have HFC := Lib.hid (fine_of HC6.out HPC2.out C_ok (by rw [C_cnt]; omega))
      clear HB6 HC6
      obtain ⟨a0, a1, a2, a3, a4⟩ := five_cells HLS.out.ka
      have hcc := check_any HLS.out.fa (HT.out.below HLS.out.bel)
      unfold MV.val at hcc
      rw [HLA.out] at hcc
      rw [HPA.out, A_chk] at hcc
      have HCC := Lib.hid hcc
      clear hcc
      go_wp2_with fail
      refine HCC.out.mono ?_
      clear a0 a1 a2 a3 a4
      rintro e u1 ⟨rfl, hb⟩
      have HLS := Lib.hid (HLS.out.below hb)
      have HK3 := Lib.hid (HK3.out.below hb HK3.out.lt)
      have HFC := Lib.hid (HFC.out.bel hb)
      have HZ6 := Lib.hid (HZ6.out.below hb HZ6.out.lt)
      clear hb HCC
      obtain ⟨a0, a1, a2, a3, a4⟩ := five_cells HLS.out.ka
      obtain ⟨b0, b1, b2, b3, b4⟩ := five_cells HLS.out.kb
      have hcc := same_any HLS.out.fa HLS.out.fb (HT.out.below HLS.out.bel)
      unfold MV.val at hcc
      rw [HLA.out] at hcc
      rw [HPA.out, HPB.out, A_B] at hcc
      rw [HLB.out.1, HLB.out.2] at hcc
      have HCC := Lib.hid hcc
      clear hcc
      go_wp2_with fail
      refine HCC.out.mono ?_
      clear a0 a1 a2 a3 a4 b0 b1 b2 b3 b4
      rintro e u2 ⟨rfl, hb⟩
      have HLS := Lib.hid (HLS.out.below hb)
      have HK3 := Lib.hid (HK3.out.below hb HK3.out.lt)
      have HFC := Lib.hid (HFC.out.bel hb)
      have HZ6 := Lib.hid (HZ6.out.below hb HZ6.out.lt)
      clear hb HCC
      obtain ⟨a0, a1, a2, a3, a4⟩ := five_cells HLS.out.ka
      obtain ⟨c0, c1, c2, c3, c4⟩ := five_cells HZ6.out
      have hcc := same_any HLS.out.fa HFC.out (HT.out.below HLS.out.bel)
      unfold MV.val at hcc
      rw [HLA.out] at hcc
      rw [HPA.out, HPC2.out, A_C] at hcc
      have HCC := Lib.hid hcc
      clear hcc
      go_wp2_with fail
      refine HCC.out.mono ?_
      clear a0 a1 a2 a3 a4 c0 c1 c2 c3 c4
      rintro e u3 ⟨rfl, hb⟩
      have HLS := Lib.hid (HLS.out.below hb)
      have HK3 := Lib.hid (HK3.out.below hb HK3.out.lt)
      have HFC := Lib.hid (HFC.out.bel hb)
      have HZ6 := Lib.hid (HZ6.out.below hb HZ6.out.lt)
      clear hb HCC
      obtain ⟨a0, a1, a2, a3, a4⟩ := five_cells HLS.out.ka
      obtain ⟨x0, x1, x2, x3, x4⟩ := five_cells HK3.out
      have hcc := without_any HLS.out.fa.at_ (HLS.out.fa.ok.fit HLS.out.fa.at_) bB
      unfold MV.val at hcc
      rw [HLA.out] at hcc
      rw [HPA.out, A_wo] at hcc
      have HCC := Lib.hid hcc
      clear hcc
      go_wp2_with fail
      refine HCC.out.mono ?_
      clear a0 a1 a2 a3 a4 x0 x1 x2 x3 x4
      rintro e u4 ⟨vo, rfl, hpo, hoo, hb⟩
      have HLS := Lib.hid (HLS.out.below hb)
      have HK3 := Lib.hid (HK3.out.below hb HK3.out.lt)
      have HFC := Lib.hid (HFC.out.bel hb)
      have HZ6 := Lib.hid (HZ6.out.below hb HZ6.out.lt)
      clear hb HCC
      have hol := len_m hpo
      unfold MV.val
      rw [hol]
      clear hol hpo hoo
      have hfd : ∀ (a b c d e : Value) W, (Instr.field 25 (.agg #[a, b, c, d, e]) 4).run Tryd.prog W = .ok e W := fun _ _ _ _ _ _ => rfl
      obtain ⟨a0, a1, a2, a3, a4⟩ := five_cells HLS.out.ka
      have hcc := depth_any HLS.out.fa (HT.out.below HLS.out.bel)
      unfold MV.val at hcc
      rw [HLA.out] at hcc
      rw [HPA.out, A_dep] at hcc
      have HCC := Lib.hid hcc
      clear hcc
      go_wp2_with fail
      refine HCC.out.mono ?_
      clear a0 a1 a2 a3 a4
      rintro e u5 ⟨rfl, hb⟩
      have HLS := Lib.hid (HLS.out.below hb)
      have HK3 := Lib.hid (HK3.out.below hb HK3.out.lt)
      have HFC := Lib.hid (HFC.out.bel hb)
      have HZ6 := Lib.hid (HZ6.out.below hb HZ6.out.lt)
      clear hb HCC
      clear hfd
      obtain ⟨a0, a1, a2, a3, a4⟩ := five_cells HLS.out.ka
      have hcc := count_any HLS.out.fa (HT.out.below HLS.out.bel)
      unfold MV.val at hcc
      rw [HLA.out] at hcc
      rw [HPA.out, A_cnt] at hcc
      have HCC := Lib.hid hcc
      clear hcc
      go_wp2_with fail
      refine HCC.out.mono ?_
      clear a0 a1 a2 a3 a4
      rintro e u6 ⟨rfl, hb⟩
      have HLS := Lib.hid (HLS.out.below hb)
      have HK3 := Lib.hid (HK3.out.below hb HK3.out.lt)
      have HFC := Lib.hid (HFC.out.bel hb)
      have HZ6 := Lib.hid (HZ6.out.below hb HZ6.out.lt)
      clear hb HCC
      have hcc := check_any (v := MV.none_) (w := u6) (fine_of (VOwn.none_ 0 _).at_ rfl none_ok (by decide)) (HT.out.below HLS.out.bel)
      unfold MV.val at hcc
      rw [show MV.none_.pv = PV.none_ from rfl, none_chk] at hcc
      have HCC := Lib.hid hcc
      clear hcc
      go_wp2_with fail
      refine HCC.out.mono ?_
      rintro e u7 ⟨rfl, hb⟩
      have HLS := Lib.hid (HLS.out.below hb)
      have HK3 := Lib.hid (HK3.out.below hb HK3.out.lt)
      have HFC := Lib.hid (HFC.out.bel hb)
      have HZ6 := Lib.hid (HZ6.out.below hb HZ6.out.lt)
      clear hb HCC
      obtain ⟨b0, b1, b2, b3, b4⟩ := five_cells HLS.out.kb
      have e0 := HLS.out.e0
      have e4 := HLS.out.e4
      have e5 := HLS.out.e5
      have HBE := Lib.hid HLS.out.bel
      go_wp2
      go_ret
      exact ⟨rfl, HBE.out⟩
  · go_simp
    have HZ : Hid (Blk (W0.alloc (.cells #[.int .i64 0, .int .i64 0, .string ⟨#[]⟩, .slice none 0 0, .slice none 0 0] 25)) W0.heap.size 25 #[.int .i64 0, .int .i64 0, .string ⟨#[]⟩, .slice none 0 0, .slice none 0 0]) := Lib.hid (Blk.new _ _ _)
    have HGE : Hid (W15.heap.size ≤ W0.heap.size) := Lib.hid hS1.size
    refine hK.out _ _ (hS1.alloc hS1.size _) (fun hS2 => ?_)
    clear hK K' hS1
    generalize W0.alloc (.cells #[.int .i64 0, .int .i64 0, .string ⟨#[]⟩, .slice none 0 0, .slice none 0 0] 25) = w18 at HZ hS2 ⊢
    generalize HG7E : W0.heap.size = g7 at HZ HGE ⊢
    clear HG7E
    refine wpAnyH_ready (rs := [1]) (by kernel_rfl) (by simp) ?_
    refine AllReadyH.cons rfl (fun K' hK => ?_) AllReadyH.nil
    go_simp
    refine (int_any 2 _ rfl).mono ?_
    rintro e w16 ⟨vi, rfl, hpi, hoi, hb⟩
    unfold MV.val
    have HPI := Lib.hid (And.intro hpi hoi.at_)
    have HZ := Lib.hid (HZ.out.below hb HZ.out.lt)
    clear hpi hoi
    go_simp
    refine hK.out _ _ (hS2.trans (hb.mono hS2.size)) (fun hS3 => ?_)
    clear hK K' hS2
    refine wpAnyH_ready (rs := [2]) (by kernel_rfl) (by simp) ?_
    refine AllReadyH.cons rfl (fun K' hK => ?_) AllReadyH.nil
    have hwt := with_any (HLS.out.below hS3).fa.at_ ((HLS.out.below hS3).fa.ok.fit (HLS.out.below hS3).fa.at_) HPI.out.2 (OkP.fit HPI.out.2 (by rw [HPI.out.1]; exact one_ok _ _ (by decide))) bB
    rw [HPA.out, HPI.out.1] at hwt
    unfold MV.val at hwt
    rw [HLA.out] at hwt
    have HWT := Lib.hid hwt
    clear hwt
    go_simp
    refine HWT.out.mono ?_
    rintro e w17 ⟨vc, rfl, hpc, hoc, hb⟩
    have hpc : vc.pv = pvC := hpc.trans A_with
    unfold MV.val
    have HPC := Lib.hid (And.intro hpc hoc.at_)
    have HCB : Hid (BlkP (fun b => ¬ b = g7) vc) := Lib.hid (hoc.fr.mono (fun b hb' e => by have h1 := HZ.out.lt; have h2 : w16.heap.size ≤ b := hb'; omega))
    have HZ := Lib.hid (HZ.out.below hb HZ.out.lt)
    clear hpc hoc HWT
    go_simp
    refine hK.out _ _ (hS3.trans (hb.mono hS3.size)) (fun hS4 => ?_)
    clear hK K' hS3
    refine wpAnyH_done (by kernel_rfl) ?_ _
    refine lastQ_normal (wpOp_step rfl (fun K' hK => ?_))
    obtain ⟨z0, z1, z2, z3, z4⟩ := five_cells HZ.out
    obtain ⟨y0, y1, y2, y3, y4⟩ := five_fr HZ.out
    have HZ6 := Lib.hid (blk_five (a := .int .i64 vc.k) (b := .int .i64 vc.n) (c := .string vc.s) (d := .slice vc.lA vc.l.length vc.lc) (e := .slice vc.mA vc.m.length vc.mc) HZ.out)
    have HF6 := Lib.hid (fr_five (w := w17) (g := g7) (a := .int .i64 vc.k) (b := .int .i64 vc.n) (c := .string vc.s) (d := .slice vc.lA vc.l.length vc.lc) (e := .slice vc.mA vc.m.length vc.mc))
    have HB6 := Lib.hid (Fr.below_trans hS4 HF6.out hS4.size (fun k e => by rw [show k = g7 from e]; exact HGE.out))
    have HC6 := Lib.hid (HPC.out.2.fr HF6.out HCB.out)
    have HPC2 : Hid (vc.pv = pvC) := Lib.hid HPC.out.1
    go_simp
    refine hK _ _ ?_
    clear hK K' hS4 z0 z1 z2 z3 z4 y0 y1 y2 y3 y4
    generalize (((((w17.setCell ⟨g7, 0, none⟩ (.int .i64 vc.k)).setCell ⟨g7, 1, none⟩ (.int .i64 vc.n)).setCell ⟨g7, 2, none⟩ (.string vc.s)).setCell ⟨g7, 3, none⟩ (.slice vc.lA vc.l.length vc.lc)).setCell ⟨g7, 4, none⟩ (.slice vc.mA vc.m.length vc.mc)) = w6 at HZ6 HF6 HB6 HC6 ⊢
    clear HPC HF6 HZ HCB HGE HPI HSV
    have HLS := Lib.hid (HLS.out.below HB6.out)
    have HK3 := Lib.hid (HK3.out.below HB6.out HK3.out.lt)
    have HFC := Lib.hid (fine_of HC6.out HPC2.out C_ok (by rw [C_cnt]; omega))
    clear HB6 HC6
    obtain ⟨a0, a1, a2, a3, a4⟩ := five_cells HLS.out.ka
    have hcc := check_any HLS.out.fa (HT.out.below HLS.out.bel)
    unfold MV.val at hcc
    rw [HLA.out] at hcc
    rw [HPA.out, A_chk] at hcc
    have HCC := Lib.hid hcc
    clear hcc
    go_wp2_with fail
    refine HCC.out.mono ?_
    clear a0 a1 a2 a3 a4
    rintro e u1 ⟨rfl, hb⟩
    have HLS := Lib.hid (HLS.out.below hb)
    have HK3 := Lib.hid (HK3.out.below hb HK3.out.lt)
    have HFC := Lib.hid (HFC.out.bel hb)
    have HZ6 := Lib.hid (HZ6.out.below hb HZ6.out.lt)
    clear hb HCC
    obtain ⟨a0, a1, a2, a3, a4⟩ := five_cells HLS.out.ka
    obtain ⟨b0, b1, b2, b3, b4⟩ := five_cells HLS.out.kb
    have hcc := same_any HLS.out.fa HLS.out.fb (HT.out.below HLS.out.bel)
    unfold MV.val at hcc
    rw [HLA.out] at hcc
    rw [HPA.out, HPB.out, A_B] at hcc
    rw [HLB.out.1, HLB.out.2] at hcc
    have HCC := Lib.hid hcc
    clear hcc
    go_wp2_with fail
    refine HCC.out.mono ?_
    clear a0 a1 a2 a3 a4 b0 b1 b2 b3 b4
    rintro e u2 ⟨rfl, hb⟩
    have HLS := Lib.hid (HLS.out.below hb)
    have HK3 := Lib.hid (HK3.out.below hb HK3.out.lt)
    have HFC := Lib.hid (HFC.out.bel hb)
    have HZ6 := Lib.hid (HZ6.out.below hb HZ6.out.lt)
    clear hb HCC
    obtain ⟨a0, a1, a2, a3, a4⟩ := five_cells HLS.out.ka
    obtain ⟨c0, c1, c2, c3, c4⟩ := five_cells HZ6.out
    have hcc := same_any HLS.out.fa HFC.out (HT.out.below HLS.out.bel)
    unfold MV.val at hcc
    rw [HLA.out] at hcc
    rw [HPA.out, HPC2.out, A_C] at hcc
    have HCC := Lib.hid hcc
    clear hcc
    go_wp2_with fail
    refine HCC.out.mono ?_
    clear a0 a1 a2 a3 a4 c0 c1 c2 c3 c4
    rintro e u3 ⟨rfl, hb⟩
    have HLS := Lib.hid (HLS.out.below hb)
    have HK3 := Lib.hid (HK3.out.below hb HK3.out.lt)
    have HFC := Lib.hid (HFC.out.bel hb)
    have HZ6 := Lib.hid (HZ6.out.below hb HZ6.out.lt)
    clear hb HCC
    obtain ⟨a0, a1, a2, a3, a4⟩ := five_cells HLS.out.ka
    obtain ⟨x0, x1, x2, x3, x4⟩ := five_cells HK3.out
    have hcc := without_any HLS.out.fa.at_ (HLS.out.fa.ok.fit HLS.out.fa.at_) bB
    unfold MV.val at hcc
    rw [HLA.out] at hcc
    rw [HPA.out, A_wo] at hcc
    have HCC := Lib.hid hcc
    clear hcc
    go_wp2_with fail
    refine HCC.out.mono ?_
    clear a0 a1 a2 a3 a4 x0 x1 x2 x3 x4
    rintro e u4 ⟨vo, rfl, hpo, hoo, hb⟩
    have HLS := Lib.hid (HLS.out.below hb)
    have HK3 := Lib.hid (HK3.out.below hb HK3.out.lt)
    have HFC := Lib.hid (HFC.out.bel hb)
    have HZ6 := Lib.hid (HZ6.out.below hb HZ6.out.lt)
    clear hb HCC
    have hol := len_m hpo
    unfold MV.val
    rw [hol]
    clear hol hpo hoo
    have hfd : ∀ (a b c d e : Value) W, (Instr.field 25 (.agg #[a, b, c, d, e]) 4).run Tryd.prog W = .ok e W := fun _ _ _ _ _ _ => rfl
    obtain ⟨a0, a1, a2, a3, a4⟩ := five_cells HLS.out.ka
    have hcc := depth_any HLS.out.fa (HT.out.below HLS.out.bel)
    unfold MV.val at hcc
    rw [HLA.out] at hcc
    rw [HPA.out, A_dep] at hcc
    have HCC := Lib.hid hcc
    clear hcc
    go_wp2_with fail
    refine HCC.out.mono ?_
    clear a0 a1 a2 a3 a4
    rintro e u5 ⟨rfl, hb⟩
    have HLS := Lib.hid (HLS.out.below hb)
    have HK3 := Lib.hid (HK3.out.below hb HK3.out.lt)
    have HFC := Lib.hid (HFC.out.bel hb)
    have HZ6 := Lib.hid (HZ6.out.below hb HZ6.out.lt)
    clear hb HCC
    clear hfd
    obtain ⟨a0, a1, a2, a3, a4⟩ := five_cells HLS.out.ka
    have hcc := count_any HLS.out.fa (HT.out.below HLS.out.bel)
    unfold MV.val at hcc
    rw [HLA.out] at hcc
    rw [HPA.out, A_cnt] at hcc
    have HCC := Lib.hid hcc
    clear hcc
    go_wp2_with fail
    refine HCC.out.mono ?_
    clear a0 a1 a2 a3 a4
    rintro e u6 ⟨rfl, hb⟩
    have HLS := Lib.hid (HLS.out.below hb)
    have HK3 := Lib.hid (HK3.out.below hb HK3.out.lt)
    have HFC := Lib.hid (HFC.out.bel hb)
    have HZ6 := Lib.hid (HZ6.out.below hb HZ6.out.lt)
    clear hb HCC
    have hcc := check_any (v := MV.none_) (w := u6) (fine_of (VOwn.none_ 0 _).at_ rfl none_ok (by decide)) (HT.out.below HLS.out.bel)
    unfold MV.val at hcc
    rw [show MV.none_.pv = PV.none_ from rfl, none_chk] at hcc
    have HCC := Lib.hid hcc
    clear hcc
    go_wp2_with fail
    refine HCC.out.mono ?_
    rintro e u7 ⟨rfl, hb⟩
    have HLS := Lib.hid (HLS.out.below hb)
    have HK3 := Lib.hid (HK3.out.below hb HK3.out.lt)
    have HFC := Lib.hid (HFC.out.bel hb)
    have HZ6 := Lib.hid (HZ6.out.below hb HZ6.out.lt)
    clear hb HCC
    obtain ⟨b0, b1, b2, b3, b4⟩ := five_cells HLS.out.kb
    have e0 := HLS.out.e0
    have e4 := HLS.out.e4
    have e5 := HLS.out.e5
    have HBE := Lib.hid HLS.out.bel
    go_wp2
    go_ret
    exact ⟨rfl, HBE.out⟩
end Go.Proofs.YteodigdcdhceiaaDoor
