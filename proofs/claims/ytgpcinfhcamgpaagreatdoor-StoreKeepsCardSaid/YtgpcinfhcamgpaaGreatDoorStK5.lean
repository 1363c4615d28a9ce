/-
  StoreKeeps, a round from Stop on.
-/
import Derived.Test.YtgpcinfhcamgpaaGreatDoorStK4
namespace Go.Proofs.YtgpcinfhcamgpaaGreatDoor
open Go.RowKit Glob
attribute [local go_sem ↓] Go.wp_at_zero Go.wp_at_succ
set_option linter.unusedVariables false
set_option linter.unusedSimpArgs false

/-- what the loop keeps, but that the power may be set to go -/
structure KV (W : World) (d s M p r g half n N : Nat) (T : List UInt8) (st : Sta) (xw : SV) (wr : World) : Prop where
  disk : ∃ K, DiskAt wr d s M 0 K ∧ DG K 0 half N T ∧ K.sure.length = n
  rc : RecAt wr r d 0 half N T false
  store : ∃ x, StoreAt wr p r x
  was : Blk wr g 25 xw.cs
  wty : STy wr xw
  bel : Below W.heap.size W wr
theorem KV.drew {W : World} {d s M p r g half n N : Nat} {T : List UInt8} {st : Sta} {xw : SV} {wr : World} (h : KV W d s M p r g half n N T st xw wr) : KV W d s M p r g half n N T st xw wr.drew := by
  obtain ⟨K, h1, h2, h3⟩ := h.disk
  obtain ⟨x, hx⟩ := h.store
  have hb : Below wr.heap.size wr wr.drew := (Below.refl _ _).drew
  exact ⟨⟨K, h1.below hb, h2, h3⟩, h.rc.below hb, ⟨x, hx.below hb⟩, h.was.below hb h.was.lt, h.wty.below hb, h.bel.trans (hb.mono h.bel.size)⟩
theorem stop_len (K : Dk) (n b : Int) : (K.stop n b).sure.length = K.sure.length := by
  obtain ⟨e1, e2, e3⟩ := stop_sure K n b
  rw [e1]
theorem KV.stop {W : World} {d s M p r g half nd N : Nat} {T : List UInt8} {st : Sta} {xw : SV} (n b : Int) (V : World) (h : KV W d s M p r g half nd N T st xw V) (hn : n ≤ 9223372036854775807) (hd : W.heap.size ≤ d) :
    Calls Tryz.prog 25 #[.pointer (some ⟨d, 0, none⟩), .int .i64 n, .int .i64 b] V fun e w' => ∃ x, e = .returned (.int .i64 x) ∧ KV W d s M p r g half nd N T st xw w' := by
  obtain ⟨K, h1, h2, h3⟩ := h.disk
  refine (stop_any n b V h1 hn).mono ?_
  rintro e w' ⟨rfl, hD, hf⟩
  obtain ⟨x, hx⟩ := h.store
  obtain ⟨cap, hb, _⟩ := h1.blk
  have hno : NoBF V d := h1.noBF d (.inl rfl)
  have hnb : ∀ j, j = d → NoBF V j := fun j e => e ▸ hno
  refine ⟨_, rfl, ⟨K.stop n b, hD, h2.stop n b, (stop_len K n b).trans h3⟩, h.rc.fr hf (fun e => by
    obtain ⟨_, hr⟩ := h.rc.blk
    exact hr.ne_ hb (by decide) e) (fun j e _ => e ▸ h1.noBy d (.inl rfl)), ⟨x, hx.fr hf (fun e => hx.blk.ne_ hb (by decide) e) hnb⟩, h.was.fr hf (fun e => h.was.ne_ hb (by decide) e), h.wty.fr hf hnb, Fr.below_trans h.bel hf h.bel.size (fun j e => e ▸ hd)⟩
set_option maxRecDepth 100000 in
set_option maxHeartbeats 16000000 in
theorem keeps_mid (W : World) (d s M p r g half nd N k nl c b oo : Nat) (T : List UInt8) (st : Sta) (xw : SV) (op : OpS) (u : Nat → Value) (wr : World) (Q : Exit → Act → World → Prop) (hQP : ∀ (c : List PanicEntry) (a a' : Act) (w : World), Q (.panic c) a w → Q (.panic c) a' w) (hu1 : u 1 = .slice (some ⟨b, oo, none⟩) nl c) (hu5 : u 5 = .pointer (some ⟨d, 0, none⟩)) (hu7 : u 7 = .pointer (some ⟨p, 0, none⟩)) (hu9 : u 9 = .pointer (some ⟨g, 0, none⟩)) (hu10 : u 10 = .int .i64 (k : Int)) (hu11 : u 11 = .int .i64 (wantC half op.x.sta))
    (hk : k < nl) (hnl : nl ≤ 9223372036854775807) (hK : TabK W) (hT : Tab W) (hKW : KW W d s M p r g half nd N T st xw wr) (h4 : 4 ≤ nd) (h60 : nd ≤ 60) (hhalf : nd / 2 = half) (hop : OpSAt W W.heap.size b (oo + k * 8) op) (hol : op.l.length ≤ 70) (hss : SSm op.x) (hgd : W.heap.size ≤ d ∧ W.heap.size ≤ s) (hN : N < 255)
    (hQ : NextK W d s g half nd N k (u 0) (.slice (some ⟨b, oo, none⟩) nl c) Q) :
    Code.wp Tryz.prog kMid Q (kAct u) wr := by
  have hds : ∀ k, DS d s M k → W.heap.size ≤ k := fun k e => by
    have h2 := hKW.gem
    rcases e with rfl | rfl | rfl <;> omega
  have HKF : Hid (∀ (w8 : World) (a : Act) (gv : Int) (K8 : Dk) (n8 : Nat), a.tmps.size = 210 → a.defers = [] → a.tmps.getD 0 undef = u 0 → a.tmps.getD 1 undef = .slice (some ⟨b, oo, none⟩) nl c → a.tmps.getD 5 undef = .pointer (some ⟨d, 0, none⟩) → a.tmps.getD 9 undef = .pointer (some ⟨g, 0, none⟩) → a.tmps.getD 10 undef = .int .i64 (k : Int) → a.tmps.getD 11 undef = .int .i64 (wantC half op.x.sta) → a.tmps.getD 12 undef = .int .i64 gv →
      DiskAt w8 d s M n8 K8 → K8.sure.length = nd → Below W.heap.size W w8 → Blk w8 g 25 xw.cs → STy w8 xw → ((wantC half op.x.sta ≠ 0 ∧ gv = wantC half op.x.sta) ∨ (wantC half op.x.sta = 0 ∧ (gv = 0 ∨ gv = 210))) →
      (∀ sure : List (List UInt8), sure.length = K8.sure.length → (∀ i, i < K8.sure.length → Took K8 i (sure.getD i [])) → Full (K8.crashed sure) →
        ∃ N' T' st', DG (K8.crashed sure) 0 half N' T' ∧ StIs T' st' ∧ T'.length ≤ 64 * (half - 1) ∧ T'.length ≤ 100000 ∧ N' ≤ N + 1 ∧ FndK (wantC half op.x.sta) gv st op.x.sta st') → Code.wp Tryz.prog kFin Q a w8) := by
    refine Lib.hid ?_
    intro w8 a gv K8 n8 hs hd h0 h1 h5 h9 h10 h11 h12 hD hl hb hw hy hwy hfi
    obtain ⟨v, hv, rfl⟩ := kact_lit a hs hd
    exact keeps_fin W d s M g half nd N k nl c b oo n8 (wantC half op.x.sta) gv op st xw K8 v w8 Q hQP ((hv 1).symm.trans h1) ((hv 5).symm.trans h5) ((hv 9).symm.trans h9) ((hv 10).symm.trans h10) ((hv 11).symm.trans h11) ((hv 12).symm.trans h12) hk hnl hK hT hD hl h4 hhalf hb hop hol hss hds hKW.geg hw hy hKW.wm hKW.ws hwy hfi (by rw [← hv 0, h0]; exact hQ)
  have HKV : Hid (KV W d s M p r g half nd N T st xw wr) := by
    obtain ⟨K, h1, h2⟩ := hKW.disk
    exact Lib.hid ⟨⟨K, h1.disk, h1.dg, h2⟩, hKW.rc, hKW.store, hKW.was, hKW.wty, hKW.bel⟩
  have HK := Lib.hid hK
  have HT := Lib.hid hT
  have HOP := Lib.hid (fun V (hV : Below W.heap.size W V) => OpSAt.below hop hV)
  have HSS := Lib.hid hss
  have HDS := Lib.hid hds
  have HGR : Hid (W.heap.size ≤ r ∧ W.heap.size ≤ p) := Lib.hid ⟨hKW.ger, hKW.gep⟩
  have HST0 := Lib.hid (And.intro hKW.stis (And.intro hKW.tl hKW.tb))
  have HGD := Lib.hid hgd
  have HQP := Lib.hid hQP
  have HNN := Lib.hid (And.intro hN (And.intro h4 (And.intro h60 hhalf)))
  have hwf := wf_le hop.wf
  obtain ⟨want, hwant⟩ : ∃ want, want = wantC half op.x.sta := ⟨_, rfl⟩
  rw [← hwant] at hu11 HKF
  have HWA := Lib.hid hwant
  obtain ⟨o0, on0, oc0, o1, on1, oc1, o2, on2, oc2, o3, on3, oc3, o4, on4, oc4, hov, hoc⟩ := op.x.five
  have HOV := Lib.hid hov
  have HOX : Hid (∀ V, Below W.heap.size W V → V.cell? ⟨b, oo + k * 8, none⟩ = some (.slice o0 on0 oc0) ∧ V.cell? ⟨b, oo + k * 8 + 1, none⟩ = some (.slice o1 on1 oc1) ∧ V.cell? ⟨b, oo + k * 8 + 2, none⟩ = some (.slice o2 on2 oc2) ∧ V.cell? ⟨b, oo + k * 8 + 3, none⟩ = some (.slice o3 on3 oc3) ∧ V.cell? ⟨b, oo + k * 8 + 4, none⟩ = some (.slice o4 on4 oc4)) := Lib.hid (fun V hV => by
    have h := (HOP.out V hV).st
    rw [hoc] at h
    exact ⟨h 0 (by omega), h 1 (by omega), h 2 (by omega), h 3 (by omega), h 4 (by omega)⟩)
  have hki : (k : Int) < (nl : Int) := by omega
  have hk0 : (0 : Int) ≤ (k : Int) := by omega
  clear hK hT hKW h4 h60 hhalf hop hol hss hgd hN hQ hQP hds hwant hov hoc
  rw [show kMid = (partC [0] kMid).seq ((partC [1, 0] kMid).seq ((partC [1, 1, 0] kMid).seq kFin)) from rfl]
  generalize kFin = KF at HKF ⊢
  conv => arg 2; arg 1; whnf
  conv => arg 2; arg 2; arg 1; whnf
  conv => arg 2; arg 2; arg 2; arg 1; whnf
  unfold kAct
  rw [hu1, hu5, hu7, hu9, hu10, hu11]
  clear hu1 hu5 hu7 hu9 hu10 hu11
  go_wp2_with fail
  refine wp_region_held_drew (S := fun V => KV W d s M p r g half nd N T st xw V) (by kernel_rfl) (HKV.out.drew) (fun hS1 => ?_)
  refine wpAnyH_take (i := 0) (oi := ⟨some 108, _, _, _, _, _⟩) (v := .pointer (some ⟨d, 0, none⟩)) rfl (by kernel_rfl) (by kernel_rfl) (by kernel_rfl) (fun _ _ _ h => HQP.out _ _ _ _ h) (.inl ⟨by kernel_rfl, fun V hS => by go_simp⟩) hS1 ?_
  simp only [Act.put, List.setIfInBounds_toArray, List.set_cons_zero, List.set_cons_succ]
  refine wpAnyH_take (i := 1) (oi := ⟨some 109, _, _, _, _, _⟩) (v := .slice (some ⟨b, oo, none⟩) nl c) rfl (by kernel_rfl) (by kernel_rfl) (by kernel_rfl) (fun _ _ _ h => HQP.out _ _ _ _ h) (.inl ⟨by kernel_rfl, fun V hS => by go_simp⟩) hS1 ?_
  simp only [Act.put, List.setIfInBounds_toArray, List.set_cons_zero, List.set_cons_succ]
  refine wpAnyH_take (i := 2) (oi := ⟨some 110, _, _, _, _, _⟩) (v := .int .i64 (k : Int)) rfl (by kernel_rfl) (by kernel_rfl) (by kernel_rfl) (fun _ _ _ h => HQP.out _ _ _ _ h) (.inl ⟨by kernel_rfl, fun V hS => by go_simp⟩) hS1 ?_
  simp only [Act.put, List.setIfInBounds_toArray, List.set_cons_zero, List.set_cons_succ]
  refine wpAnyH_take (i := 3) (oi := ⟨some 111, _, _, _, _, _⟩) (v := .pointer (some ⟨b, oo + k * 8, none⟩)) rfl (by kernel_rfl) (by kernel_rfl) (by kernel_rfl) (fun _ _ _ h => HQP.out _ _ _ _ h) (.inl ⟨by kernel_rfl, fun V hS => by go_simp⟩) hS1 ?_
  simp only [Act.put, List.setIfInBounds_toArray, List.set_cons_zero, List.set_cons_succ]
  refine wpAnyH_take (i := 4) (oi := ⟨some 112, _, _, _, _, _⟩) (v := .pointer (some ⟨b, oo + k * 8 + 5, none⟩)) rfl (by kernel_rfl) (by kernel_rfl) (by kernel_rfl) (fun _ _ _ h => HQP.out _ _ _ _ h) (.inl ⟨by kernel_rfl, fun V hS => by go_simp⟩) hS1 ?_
  simp only [Act.put, List.setIfInBounds_toArray, List.set_cons_zero, List.set_cons_succ]
  refine wpAnyH_take (i := 5) (oi := ⟨some 113, _, _, _, _, _⟩) (v := .int .i64 op.n) rfl (by kernel_rfl) (by kernel_rfl) (by kernel_rfl) (fun _ _ _ h => HQP.out _ _ _ _ h) (.inl ⟨by kernel_rfl, fun V hS => by have h9 := (HOP.out V hS.bel).n; go_simp⟩) hS1 ?_
  simp only [Act.put, List.setIfInBounds_toArray, List.set_cons_zero, List.set_cons_succ]
  refine wpAnyH_take (i := 6) (oi := ⟨some 114, _, _, _, _, _⟩) (v := .slice (some ⟨b, oo, none⟩) nl c) rfl (by kernel_rfl) (by kernel_rfl) (by kernel_rfl) (fun _ _ _ h => HQP.out _ _ _ _ h) (.inl ⟨by kernel_rfl, fun V hS => by go_simp⟩) hS1 ?_
  simp only [Act.put, List.setIfInBounds_toArray, List.set_cons_zero, List.set_cons_succ]
  refine wpAnyH_take (i := 7) (oi := ⟨some 115, _, _, _, _, _⟩) (v := .int .i64 (k : Int)) rfl (by kernel_rfl) (by kernel_rfl) (by kernel_rfl) (fun _ _ _ h => HQP.out _ _ _ _ h) (.inl ⟨by kernel_rfl, fun V hS => by go_simp⟩) hS1 ?_
  simp only [Act.put, List.setIfInBounds_toArray, List.set_cons_zero, List.set_cons_succ]
  refine wpAnyH_take (i := 8) (oi := ⟨some 116, _, _, _, _, _⟩) (v := .pointer (some ⟨b, oo + k * 8, none⟩)) rfl (by kernel_rfl) (by kernel_rfl) (by kernel_rfl) (fun _ _ _ h => HQP.out _ _ _ _ h) (.inl ⟨by kernel_rfl, fun V hS => by go_simp⟩) hS1 ?_
  simp only [Act.put, List.setIfInBounds_toArray, List.set_cons_zero, List.set_cons_succ]
  refine wpAnyH_take (i := 9) (oi := ⟨some 117, _, _, _, _, _⟩) (v := .pointer (some ⟨b, oo + k * 8 + 6, none⟩)) rfl (by kernel_rfl) (by kernel_rfl) (by kernel_rfl) (fun _ _ _ h => HQP.out _ _ _ _ h) (.inl ⟨by kernel_rfl, fun V hS => by go_simp⟩) hS1 ?_
  simp only [Act.put, List.setIfInBounds_toArray, List.set_cons_zero, List.set_cons_succ]
  refine wpAnyH_take (i := 10) (oi := ⟨some 118, _, _, _, _, _⟩) (v := .int .i64 op.k) rfl (by kernel_rfl) (by kernel_rfl) (by kernel_rfl) (fun _ _ _ h => HQP.out _ _ _ _ h) (.inl ⟨by kernel_rfl, fun V hS => by have h9 := (HOP.out V hS.bel).k; go_simp⟩) hS1 ?_
  simp only [Act.put, List.setIfInBounds_toArray, List.set_cons_zero, List.set_cons_succ]
  refine wpAnyH_ready (rs := [11]) (by kernel_rfl) (by simp) ?_
  refine AllReadyH.cons rfl (fun K' hK => ?_) AllReadyH.nil
  go_simp
  refine (KV.stop op.n op.k _ hS1 hwf HGD.out.1).mono ?_
  rintro e w6 ⟨xs, rfl, hkv6⟩
  go_simp
  refine hK.out _ _ (hkv6) (fun hS2 => ?_)
  clear hK K' hS1
  refine wpAnyH_done (by kernel_rfl) ?_ _
  have HKV6 := Lib.hid hS2
  clear hS2
  obtain ⟨K, hD6, hg6, hl6⟩ := HKV6.out.disk
  obtain ⟨xs0, hxs0⟩ := HKV6.out.store
  have hCO := commit_all (N := N) (half := half) (st0 := st) op.x w6 hD6 hg6 HST0.out.1 HST0.out.2.1 HST0.out.2.2 (by omega) (fun e => by
    have h1 := HT.out.1
    have h2 := HGR.out.1
    rcases e with e | e
    · have := HDS.out _ e; omega
    · omega) (TabK.below HK.out HKV6.out.bel) (Tab.below HT.out HKV6.out.bel) hxs0 HKV6.out.rc (fun V hV => (HOP.out V (Fr.below_trans HKV6.out.bel hV HKV6.out.bel.size (fun k e => e.elim (HDS.out k) (fun e => e ▸ HGR.out.1)))).at_) HSS.out (by have := HNN.out; omega) (by have := HNN.out; omega) HNN.out.1
  rw [HOV.out] at hCO
  have HCO := Lib.hid hCO
  have HL6 := Lib.hid hl6
  have HD6 := Lib.hid hD6
  obtain ⟨q0, q1, q2, q3, q4⟩ := HOX.out w6 HKV6.out.bel
  clear hCO hD6 hg6 hl6 hxs0
  go_wp2_with fail
  refine HCO.out.mono ?_
  rintro e w8 ⟨gv, K8, n8, rfl, hl8, hD8, hf8, hst8, hway8, hfi8⟩
  have HD8 := Lib.hid hD8
  have HL8 : Hid (K8.sure.length = nd) := Lib.hid (hl8.trans HL6.out)
  have HB8 : Hid (Below W.heap.size W w8) := Lib.hid (Fr.below_trans HKV6.out.bel hf8 HKV6.out.bel.size (fun k e => e.elim (HDS.out k) (fun e => e.elim (fun e => e ▸ HGR.out.1) (fun e => e ▸ HGR.out.2))))
  have HW8 : Hid (Blk w8 g 25 xw.cs) := by
    obtain ⟨_, hrb⟩ := HKV6.out.rc.blk
    obtain ⟨x0, hx0⟩ := HKV6.out.store
    exact Lib.hid (HKV6.out.was.fr hf8 (fun e => e.elim (fun e => HD6.out.notT HKV6.out.was (by decide) (by decide) e) (fun e => e.elim (fun e => HKV6.out.was.ne_ hrb (by decide) e) (fun e => HKV6.out.was.ne_ hx0.blk (by decide) e))))
  have HY8 : Hid (STy w8 xw) := by
    obtain ⟨x0, hx0⟩ := HKV6.out.store
    exact Lib.hid (HKV6.out.wty.fr hf8 (fun j e => e.elim (HD6.out.noBF j) (fun e => e.elim (fun e => e ▸ HKV6.out.rc.noBF) (fun e => e ▸ NoBF.of_blk hx0.blk (by decide) (by decide)))))
  have HTB : Hid (Tab w8) := Lib.hid (Tab.below HT.out HB8.out)
  have HST := Lib.hid hst8
  have HFI : Hid (∀ sure : List (List UInt8), sure.length = K8.sure.length → (∀ i, i < K8.sure.length → Took K8 i (sure.getD i [])) → Full (K8.crashed sure) →
      ∃ N' T' st', DG (K8.crashed sure) 0 half N' T' ∧ StIs T' st' ∧ T'.length ≤ 64 * (half - 1) ∧ T'.length ≤ 100000 ∧ N' ≤ N + 1 ∧ FndK want gv st op.x.sta st') := Lib.hid (by rw [HWA.out]; exact hfi8)
  have hway : (want ≠ 0 ∧ gv = want) ∨ (want = 0 ∧ gv = 0) ∨ (want = 0 ∧ gv = 210) := by
    rw [HWA.out]
    rcases hway8 with h | ⟨h, h2 | h2⟩
    · exact .inl h
    · exact .inr (.inl ⟨h, h2⟩)
    · exact .inr (.inr ⟨h, h2⟩)
  clear hD8 hl8 hf8 hst8 hway8 hfi8 HCO q0 q1 q2 q3 q4 HKV6 HKV HL6 HD6
  go_wp2_with fail
  rcases hway with ⟨e1, rfl⟩ | ⟨rfl, rfl⟩ | ⟨rfl, rfl⟩
  · have hq : (gv != 0) = true := by rw [bne_iff_ne]; exact e1
    have hq2 : (gv == 0) = false := by rw [beq_eq_false_iff_ne]; exact e1
    have HE1 := Lib.hid e1
    clear e1
    refine wp_region_held_drew (S := fun V => Below w8.heap.size w8 V) (by kernel_rfl) ((Below.refl _ _).drew) (fun hS1 => ?_)
    refine wpAnyH_take (i := 0) (oi := ⟨some 127, _, _, _, _, _⟩) (v := .int .i64 gv) rfl (by kernel_rfl) (by kernel_rfl) (by kernel_rfl) (fun _ _ _ h => HQP.out _ _ _ _ h) (.inl ⟨by kernel_rfl, fun V hS => by go_simp⟩) hS1 ?_
    simp only [Act.put, List.setIfInBounds_toArray, List.set_cons_zero, List.set_cons_succ]
    refine wpAnyH_take (i := 1) (oi := ⟨some 128, _, _, _, _, _⟩) (v := .bool true) rfl (by kernel_rfl) (by kernel_rfl) (by kernel_rfl) (fun _ _ _ h => HQP.out _ _ _ _ h) (.inl ⟨by kernel_rfl, fun V hS => by go_simp⟩) hS1 ?_
    simp only [Act.put, List.setIfInBounds_toArray, List.set_cons_zero, List.set_cons_succ]
    refine wpAnyH_take (i := 2) (oi := ⟨some 129, _, _, _, _, _⟩) (v := .bool true) rfl (by kernel_rfl) (by kernel_rfl) (by kernel_rfl) (fun _ _ _ h => HQP.out _ _ _ _ h) (.inl ⟨by kernel_rfl, fun V hS => by go_simp⟩) hS1 ?_
    simp only [Act.put, List.setIfInBounds_toArray, List.set_cons_zero, List.set_cons_succ]
    refine wpAnyH_take (i := 3) (oi := ⟨some 130, _, _, _, _, _⟩) (v := .int .i64 gv) rfl (by kernel_rfl) (by kernel_rfl) (by kernel_rfl) (fun _ _ _ h => HQP.out _ _ _ _ h) (.inl ⟨by kernel_rfl, fun V hS => by go_simp⟩) hS1 ?_
    simp only [Act.put, List.setIfInBounds_toArray, List.set_cons_zero, List.set_cons_succ]
    refine wpAnyH_take (i := 4) (oi := ⟨some 131, _, _, _, _, _⟩) (v := .int .i64 gv) rfl (by kernel_rfl) (by kernel_rfl) (by kernel_rfl) (fun _ _ _ h => HQP.out _ _ _ _ h) (.inl ⟨by kernel_rfl, fun V hS => by go_simp⟩) hS1 ?_
    simp only [Act.put, List.setIfInBounds_toArray, List.set_cons_zero, List.set_cons_succ]
    refine wpAnyH_take (i := 5) (oi := ⟨some 132, _, _, _, _, _⟩) (v := .bool false) rfl (by kernel_rfl) (by kernel_rfl) (by kernel_rfl) (fun _ _ _ h => HQP.out _ _ _ _ h) (.inl ⟨by kernel_rfl, fun V hS => by go_simp⟩) hS1 ?_
    simp only [Act.put, List.setIfInBounds_toArray, List.set_cons_zero, List.set_cons_succ]
    refine wpAnyH_take (i := 6) (oi := ⟨some 133, _, _, _, _, _⟩) (v := .bool false) rfl (by kernel_rfl) (by kernel_rfl) (by kernel_rfl) (fun _ _ _ h => HQP.out _ _ _ _ h) (.inl ⟨by kernel_rfl, fun V hS => by go_simp⟩) hS1 ?_
    simp only [Act.put, List.setIfInBounds_toArray, List.set_cons_zero, List.set_cons_succ]
    refine wpAnyH_take (i := 7) (oi := ⟨some 134, _, _, _, _, _⟩) (v := .bool false) rfl (by kernel_rfl) (by kernel_rfl) (by kernel_rfl) (fun _ _ _ h => HQP.out _ _ _ _ h) (.inl ⟨by kernel_rfl, fun V hS => by go_simp⟩) hS1 ?_
    simp only [Act.put, List.setIfInBounds_toArray, List.set_cons_zero, List.set_cons_succ]
    refine wpAnyH_take (i := 8) (oi := ⟨some 135, _, _, _, _, _⟩) (v := .int .i64 gv) rfl (by kernel_rfl) (by kernel_rfl) (by kernel_rfl) (fun _ _ _ h => HQP.out _ _ _ _ h) (.inl ⟨by kernel_rfl, fun V hS => by go_simp⟩) hS1 ?_
    simp only [Act.put, List.setIfInBounds_toArray, List.set_cons_zero, List.set_cons_succ]
    refine wpAnyH_take (i := 9) (oi := ⟨some 136, _, _, _, _, _⟩) (v := .bool false) rfl (by kernel_rfl) (by kernel_rfl) (by kernel_rfl) (fun _ _ _ h => HQP.out _ _ _ _ h) (.inl ⟨by kernel_rfl, fun V hS => by go_simp⟩) hS1 ?_
    simp only [Act.put, List.setIfInBounds_toArray, List.set_cons_zero, List.set_cons_succ]
    refine wpAnyH_take (i := 10) (oi := ⟨some 137, _, _, _, _, _⟩) (v := .bool false) rfl (by kernel_rfl) (by kernel_rfl) (by kernel_rfl) (fun _ _ _ h => HQP.out _ _ _ _ h) (.inl ⟨by kernel_rfl, fun V hS => by go_simp⟩) hS1 ?_
    simp only [Act.put, List.setIfInBounds_toArray, List.set_cons_zero, List.set_cons_succ]
    refine wpAnyH_take (i := 11) (oi := ⟨some 138, _, _, _, _, _⟩) (v := undef) rfl (by kernel_rfl) (by kernel_rfl) (by kernel_rfl) (fun _ _ _ h => HQP.out _ _ _ _ h) (.inr ⟨by kernel_rfl, rfl⟩) hS1 ?_
    simp only [Act.put, List.setIfInBounds_toArray, List.set_cons_zero, List.set_cons_succ]
    refine wpAnyH_take (i := 12) (oi := ⟨some 139, _, _, _, _, _⟩) (v := undef) rfl (by kernel_rfl) (by kernel_rfl) (by kernel_rfl) (fun _ _ _ h => HQP.out _ _ _ _ h) (.inr ⟨by kernel_rfl, rfl⟩) hS1 ?_
    simp only [Act.put, List.setIfInBounds_toArray, List.set_cons_zero, List.set_cons_succ]
    refine wpAnyH_take (i := 13) (oi := ⟨some 140, _, _, _, _, _⟩) (v := .bool false) rfl (by kernel_rfl) (by kernel_rfl) (by kernel_rfl) (fun _ _ _ h => HQP.out _ _ _ _ h) (.inl ⟨by kernel_rfl, fun V hS => by go_simp⟩) hS1 ?_
    simp only [Act.put, List.setIfInBounds_toArray, List.set_cons_zero, List.set_cons_succ]
    refine wpAnyH_take (i := 14) (oi := ⟨some 141, _, _, _, _, _⟩) (v := .bool false) rfl (by kernel_rfl) (by kernel_rfl) (by kernel_rfl) (fun _ _ _ h => HQP.out _ _ _ _ h) (.inl ⟨by kernel_rfl, fun V hS => by go_simp⟩) hS1 ?_
    simp only [Act.put, List.setIfInBounds_toArray, List.set_cons_zero, List.set_cons_succ]
    refine wpAnyH_take (i := 15) (oi := ⟨some 142, _, _, _, _, _⟩) (v := undef) rfl (by kernel_rfl) (by kernel_rfl) (by kernel_rfl) (fun _ _ _ h => HQP.out _ _ _ _ h) (.inr ⟨by kernel_rfl, rfl⟩) hS1 ?_
    simp only [Act.put, List.setIfInBounds_toArray, List.set_cons_zero, List.set_cons_succ]
    refine wpAnyH_take (i := 16) (oi := ⟨some 143, _, _, _, _, _⟩) (v := undef) rfl (by kernel_rfl) (by kernel_rfl) (by kernel_rfl) (fun _ _ _ h => HQP.out _ _ _ _ h) (.inr ⟨by kernel_rfl, rfl⟩) hS1 ?_
    simp only [Act.put, List.setIfInBounds_toArray, List.set_cons_zero, List.set_cons_succ]
    refine wpAnyH_take (i := 17) (oi := ⟨some 144, _, _, _, _, _⟩) (v := .bool false) rfl (by kernel_rfl) (by kernel_rfl) (by kernel_rfl) (fun _ _ _ h => HQP.out _ _ _ _ h) (.inl ⟨by kernel_rfl, fun V hS => by go_simp⟩) hS1 ?_
    simp only [Act.put, List.setIfInBounds_toArray, List.set_cons_zero, List.set_cons_succ]
    refine wpAnyH_take (i := 18) (oi := ⟨some 145, _, _, _, _, _⟩) (v := .bool false) rfl (by kernel_rfl) (by kernel_rfl) (by kernel_rfl) (fun _ _ _ h => HQP.out _ _ _ _ h) (.inl ⟨by kernel_rfl, fun V hS => by go_simp⟩) hS1 ?_
    simp only [Act.put, List.setIfInBounds_toArray, List.set_cons_zero, List.set_cons_succ]
    refine wpAnyH_take (i := 19) (oi := ⟨some 146, _, _, _, _, _⟩) (v := .bool false) rfl (by kernel_rfl) (by kernel_rfl) (by kernel_rfl) (fun _ _ _ h => HQP.out _ _ _ _ h) (.inl ⟨by kernel_rfl, fun V hS => by go_simp⟩) hS1 ?_
    simp only [Act.put, List.setIfInBounds_toArray, List.set_cons_zero, List.set_cons_succ]
    refine wpAnyH_take (i := 20) (oi := ⟨some 147, _, _, _, _, _⟩) (v := .int .i64 gv) rfl (by kernel_rfl) (by kernel_rfl) (by kernel_rfl) (fun _ _ _ h => HQP.out _ _ _ _ h) (.inl ⟨by kernel_rfl, fun V hS => by go_simp⟩) hS1 ?_
    simp only [Act.put, List.setIfInBounds_toArray, List.set_cons_zero, List.set_cons_succ]
    refine wpAnyH_take (i := 21) (oi := ⟨some 148, _, _, _, _, _⟩) (v := .bool false) rfl (by kernel_rfl) (by kernel_rfl) (by kernel_rfl) (fun _ _ _ h => HQP.out _ _ _ _ h) (.inl ⟨by kernel_rfl, fun V hS => by go_simp⟩) hS1 ?_
    simp only [Act.put, List.setIfInBounds_toArray, List.set_cons_zero, List.set_cons_succ]
    refine wpAnyH_take (i := 22) (oi := ⟨some 149, _, _, _, _, _⟩) (v := .bool false) rfl (by kernel_rfl) (by kernel_rfl) (by kernel_rfl) (fun _ _ _ h => HQP.out _ _ _ _ h) (.inl ⟨by kernel_rfl, fun V hS => by go_simp⟩) hS1 ?_
    simp only [Act.put, List.setIfInBounds_toArray, List.set_cons_zero, List.set_cons_succ]
    refine wpAnyH_take (i := 23) (oi := ⟨some 150, _, _, _, _, _⟩) (v := undef) rfl (by kernel_rfl) (by kernel_rfl) (by kernel_rfl) (fun _ _ _ h => HQP.out _ _ _ _ h) (.inr ⟨by kernel_rfl, rfl⟩) hS1 ?_
    simp only [Act.put, List.setIfInBounds_toArray, List.set_cons_zero, List.set_cons_succ]
    refine wpAnyH_take (i := 24) (oi := ⟨some 151, _, _, _, _, _⟩) (v := undef) rfl (by kernel_rfl) (by kernel_rfl) (by kernel_rfl) (fun _ _ _ h => HQP.out _ _ _ _ h) (.inr ⟨by kernel_rfl, rfl⟩) hS1 ?_
    simp only [Act.put, List.setIfInBounds_toArray, List.set_cons_zero, List.set_cons_succ]
    refine wpAnyH_take (i := 25) (oi := ⟨some 152, _, _, _, _, _⟩) (v := undef) rfl (by kernel_rfl) (by kernel_rfl) (by kernel_rfl) (fun _ _ _ h => HQP.out _ _ _ _ h) (.inr ⟨by kernel_rfl, rfl⟩) hS1 ?_
    simp only [Act.put, List.setIfInBounds_toArray, List.set_cons_zero, List.set_cons_succ]
    refine wpAnyH_take (i := 26) (oi := ⟨some 153, _, _, _, _, _⟩) (v := undef) rfl (by kernel_rfl) (by kernel_rfl) (by kernel_rfl) (fun _ _ _ h => HQP.out _ _ _ _ h) (.inr ⟨by kernel_rfl, rfl⟩) hS1 ?_
    simp only [Act.put, List.setIfInBounds_toArray, List.set_cons_zero, List.set_cons_succ]
    refine wpAnyH_take (i := 27) (oi := ⟨some 154, _, _, _, _, _⟩) (v := undef) rfl (by kernel_rfl) (by kernel_rfl) (by kernel_rfl) (fun _ _ _ h => HQP.out _ _ _ _ h) (.inr ⟨by kernel_rfl, rfl⟩) hS1 ?_
    simp only [Act.put, List.setIfInBounds_toArray, List.set_cons_zero, List.set_cons_succ]
    refine wpAnyH_take (i := 28) (oi := ⟨some 155, _, _, _, _, _⟩) (v := undef) rfl (by kernel_rfl) (by kernel_rfl) (by kernel_rfl) (fun _ _ _ h => HQP.out _ _ _ _ h) (.inr ⟨by kernel_rfl, rfl⟩) hS1 ?_
    simp only [Act.put, List.setIfInBounds_toArray, List.set_cons_zero, List.set_cons_succ]
    refine wpAnyH_take (i := 29) (oi := ⟨some 156, _, _, _, _, _⟩) (v := undef) rfl (by kernel_rfl) (by kernel_rfl) (by kernel_rfl) (fun _ _ _ h => HQP.out _ _ _ _ h) (.inr ⟨by kernel_rfl, rfl⟩) hS1 ?_
    simp only [Act.put, List.setIfInBounds_toArray, List.set_cons_zero, List.set_cons_succ]
    refine wpAnyH_take (i := 30) (oi := ⟨some 157, _, _, _, _, _⟩) (v := undef) rfl (by kernel_rfl) (by kernel_rfl) (by kernel_rfl) (fun _ _ _ h => HQP.out _ _ _ _ h) (.inr ⟨by kernel_rfl, rfl⟩) hS1 ?_
    simp only [Act.put, List.setIfInBounds_toArray, List.set_cons_zero, List.set_cons_succ]
    refine wpAnyH_take (i := 31) (oi := ⟨some 158, _, _, _, _, _⟩) (v := undef) rfl (by kernel_rfl) (by kernel_rfl) (by kernel_rfl) (fun _ _ _ h => HQP.out _ _ _ _ h) (.inr ⟨by kernel_rfl, rfl⟩) hS1 ?_
    simp only [Act.put, List.setIfInBounds_toArray, List.set_cons_zero, List.set_cons_succ]
    refine wpAnyH_take (i := 32) (oi := ⟨some 159, _, _, _, _, _⟩) (v := .bool false) rfl (by kernel_rfl) (by kernel_rfl) (by kernel_rfl) (fun _ _ _ h => HQP.out _ _ _ _ h) (.inl ⟨by kernel_rfl, fun V hS => by go_simp⟩) hS1 ?_
    simp only [Act.put, List.setIfInBounds_toArray, List.set_cons_zero, List.set_cons_succ]
    refine wpAnyH_take (i := 33) (oi := ⟨some 160, _, _, _, _, _⟩) (v := .bool false) rfl (by kernel_rfl) (by kernel_rfl) (by kernel_rfl) (fun _ _ _ h => HQP.out _ _ _ _ h) (.inl ⟨by kernel_rfl, fun V hS => by go_simp⟩) hS1 ?_
    simp only [Act.put, List.setIfInBounds_toArray, List.set_cons_zero, List.set_cons_succ]
    refine wpAnyH_done (by kernel_rfl) ?_ _
    have HX := Lib.hid hS1
    clear hS1
    go_wp2
    exact HKF.out _ _ _ K8 n8 rfl rfl rfl rfl rfl rfl rfl rfl rfl (HD8.out.below HX.out) HL8.out (HB8.out.trans (HX.out.mono HB8.out.size)) (HW8.out.below HX.out HW8.out.lt) (HY8.out.below HX.out) (.inl ⟨HE1.out, rfl⟩) HFI.out
  · obtain ⟨y, hy, hys⟩ := HST.out rfl
    have HSY := Lib.hid hy
    have HYS := Lib.hid hys
    clear hy hys
    refine wp_region_held_drew (S := fun V => Below w8.heap.size w8 V) (by kernel_rfl) ((Below.refl _ _).drew) (fun hS1 => ?_)
    refine wpAnyH_take (i := 0) (oi := ⟨some 127, _, _, _, _, _⟩) (v := .int .i64 0) rfl (by kernel_rfl) (by kernel_rfl) (by kernel_rfl) (fun _ _ _ h => HQP.out _ _ _ _ h) (.inl ⟨by kernel_rfl, fun V hS => by go_simp⟩) hS1 ?_
    simp only [Act.put, List.setIfInBounds_toArray, List.set_cons_zero, List.set_cons_succ]
    refine wpAnyH_take (i := 1) (oi := ⟨some 128, _, _, _, _, _⟩) (v := .bool false) rfl (by kernel_rfl) (by kernel_rfl) (by kernel_rfl) (fun _ _ _ h => HQP.out _ _ _ _ h) (.inl ⟨by kernel_rfl, fun V hS => by go_simp⟩) hS1 ?_
    simp only [Act.put, List.setIfInBounds_toArray, List.set_cons_zero, List.set_cons_succ]
    refine wpAnyH_take (i := 2) (oi := ⟨some 129, _, _, _, _, _⟩) (v := .bool false) rfl (by kernel_rfl) (by kernel_rfl) (by kernel_rfl) (fun _ _ _ h => HQP.out _ _ _ _ h) (.inl ⟨by kernel_rfl, fun V hS => by go_simp⟩) hS1 ?_
    simp only [Act.put, List.setIfInBounds_toArray, List.set_cons_zero, List.set_cons_succ]
    refine wpAnyH_take (i := 3) (oi := ⟨some 130, _, _, _, _, _⟩) (v := undef) rfl (by kernel_rfl) (by kernel_rfl) (by kernel_rfl) (fun _ _ _ h => HQP.out _ _ _ _ h) (.inr ⟨by kernel_rfl, rfl⟩) hS1 ?_
    simp only [Act.put, List.setIfInBounds_toArray, List.set_cons_zero, List.set_cons_succ]
    refine wpAnyH_take (i := 4) (oi := ⟨some 131, _, _, _, _, _⟩) (v := undef) rfl (by kernel_rfl) (by kernel_rfl) (by kernel_rfl) (fun _ _ _ h => HQP.out _ _ _ _ h) (.inr ⟨by kernel_rfl, rfl⟩) hS1 ?_
    simp only [Act.put, List.setIfInBounds_toArray, List.set_cons_zero, List.set_cons_succ]
    refine wpAnyH_take (i := 5) (oi := ⟨some 132, _, _, _, _, _⟩) (v := undef) rfl (by kernel_rfl) (by kernel_rfl) (by kernel_rfl) (fun _ _ _ h => HQP.out _ _ _ _ h) (.inr ⟨by kernel_rfl, rfl⟩) hS1 ?_
    simp only [Act.put, List.setIfInBounds_toArray, List.set_cons_zero, List.set_cons_succ]
    refine wpAnyH_take (i := 6) (oi := ⟨some 133, _, _, _, _, _⟩) (v := .bool false) rfl (by kernel_rfl) (by kernel_rfl) (by kernel_rfl) (fun _ _ _ h => HQP.out _ _ _ _ h) (.inl ⟨by kernel_rfl, fun V hS => by go_simp⟩) hS1 ?_
    simp only [Act.put, List.setIfInBounds_toArray, List.set_cons_zero, List.set_cons_succ]
    refine wpAnyH_take (i := 7) (oi := ⟨some 134, _, _, _, _, _⟩) (v := .bool false) rfl (by kernel_rfl) (by kernel_rfl) (by kernel_rfl) (fun _ _ _ h => HQP.out _ _ _ _ h) (.inl ⟨by kernel_rfl, fun V hS => by go_simp⟩) hS1 ?_
    simp only [Act.put, List.setIfInBounds_toArray, List.set_cons_zero, List.set_cons_succ]
    refine wpAnyH_take (i := 8) (oi := ⟨some 135, _, _, _, _, _⟩) (v := .int .i64 0) rfl (by kernel_rfl) (by kernel_rfl) (by kernel_rfl) (fun _ _ _ h => HQP.out _ _ _ _ h) (.inl ⟨by kernel_rfl, fun V hS => by go_simp⟩) hS1 ?_
    simp only [Act.put, List.setIfInBounds_toArray, List.set_cons_zero, List.set_cons_succ]
    refine wpAnyH_take (i := 9) (oi := ⟨some 136, _, _, _, _, _⟩) (v := .bool true) rfl (by kernel_rfl) (by kernel_rfl) (by kernel_rfl) (fun _ _ _ h => HQP.out _ _ _ _ h) (.inl ⟨by kernel_rfl, fun V hS => by go_simp⟩) hS1 ?_
    simp only [Act.put, List.setIfInBounds_toArray, List.set_cons_zero, List.set_cons_succ]
    refine wpAnyH_take (i := 10) (oi := ⟨some 137, _, _, _, _, _⟩) (v := .bool true) rfl (by kernel_rfl) (by kernel_rfl) (by kernel_rfl) (fun _ _ _ h => HQP.out _ _ _ _ h) (.inl ⟨by kernel_rfl, fun V hS => by go_simp⟩) hS1 ?_
    simp only [Act.put, List.setIfInBounds_toArray, List.set_cons_zero, List.set_cons_succ]
    refine wpAnyH_take (i := 11) (oi := ⟨some 138, _, _, _, _, _⟩) (v := .int .i64 0) rfl (by kernel_rfl) (by kernel_rfl) (by kernel_rfl) (fun _ _ _ h => HQP.out _ _ _ _ h) (.inl ⟨by kernel_rfl, fun V hS => by go_simp⟩) hS1 ?_
    simp only [Act.put, List.setIfInBounds_toArray, List.set_cons_zero, List.set_cons_succ]
    refine wpAnyH_take (i := 12) (oi := ⟨some 139, _, _, _, _, _⟩) (v := .bool false) rfl (by kernel_rfl) (by kernel_rfl) (by kernel_rfl) (fun _ _ _ h => HQP.out _ _ _ _ h) (.inl ⟨by kernel_rfl, fun V hS => by go_simp⟩) hS1 ?_
    simp only [Act.put, List.setIfInBounds_toArray, List.set_cons_zero, List.set_cons_succ]
    refine wpAnyH_take (i := 13) (oi := ⟨some 140, _, _, _, _, _⟩) (v := .bool false) rfl (by kernel_rfl) (by kernel_rfl) (by kernel_rfl) (fun _ _ _ h => HQP.out _ _ _ _ h) (.inl ⟨by kernel_rfl, fun V hS => by go_simp⟩) hS1 ?_
    simp only [Act.put, List.setIfInBounds_toArray, List.set_cons_zero, List.set_cons_succ]
    refine wpAnyH_take (i := 14) (oi := ⟨some 141, _, _, _, _, _⟩) (v := .bool false) rfl (by kernel_rfl) (by kernel_rfl) (by kernel_rfl) (fun _ _ _ h => HQP.out _ _ _ _ h) (.inl ⟨by kernel_rfl, fun V hS => by go_simp⟩) hS1 ?_
    simp only [Act.put, List.setIfInBounds_toArray, List.set_cons_zero, List.set_cons_succ]
    refine wpAnyH_take (i := 15) (oi := ⟨some 142, _, _, _, _, _⟩) (v := undef) rfl (by kernel_rfl) (by kernel_rfl) (by kernel_rfl) (fun _ _ _ h => HQP.out _ _ _ _ h) (.inr ⟨by kernel_rfl, rfl⟩) hS1 ?_
    simp only [Act.put, List.setIfInBounds_toArray, List.set_cons_zero, List.set_cons_succ]
    refine wpAnyH_take (i := 16) (oi := ⟨some 143, _, _, _, _, _⟩) (v := undef) rfl (by kernel_rfl) (by kernel_rfl) (by kernel_rfl) (fun _ _ _ h => HQP.out _ _ _ _ h) (.inr ⟨by kernel_rfl, rfl⟩) hS1 ?_
    simp only [Act.put, List.setIfInBounds_toArray, List.set_cons_zero, List.set_cons_succ]
    refine wpAnyH_take (i := 17) (oi := ⟨some 144, _, _, _, _, _⟩) (v := .bool false) rfl (by kernel_rfl) (by kernel_rfl) (by kernel_rfl) (fun _ _ _ h => HQP.out _ _ _ _ h) (.inl ⟨by kernel_rfl, fun V hS => by go_simp⟩) hS1 ?_
    simp only [Act.put, List.setIfInBounds_toArray, List.set_cons_zero, List.set_cons_succ]
    refine wpAnyH_take (i := 18) (oi := ⟨some 145, _, _, _, _, _⟩) (v := .bool false) rfl (by kernel_rfl) (by kernel_rfl) (by kernel_rfl) (fun _ _ _ h => HQP.out _ _ _ _ h) (.inl ⟨by kernel_rfl, fun V hS => by go_simp⟩) hS1 ?_
    simp only [Act.put, List.setIfInBounds_toArray, List.set_cons_zero, List.set_cons_succ]
    refine wpAnyH_take (i := 19) (oi := ⟨some 146, _, _, _, _, _⟩) (v := .bool false) rfl (by kernel_rfl) (by kernel_rfl) (by kernel_rfl) (fun _ _ _ h => HQP.out _ _ _ _ h) (.inl ⟨by kernel_rfl, fun V hS => by go_simp⟩) hS1 ?_
    simp only [Act.put, List.setIfInBounds_toArray, List.set_cons_zero, List.set_cons_succ]
    refine wpAnyH_take (i := 20) (oi := ⟨some 147, _, _, _, _, _⟩) (v := .int .i64 0) rfl (by kernel_rfl) (by kernel_rfl) (by kernel_rfl) (fun _ _ _ h => HQP.out _ _ _ _ h) (.inl ⟨by kernel_rfl, fun V hS => by go_simp⟩) hS1 ?_
    simp only [Act.put, List.setIfInBounds_toArray, List.set_cons_zero, List.set_cons_succ]
    refine wpAnyH_take (i := 21) (oi := ⟨some 148, _, _, _, _, _⟩) (v := .bool true) rfl (by kernel_rfl) (by kernel_rfl) (by kernel_rfl) (fun _ _ _ h => HQP.out _ _ _ _ h) (.inl ⟨by kernel_rfl, fun V hS => by go_simp⟩) hS1 ?_
    simp only [Act.put, List.setIfInBounds_toArray, List.set_cons_zero, List.set_cons_succ]
    refine wpAnyH_take (i := 22) (oi := ⟨some 149, _, _, _, _, _⟩) (v := .bool true) rfl (by kernel_rfl) (by kernel_rfl) (by kernel_rfl) (fun _ _ _ h => HQP.out _ _ _ _ h) (.inl ⟨by kernel_rfl, fun V hS => by go_simp⟩) hS1 ?_
    simp only [Act.put, List.setIfInBounds_toArray, List.set_cons_zero, List.set_cons_succ]
    refine wpAnyH_take (i := 23) (oi := ⟨some 150, _, _, _, _, _⟩) (v := .pointer (some ⟨p, 0, none⟩)) rfl (by kernel_rfl) (by kernel_rfl) (by kernel_rfl) (fun _ _ _ h => HQP.out _ _ _ _ h) (.inl ⟨by kernel_rfl, fun V hS => by go_simp⟩) hS1 ?_
    simp only [Act.put, List.setIfInBounds_toArray, List.set_cons_zero, List.set_cons_succ]
    refine wpAnyH_take (i := 25) (oi := ⟨some 152, _, _, _, _, _⟩) (v := .slice (some ⟨b, oo, none⟩) nl c) rfl (by kernel_rfl) (by kernel_rfl) (by kernel_rfl) (fun _ _ _ h => HQP.out _ _ _ _ h) (.inl ⟨by kernel_rfl, fun V hS => by go_simp⟩) hS1 ?_
    simp only [Act.put, List.setIfInBounds_toArray, List.set_cons_zero, List.set_cons_succ]
    refine wpAnyH_take (i := 26) (oi := ⟨some 153, _, _, _, _, _⟩) (v := .int .i64 (k : Int)) rfl (by kernel_rfl) (by kernel_rfl) (by kernel_rfl) (fun _ _ _ h => HQP.out _ _ _ _ h) (.inl ⟨by kernel_rfl, fun V hS => by go_simp⟩) hS1 ?_
    simp only [Act.put, List.setIfInBounds_toArray, List.set_cons_zero, List.set_cons_succ]
    refine wpAnyH_take (i := 27) (oi := ⟨some 154, _, _, _, _, _⟩) (v := .pointer (some ⟨b, oo + k * 8, none⟩)) rfl (by kernel_rfl) (by kernel_rfl) (by kernel_rfl) (fun _ _ _ h => HQP.out _ _ _ _ h) (.inl ⟨by kernel_rfl, fun V hS => by go_simp⟩) hS1 ?_
    simp only [Act.put, List.setIfInBounds_toArray, List.set_cons_zero, List.set_cons_succ]
    refine wpAnyH_take (i := 28) (oi := ⟨some 155, _, _, _, _, _⟩) (v := .pointer (some ⟨b, oo + k * 8, none⟩)) rfl (by kernel_rfl) (by kernel_rfl) (by kernel_rfl) (fun _ _ _ h => HQP.out _ _ _ _ h) (.inl ⟨by kernel_rfl, fun V hS => by go_simp⟩) hS1 ?_
    simp only [Act.put, List.setIfInBounds_toArray, List.set_cons_zero, List.set_cons_succ]
    refine wpAnyH_take (i := 29) (oi := ⟨some 156, _, _, _, _, _⟩) (v := .agg #[.slice o0 on0 oc0, .slice o1 on1 oc1, .slice o2 on2 oc2, .slice o3 on3 oc3, .slice o4 on4 oc4]) rfl (by kernel_rfl) (by kernel_rfl) (by kernel_rfl) (fun _ _ _ h => HQP.out _ _ _ _ h) (.inl ⟨by kernel_rfl, fun V hS => by obtain ⟨h0, h1, h2, h3, h4⟩ := HOX.out V (HB8.out.trans (hS.mono HB8.out.size)); go_simp⟩) hS1 ?_
    simp only [Act.put, List.setIfInBounds_toArray, List.set_cons_zero, List.set_cons_succ]
    refine wpAnyH_ready (rs := [24]) (by kernel_rfl) (by simp) ?_
    refine AllReadyH.cons rfl (fun K' hK => ?_) AllReadyH.nil
    go_simp
    have hs := sstate_any p r y _ (HSY.out.below hS1) (Tab.below HTB.out hS1)
    unfold ClonePost at hs
    refine hs.mono ?_
    rintro e v1 ⟨x1, rfl, hx1, hty1, hsm1, hb1⟩
    clear hs
    go_simp
    refine hK.out _ _ ((hS1).trans (hb1.mono (hS1).size)) (fun hS2 => ?_)
    clear hK K' hS1
    refine wpAnyH_ready (rs := [30]) (by kernel_rfl) (by simp) ?_
    refine AllReadyH.cons rfl (fun K' hK => ?_) AllReadyH.nil
    go_simp
    have hs := rsame_any x1 op.x v1 hty1.at_ (HOP.out v1 (HB8.out.trans ((hS2).mono HB8.out.size))).at_ hsm1 HSS.out.m
    rw [decide_eq_true (hx1.trans HYS.out), HOV.out] at hs
    refine hs.mono ?_
    rintro e v2 ⟨rfl, hb2⟩
    clear hs hty1 hsm1 hx1
    go_simp
    refine hK.out _ _ ((hS2).trans (hb2.mono (hS2).size)) (fun hS3 => ?_)
    clear hK K' hS2
    refine wpAnyH_take (i := 31) (oi := ⟨some 158, _, _, _, _, _⟩) (v := .bool false) rfl (by kernel_rfl) (by kernel_rfl) (by kernel_rfl) (fun _ _ _ h => HQP.out _ _ _ _ h) (.inl ⟨by kernel_rfl, fun V hS => by go_simp⟩) hS3 ?_
    simp only [Act.put, List.setIfInBounds_toArray, List.set_cons_zero, List.set_cons_succ]
    refine wpAnyH_take (i := 32) (oi := ⟨some 159, _, _, _, _, _⟩) (v := .bool false) rfl (by kernel_rfl) (by kernel_rfl) (by kernel_rfl) (fun _ _ _ h => HQP.out _ _ _ _ h) (.inl ⟨by kernel_rfl, fun V hS => by go_simp⟩) hS3 ?_
    simp only [Act.put, List.setIfInBounds_toArray, List.set_cons_zero, List.set_cons_succ]
    refine wpAnyH_take (i := 33) (oi := ⟨some 160, _, _, _, _, _⟩) (v := .bool false) rfl (by kernel_rfl) (by kernel_rfl) (by kernel_rfl) (fun _ _ _ h => HQP.out _ _ _ _ h) (.inl ⟨by kernel_rfl, fun V hS => by go_simp⟩) hS3 ?_
    simp only [Act.put, List.setIfInBounds_toArray, List.set_cons_zero, List.set_cons_succ]
    refine wpAnyH_done (by kernel_rfl) ?_ _
    have HX := Lib.hid hS3
    clear hS3
    go_wp2
    exact HKF.out _ _ _ K8 n8 rfl rfl rfl rfl rfl rfl rfl rfl rfl (HD8.out.below HX.out) HL8.out (HB8.out.trans (HX.out.mono HB8.out.size)) (HW8.out.below HX.out HW8.out.lt) (HY8.out.below HX.out) (by simp) HFI.out
  · refine wp_region_held_drew (S := fun V => Below w8.heap.size w8 V) (by kernel_rfl) ((Below.refl _ _).drew) (fun hS1 => ?_)
    refine wpAnyH_take (i := 0) (oi := ⟨some 127, _, _, _, _, _⟩) (v := .int .i64 0) rfl (by kernel_rfl) (by kernel_rfl) (by kernel_rfl) (fun _ _ _ h => HQP.out _ _ _ _ h) (.inl ⟨by kernel_rfl, fun V hS => by go_simp⟩) hS1 ?_
    simp only [Act.put, List.setIfInBounds_toArray, List.set_cons_zero, List.set_cons_succ]
    refine wpAnyH_take (i := 1) (oi := ⟨some 128, _, _, _, _, _⟩) (v := .bool false) rfl (by kernel_rfl) (by kernel_rfl) (by kernel_rfl) (fun _ _ _ h => HQP.out _ _ _ _ h) (.inl ⟨by kernel_rfl, fun V hS => by go_simp⟩) hS1 ?_
    simp only [Act.put, List.setIfInBounds_toArray, List.set_cons_zero, List.set_cons_succ]
    refine wpAnyH_take (i := 2) (oi := ⟨some 129, _, _, _, _, _⟩) (v := .bool false) rfl (by kernel_rfl) (by kernel_rfl) (by kernel_rfl) (fun _ _ _ h => HQP.out _ _ _ _ h) (.inl ⟨by kernel_rfl, fun V hS => by go_simp⟩) hS1 ?_
    simp only [Act.put, List.setIfInBounds_toArray, List.set_cons_zero, List.set_cons_succ]
    refine wpAnyH_take (i := 3) (oi := ⟨some 130, _, _, _, _, _⟩) (v := undef) rfl (by kernel_rfl) (by kernel_rfl) (by kernel_rfl) (fun _ _ _ h => HQP.out _ _ _ _ h) (.inr ⟨by kernel_rfl, rfl⟩) hS1 ?_
    simp only [Act.put, List.setIfInBounds_toArray, List.set_cons_zero, List.set_cons_succ]
    refine wpAnyH_take (i := 4) (oi := ⟨some 131, _, _, _, _, _⟩) (v := undef) rfl (by kernel_rfl) (by kernel_rfl) (by kernel_rfl) (fun _ _ _ h => HQP.out _ _ _ _ h) (.inr ⟨by kernel_rfl, rfl⟩) hS1 ?_
    simp only [Act.put, List.setIfInBounds_toArray, List.set_cons_zero, List.set_cons_succ]
    refine wpAnyH_take (i := 5) (oi := ⟨some 132, _, _, _, _, _⟩) (v := undef) rfl (by kernel_rfl) (by kernel_rfl) (by kernel_rfl) (fun _ _ _ h => HQP.out _ _ _ _ h) (.inr ⟨by kernel_rfl, rfl⟩) hS1 ?_
    simp only [Act.put, List.setIfInBounds_toArray, List.set_cons_zero, List.set_cons_succ]
    refine wpAnyH_take (i := 6) (oi := ⟨some 133, _, _, _, _, _⟩) (v := .bool false) rfl (by kernel_rfl) (by kernel_rfl) (by kernel_rfl) (fun _ _ _ h => HQP.out _ _ _ _ h) (.inl ⟨by kernel_rfl, fun V hS => by go_simp⟩) hS1 ?_
    simp only [Act.put, List.setIfInBounds_toArray, List.set_cons_zero, List.set_cons_succ]
    refine wpAnyH_take (i := 7) (oi := ⟨some 134, _, _, _, _, _⟩) (v := .bool false) rfl (by kernel_rfl) (by kernel_rfl) (by kernel_rfl) (fun _ _ _ h => HQP.out _ _ _ _ h) (.inl ⟨by kernel_rfl, fun V hS => by go_simp⟩) hS1 ?_
    simp only [Act.put, List.setIfInBounds_toArray, List.set_cons_zero, List.set_cons_succ]
    refine wpAnyH_take (i := 8) (oi := ⟨some 135, _, _, _, _, _⟩) (v := .int .i64 0) rfl (by kernel_rfl) (by kernel_rfl) (by kernel_rfl) (fun _ _ _ h => HQP.out _ _ _ _ h) (.inl ⟨by kernel_rfl, fun V hS => by go_simp⟩) hS1 ?_
    simp only [Act.put, List.setIfInBounds_toArray, List.set_cons_zero, List.set_cons_succ]
    refine wpAnyH_take (i := 9) (oi := ⟨some 136, _, _, _, _, _⟩) (v := .bool true) rfl (by kernel_rfl) (by kernel_rfl) (by kernel_rfl) (fun _ _ _ h => HQP.out _ _ _ _ h) (.inl ⟨by kernel_rfl, fun V hS => by go_simp⟩) hS1 ?_
    simp only [Act.put, List.setIfInBounds_toArray, List.set_cons_zero, List.set_cons_succ]
    refine wpAnyH_take (i := 10) (oi := ⟨some 137, _, _, _, _, _⟩) (v := .bool true) rfl (by kernel_rfl) (by kernel_rfl) (by kernel_rfl) (fun _ _ _ h => HQP.out _ _ _ _ h) (.inl ⟨by kernel_rfl, fun V hS => by go_simp⟩) hS1 ?_
    simp only [Act.put, List.setIfInBounds_toArray, List.set_cons_zero, List.set_cons_succ]
    refine wpAnyH_take (i := 11) (oi := ⟨some 138, _, _, _, _, _⟩) (v := .int .i64 210) rfl (by kernel_rfl) (by kernel_rfl) (by kernel_rfl) (fun _ _ _ h => HQP.out _ _ _ _ h) (.inl ⟨by kernel_rfl, fun V hS => by go_simp⟩) hS1 ?_
    simp only [Act.put, List.setIfInBounds_toArray, List.set_cons_zero, List.set_cons_succ]
    refine wpAnyH_take (i := 12) (oi := ⟨some 139, _, _, _, _, _⟩) (v := .bool true) rfl (by kernel_rfl) (by kernel_rfl) (by kernel_rfl) (fun _ _ _ h => HQP.out _ _ _ _ h) (.inl ⟨by kernel_rfl, fun V hS => by go_simp⟩) hS1 ?_
    simp only [Act.put, List.setIfInBounds_toArray, List.set_cons_zero, List.set_cons_succ]
    refine wpAnyH_take (i := 13) (oi := ⟨some 140, _, _, _, _, _⟩) (v := .bool true) rfl (by kernel_rfl) (by kernel_rfl) (by kernel_rfl) (fun _ _ _ h => HQP.out _ _ _ _ h) (.inl ⟨by kernel_rfl, fun V hS => by go_simp⟩) hS1 ?_
    simp only [Act.put, List.setIfInBounds_toArray, List.set_cons_zero, List.set_cons_succ]
    refine wpAnyH_take (i := 14) (oi := ⟨some 141, _, _, _, _, _⟩) (v := .bool true) rfl (by kernel_rfl) (by kernel_rfl) (by kernel_rfl) (fun _ _ _ h => HQP.out _ _ _ _ h) (.inl ⟨by kernel_rfl, fun V hS => by go_simp⟩) hS1 ?_
    simp only [Act.put, List.setIfInBounds_toArray, List.set_cons_zero, List.set_cons_succ]
    refine wpAnyH_take (i := 15) (oi := ⟨some 142, _, _, _, _, _⟩) (v := .int .i64 210) rfl (by kernel_rfl) (by kernel_rfl) (by kernel_rfl) (fun _ _ _ h => HQP.out _ _ _ _ h) (.inl ⟨by kernel_rfl, fun V hS => by go_simp⟩) hS1 ?_
    simp only [Act.put, List.setIfInBounds_toArray, List.set_cons_zero, List.set_cons_succ]
    refine wpAnyH_take (i := 16) (oi := ⟨some 143, _, _, _, _, _⟩) (v := .bool false) rfl (by kernel_rfl) (by kernel_rfl) (by kernel_rfl) (fun _ _ _ h => HQP.out _ _ _ _ h) (.inl ⟨by kernel_rfl, fun V hS => by go_simp⟩) hS1 ?_
    simp only [Act.put, List.setIfInBounds_toArray, List.set_cons_zero, List.set_cons_succ]
    refine wpAnyH_take (i := 17) (oi := ⟨some 144, _, _, _, _, _⟩) (v := .bool false) rfl (by kernel_rfl) (by kernel_rfl) (by kernel_rfl) (fun _ _ _ h => HQP.out _ _ _ _ h) (.inl ⟨by kernel_rfl, fun V hS => by go_simp⟩) hS1 ?_
    simp only [Act.put, List.setIfInBounds_toArray, List.set_cons_zero, List.set_cons_succ]
    refine wpAnyH_take (i := 18) (oi := ⟨some 145, _, _, _, _, _⟩) (v := .bool false) rfl (by kernel_rfl) (by kernel_rfl) (by kernel_rfl) (fun _ _ _ h => HQP.out _ _ _ _ h) (.inl ⟨by kernel_rfl, fun V hS => by go_simp⟩) hS1 ?_
    simp only [Act.put, List.setIfInBounds_toArray, List.set_cons_zero, List.set_cons_succ]
    refine wpAnyH_take (i := 19) (oi := ⟨some 146, _, _, _, _, _⟩) (v := .bool false) rfl (by kernel_rfl) (by kernel_rfl) (by kernel_rfl) (fun _ _ _ h => HQP.out _ _ _ _ h) (.inl ⟨by kernel_rfl, fun V hS => by go_simp⟩) hS1 ?_
    simp only [Act.put, List.setIfInBounds_toArray, List.set_cons_zero, List.set_cons_succ]
    refine wpAnyH_take (i := 20) (oi := ⟨some 147, _, _, _, _, _⟩) (v := .int .i64 210) rfl (by kernel_rfl) (by kernel_rfl) (by kernel_rfl) (fun _ _ _ h => HQP.out _ _ _ _ h) (.inl ⟨by kernel_rfl, fun V hS => by go_simp⟩) hS1 ?_
    simp only [Act.put, List.setIfInBounds_toArray, List.set_cons_zero, List.set_cons_succ]
    refine wpAnyH_take (i := 21) (oi := ⟨some 148, _, _, _, _, _⟩) (v := .bool false) rfl (by kernel_rfl) (by kernel_rfl) (by kernel_rfl) (fun _ _ _ h => HQP.out _ _ _ _ h) (.inl ⟨by kernel_rfl, fun V hS => by go_simp⟩) hS1 ?_
    simp only [Act.put, List.setIfInBounds_toArray, List.set_cons_zero, List.set_cons_succ]
    refine wpAnyH_take (i := 22) (oi := ⟨some 149, _, _, _, _, _⟩) (v := .bool false) rfl (by kernel_rfl) (by kernel_rfl) (by kernel_rfl) (fun _ _ _ h => HQP.out _ _ _ _ h) (.inl ⟨by kernel_rfl, fun V hS => by go_simp⟩) hS1 ?_
    simp only [Act.put, List.setIfInBounds_toArray, List.set_cons_zero, List.set_cons_succ]
    refine wpAnyH_take (i := 23) (oi := ⟨some 150, _, _, _, _, _⟩) (v := undef) rfl (by kernel_rfl) (by kernel_rfl) (by kernel_rfl) (fun _ _ _ h => HQP.out _ _ _ _ h) (.inr ⟨by kernel_rfl, rfl⟩) hS1 ?_
    simp only [Act.put, List.setIfInBounds_toArray, List.set_cons_zero, List.set_cons_succ]
    refine wpAnyH_take (i := 24) (oi := ⟨some 151, _, _, _, _, _⟩) (v := undef) rfl (by kernel_rfl) (by kernel_rfl) (by kernel_rfl) (fun _ _ _ h => HQP.out _ _ _ _ h) (.inr ⟨by kernel_rfl, rfl⟩) hS1 ?_
    simp only [Act.put, List.setIfInBounds_toArray, List.set_cons_zero, List.set_cons_succ]
    refine wpAnyH_take (i := 25) (oi := ⟨some 152, _, _, _, _, _⟩) (v := undef) rfl (by kernel_rfl) (by kernel_rfl) (by kernel_rfl) (fun _ _ _ h => HQP.out _ _ _ _ h) (.inr ⟨by kernel_rfl, rfl⟩) hS1 ?_
    simp only [Act.put, List.setIfInBounds_toArray, List.set_cons_zero, List.set_cons_succ]
    refine wpAnyH_take (i := 26) (oi := ⟨some 153, _, _, _, _, _⟩) (v := undef) rfl (by kernel_rfl) (by kernel_rfl) (by kernel_rfl) (fun _ _ _ h => HQP.out _ _ _ _ h) (.inr ⟨by kernel_rfl, rfl⟩) hS1 ?_
    simp only [Act.put, List.setIfInBounds_toArray, List.set_cons_zero, List.set_cons_succ]
    refine wpAnyH_take (i := 27) (oi := ⟨some 154, _, _, _, _, _⟩) (v := undef) rfl (by kernel_rfl) (by kernel_rfl) (by kernel_rfl) (fun _ _ _ h => HQP.out _ _ _ _ h) (.inr ⟨by kernel_rfl, rfl⟩) hS1 ?_
    simp only [Act.put, List.setIfInBounds_toArray, List.set_cons_zero, List.set_cons_succ]
    refine wpAnyH_take (i := 28) (oi := ⟨some 155, _, _, _, _, _⟩) (v := undef) rfl (by kernel_rfl) (by kernel_rfl) (by kernel_rfl) (fun _ _ _ h => HQP.out _ _ _ _ h) (.inr ⟨by kernel_rfl, rfl⟩) hS1 ?_
    simp only [Act.put, List.setIfInBounds_toArray, List.set_cons_zero, List.set_cons_succ]
    refine wpAnyH_take (i := 29) (oi := ⟨some 156, _, _, _, _, _⟩) (v := undef) rfl (by kernel_rfl) (by kernel_rfl) (by kernel_rfl) (fun _ _ _ h => HQP.out _ _ _ _ h) (.inr ⟨by kernel_rfl, rfl⟩) hS1 ?_
    simp only [Act.put, List.setIfInBounds_toArray, List.set_cons_zero, List.set_cons_succ]
    refine wpAnyH_take (i := 30) (oi := ⟨some 157, _, _, _, _, _⟩) (v := undef) rfl (by kernel_rfl) (by kernel_rfl) (by kernel_rfl) (fun _ _ _ h => HQP.out _ _ _ _ h) (.inr ⟨by kernel_rfl, rfl⟩) hS1 ?_
    simp only [Act.put, List.setIfInBounds_toArray, List.set_cons_zero, List.set_cons_succ]
    refine wpAnyH_take (i := 31) (oi := ⟨some 158, _, _, _, _, _⟩) (v := undef) rfl (by kernel_rfl) (by kernel_rfl) (by kernel_rfl) (fun _ _ _ h => HQP.out _ _ _ _ h) (.inr ⟨by kernel_rfl, rfl⟩) hS1 ?_
    simp only [Act.put, List.setIfInBounds_toArray, List.set_cons_zero, List.set_cons_succ]
    refine wpAnyH_take (i := 32) (oi := ⟨some 159, _, _, _, _, _⟩) (v := .bool false) rfl (by kernel_rfl) (by kernel_rfl) (by kernel_rfl) (fun _ _ _ h => HQP.out _ _ _ _ h) (.inl ⟨by kernel_rfl, fun V hS => by go_simp⟩) hS1 ?_
    simp only [Act.put, List.setIfInBounds_toArray, List.set_cons_zero, List.set_cons_succ]
    refine wpAnyH_take (i := 33) (oi := ⟨some 160, _, _, _, _, _⟩) (v := .bool false) rfl (by kernel_rfl) (by kernel_rfl) (by kernel_rfl) (fun _ _ _ h => HQP.out _ _ _ _ h) (.inl ⟨by kernel_rfl, fun V hS => by go_simp⟩) hS1 ?_
    simp only [Act.put, List.setIfInBounds_toArray, List.set_cons_zero, List.set_cons_succ]
    refine wpAnyH_done (by kernel_rfl) ?_ _
    have HX := Lib.hid hS1
    clear hS1
    go_wp2
    exact HKF.out _ _ _ K8 n8 rfl rfl rfl rfl rfl rfl rfl rfl rfl (HD8.out.below HX.out) HL8.out (HB8.out.trans (HX.out.mono HB8.out.size)) (HW8.out.below HX.out HW8.out.lt) (HY8.out.below HX.out) (by simp) HFI.out
end Go.Proofs.YtgpcinfhcamgpaaGreatDoor
