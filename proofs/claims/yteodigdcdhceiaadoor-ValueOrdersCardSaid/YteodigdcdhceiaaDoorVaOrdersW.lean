/-
  The walk of ValueOrders.
-/
import Derived.Test.YteodigdcdhceiaaDoorVaSamesW
namespace Go.Proofs.YteodigdcdhceiaaDoor
open Go.RowKit
attribute [local go_sem ↓] Go.wp_at_zero Go.wp_at_succ
set_option linter.unusedVariables false
set_option linter.unusedSimpArgs false

/-- few are side by side, wherever such a value lies -/
def FitQ (p : PV) : Prop := ∀ (v : MV) (w : World), v.pv = p → VAt w v → FitV v
/-- few are side by side, of whatever lies -/
inductive FitW : PV → Prop
  | mk {k n : Int} {s : ByteArray} {l : List PV} {ks : List ByteArray} {m : List PV} : l.length + m.length ≤ 3001 → (∀ x ∈ l, FitW x) → (∀ x ∈ m, FitW x) → FitW (.mk k n s l ks m)
theorem FitW.fit {w : World} {v : MV} (hv : VAt w v) (h : FitW v.pv) : FitV v := by
  induction hv with
  | mk a b c d e f g h' i j ih1 ih2 =>
    rw [MV.pv] at h
    cases h with
    | mk h1 h2 h3 =>
      rw [pvL_len, pvL_len] at h1
      exact .mk h1 (fun x hx => ih1 x hx (h2 _ (pvL_mem.2 ⟨x, hx, rfl⟩))) (fun x hx => ih2 x hx (h3 _ (pvL_mem.2 ⟨x, hx, rfl⟩)))
theorem OkP.fitW {p : PV} (h : OkP p) : FitW p := by
  induction h with
  | mk a b c d e f ih1 ih2 => exact .mk b ih1 ih2
theorem withM_len (key : ByteArray) (x : PV) (l : List PP) : (withM key x l).length ≤ l.length + 1 := by
  induction l with
  | nil => simp [withM]
  | cons p r ih =>
    rw [withM]
    split
    · simp
    · simp only [List.length_cons]; omega
theorem withM_mem {key : ByteArray} {x : PV} {l : List PP} {p : PP} (h : p ∈ withM key x l) : p.2 = x ∨ p ∈ l := by
  induction l with
  | nil => rw [withM, List.mem_singleton] at h; subst h; exact .inl rfl
  | cons q r ih =>
    rw [withM] at h
    split at h
    · rcases List.mem_cons.1 h with h | h
      · subst h; exact .inl rfl
      · exact .inr (List.mem_cons_of_mem _ h)
    · rcases List.mem_cons.1 h with h | h
      · subst h; exact .inr (by simp)
      · rcases ih h with h | h
        · exact .inl h
        · exact .inr (List.mem_cons_of_mem _ h)
/-- few are side by side: not more than so many -/
def FewP (p : PV) : Prop := match p with | .mk _ _ _ l _ m => l.length + m.length ≤ 3000
theorem fit_with {v x : PV} (hv : OkP v) (hx : OkP x) (hf : FewP v) (key : ByteArray) : FitQ (v.withP key x) := fun m w hp hm => by
  refine FitW.fit hm ?_
  rw [hp]
  cases hv with
  | mk a b c d e f =>
    rename_i k n s l ks pm
    have hf' : l.length + pm.length ≤ 3000 := hf
    unfold PV.withP
    simp only
    split
    · refine .mk ?_ (fun y hy => (e y hy).fitW) (fun y hy => ?_)
      · have h1 := withM_len key x (ks.zip pm)
        rw [List.length_map]
        rw [List.length_zip] at h1
        omega
      · obtain ⟨p, hp, rfl⟩ := List.mem_map.1 hy
        rcases withM_mem hp with h | h
        · rw [h]; exact hx.fitW
        · exact (f _ (List.of_mem_zip h).2).fitW
    · exact .mk (by simp) (fun y hy => by cases hy) (fun y hy => by cases hy)
/-- a value whose lists are not greater than those of another one, but for one more -/
theorem clone_fit {v : MV} {w : World} {p : PV} (hp : v.pv = p) (hf : FitQ p) (hv : VAt w v) : FitV v := hf v w hp hv
/-- one with more than 3000 side by side is large -/
theorem rlarge_big {v : MV} {w : World} (hs : SzV v) (hb : 3000 < v.l.length + v.m.length) : Calls Tryd.prog 26 #[v.val, .int .i64 0] w fun e w' => PF (IntP 10000 w) e w' := by
  have hz : v.s.size ≤ 140737488351232 ∧ v.l.length ≤ 140737488351232 ∧ v.m.length ≤ 140737488351232 := by
    cases hs with | mk a b c _ _ _ => exact ⟨a, b, c⟩
  obtain ⟨nl, hnl⟩ : ∃ nl, nl = v.l.length := ⟨_, rfl⟩
  obtain ⟨nm, hnm⟩ : ∃ nm, nm = v.m.length := ⟨_, rfl⟩
  unfold MV.val
  rw [← hnl, ← hnm] at hb hz ⊢
  obtain ⟨h1, h2, h3⟩ := hz
  have q2 : decide ((3000 : Int) < (nl : Int) + (nm : Int)) = true := by rw [decide_eq_true_iff]; omega
  clear hnl hnm hs hb
  go_enter Tryd.func26, Tryd.ntmps26
  go_wp2
  go_ret
  exact ⟨rfl, below_new _ _⟩
/-- what Large answers, and how many there are -/
def LgQ (v : MV) (w : World) (e : Ending) (w' : World) : Prop := ∃ b : Bool, e = .returned (.bool b) ∧ Below w.heap.size w w' ∧ (b = false → v.wt ≤ 6000 ∧ FewP v.pv ∧ FitV v)
theorem LgQ.mk {v : MV} {w w' : World} {b : Bool} (h1 : Below w.heap.size w w') (h2 : b = false → v.wt ≤ 6000 ∧ FewP v.pv ∧ FitV v) : PF (LgQ v w) (.returned (.bool b)) w' := ⟨b, rfl, h1, h2⟩
set_option maxRecDepth 100000 in
set_option maxHeartbeats 1000000 in
theorem rLargeQ_any {v : MV} {w : World} (h : VAt w v) (hs : SzV v) : Calls Tryd.prog 6 #[v.val] w fun e w' => PF (LgQ v w) e w' := by
  by_cases hb : 3000 < v.l.length + v.m.length
  · have hc := fun V => rlarge_big (w := V) hs hb
    unfold MV.val at hc ⊢
    have HC := Lib.hid hc
    clear hc hb h hs
    go_enter Tryd.func6, Tryd.ntmps6
    go_wp2_with fail
    refine (HC.out _).mono ?_
    rintro e w2 ⟨rfl, hb2⟩
    have HB := Lib.hid ((below_new w (.cells #[.int .i64 v.k, .int .i64 v.n, .string v.s, .slice v.lA v.l.length v.lc, .slice v.mA v.m.length v.mc] 25)).trans (hb2.mono (below_new w (.cells #[.int .i64 v.k, .int .i64 v.n, .string v.s, .slice v.lA v.l.length v.lc, .slice v.mA v.m.length v.mc] 25)).size))
    clear hb2
    go_wp2
    go_ret
    exact LgQ.mk HB.out (fun e => by cases e)
  · refine (rLarge_any h hs).mono ?_
    rintro e w' ⟨b, rfl, h1, h2⟩
    refine LgQ.mk h1 (fun e => ⟨(h2 e).1, ?_, (h2 e).2.2⟩)
    cases v with
    | mk _ _ _ _ _ _ l _ _ m =>
      rw [MV.pv]
      show _ ≤ _
      rw [pvL_len, pvL_len]
      have hb' : ¬ 3000 < l.length + m.length := hb
      omega
set_option maxRecDepth 100000 in
set_option maxHeartbeats 8000000 in
theorem valueOrders_walk (v : MV) (key : ByteArray) (x : MV) (w : World) (ht : tabU w) (ha : VAt w v) (sa : SzV v) (hkz : key.size ≤ 140737488351232) (hb : VAt w x) (sb : SzV x) : Calls Tryd.prog 5 #[v.val, .string key, x.val] w fun e w' => e = .returned (.bool true) ∧ Below w.heap.size w w' := by
  show Calls Tryd.prog 5 #[v.val, .string key, x.val] w fun e w' => PF (RiP true w) e w'
  have HT := Lib.hid ht
  have HVA := Lib.hid ha
  have HVB := Lib.hid hb
  have HSA := Lib.hid sa
  have HSB := Lib.hid sb
  obtain ⟨W2, hW2⟩ : ∃ W2, W2 = ((w.alloc (.cells #[.int .i64 v.k, .int .i64 v.n, .string v.s, .slice v.lA v.l.length v.lc, .slice v.mA v.m.length v.mc] 25)).alloc (.cells #[.int .i64 x.k, .int .i64 x.n, .string x.s, .slice x.lA x.l.length x.lc, .slice x.mA x.m.length x.mc] 25)) := ⟨_, rfl⟩
  have hb2 : Below w.heap.size w W2 := by rw [hW2]; exact below_al _ (below_new _ _)
  have HKA : Hid (Blk W2 w.heap.size 25 #[.int .i64 v.k, .int .i64 v.n, .string v.s, .slice v.lA v.l.length v.lc, .slice v.mA v.m.length v.mc]) := Lib.hid (by rw [hW2]; exact (Blk.new _ _ _).alloc _)
  have HKB : Hid (Blk W2 (w.heap.size + 1) 25 #[.int .i64 x.k, .int .i64 x.n, .string x.s, .slice x.lA x.l.length x.lc, .slice x.mA x.m.length x.mc]) := Lib.hid (by
    rw [hW2]
    have h2 := Blk.new (w.alloc (.cells #[.int .i64 v.k, .int .i64 v.n, .string v.s, .slice v.lA v.l.length v.lc, .slice v.mA v.m.length v.mc] 25)) 25 #[.int .i64 x.k, .int .i64 x.n, .string x.s, .slice x.lA x.l.length x.lc, .slice x.mA x.m.length x.mc]
    simpa using h2)
  have HB2 := Lib.hid hb2
  have hla := rLargeQ_any (ha.bel hb2) sa
  have HLB := Lib.hid (fun V (hV : Below W2.heap.size W2 V) => rLarge_any ((hb.bel hb2).bel hV) sb)
  unfold MV.val at hla HLB ⊢
  have HLA := Lib.hid hla
  have HW2 := Lib.hid hW2
  clear ht ha sa hb sb hb2 hla hW2 hkz
  go_enter Tryd.func5, Tryd.ntmps5
  obtain ⟨a0, a1, a2, a3, a4⟩ := five_cells HKA.out
  rw [HW2.out] at a0 a1 a2 a3 a4
  go_wp2_with fail
  rw [← HW2.out]
  refine HLA.out.mono ?_
  clear a0 a1 a2 a3 a4
  rintro e w3 ⟨lb, rfl, hb3, hsm⟩
  have HB3 := Lib.hid (HB2.out.trans (hb3.mono HB2.out.size))
  have HB23 := Lib.hid hb3
  clear hb3
  cases lb with
  | true =>
    clear hsm
    go_wp2_with fail
    refine (vlives_any w3 (HT.out.below HB3.out)).mono ?_
    rintro e u1 ⟨rfl, hb1⟩
    have HBE := Lib.hid (HB3.out.trans (hb1.mono HB3.out.size))
    clear hb1
    go_wp2
    go_ret
    exact ⟨rfl, HBE.out⟩
  | false =>
  obtain ⟨hw1, hw2, hw3⟩ := hsm rfl
  have HFA0 := Lib.hid (fine_small HVA.out HSA.out hw3 hw1)
  have HFEW := Lib.hid hw2
  obtain ⟨b0, b1, b2, b3, b4⟩ := five_cells (HKB.out.below HB23.out HKB.out.lt)
  clear hsm hw1 hw2 hw3
  go_wp2_with fail
  refine (HLB.out w3 HB23.out).mono ?_
  clear b0 b1 b2 b3 b4
  rintro e W5 ⟨lb, rfl, hb4, hsm⟩
  have HB5 := Lib.hid (HB3.out.trans (hb4.mono HB3.out.size))
  have HB24 := Lib.hid (HB23.out.trans (hb4.mono HB23.out.size))
  clear hb4
  cases lb with
  | true =>
    clear hsm
    go_wp2_with fail
    refine (vlives_any W5 (HT.out.below HB5.out)).mono ?_
    rintro e u1 ⟨rfl, hb1⟩
    have HBE := Lib.hid (HB5.out.trans (hb1.mono HB5.out.size))
    clear hb1
    go_wp2
    go_ret
    exact ⟨rfl, HBE.out⟩
  | false =>
  obtain ⟨hw1, hw2, hw3⟩ := hsm rfl
  have HFV := Lib.hid (HFA0.out.bel HB5.out)
  have HFX := Lib.hid ((fine_small HVB.out HSB.out hw3 hw1).bel HB5.out)
  have hka := HKA.out.below HB24.out HKA.out.lt
  have hkb := HKB.out.below HB24.out HKB.out.lt
  have HSV : Hid (∀ V, Below W5.heap.size W5 V → (V.cell? ⟨w.heap.size, 0, none⟩ = some (.int .i64 v.k) ∧ V.cell? ⟨w.heap.size, 1, none⟩ = some (.int .i64 v.n) ∧ V.cell? ⟨w.heap.size, 2, none⟩ = some (.string v.s) ∧ V.cell? ⟨w.heap.size, 3, none⟩ = some (.slice v.lA v.l.length v.lc) ∧ V.cell? ⟨w.heap.size, 4, none⟩ = some (.slice v.mA v.m.length v.mc)) ∧ (V.cell? ⟨w.heap.size + 1, 0, none⟩ = some (.int .i64 x.k) ∧ V.cell? ⟨w.heap.size + 1, 1, none⟩ = some (.int .i64 x.n) ∧ V.cell? ⟨w.heap.size + 1, 2, none⟩ = some (.string x.s) ∧ V.cell? ⟨w.heap.size + 1, 3, none⟩ = some (.slice x.lA x.l.length x.lc) ∧ V.cell? ⟨w.heap.size + 1, 4, none⟩ = some (.slice x.mA x.m.length x.mc))) := Lib.hid (fun V hV => ⟨five_cells (hka.below hV hka.lt), five_cells (hkb.below hV hkb.lt)⟩)
  clear hsm hw1 hw2 hw3 hka hkb HLA HLB HKA HKB
  go_upto_region 3 with (fail)
  rename_i K0 hK0
  have HK0 := Lib.hid hK0
  have HRET : Hid (∀ a w', bodyPost Tryd.prog Tryd.f5 (fun e w' => PF (RiP true w) e w') .ret a w' → bodyPost Tryd.prog Tryd.f5 (fun e w' => PF (RiP true w) e w') .ret a w') := Lib.hid (fun _ _ h => h)
  clear hK0
  have HREST : Hid (∀ (g7 g8 : Nat) (mu mw : MV) (V : World) (x17 x18 x19 x20 x21 x22 x23 x24 x25 : Value), Below W5.heap.size W5 V → Blk V g7 25 #[.int .i64 mu.k, .int .i64 mu.n, .string mu.s, .slice mu.lA mu.l.length mu.lc, .slice mu.mA mu.m.length mu.mc] → Blk V g8 25 #[.int .i64 mw.k, .int .i64 mw.n, .string mw.s, .slice mw.lA mw.l.length mw.lc, .slice mw.mA mw.m.length mw.mc] → (mu.pv = v.pv.woP key ∧ VAt V mu) → (mw.pv = v.pv.woP key ∧ VAt V mw) → K0 ⟨#[.agg #[.int .i64 v.k, .int .i64 v.n, .string v.s, .slice v.lA v.l.length v.lc, .slice v.mA v.m.length v.mc], .string key, .agg #[.int .i64 x.k, .int .i64 x.n, .string x.s, .slice x.lA x.l.length x.lc, .slice x.mA x.m.length x.mc], .pointer (some ⟨w.heap.size, 0, none⟩), undef, .pointer (some ⟨w.heap.size + 1, 0, none⟩), .bool false, .pointer (some ⟨g7, 0, none⟩), .pointer (some ⟨g8, 0, none⟩), undef, .agg #[.int .i64 v.k, .int .i64 v.n, .string v.s, .slice v.lA v.l.length v.lc, .slice v.mA v.m.length v.mc], .bool false, .bool false, .agg #[.int .i64 x.k, .int .i64 x.n, .string x.s, .slice x.lA x.l.length x.lc, .slice x.mA x.m.length x.mc], .bool false, .bool false, undef, x17, x18, x19, x20, x21, x22, x23, x24, x25, undef, undef, undef, undef, undef, undef, undef, undef, undef, undef, undef, undef, undef, undef, undef, undef, undef, undef, undef, undef, undef, undef, undef, undef, undef, undef, undef, undef, undef, undef, undef, undef, undef, undef], []⟩ V) := Lib.hid (fun g7 g8 mu mw V x17 x18 x19 x20 x21 x22 x23 x24 x25 hb hk7 hk8 hmu hmw => by
    apply HK0.out
    have HB := Lib.hid (HB5.out.trans (hb.mono HB5.out.size))
    have HBV := Lib.hid hb
    have HK7 := Lib.hid hk7
    have HK8 := Lib.hid hk8
    have HMU := Lib.hid hmu
    have HMW := Lib.hid hmw
    clear hb hk7 hk8 hmu hmw
    go_wp2_with fail
    refine (vlives_any V (HT.out.below HB.out)).mono ?_
    rintro e u1 ⟨rfl, hb1⟩
    obtain ⟨c0, c1, c2, c3, c4⟩ := five_cells (HK7.out.below hb1 HK7.out.lt)
    obtain ⟨d0, d1, d2, d3, d4⟩ := five_cells (HK8.out.below hb1 HK8.out.lt)
    have hcc := rexact_any (HMU.out.2.bel hb1) mw u1 (Below.refl _ _) (HMW.out.2.bel hb1)
    rw [show ExP mu mw u1 = RiP true u1 from by unfold ExP RiP; rw [HMU.out.1, HMW.out.1, decide_eq_true rfl]] at hcc
    unfold MV.val at hcc
    have HCC := Lib.hid hcc
    have HB1 := Lib.hid (HBV.out.trans (hb1.mono HBV.out.size))
    clear hcc hb1
    go_wp2_with fail
    refine HCC.out.mono ?_
    clear c0 c1 c2 c3 c4 d0 d1 d2 d3 d4
    rintro e u2 ⟨rfl, hb2⟩
    have HB2 := Lib.hid (HB1.out.trans (hb2.mono HB1.out.size))
    clear hb2 HCC
    obtain ⟨a0, a1, a2, a3, a4⟩ := (HSV.out u2 HB2.out).1
    have hcc := rcheck_any (HFV.out.bel HB2.out)
    obtain ⟨C, hC⟩ : ∃ C, C = v.pv.chk := ⟨_, rfl⟩
    rw [← hC] at hcc
    unfold MV.val at hcc
    have HCC := Lib.hid hcc
    have HC := Lib.hid hC
    clear hcc hC
    go_wp2_with fail
    refine HCC.out.mono ?_
    clear a0 a1 a2 a3 a4
    rintro e u3 ⟨rfl, hb3⟩
    have HB3 := Lib.hid (HB2.out.trans (hb3.mono HB2.out.size))
    clear hb3 HCC
    by_cases h0 : C = 0
    rotate_left
    · have q1 : (C == 0) = false := by rw [beq_eq_false_iff_ne]; exact h0
      have q2 : (C != 0) = true := by rw [bne_iff_ne]; exact h0
      have HBE := Lib.hid (HB5.out.trans (HB3.out.mono HB5.out.size))
      clear h0
      go_wp2
      apply HRET.out
      go_ret
      exact ⟨rfl, HBE.out⟩
    have q1 : (C == 0) = true := by rw [h0]; rfl
    have q2 : (C != 0) = false := by rw [h0]; rfl
    have hc0 : v.pv.chk = 0 := HC.out.symm.trans h0
    have HRI := Lib.hid (chk_zero.1 hc0).2.2
    have hs := srtd_any (HFV.out.bel HB3.out) (HT.out.below (HB5.out.trans (HB3.out.mono HB5.out.size)))
    rw [if_pos hc0] at hs
    unfold MV.val at hs
    have HS := Lib.hid hs
    have HKS : Hid (v.pv.sort.chk = 0) := Lib.hid (chk_sort hc0)
    obtain ⟨a0, a1, a2, a3, a4⟩ := (HSV.out u3 HB3.out).1
    clear h0 hc0 hs
    go_wp2_with fail
    refine HS.out.mono ?_
    clear a0 a1 a2 a3 a4
    rintro e u4 ⟨s, rfl, hps, hos, hb4⟩
    obtain ⟨W6, hW6⟩ : ∃ W6, W6 = u4.alloc (.cells #[.int .i64 s.k, .int .i64 s.n, .string s.s, .slice s.lA s.l.length s.lc, .slice s.mA s.m.length s.mc] 25) := ⟨_, rfl⟩
    have hb6 : Below u4.heap.size u4 W6 := by rw [hW6]; exact below_new _ _
    have hks : Blk W6 u4.heap.size 25 #[.int .i64 s.k, .int .i64 s.n, .string s.s, .slice s.lA s.l.length s.lc, .slice s.mA s.m.length s.mc] := by rw [hW6]; exact Blk.new _ _ _
    have HB6' := Lib.hid (HB3.out.trans ((hb4.trans (hb6.mono hb4.size)).mono HB3.out.size))
    have HB6 := Lib.hid (HB5.out.trans (HB6'.out.mono HB5.out.size))
    have HPS := Lib.hid hps
    have HFS := Lib.hid (fine_of (hos.at_.bel hb6) hps (ok_sort HFV.out.ok) (by rw [cnt_sort _ HRI.out, ← cnt_pv]; exact HFV.out.few))
    have HFV6 := Lib.hid (HFV.out.bel HB6'.out)
    have HRIS : Hid (Ris s.pv) := Lib.hid (by rw [hps]; exact ris_sort _ HRI.out)
    have HDS := Lib.hid (dep_sort _ HRI.out)
    have HCS := Lib.hid (cnt_sort _ HRI.out)
    have HSV : Hid (∀ V, Below W6.heap.size W6 V → (V.cell? ⟨w.heap.size, 0, none⟩ = some (.int .i64 v.k) ∧ V.cell? ⟨w.heap.size, 1, none⟩ = some (.int .i64 v.n) ∧ V.cell? ⟨w.heap.size, 2, none⟩ = some (.string v.s) ∧ V.cell? ⟨w.heap.size, 3, none⟩ = some (.slice v.lA v.l.length v.lc) ∧ V.cell? ⟨w.heap.size, 4, none⟩ = some (.slice v.mA v.m.length v.mc)) ∧ (V.cell? ⟨u4.heap.size, 0, none⟩ = some (.int .i64 s.k) ∧ V.cell? ⟨u4.heap.size, 1, none⟩ = some (.int .i64 s.n) ∧ V.cell? ⟨u4.heap.size, 2, none⟩ = some (.string s.s) ∧ V.cell? ⟨u4.heap.size, 3, none⟩ = some (.slice s.lA s.l.length s.lc) ∧ V.cell? ⟨u4.heap.size, 4, none⟩ = some (.slice s.mA s.m.length s.mc))) := Lib.hid (fun V hV => ⟨(HSV.out V (HB6'.out.trans (hV.mono HB6'.out.size))).1, five_cells (hks.below hV hks.lt)⟩)
    unfold MV.val
    clear hps hos hb4 hb6 hks HS
    go_upto_region 9 with (fail)
    rw [← hW6]
    clear hW6
    refine wp_region_held_drew (S := fun V => Below W6.heap.size W6 V) (by kernel_rfl) ((Below.refl _ _).drew) (fun hS1 => ?_)
    refine wpAnyH_take (i := 0) (oi := ⟨some 39, _, _, _, _, _⟩) (v := .agg #[.int .i64 s.k, .int .i64 s.n, .string s.s, .slice s.lA s.l.length s.lc, .slice s.mA s.m.length s.mc]) rfl (by kernel_rfl) (by kernel_rfl) (by kernel_rfl) (fun _ _ _ h => h) (.inl ⟨by kernel_rfl, fun V hS => by obtain ⟨_, ⟨h0, h1, h2, h3, h4⟩⟩ := HSV.out V hS; go_simp⟩) hS1 ?_
    simp only [Act.put, List.setIfInBounds_toArray, List.set_cons_zero, List.set_cons_succ]
    refine wpAnyH_ready (rs := [1]) (by kernel_rfl) (by simp) ?_
    refine AllReadyH.cons rfl (fun K' hK => ?_) AllReadyH.nil
    go_simp
    have hcc := rises_any (HFS.out.bel hS1).at_ HFS.out.ok HRIS.out _ (Below.refl _ _)
    unfold MV.val at hcc
    refine hcc.mono ?_
    clear hcc
    rintro e t1 ⟨rfl, hb1⟩
    go_simp
    refine hK.out _ _ ((hS1).trans (hb1.mono (hS1).size)) (fun hS2 => ?_)
    clear hK K' hS1
    refine wpAnyH_take (i := 2) (oi := ⟨some 41, _, _, _, _, _⟩) (v := .bool true) rfl (by kernel_rfl) (by kernel_rfl) (by kernel_rfl) (fun _ _ _ h => h) (.inl ⟨by kernel_rfl, fun V hS => by go_simp⟩) hS2 ?_
    simp only [Act.put, List.setIfInBounds_toArray, List.set_cons_zero, List.set_cons_succ]
    refine wpAnyH_take (i := 3) (oi := ⟨some 42, _, _, _, _, _⟩) (v := .agg #[.int .i64 s.k, .int .i64 s.n, .string s.s, .slice s.lA s.l.length s.lc, .slice s.mA s.m.length s.mc]) rfl (by kernel_rfl) (by kernel_rfl) (by kernel_rfl) (fun _ _ _ h => h) (.inl ⟨by kernel_rfl, fun V hS => by obtain ⟨_, ⟨h0, h1, h2, h3, h4⟩⟩ := HSV.out V hS; go_simp⟩) hS2 ?_
    simp only [Act.put, List.setIfInBounds_toArray, List.set_cons_zero, List.set_cons_succ]
    refine wpAnyH_take (i := 5) (oi := ⟨some 44, _, _, _, _, _⟩) (v := .agg #[.int .i64 v.k, .int .i64 v.n, .string v.s, .slice v.lA v.l.length v.lc, .slice v.mA v.m.length v.mc]) rfl (by kernel_rfl) (by kernel_rfl) (by kernel_rfl) (fun _ _ _ h => h) (.inl ⟨by kernel_rfl, fun V hS => by obtain ⟨⟨h0, h1, h2, h3, h4⟩, _⟩ := HSV.out V hS; go_simp⟩) hS2 ?_
    simp only [Act.put, List.setIfInBounds_toArray, List.set_cons_zero, List.set_cons_succ]
    refine wpAnyH_ready (rs := [4]) (by kernel_rfl) (by simp) ?_
    refine AllReadyH.cons rfl (fun K' hK => ?_) AllReadyH.nil
    go_simp
    have hcc := depth_any (HFS.out.bel hS2) (HT.out.below (HB6.out.trans ((hS2).mono HB6.out.size)))
    rw [HPS.out, HDS.out] at hcc
    unfold MV.val at hcc
    refine hcc.mono ?_
    clear hcc
    rintro e t2 ⟨rfl, hb2⟩
    go_simp
    refine hK.out _ _ ((hS2).trans (hb2.mono (hS2).size)) (fun hS3 => ?_)
    clear hK K' hS2
    refine wpAnyH_ready (rs := [6]) (by kernel_rfl) (by simp) ?_
    refine AllReadyH.cons rfl (fun K' hK => ?_) AllReadyH.nil
    go_simp
    have hcc := depth_any (HFV6.out.bel hS3) (HT.out.below (HB6.out.trans ((hS3).mono HB6.out.size)))
    unfold MV.val at hcc
    refine hcc.mono ?_
    clear hcc
    rintro e t3 ⟨rfl, hb3⟩
    go_simp
    refine hK.out _ _ ((hS3).trans (hb3.mono (hS3).size)) (fun hS4 => ?_)
    clear hK K' hS3
    refine wpAnyH_take (i := 7) (oi := ⟨some 46, _, _, _, _, _⟩) (v := .bool true) rfl (by kernel_rfl) (by kernel_rfl) (by kernel_rfl) (fun _ _ _ h => h) (.inl ⟨by kernel_rfl, fun V hS => by go_simp⟩) hS4 ?_
    simp only [Act.put, List.setIfInBounds_toArray, List.set_cons_zero, List.set_cons_succ]
    refine wpAnyH_take (i := 8) (oi := ⟨some 47, _, _, _, _, _⟩) (v := .bool true) rfl (by kernel_rfl) (by kernel_rfl) (by kernel_rfl) (fun _ _ _ h => h) (.inl ⟨by kernel_rfl, fun V hS => by go_simp⟩) hS4 ?_
    simp only [Act.put, List.setIfInBounds_toArray, List.set_cons_zero, List.set_cons_succ]
    refine wpAnyH_take (i := 9) (oi := ⟨some 48, _, _, _, _, _⟩) (v := .bool true) rfl (by kernel_rfl) (by kernel_rfl) (by kernel_rfl) (fun _ _ _ h => h) (.inl ⟨by kernel_rfl, fun V hS => by go_simp⟩) hS4 ?_
    simp only [Act.put, List.setIfInBounds_toArray, List.set_cons_zero, List.set_cons_succ]
    refine wpAnyH_take (i := 10) (oi := ⟨some 49, _, _, _, _, _⟩) (v := .agg #[.int .i64 s.k, .int .i64 s.n, .string s.s, .slice s.lA s.l.length s.lc, .slice s.mA s.m.length s.mc]) rfl (by kernel_rfl) (by kernel_rfl) (by kernel_rfl) (fun _ _ _ h => h) (.inl ⟨by kernel_rfl, fun V hS => by obtain ⟨_, ⟨h0, h1, h2, h3, h4⟩⟩ := HSV.out V hS; go_simp⟩) hS4 ?_
    simp only [Act.put, List.setIfInBounds_toArray, List.set_cons_zero, List.set_cons_succ]
    refine wpAnyH_take (i := 12) (oi := ⟨some 51, _, _, _, _, _⟩) (v := .agg #[.int .i64 v.k, .int .i64 v.n, .string v.s, .slice v.lA v.l.length v.lc, .slice v.mA v.m.length v.mc]) rfl (by kernel_rfl) (by kernel_rfl) (by kernel_rfl) (fun _ _ _ h => h) (.inl ⟨by kernel_rfl, fun V hS => by obtain ⟨⟨h0, h1, h2, h3, h4⟩, _⟩ := HSV.out V hS; go_simp⟩) hS4 ?_
    simp only [Act.put, List.setIfInBounds_toArray, List.set_cons_zero, List.set_cons_succ]
    refine wpAnyH_ready (rs := [11]) (by kernel_rfl) (by simp) ?_
    refine AllReadyH.cons rfl (fun K' hK => ?_) AllReadyH.nil
    go_simp
    have hcc := count_any (HFS.out.bel hS4) (HT.out.below (HB6.out.trans ((hS4).mono HB6.out.size)))
    rw [HPS.out, HCS.out] at hcc
    unfold MV.val at hcc
    refine hcc.mono ?_
    clear hcc
    rintro e t4 ⟨rfl, hb4⟩
    go_simp
    refine hK.out _ _ ((hS4).trans (hb4.mono (hS4).size)) (fun hS5 => ?_)
    clear hK K' hS4
    refine wpAnyH_ready (rs := [13]) (by kernel_rfl) (by simp) ?_
    refine AllReadyH.cons rfl (fun K' hK => ?_) AllReadyH.nil
    go_simp
    have hcc := count_any (HFV6.out.bel hS5) (HT.out.below (HB6.out.trans ((hS5).mono HB6.out.size)))
    unfold MV.val at hcc
    refine hcc.mono ?_
    clear hcc
    rintro e t5 ⟨rfl, hb5⟩
    go_simp
    refine hK.out _ _ ((hS5).trans (hb5.mono (hS5).size)) (fun hS6 => ?_)
    clear hK K' hS5
    refine wpAnyH_take (i := 14) (oi := ⟨some 53, _, _, _, _, _⟩) (v := .bool true) rfl (by kernel_rfl) (by kernel_rfl) (by kernel_rfl) (fun _ _ _ h => h) (.inl ⟨by kernel_rfl, fun V hS => by go_simp⟩) hS6 ?_
    simp only [Act.put, List.setIfInBounds_toArray, List.set_cons_zero, List.set_cons_succ]
    refine wpAnyH_take (i := 15) (oi := ⟨some 54, _, _, _, _, _⟩) (v := .bool true) rfl (by kernel_rfl) (by kernel_rfl) (by kernel_rfl) (fun _ _ _ h => h) (.inl ⟨by kernel_rfl, fun V hS => by go_simp⟩) hS6 ?_
    simp only [Act.put, List.setIfInBounds_toArray, List.set_cons_zero, List.set_cons_succ]
    refine wpAnyH_take (i := 16) (oi := ⟨some 55, _, _, _, _, _⟩) (v := .bool true) rfl (by kernel_rfl) (by kernel_rfl) (by kernel_rfl) (fun _ _ _ h => h) (.inl ⟨by kernel_rfl, fun V hS => by go_simp⟩) hS6 ?_
    simp only [Act.put, List.setIfInBounds_toArray, List.set_cons_zero, List.set_cons_succ]
    refine wpAnyH_take (i := 17) (oi := ⟨some 56, _, _, _, _, _⟩) (v := .agg #[.int .i64 s.k, .int .i64 s.n, .string s.s, .slice s.lA s.l.length s.lc, .slice s.mA s.m.length s.mc]) rfl (by kernel_rfl) (by kernel_rfl) (by kernel_rfl) (fun _ _ _ h => h) (.inl ⟨by kernel_rfl, fun V hS => by obtain ⟨_, ⟨h0, h1, h2, h3, h4⟩⟩ := HSV.out V hS; go_simp⟩) hS6 ?_
    simp only [Act.put, List.setIfInBounds_toArray, List.set_cons_zero, List.set_cons_succ]
    refine wpAnyH_ready (rs := [18]) (by kernel_rfl) (by simp) ?_
    refine AllReadyH.cons rfl (fun K' hK => ?_) AllReadyH.nil
    go_simp
    have hcc := check_any (HFS.out.bel hS6) (HT.out.below (HB6.out.trans ((hS6).mono HB6.out.size)))
    rw [HPS.out, HKS.out] at hcc
    unfold MV.val at hcc
    refine hcc.mono ?_
    clear hcc
    rintro e t6 ⟨rfl, hb6⟩
    go_simp
    refine hK.out _ _ ((hS6).trans (hb6.mono (hS6).size)) (fun hS7 => ?_)
    clear hK K' hS6
    refine wpAnyH_take (i := 19) (oi := ⟨some 58, _, _, _, _, _⟩) (v := .bool true) rfl (by kernel_rfl) (by kernel_rfl) (by kernel_rfl) (fun _ _ _ h => h) (.inl ⟨by kernel_rfl, fun V hS => by go_simp⟩) hS7 ?_
    simp only [Act.put, List.setIfInBounds_toArray, List.set_cons_zero, List.set_cons_succ]
    refine wpAnyH_take (i := 20) (oi := ⟨some 59, _, _, _, _, _⟩) (v := .bool true) rfl (by kernel_rfl) (by kernel_rfl) (by kernel_rfl) (fun _ _ _ h => h) (.inl ⟨by kernel_rfl, fun V hS => by go_simp⟩) hS7 ?_
    simp only [Act.put, List.setIfInBounds_toArray, List.set_cons_zero, List.set_cons_succ]
    refine wpAnyH_take (i := 21) (oi := ⟨some 6, _, _, _, _, _⟩) (v := .bool true) rfl (by kernel_rfl) (by kernel_rfl) (by kernel_rfl) (fun _ _ _ h => h) (.inl ⟨by kernel_rfl, fun V hS => by go_simp⟩) hS7 ?_
    simp only [Act.put, List.setIfInBounds_toArray, List.set_cons_zero, List.set_cons_succ]
    refine wpAnyH_done (by kernel_rfl) ?_ _
    have HBE := Lib.hid (HB6.out.trans (hS7.mono HB6.out.size))
    clear hS7
    go_wp2
    apply HRET.out
    go_ret
    exact ⟨rfl, HBE.out⟩)
  clear HK0
  refine wp_region_last (S := fun V => Below W5.heap.size W5 V) (st := 12) (n := 12) (by kernel_rfl) rfl (by kernel_rfl) rfl ((Below.refl _ _).drew) (fun hS1 => ?_)
  generalize W5.drew = y0 at hS1 ⊢
  refine wpAnyH_take (i := 0) (oi := ⟨some 17, _, _, _, _, _⟩) (v := .agg #[.int .i64 v.k, .int .i64 v.n, .string v.s, .slice v.lA v.l.length v.lc, .slice v.mA v.m.length v.mc]) rfl (by kernel_rfl) (by kernel_rfl) (by kernel_rfl) (fun _ _ _ h => h) (.inl ⟨by kernel_rfl, fun V hS => by obtain ⟨⟨h0, h1, h2, h3, h4⟩, _⟩ := HSV.out V hS; go_simp⟩) hS1 ?_
  simp only [Act.put, List.setIfInBounds_toArray, List.set_cons_zero, List.set_cons_succ]
  refine wpAnyH_take (i := 1) (oi := ⟨some 18, _, _, _, _, _⟩) (v := .string key) rfl (by kernel_rfl) (by kernel_rfl) (by kernel_rfl) (fun _ _ _ h => h) (.inl ⟨by kernel_rfl, fun V hS => by go_simp⟩) hS1 ?_
  simp only [Act.put, List.setIfInBounds_toArray, List.set_cons_zero, List.set_cons_succ]
  refine wpAnyH_take (i := 2) (oi := ⟨some 19, _, _, _, _, _⟩) (v := .agg #[.int .i64 x.k, .int .i64 x.n, .string x.s, .slice x.lA x.l.length x.lc, .slice x.mA x.m.length x.mc]) rfl (by kernel_rfl) (by kernel_rfl) (by kernel_rfl) (fun _ _ _ h => h) (.inl ⟨by kernel_rfl, fun V hS => by obtain ⟨_, ⟨h0, h1, h2, h3, h4⟩⟩ := HSV.out V hS; go_simp⟩) hS1 ?_
  simp only [Act.put, List.setIfInBounds_toArray, List.set_cons_zero, List.set_cons_succ]
  refine wpAnyH_take (i := 4) (oi := ⟨some 21, _, _, _, _, _⟩) (v := .string key) rfl (by kernel_rfl) (by kernel_rfl) (by kernel_rfl) (fun _ _ _ h => h) (.inl ⟨by kernel_rfl, fun V hS => by go_simp⟩) hS1 ?_
  simp only [Act.put, List.setIfInBounds_toArray, List.set_cons_zero, List.set_cons_succ]
  refine wpAnyH_take (i := 6) (oi := ⟨some 23, _, _, _, _, _⟩) (v := .agg #[.int .i64 v.k, .int .i64 v.n, .string v.s, .slice v.lA v.l.length v.lc, .slice v.mA v.m.length v.mc]) rfl (by kernel_rfl) (by kernel_rfl) (by kernel_rfl) (fun _ _ _ h => h) (.inl ⟨by kernel_rfl, fun V hS => by obtain ⟨⟨h0, h1, h2, h3, h4⟩, _⟩ := HSV.out V hS; go_simp⟩) hS1 ?_
  simp only [Act.put, List.setIfInBounds_toArray, List.set_cons_zero, List.set_cons_succ]
  refine wpAnyH_take (i := 7) (oi := ⟨some 24, _, _, _, _, _⟩) (v := .string key) rfl (by kernel_rfl) (by kernel_rfl) (by kernel_rfl) (fun _ _ _ h => h) (.inl ⟨by kernel_rfl, fun V hS => by go_simp⟩) hS1 ?_
  simp only [Act.put, List.setIfInBounds_toArray, List.set_cons_zero, List.set_cons_succ]
  refine wpAnyH_ready (rs := [3, 9, 10]) (by kernel_rfl) (by simp) ?_
  refine AllReadyH.cons rfl (fun K' hK => ?_) (AllReadyH.cons rfl (fun K' hK => ?_) (AllReadyH.cons rfl (fun K' hK => ?_) AllReadyH.nil))
  · have hcc := with_any (HFV.out.bel hS1).at_ ((HFV.out.ok.fit (HFV.out.bel hS1).at_)) (HFX.out.bel hS1).at_ ((HFX.out.ok.fit (HFX.out.bel hS1).at_)) key
    unfold MV.val at hcc
    go_simp
    refine hcc.mono ?_
    clear hcc
    rintro e y1 ⟨a1, rfl, hp, ho, hb⟩
    have Ha1 := Lib.hid (And.intro hp (And.intro ho.at_ (clone_fit hp (fit_with HFV.out.ok HFX.out.ok HFEW.out key) ho.at_)))
    clear hp ho
    unfold MV.val
    go_simp
    refine hK.out _ _ (hS1.trans (hb.mono hS1.size)) (fun hS2 => ?_)
    clear hK K' hS1 hb
    refine wpAnyH_ready (rs := [5, 9, 10]) (by kernel_rfl) (by simp) ?_
    refine AllReadyH.cons rfl (fun K' hK => ?_) (AllReadyH.cons rfl (fun K' hK => ?_) (AllReadyH.cons rfl (fun K' hK => ?_) AllReadyH.nil))
    · have hcc := without_any Ha1.out.2.1 Ha1.out.2.2 key
      unfold MV.val at hcc
      rw [Ha1.out.1, wo_with] at hcc
      go_simp
      refine hcc.mono ?_
      clear hcc
      rintro e y2 ⟨mu, rfl, hp, ho, hb⟩
      have Hmu := Lib.hid (And.intro hp ho.at_)
      have HNmu := Lib.hid (And.intro ho.fr ho.at_.lt)
      clear Ha1
      clear hp ho
      unfold MV.val
      go_simp
      refine hK.out _ _ (hS2.trans (hb.mono hS2.size)) (fun hS3 => ?_)
      clear hK K' hS2 hb
      refine wpAnyH_ready (rs := [8, 9, 10]) (by kernel_rfl) (by simp) ?_
      refine AllReadyH.cons rfl (fun K' hK => ?_) (AllReadyH.cons rfl (fun K' hK => ?_) (AllReadyH.cons rfl (fun K' hK => ?_) AllReadyH.nil))
      · have hcc := without_any (HFV.out.bel hS3).at_ ((HFV.out.ok.fit (HFV.out.bel hS3).at_)) key
        unfold MV.val at hcc
        go_simp
        refine hcc.mono ?_
        clear hcc
        rintro e y3 ⟨mw, rfl, hp, ho, hb⟩
        have Hmw := Lib.hid (And.intro hp ho.at_)
        have HNmw := Lib.hid (And.intro ho.fr ho.at_.lt)
        have Hmu := Lib.hid (And.intro Hmu.out.1 (Hmu.out.2.bel hb))
        clear hp ho
        unfold MV.val
        go_simp
        refine hK.out _ _ (hS3.trans (hb.mono hS3.size)) (fun hS4 => ?_)
        clear hK K' hS3 hb
        refine wpAnyH_ready (rs := [9, 10]) (by kernel_rfl) (by simp) ?_
        refine AllReadyH.cons rfl (fun K' hK => ?_) (AllReadyH.cons rfl (fun K' hK => ?_) AllReadyH.nil)
        · go_simp
          have HZ9 : Hid (Blk (y3.alloc (.cells #[.int .i64 0, .int .i64 0, .string ⟨#[]⟩, .slice none 0 0, .slice none 0 0] 25)) y3.heap.size 25 #[.int .i64 0, .int .i64 0, .string ⟨#[]⟩, .slice none 0 0, .slice none 0 0]) := Lib.hid (Blk.new _ _ _)
          have HGE9 : Hid (W5.heap.size ≤ y3.heap.size) := Lib.hid hS4.size
          have HXmu9 : Hid (BlkP (fun b => ¬ b = y3.heap.size) mu) := Lib.hid (Hmu.out.2.lt.mono (fun b hb => Nat.ne_of_lt hb))
          have Hmu := Lib.hid (And.intro Hmu.out.1 (Hmu.out.2.bel (below_new y3 (.cells #[.int .i64 0, .int .i64 0, .string ⟨#[]⟩, .slice none 0 0, .slice none 0 0] 25))))
          have HXmw9 : Hid (BlkP (fun b => ¬ b = y3.heap.size) mw) := Lib.hid (Hmw.out.2.lt.mono (fun b hb => Nat.ne_of_lt hb))
          have Hmw := Lib.hid (And.intro Hmw.out.1 (Hmw.out.2.bel (below_new y3 (.cells #[.int .i64 0, .int .i64 0, .string ⟨#[]⟩, .slice none 0 0, .slice none 0 0] 25))))
          refine hK.out _ _ (hS4.alloc hS4.size _) (fun hS5 => ?_)
          clear hK K' hS4
          generalize y3.alloc (.cells #[.int .i64 0, .int .i64 0, .string ⟨#[]⟩, .slice none 0 0, .slice none 0 0] 25) = y4 at HZ9 Hmu Hmw hS5 ⊢
          generalize HG7E : y3.heap.size = g9 at HZ9 HGE9 HXmu9 HXmw9 ⊢
          clear HG7E
          refine wpAnyH_ready (rs := [10]) (by kernel_rfl) (by simp) ?_
          refine AllReadyH.cons rfl (fun K' hK => ?_) AllReadyH.nil
          go_simp
          have HZ10 : Hid (Blk (y4.alloc (.cells #[.int .i64 0, .int .i64 0, .string ⟨#[]⟩, .slice none 0 0, .slice none 0 0] 25)) y4.heap.size 25 #[.int .i64 0, .int .i64 0, .string ⟨#[]⟩, .slice none 0 0, .slice none 0 0]) := Lib.hid (Blk.new _ _ _)
          have HGE10 : Hid (W5.heap.size ≤ y4.heap.size) := Lib.hid hS5.size
          have HXmu10 : Hid (BlkP (fun b => ¬ b = y4.heap.size) mu) := Lib.hid (Hmu.out.2.lt.mono (fun b hb => Nat.ne_of_lt hb))
          have Hmu := Lib.hid (And.intro Hmu.out.1 (Hmu.out.2.bel (below_new y4 (.cells #[.int .i64 0, .int .i64 0, .string ⟨#[]⟩, .slice none 0 0, .slice none 0 0] 25))))
          have HXmw10 : Hid (BlkP (fun b => ¬ b = y4.heap.size) mw) := Lib.hid (Hmw.out.2.lt.mono (fun b hb => Nat.ne_of_lt hb))
          have Hmw := Lib.hid (And.intro Hmw.out.1 (Hmw.out.2.bel (below_new y4 (.cells #[.int .i64 0, .int .i64 0, .string ⟨#[]⟩, .slice none 0 0, .slice none 0 0] 25))))
          have HNE : Hid (¬ g9 = y4.heap.size) := Lib.hid (Nat.ne_of_lt HZ9.out.lt)
          have HZ9 := Lib.hid (HZ9.out.alloc (.cells #[.int .i64 0, .int .i64 0, .string ⟨#[]⟩, .slice none 0 0, .slice none 0 0] 25))
          refine hK.out _ _ (hS5.alloc hS5.size _) (fun hS6 => ?_)
          clear hK K' hS5
          generalize y4.alloc (.cells #[.int .i64 0, .int .i64 0, .string ⟨#[]⟩, .slice none 0 0, .slice none 0 0] 25) = y5 at HZ10 HZ9 Hmu Hmw hS6 ⊢
          generalize HG7E : y4.heap.size = g10 at HZ10 HGE10 HXmu10 HXmw10 HNE ⊢
          clear HG7E
          refine wpAnyH_ready (rs := [11]) (by kernel_rfl) (by simp) ?_
          refine AllReadyH.cons rfl (fun K' hK => ?_) AllReadyH.nil
          obtain ⟨z0, z1, z2, z3, z4⟩ := five_cells HZ9.out
          obtain ⟨y0, y1, y2, y3, y4⟩ := five_fr HZ9.out
          have HF := Lib.hid (fr_five (w := y5) (g := g9) (a := .int .i64 mu.k) (b := .int .i64 mu.n) (c := .string mu.s) (d := .slice mu.lA mu.l.length mu.lc) (e := .slice mu.mA mu.m.length mu.mc))
          have HK7 := Lib.hid (blk_five (a := .int .i64 mu.k) (b := .int .i64 mu.n) (c := .string mu.s) (d := .slice mu.lA mu.l.length mu.lc) (e := .slice mu.mA mu.m.length mu.mc) HZ9.out)
          have HZ10 := Lib.hid (HZ10.out.fr HF.out (fun e => HNE.out e.symm))
          have hb6 := Fr.below_trans hS6 HF.out hS6.size (fun k e => by rw [show k = g9 from e]; exact HGE9.out)
          have Hmu := Lib.hid (And.intro Hmu.out.1 (Hmu.out.2.fr HF.out HXmu9.out))
          have Hmw := Lib.hid (And.intro Hmw.out.1 (Hmw.out.2.fr HF.out HXmw9.out))
          go_simp
          refine hK.out _ _ hb6 (fun hS7 => ?_)
          clear hK K' hS6 hb6 z0 z1 z2 z3 z4 y0 y1 y2 y3 y4 HZ9
          generalize (((((y5.setCell ⟨g9, 0, none⟩ (.int .i64 mu.k)).setCell ⟨g9, 1, none⟩ (.int .i64 mu.n)).setCell ⟨g9, 2, none⟩ (.string mu.s)).setCell ⟨g9, 3, none⟩ (.slice mu.lA mu.l.length mu.lc)).setCell ⟨g9, 4, none⟩ (.slice mu.mA mu.m.length mu.mc)) = y8 at HK7 HF HZ10 Hmu Hmw hS7 ⊢
          refine wpAnyH_done (by kernel_rfl) ?_ _
          refine lastQ_normal (wpOp_step rfl (fun K' hK => ?_))
          obtain ⟨z0, z1, z2, z3, z4⟩ := five_cells HZ10.out
          obtain ⟨y0, y1, y2, y3, y4⟩ := five_fr HZ10.out
          have HF := Lib.hid (fr_five (w := y8) (g := g10) (a := .int .i64 mw.k) (b := .int .i64 mw.n) (c := .string mw.s) (d := .slice mw.lA mw.l.length mw.lc) (e := .slice mw.mA mw.m.length mw.mc))
          have HK8 := Lib.hid (blk_five (a := .int .i64 mw.k) (b := .int .i64 mw.n) (c := .string mw.s) (d := .slice mw.lA mw.l.length mw.lc) (e := .slice mw.mA mw.m.length mw.mc) HZ10.out)
          have HK7 := Lib.hid (HK7.out.fr HF.out HNE.out)
          have HB9 := Lib.hid (Fr.below_trans hS7 HF.out hS7.size (fun k e => by rw [show k = g10 from e]; exact HGE10.out))
          have Hmu := Lib.hid (And.intro Hmu.out.1 (Hmu.out.2.fr HF.out HXmu10.out))
          have Hmw := Lib.hid (And.intro Hmw.out.1 (Hmw.out.2.fr HF.out HXmw10.out))
          go_simp
          refine hK _ _ ?_
          clear hK K' hS7 z0 z1 z2 z3 z4 y0 y1 y2 y3 y4 HZ10
          exact HREST.out g9 g10 mu mw _ _ _ _ _ _ _ _ _ _ HB9.out HK7.out HK8.out Hmu.out Hmw.out
        · go_simp
          have HZ10 : Hid (Blk (y3.alloc (.cells #[.int .i64 0, .int .i64 0, .string ⟨#[]⟩, .slice none 0 0, .slice none 0 0] 25)) y3.heap.size 25 #[.int .i64 0, .int .i64 0, .string ⟨#[]⟩, .slice none 0 0, .slice none 0 0]) := Lib.hid (Blk.new _ _ _)
          have HGE10 : Hid (W5.heap.size ≤ y3.heap.size) := Lib.hid hS4.size
          have HXmu10 : Hid (BlkP (fun b => ¬ b = y3.heap.size) mu) := Lib.hid (Hmu.out.2.lt.mono (fun b hb => Nat.ne_of_lt hb))
          have Hmu := Lib.hid (And.intro Hmu.out.1 (Hmu.out.2.bel (below_new y3 (.cells #[.int .i64 0, .int .i64 0, .string ⟨#[]⟩, .slice none 0 0, .slice none 0 0] 25))))
          have HXmw10 : Hid (BlkP (fun b => ¬ b = y3.heap.size) mw) := Lib.hid (Hmw.out.2.lt.mono (fun b hb => Nat.ne_of_lt hb))
          have Hmw := Lib.hid (And.intro Hmw.out.1 (Hmw.out.2.bel (below_new y3 (.cells #[.int .i64 0, .int .i64 0, .string ⟨#[]⟩, .slice none 0 0, .slice none 0 0] 25))))
          refine hK.out _ _ (hS4.alloc hS4.size _) (fun hS5 => ?_)
          clear hK K' hS4
          generalize y3.alloc (.cells #[.int .i64 0, .int .i64 0, .string ⟨#[]⟩, .slice none 0 0, .slice none 0 0] 25) = y4 at HZ10 Hmu Hmw hS5 ⊢
          generalize HG7E : y3.heap.size = g10 at HZ10 HGE10 HXmu10 HXmw10 ⊢
          clear HG7E
          refine wpAnyH_ready (rs := [9]) (by kernel_rfl) (by simp) ?_
          refine AllReadyH.cons rfl (fun K' hK => ?_) AllReadyH.nil
          go_simp
          have HZ9 : Hid (Blk (y4.alloc (.cells #[.int .i64 0, .int .i64 0, .string ⟨#[]⟩, .slice none 0 0, .slice none 0 0] 25)) y4.heap.size 25 #[.int .i64 0, .int .i64 0, .string ⟨#[]⟩, .slice none 0 0, .slice none 0 0]) := Lib.hid (Blk.new _ _ _)
          have HGE9 : Hid (W5.heap.size ≤ y4.heap.size) := Lib.hid hS5.size
          have HXmu9 : Hid (BlkP (fun b => ¬ b = y4.heap.size) mu) := Lib.hid (Hmu.out.2.lt.mono (fun b hb => Nat.ne_of_lt hb))
          have Hmu := Lib.hid (And.intro Hmu.out.1 (Hmu.out.2.bel (below_new y4 (.cells #[.int .i64 0, .int .i64 0, .string ⟨#[]⟩, .slice none 0 0, .slice none 0 0] 25))))
          have HXmw9 : Hid (BlkP (fun b => ¬ b = y4.heap.size) mw) := Lib.hid (Hmw.out.2.lt.mono (fun b hb => Nat.ne_of_lt hb))
          have Hmw := Lib.hid (And.intro Hmw.out.1 (Hmw.out.2.bel (below_new y4 (.cells #[.int .i64 0, .int .i64 0, .string ⟨#[]⟩, .slice none 0 0, .slice none 0 0] 25))))
          have HNE : Hid (¬ g10 = y4.heap.size) := Lib.hid (Nat.ne_of_lt HZ10.out.lt)
          have HZ10 := Lib.hid (HZ10.out.alloc (.cells #[.int .i64 0, .int .i64 0, .string ⟨#[]⟩, .slice none 0 0, .slice none 0 0] 25))
          refine hK.out _ _ (hS5.alloc hS5.size _) (fun hS6 => ?_)
          clear hK K' hS5
          generalize y4.alloc (.cells #[.int .i64 0, .int .i64 0, .string ⟨#[]⟩, .slice none 0 0, .slice none 0 0] 25) = y5 at HZ9 HZ10 Hmu Hmw hS6 ⊢
          generalize HG7E : y4.heap.size = g9 at HZ9 HGE9 HXmu9 HXmw9 HNE ⊢
          clear HG7E
          refine wpAnyH_ready (rs := [11]) (by kernel_rfl) (by simp) ?_
          refine AllReadyH.cons rfl (fun K' hK => ?_) AllReadyH.nil
          obtain ⟨z0, z1, z2, z3, z4⟩ := five_cells HZ9.out
          obtain ⟨y0, y1, y2, y3, y4⟩ := five_fr HZ9.out
          have HF := Lib.hid (fr_five (w := y5) (g := g9) (a := .int .i64 mu.k) (b := .int .i64 mu.n) (c := .string mu.s) (d := .slice mu.lA mu.l.length mu.lc) (e := .slice mu.mA mu.m.length mu.mc))
          have HK7 := Lib.hid (blk_five (a := .int .i64 mu.k) (b := .int .i64 mu.n) (c := .string mu.s) (d := .slice mu.lA mu.l.length mu.lc) (e := .slice mu.mA mu.m.length mu.mc) HZ9.out)
          have HZ10 := Lib.hid (HZ10.out.fr HF.out (fun e => (fun e => HNE.out e.symm) e.symm))
          have hb6 := Fr.below_trans hS6 HF.out hS6.size (fun k e => by rw [show k = g9 from e]; exact HGE9.out)
          have Hmu := Lib.hid (And.intro Hmu.out.1 (Hmu.out.2.fr HF.out HXmu9.out))
          have Hmw := Lib.hid (And.intro Hmw.out.1 (Hmw.out.2.fr HF.out HXmw9.out))
          go_simp
          refine hK.out _ _ hb6 (fun hS7 => ?_)
          clear hK K' hS6 hb6 z0 z1 z2 z3 z4 y0 y1 y2 y3 y4 HZ9
          generalize (((((y5.setCell ⟨g9, 0, none⟩ (.int .i64 mu.k)).setCell ⟨g9, 1, none⟩ (.int .i64 mu.n)).setCell ⟨g9, 2, none⟩ (.string mu.s)).setCell ⟨g9, 3, none⟩ (.slice mu.lA mu.l.length mu.lc)).setCell ⟨g9, 4, none⟩ (.slice mu.mA mu.m.length mu.mc)) = y8 at HK7 HF HZ10 Hmu Hmw hS7 ⊢
          refine wpAnyH_done (by kernel_rfl) ?_ _
          refine lastQ_normal (wpOp_step rfl (fun K' hK => ?_))
          obtain ⟨z0, z1, z2, z3, z4⟩ := five_cells HZ10.out
          obtain ⟨y0, y1, y2, y3, y4⟩ := five_fr HZ10.out
          have HF := Lib.hid (fr_five (w := y8) (g := g10) (a := .int .i64 mw.k) (b := .int .i64 mw.n) (c := .string mw.s) (d := .slice mw.lA mw.l.length mw.lc) (e := .slice mw.mA mw.m.length mw.mc))
          have HK8 := Lib.hid (blk_five (a := .int .i64 mw.k) (b := .int .i64 mw.n) (c := .string mw.s) (d := .slice mw.lA mw.l.length mw.lc) (e := .slice mw.mA mw.m.length mw.mc) HZ10.out)
          have HK7 := Lib.hid (HK7.out.fr HF.out (fun e => HNE.out e.symm))
          have HB9 := Lib.hid (Fr.below_trans hS7 HF.out hS7.size (fun k e => by rw [show k = g10 from e]; exact HGE10.out))
          have Hmu := Lib.hid (And.intro Hmu.out.1 (Hmu.out.2.fr HF.out HXmu10.out))
          have Hmw := Lib.hid (And.intro Hmw.out.1 (Hmw.out.2.fr HF.out HXmw10.out))
          go_simp
          refine hK _ _ ?_
          clear hK K' hS7 z0 z1 z2 z3 z4 y0 y1 y2 y3 y4 HZ10
          exact HREST.out g9 g10 mu mw _ _ _ _ _ _ _ _ _ _ HB9.out HK7.out HK8.out Hmu.out Hmw.out
      · go_simp
        have HZ9 : Hid (Blk (y2.alloc (.cells #[.int .i64 0, .int .i64 0, .string ⟨#[]⟩, .slice none 0 0, .slice none 0 0] 25)) y2.heap.size 25 #[.int .i64 0, .int .i64 0, .string ⟨#[]⟩, .slice none 0 0, .slice none 0 0]) := Lib.hid (Blk.new _ _ _)
        have HGE9 : Hid (W5.heap.size ≤ y2.heap.size) := Lib.hid hS3.size
        have HXmu9 : Hid (BlkP (fun b => ¬ b = y2.heap.size) mu) := Lib.hid (Hmu.out.2.lt.mono (fun b hb => Nat.ne_of_lt hb))
        have Hmu := Lib.hid (And.intro Hmu.out.1 (Hmu.out.2.bel (below_new y2 (.cells #[.int .i64 0, .int .i64 0, .string ⟨#[]⟩, .slice none 0 0, .slice none 0 0] 25))))
        refine hK.out _ _ (hS3.alloc hS3.size _) (fun hS4 => ?_)
        clear hK K' hS3
        generalize y2.alloc (.cells #[.int .i64 0, .int .i64 0, .string ⟨#[]⟩, .slice none 0 0, .slice none 0 0] 25) = y3 at HZ9 Hmu hS4 ⊢
        generalize HG7E : y2.heap.size = g9 at HZ9 HGE9 HXmu9 ⊢
        clear HG7E
        refine wpAnyH_ready (rs := [8, 10]) (by kernel_rfl) (by simp) ?_
        refine AllReadyH.cons rfl (fun K' hK => ?_) (AllReadyH.cons rfl (fun K' hK => ?_) AllReadyH.nil)
        · have hcc := without_any (HFV.out.bel hS4).at_ ((HFV.out.ok.fit (HFV.out.bel hS4).at_)) key
          unfold MV.val at hcc
          go_simp
          refine hcc.mono ?_
          clear hcc
          rintro e y4 ⟨mw, rfl, hp, ho, hb⟩
          have Hmw := Lib.hid (And.intro hp ho.at_)
          have HNmw := Lib.hid (And.intro ho.fr ho.at_.lt)
          have HXmw9 : Hid (BlkP (fun b => ¬ b = g9) mw) := Lib.hid (ho.fr.mono (fun b hb' e => by have h1 := HZ9.out.lt; have h2 : y3.heap.size ≤ b := hb'; omega))
          have HZ9 := Lib.hid (HZ9.out.below hb HZ9.out.lt)
          have Hmu := Lib.hid (And.intro Hmu.out.1 (Hmu.out.2.bel hb))
          clear hp ho
          unfold MV.val
          go_simp
          refine hK.out _ _ (hS4.trans (hb.mono hS4.size)) (fun hS5 => ?_)
          clear hK K' hS4 hb
          refine wpAnyH_ready (rs := [10]) (by kernel_rfl) (by simp) ?_
          refine AllReadyH.cons rfl (fun K' hK => ?_) AllReadyH.nil
          go_simp
          have HZ10 : Hid (Blk (y4.alloc (.cells #[.int .i64 0, .int .i64 0, .string ⟨#[]⟩, .slice none 0 0, .slice none 0 0] 25)) y4.heap.size 25 #[.int .i64 0, .int .i64 0, .string ⟨#[]⟩, .slice none 0 0, .slice none 0 0]) := Lib.hid (Blk.new _ _ _)
          have HGE10 : Hid (W5.heap.size ≤ y4.heap.size) := Lib.hid hS5.size
          have HXmu10 : Hid (BlkP (fun b => ¬ b = y4.heap.size) mu) := Lib.hid (Hmu.out.2.lt.mono (fun b hb => Nat.ne_of_lt hb))
          have Hmu := Lib.hid (And.intro Hmu.out.1 (Hmu.out.2.bel (below_new y4 (.cells #[.int .i64 0, .int .i64 0, .string ⟨#[]⟩, .slice none 0 0, .slice none 0 0] 25))))
          have HXmw10 : Hid (BlkP (fun b => ¬ b = y4.heap.size) mw) := Lib.hid (Hmw.out.2.lt.mono (fun b hb => Nat.ne_of_lt hb))
          have Hmw := Lib.hid (And.intro Hmw.out.1 (Hmw.out.2.bel (below_new y4 (.cells #[.int .i64 0, .int .i64 0, .string ⟨#[]⟩, .slice none 0 0, .slice none 0 0] 25))))
          have HNE : Hid (¬ g9 = y4.heap.size) := Lib.hid (Nat.ne_of_lt HZ9.out.lt)
          have HZ9 := Lib.hid (HZ9.out.alloc (.cells #[.int .i64 0, .int .i64 0, .string ⟨#[]⟩, .slice none 0 0, .slice none 0 0] 25))
          refine hK.out _ _ (hS5.alloc hS5.size _) (fun hS6 => ?_)
          clear hK K' hS5
          generalize y4.alloc (.cells #[.int .i64 0, .int .i64 0, .string ⟨#[]⟩, .slice none 0 0, .slice none 0 0] 25) = y5 at HZ10 HZ9 Hmu Hmw hS6 ⊢
          generalize HG7E : y4.heap.size = g10 at HZ10 HGE10 HXmu10 HXmw10 HNE ⊢
          clear HG7E
          refine wpAnyH_ready (rs := [11]) (by kernel_rfl) (by simp) ?_
          refine AllReadyH.cons rfl (fun K' hK => ?_) AllReadyH.nil
          obtain ⟨z0, z1, z2, z3, z4⟩ := five_cells HZ9.out
          obtain ⟨y0, y1, y2, y3, y4⟩ := five_fr HZ9.out
          have HF := Lib.hid (fr_five (w := y5) (g := g9) (a := .int .i64 mu.k) (b := .int .i64 mu.n) (c := .string mu.s) (d := .slice mu.lA mu.l.length mu.lc) (e := .slice mu.mA mu.m.length mu.mc))
          have HK7 := Lib.hid (blk_five (a := .int .i64 mu.k) (b := .int .i64 mu.n) (c := .string mu.s) (d := .slice mu.lA mu.l.length mu.lc) (e := .slice mu.mA mu.m.length mu.mc) HZ9.out)
          have HZ10 := Lib.hid (HZ10.out.fr HF.out (fun e => HNE.out e.symm))
          have hb6 := Fr.below_trans hS6 HF.out hS6.size (fun k e => by rw [show k = g9 from e]; exact HGE9.out)
          have Hmu := Lib.hid (And.intro Hmu.out.1 (Hmu.out.2.fr HF.out HXmu9.out))
          have Hmw := Lib.hid (And.intro Hmw.out.1 (Hmw.out.2.fr HF.out HXmw9.out))
          go_simp
          refine hK.out _ _ hb6 (fun hS7 => ?_)
          clear hK K' hS6 hb6 z0 z1 z2 z3 z4 y0 y1 y2 y3 y4 HZ9
          generalize (((((y5.setCell ⟨g9, 0, none⟩ (.int .i64 mu.k)).setCell ⟨g9, 1, none⟩ (.int .i64 mu.n)).setCell ⟨g9, 2, none⟩ (.string mu.s)).setCell ⟨g9, 3, none⟩ (.slice mu.lA mu.l.length mu.lc)).setCell ⟨g9, 4, none⟩ (.slice mu.mA mu.m.length mu.mc)) = y8 at HK7 HF HZ10 Hmu Hmw hS7 ⊢
          refine wpAnyH_done (by kernel_rfl) ?_ _
          refine lastQ_normal (wpOp_step rfl (fun K' hK => ?_))
          obtain ⟨z0, z1, z2, z3, z4⟩ := five_cells HZ10.out
          obtain ⟨y0, y1, y2, y3, y4⟩ := five_fr HZ10.out
          have HF := Lib.hid (fr_five (w := y8) (g := g10) (a := .int .i64 mw.k) (b := .int .i64 mw.n) (c := .string mw.s) (d := .slice mw.lA mw.l.length mw.lc) (e := .slice mw.mA mw.m.length mw.mc))
          have HK8 := Lib.hid (blk_five (a := .int .i64 mw.k) (b := .int .i64 mw.n) (c := .string mw.s) (d := .slice mw.lA mw.l.length mw.lc) (e := .slice mw.mA mw.m.length mw.mc) HZ10.out)
          have HK7 := Lib.hid (HK7.out.fr HF.out HNE.out)
          have HB9 := Lib.hid (Fr.below_trans hS7 HF.out hS7.size (fun k e => by rw [show k = g10 from e]; exact HGE10.out))
          have Hmu := Lib.hid (And.intro Hmu.out.1 (Hmu.out.2.fr HF.out HXmu10.out))
          have Hmw := Lib.hid (And.intro Hmw.out.1 (Hmw.out.2.fr HF.out HXmw10.out))
          go_simp
          refine hK _ _ ?_
          clear hK K' hS7 z0 z1 z2 z3 z4 y0 y1 y2 y3 y4 HZ10
          exact HREST.out g9 g10 mu mw _ _ _ _ _ _ _ _ _ _ HB9.out HK7.out HK8.out Hmu.out Hmw.out
        · go_simp
          have HZ10 : Hid (Blk (y3.alloc (.cells #[.int .i64 0, .int .i64 0, .string ⟨#[]⟩, .slice none 0 0, .slice none 0 0] 25)) y3.heap.size 25 #[.int .i64 0, .int .i64 0, .string ⟨#[]⟩, .slice none 0 0, .slice none 0 0]) := Lib.hid (Blk.new _ _ _)
          have HGE10 : Hid (W5.heap.size ≤ y3.heap.size) := Lib.hid hS4.size
          have HXmu10 : Hid (BlkP (fun b => ¬ b = y3.heap.size) mu) := Lib.hid (Hmu.out.2.lt.mono (fun b hb => Nat.ne_of_lt hb))
          have Hmu := Lib.hid (And.intro Hmu.out.1 (Hmu.out.2.bel (below_new y3 (.cells #[.int .i64 0, .int .i64 0, .string ⟨#[]⟩, .slice none 0 0, .slice none 0 0] 25))))
          have HNE : Hid (¬ g9 = y3.heap.size) := Lib.hid (Nat.ne_of_lt HZ9.out.lt)
          have HZ9 := Lib.hid (HZ9.out.alloc (.cells #[.int .i64 0, .int .i64 0, .string ⟨#[]⟩, .slice none 0 0, .slice none 0 0] 25))
          refine hK.out _ _ (hS4.alloc hS4.size _) (fun hS5 => ?_)
          clear hK K' hS4
          generalize y3.alloc (.cells #[.int .i64 0, .int .i64 0, .string ⟨#[]⟩, .slice none 0 0, .slice none 0 0] 25) = y4 at HZ10 HZ9 Hmu hS5 ⊢
          generalize HG7E : y3.heap.size = g10 at HZ10 HGE10 HXmu10 HNE ⊢
          clear HG7E
          refine wpAnyH_ready (rs := [8]) (by kernel_rfl) (by simp) ?_
          refine AllReadyH.cons rfl (fun K' hK => ?_) AllReadyH.nil
          have hcc := without_any (HFV.out.bel hS5).at_ ((HFV.out.ok.fit (HFV.out.bel hS5).at_)) key
          unfold MV.val at hcc
          go_simp
          refine hcc.mono ?_
          clear hcc
          rintro e y5 ⟨mw, rfl, hp, ho, hb⟩
          have Hmw := Lib.hid (And.intro hp ho.at_)
          have HNmw := Lib.hid (And.intro ho.fr ho.at_.lt)
          have HXmw9 : Hid (BlkP (fun b => ¬ b = g9) mw) := Lib.hid (ho.fr.mono (fun b hb' e => by have h1 := HZ9.out.lt; have h2 : y4.heap.size ≤ b := hb'; omega))
          have HXmw10 : Hid (BlkP (fun b => ¬ b = g10) mw) := Lib.hid (ho.fr.mono (fun b hb' e => by have h1 := HZ10.out.lt; have h2 : y4.heap.size ≤ b := hb'; omega))
          have HZ9 := Lib.hid (HZ9.out.below hb HZ9.out.lt)
          have HZ10 := Lib.hid (HZ10.out.below hb HZ10.out.lt)
          have Hmu := Lib.hid (And.intro Hmu.out.1 (Hmu.out.2.bel hb))
          clear hp ho
          unfold MV.val
          go_simp
          refine hK.out _ _ (hS5.trans (hb.mono hS5.size)) (fun hS6 => ?_)
          clear hK K' hS5 hb
          refine wpAnyH_ready (rs := [11]) (by kernel_rfl) (by simp) ?_
          refine AllReadyH.cons rfl (fun K' hK => ?_) AllReadyH.nil
          obtain ⟨z0, z1, z2, z3, z4⟩ := five_cells HZ9.out
          obtain ⟨y0, y1, y2, y3, y4⟩ := five_fr HZ9.out
          have HF := Lib.hid (fr_five (w := y5) (g := g9) (a := .int .i64 mu.k) (b := .int .i64 mu.n) (c := .string mu.s) (d := .slice mu.lA mu.l.length mu.lc) (e := .slice mu.mA mu.m.length mu.mc))
          have HK7 := Lib.hid (blk_five (a := .int .i64 mu.k) (b := .int .i64 mu.n) (c := .string mu.s) (d := .slice mu.lA mu.l.length mu.lc) (e := .slice mu.mA mu.m.length mu.mc) HZ9.out)
          have HZ10 := Lib.hid (HZ10.out.fr HF.out (fun e => HNE.out e.symm))
          have hb6 := Fr.below_trans hS6 HF.out hS6.size (fun k e => by rw [show k = g9 from e]; exact HGE9.out)
          have Hmu := Lib.hid (And.intro Hmu.out.1 (Hmu.out.2.fr HF.out HXmu9.out))
          have Hmw := Lib.hid (And.intro Hmw.out.1 (Hmw.out.2.fr HF.out HXmw9.out))
          go_simp
          refine hK.out _ _ hb6 (fun hS7 => ?_)
          clear hK K' hS6 hb6 z0 z1 z2 z3 z4 y0 y1 y2 y3 y4 HZ9
          generalize (((((y5.setCell ⟨g9, 0, none⟩ (.int .i64 mu.k)).setCell ⟨g9, 1, none⟩ (.int .i64 mu.n)).setCell ⟨g9, 2, none⟩ (.string mu.s)).setCell ⟨g9, 3, none⟩ (.slice mu.lA mu.l.length mu.lc)).setCell ⟨g9, 4, none⟩ (.slice mu.mA mu.m.length mu.mc)) = y8 at HK7 HF HZ10 Hmu Hmw hS7 ⊢
          refine wpAnyH_done (by kernel_rfl) ?_ _
          refine lastQ_normal (wpOp_step rfl (fun K' hK => ?_))
          obtain ⟨z0, z1, z2, z3, z4⟩ := five_cells HZ10.out
          obtain ⟨y0, y1, y2, y3, y4⟩ := five_fr HZ10.out
          have HF := Lib.hid (fr_five (w := y8) (g := g10) (a := .int .i64 mw.k) (b := .int .i64 mw.n) (c := .string mw.s) (d := .slice mw.lA mw.l.length mw.lc) (e := .slice mw.mA mw.m.length mw.mc))
          have HK8 := Lib.hid (blk_five (a := .int .i64 mw.k) (b := .int .i64 mw.n) (c := .string mw.s) (d := .slice mw.lA mw.l.length mw.lc) (e := .slice mw.mA mw.m.length mw.mc) HZ10.out)
          have HK7 := Lib.hid (HK7.out.fr HF.out HNE.out)
          have HB9 := Lib.hid (Fr.below_trans hS7 HF.out hS7.size (fun k e => by rw [show k = g10 from e]; exact HGE10.out))
          have Hmu := Lib.hid (And.intro Hmu.out.1 (Hmu.out.2.fr HF.out HXmu10.out))
          have Hmw := Lib.hid (And.intro Hmw.out.1 (Hmw.out.2.fr HF.out HXmw10.out))
          go_simp
          refine hK _ _ ?_
          clear hK K' hS7 z0 z1 z2 z3 z4 y0 y1 y2 y3 y4 HZ10
          exact HREST.out g9 g10 mu mw _ _ _ _ _ _ _ _ _ _ HB9.out HK7.out HK8.out Hmu.out Hmw.out
      · go_simp
        have HZ10 : Hid (Blk (y2.alloc (.cells #[.int .i64 0, .int .i64 0, .string ⟨#[]⟩, .slice none 0 0, .slice none 0 0] 25)) y2.heap.size 25 #[.int .i64 0, .int .i64 0, .string ⟨#[]⟩, .slice none 0 0, .slice none 0 0]) := Lib.hid (Blk.new _ _ _)
        have HGE10 : Hid (W5.heap.size ≤ y2.heap.size) := Lib.hid hS3.size
        have HXmu10 : Hid (BlkP (fun b => ¬ b = y2.heap.size) mu) := Lib.hid (Hmu.out.2.lt.mono (fun b hb => Nat.ne_of_lt hb))
        have Hmu := Lib.hid (And.intro Hmu.out.1 (Hmu.out.2.bel (below_new y2 (.cells #[.int .i64 0, .int .i64 0, .string ⟨#[]⟩, .slice none 0 0, .slice none 0 0] 25))))
        refine hK.out _ _ (hS3.alloc hS3.size _) (fun hS4 => ?_)
        clear hK K' hS3
        generalize y2.alloc (.cells #[.int .i64 0, .int .i64 0, .string ⟨#[]⟩, .slice none 0 0, .slice none 0 0] 25) = y3 at HZ10 Hmu hS4 ⊢
        generalize HG7E : y2.heap.size = g10 at HZ10 HGE10 HXmu10 ⊢
        clear HG7E
        refine wpAnyH_ready (rs := [8, 9]) (by kernel_rfl) (by simp) ?_
        refine AllReadyH.cons rfl (fun K' hK => ?_) (AllReadyH.cons rfl (fun K' hK => ?_) AllReadyH.nil)
        · have hcc := without_any (HFV.out.bel hS4).at_ ((HFV.out.ok.fit (HFV.out.bel hS4).at_)) key
          unfold MV.val at hcc
          go_simp
          refine hcc.mono ?_
          clear hcc
          rintro e y4 ⟨mw, rfl, hp, ho, hb⟩
          have Hmw := Lib.hid (And.intro hp ho.at_)
          have HNmw := Lib.hid (And.intro ho.fr ho.at_.lt)
          have HXmw10 : Hid (BlkP (fun b => ¬ b = g10) mw) := Lib.hid (ho.fr.mono (fun b hb' e => by have h1 := HZ10.out.lt; have h2 : y3.heap.size ≤ b := hb'; omega))
          have HZ10 := Lib.hid (HZ10.out.below hb HZ10.out.lt)
          have Hmu := Lib.hid (And.intro Hmu.out.1 (Hmu.out.2.bel hb))
          clear hp ho
          unfold MV.val
          go_simp
          refine hK.out _ _ (hS4.trans (hb.mono hS4.size)) (fun hS5 => ?_)
          clear hK K' hS4 hb
          refine wpAnyH_ready (rs := [9]) (by kernel_rfl) (by simp) ?_
          refine AllReadyH.cons rfl (fun K' hK => ?_) AllReadyH.nil
          go_simp
          have HZ9 : Hid (Blk (y4.alloc (.cells #[.int .i64 0, .int .i64 0, .string ⟨#[]⟩, .slice none 0 0, .slice none 0 0] 25)) y4.heap.size 25 #[.int .i64 0, .int .i64 0, .string ⟨#[]⟩, .slice none 0 0, .slice none 0 0]) := Lib.hid (Blk.new _ _ _)
          have HGE9 : Hid (W5.heap.size ≤ y4.heap.size) := Lib.hid hS5.size
          have HXmu9 : Hid (BlkP (fun b => ¬ b = y4.heap.size) mu) := Lib.hid (Hmu.out.2.lt.mono (fun b hb => Nat.ne_of_lt hb))
          have Hmu := Lib.hid (And.intro Hmu.out.1 (Hmu.out.2.bel (below_new y4 (.cells #[.int .i64 0, .int .i64 0, .string ⟨#[]⟩, .slice none 0 0, .slice none 0 0] 25))))
          have HXmw9 : Hid (BlkP (fun b => ¬ b = y4.heap.size) mw) := Lib.hid (Hmw.out.2.lt.mono (fun b hb => Nat.ne_of_lt hb))
          have Hmw := Lib.hid (And.intro Hmw.out.1 (Hmw.out.2.bel (below_new y4 (.cells #[.int .i64 0, .int .i64 0, .string ⟨#[]⟩, .slice none 0 0, .slice none 0 0] 25))))
          have HNE : Hid (¬ g10 = y4.heap.size) := Lib.hid (Nat.ne_of_lt HZ10.out.lt)
          have HZ10 := Lib.hid (HZ10.out.alloc (.cells #[.int .i64 0, .int .i64 0, .string ⟨#[]⟩, .slice none 0 0, .slice none 0 0] 25))
          refine hK.out _ _ (hS5.alloc hS5.size _) (fun hS6 => ?_)
          clear hK K' hS5
          generalize y4.alloc (.cells #[.int .i64 0, .int .i64 0, .string ⟨#[]⟩, .slice none 0 0, .slice none 0 0] 25) = y5 at HZ9 HZ10 Hmu Hmw hS6 ⊢
          generalize HG7E : y4.heap.size = g9 at HZ9 HGE9 HXmu9 HXmw9 HNE ⊢
          clear HG7E
          refine wpAnyH_ready (rs := [11]) (by kernel_rfl) (by simp) ?_
          refine AllReadyH.cons rfl (fun K' hK => ?_) AllReadyH.nil
          obtain ⟨z0, z1, z2, z3, z4⟩ := five_cells HZ9.out
          obtain ⟨y0, y1, y2, y3, y4⟩ := five_fr HZ9.out
          have HF := Lib.hid (fr_five (w := y5) (g := g9) (a := .int .i64 mu.k) (b := .int .i64 mu.n) (c := .string mu.s) (d := .slice mu.lA mu.l.length mu.lc) (e := .slice mu.mA mu.m.length mu.mc))
          have HK7 := Lib.hid (blk_five (a := .int .i64 mu.k) (b := .int .i64 mu.n) (c := .string mu.s) (d := .slice mu.lA mu.l.length mu.lc) (e := .slice mu.mA mu.m.length mu.mc) HZ9.out)
          have HZ10 := Lib.hid (HZ10.out.fr HF.out (fun e => (fun e => HNE.out e.symm) e.symm))
          have hb6 := Fr.below_trans hS6 HF.out hS6.size (fun k e => by rw [show k = g9 from e]; exact HGE9.out)
          have Hmu := Lib.hid (And.intro Hmu.out.1 (Hmu.out.2.fr HF.out HXmu9.out))
          have Hmw := Lib.hid (And.intro Hmw.out.1 (Hmw.out.2.fr HF.out HXmw9.out))
          go_simp
          refine hK.out _ _ hb6 (fun hS7 => ?_)
          clear hK K' hS6 hb6 z0 z1 z2 z3 z4 y0 y1 y2 y3 y4 HZ9
          generalize (((((y5.setCell ⟨g9, 0, none⟩ (.int .i64 mu.k)).setCell ⟨g9, 1, none⟩ (.int .i64 mu.n)).setCell ⟨g9, 2, none⟩ (.string mu.s)).setCell ⟨g9, 3, none⟩ (.slice mu.lA mu.l.length mu.lc)).setCell ⟨g9, 4, none⟩ (.slice mu.mA mu.m.length mu.mc)) = y8 at HK7 HF HZ10 Hmu Hmw hS7 ⊢
          refine wpAnyH_done (by kernel_rfl) ?_ _
          refine lastQ_normal (wpOp_step rfl (fun K' hK => ?_))
          obtain ⟨z0, z1, z2, z3, z4⟩ := five_cells HZ10.out
          obtain ⟨y0, y1, y2, y3, y4⟩ := five_fr HZ10.out
          have HF := Lib.hid (fr_five (w := y8) (g := g10) (a := .int .i64 mw.k) (b := .int .i64 mw.n) (c := .string mw.s) (d := .slice mw.lA mw.l.length mw.lc) (e := .slice mw.mA mw.m.length mw.mc))
          have HK8 := Lib.hid (blk_five (a := .int .i64 mw.k) (b := .int .i64 mw.n) (c := .string mw.s) (d := .slice mw.lA mw.l.length mw.lc) (e := .slice mw.mA mw.m.length mw.mc) HZ10.out)
          have HK7 := Lib.hid (HK7.out.fr HF.out (fun e => HNE.out e.symm))
          have HB9 := Lib.hid (Fr.below_trans hS7 HF.out hS7.size (fun k e => by rw [show k = g10 from e]; exact HGE10.out))
          have Hmu := Lib.hid (And.intro Hmu.out.1 (Hmu.out.2.fr HF.out HXmu10.out))
          have Hmw := Lib.hid (And.intro Hmw.out.1 (Hmw.out.2.fr HF.out HXmw10.out))
          go_simp
          refine hK _ _ ?_
          clear hK K' hS7 z0 z1 z2 z3 z4 y0 y1 y2 y3 y4 HZ10
          exact HREST.out g9 g10 mu mw _ _ _ _ _ _ _ _ _ _ HB9.out HK7.out HK8.out Hmu.out Hmw.out
        · go_simp
          have HZ9 : Hid (Blk (y3.alloc (.cells #[.int .i64 0, .int .i64 0, .string ⟨#[]⟩, .slice none 0 0, .slice none 0 0] 25)) y3.heap.size 25 #[.int .i64 0, .int .i64 0, .string ⟨#[]⟩, .slice none 0 0, .slice none 0 0]) := Lib.hid (Blk.new _ _ _)
          have HGE9 : Hid (W5.heap.size ≤ y3.heap.size) := Lib.hid hS4.size
          have HXmu9 : Hid (BlkP (fun b => ¬ b = y3.heap.size) mu) := Lib.hid (Hmu.out.2.lt.mono (fun b hb => Nat.ne_of_lt hb))
          have Hmu := Lib.hid (And.intro Hmu.out.1 (Hmu.out.2.bel (below_new y3 (.cells #[.int .i64 0, .int .i64 0, .string ⟨#[]⟩, .slice none 0 0, .slice none 0 0] 25))))
          have HNE : Hid (¬ g10 = y3.heap.size) := Lib.hid (Nat.ne_of_lt HZ10.out.lt)
          have HZ10 := Lib.hid (HZ10.out.alloc (.cells #[.int .i64 0, .int .i64 0, .string ⟨#[]⟩, .slice none 0 0, .slice none 0 0] 25))
          refine hK.out _ _ (hS4.alloc hS4.size _) (fun hS5 => ?_)
          clear hK K' hS4
          generalize y3.alloc (.cells #[.int .i64 0, .int .i64 0, .string ⟨#[]⟩, .slice none 0 0, .slice none 0 0] 25) = y4 at HZ9 HZ10 Hmu hS5 ⊢
          generalize HG7E : y3.heap.size = g9 at HZ9 HGE9 HXmu9 HNE ⊢
          clear HG7E
          refine wpAnyH_ready (rs := [8]) (by kernel_rfl) (by simp) ?_
          refine AllReadyH.cons rfl (fun K' hK => ?_) AllReadyH.nil
          have hcc := without_any (HFV.out.bel hS5).at_ ((HFV.out.ok.fit (HFV.out.bel hS5).at_)) key
          unfold MV.val at hcc
          go_simp
          refine hcc.mono ?_
          clear hcc
          rintro e y5 ⟨mw, rfl, hp, ho, hb⟩
          have Hmw := Lib.hid (And.intro hp ho.at_)
          have HNmw := Lib.hid (And.intro ho.fr ho.at_.lt)
          have HXmw9 : Hid (BlkP (fun b => ¬ b = g9) mw) := Lib.hid (ho.fr.mono (fun b hb' e => by have h1 := HZ9.out.lt; have h2 : y4.heap.size ≤ b := hb'; omega))
          have HXmw10 : Hid (BlkP (fun b => ¬ b = g10) mw) := Lib.hid (ho.fr.mono (fun b hb' e => by have h1 := HZ10.out.lt; have h2 : y4.heap.size ≤ b := hb'; omega))
          have HZ9 := Lib.hid (HZ9.out.below hb HZ9.out.lt)
          have HZ10 := Lib.hid (HZ10.out.below hb HZ10.out.lt)
          have Hmu := Lib.hid (And.intro Hmu.out.1 (Hmu.out.2.bel hb))
          clear hp ho
          unfold MV.val
          go_simp
          refine hK.out _ _ (hS5.trans (hb.mono hS5.size)) (fun hS6 => ?_)
          clear hK K' hS5 hb
          refine wpAnyH_ready (rs := [11]) (by kernel_rfl) (by simp) ?_
          refine AllReadyH.cons rfl (fun K' hK => ?_) AllReadyH.nil
          obtain ⟨z0, z1, z2, z3, z4⟩ := five_cells HZ9.out
          obtain ⟨y0, y1, y2, y3, y4⟩ := five_fr HZ9.out
          have HF := Lib.hid (fr_five (w := y5) (g := g9) (a := .int .i64 mu.k) (b := .int .i64 mu.n) (c := .string mu.s) (d := .slice mu.lA mu.l.length mu.lc) (e := .slice mu.mA mu.m.length mu.mc))
          have HK7 := Lib.hid (blk_five (a := .int .i64 mu.k) (b := .int .i64 mu.n) (c := .string mu.s) (d := .slice mu.lA mu.l.length mu.lc) (e := .slice mu.mA mu.m.length mu.mc) HZ9.out)
          have HZ10 := Lib.hid (HZ10.out.fr HF.out (fun e => (fun e => HNE.out e.symm) e.symm))
          have hb6 := Fr.below_trans hS6 HF.out hS6.size (fun k e => by rw [show k = g9 from e]; exact HGE9.out)
          have Hmu := Lib.hid (And.intro Hmu.out.1 (Hmu.out.2.fr HF.out HXmu9.out))
          have Hmw := Lib.hid (And.intro Hmw.out.1 (Hmw.out.2.fr HF.out HXmw9.out))
          go_simp
          refine hK.out _ _ hb6 (fun hS7 => ?_)
          clear hK K' hS6 hb6 z0 z1 z2 z3 z4 y0 y1 y2 y3 y4 HZ9
          generalize (((((y5.setCell ⟨g9, 0, none⟩ (.int .i64 mu.k)).setCell ⟨g9, 1, none⟩ (.int .i64 mu.n)).setCell ⟨g9, 2, none⟩ (.string mu.s)).setCell ⟨g9, 3, none⟩ (.slice mu.lA mu.l.length mu.lc)).setCell ⟨g9, 4, none⟩ (.slice mu.mA mu.m.length mu.mc)) = y8 at HK7 HF HZ10 Hmu Hmw hS7 ⊢
          refine wpAnyH_done (by kernel_rfl) ?_ _
          refine lastQ_normal (wpOp_step rfl (fun K' hK => ?_))
          obtain ⟨z0, z1, z2, z3, z4⟩ := five_cells HZ10.out
          obtain ⟨y0, y1, y2, y3, y4⟩ := five_fr HZ10.out
          have HF := Lib.hid (fr_five (w := y8) (g := g10) (a := .int .i64 mw.k) (b := .int .i64 mw.n) (c := .string mw.s) (d := .slice mw.lA mw.l.length mw.lc) (e := .slice mw.mA mw.m.length mw.mc))
          have HK8 := Lib.hid (blk_five (a := .int .i64 mw.k) (b := .int .i64 mw.n) (c := .string mw.s) (d := .slice mw.lA mw.l.length mw.lc) (e := .slice mw.mA mw.m.length mw.mc) HZ10.out)
          have HK7 := Lib.hid (HK7.out.fr HF.out (fun e => HNE.out e.symm))
          have HB9 := Lib.hid (Fr.below_trans hS7 HF.out hS7.size (fun k e => by rw [show k = g10 from e]; exact HGE10.out))
          have Hmu := Lib.hid (And.intro Hmu.out.1 (Hmu.out.2.fr HF.out HXmu10.out))
          have Hmw := Lib.hid (And.intro Hmw.out.1 (Hmw.out.2.fr HF.out HXmw10.out))
          go_simp
          refine hK _ _ ?_
          clear hK K' hS7 z0 z1 z2 z3 z4 y0 y1 y2 y3 y4 HZ10
          exact HREST.out g9 g10 mu mw _ _ _ _ _ _ _ _ _ _ HB9.out HK7.out HK8.out Hmu.out Hmw.out
    · go_simp
      have HZ9 : Hid (Blk (y1.alloc (.cells #[.int .i64 0, .int .i64 0, .string ⟨#[]⟩, .slice none 0 0, .slice none 0 0] 25)) y1.heap.size 25 #[.int .i64 0, .int .i64 0, .string ⟨#[]⟩, .slice none 0 0, .slice none 0 0]) := Lib.hid (Blk.new _ _ _)
      have HGE9 : Hid (W5.heap.size ≤ y1.heap.size) := Lib.hid hS2.size
      have Ha1 := Lib.hid (And.intro Ha1.out.1 (And.intro (Ha1.out.2.1.bel (below_new y1 (.cells #[.int .i64 0, .int .i64 0, .string ⟨#[]⟩, .slice none 0 0, .slice none 0 0] 25))) Ha1.out.2.2))
      refine hK.out _ _ (hS2.alloc hS2.size _) (fun hS3 => ?_)
      clear hK K' hS2
      generalize y1.alloc (.cells #[.int .i64 0, .int .i64 0, .string ⟨#[]⟩, .slice none 0 0, .slice none 0 0] 25) = y2 at HZ9 Ha1 hS3 ⊢
      generalize HG7E : y1.heap.size = g9 at HZ9 HGE9 ⊢
      clear HG7E
      refine wpAnyH_ready (rs := [5, 10]) (by kernel_rfl) (by simp) ?_
      refine AllReadyH.cons rfl (fun K' hK => ?_) (AllReadyH.cons rfl (fun K' hK => ?_) AllReadyH.nil)
      · have hcc := without_any Ha1.out.2.1 Ha1.out.2.2 key
        unfold MV.val at hcc
        rw [Ha1.out.1, wo_with] at hcc
        go_simp
        refine hcc.mono ?_
        clear hcc
        rintro e y3 ⟨mu, rfl, hp, ho, hb⟩
        have Hmu := Lib.hid (And.intro hp ho.at_)
        have HNmu := Lib.hid (And.intro ho.fr ho.at_.lt)
        have HXmu9 : Hid (BlkP (fun b => ¬ b = g9) mu) := Lib.hid (ho.fr.mono (fun b hb' e => by have h1 := HZ9.out.lt; have h2 : y2.heap.size ≤ b := hb'; omega))
        have HZ9 := Lib.hid (HZ9.out.below hb HZ9.out.lt)
        clear Ha1
        clear hp ho
        unfold MV.val
        go_simp
        refine hK.out _ _ (hS3.trans (hb.mono hS3.size)) (fun hS4 => ?_)
        clear hK K' hS3 hb
        refine wpAnyH_ready (rs := [8, 10]) (by kernel_rfl) (by simp) ?_
        refine AllReadyH.cons rfl (fun K' hK => ?_) (AllReadyH.cons rfl (fun K' hK => ?_) AllReadyH.nil)
        · have hcc := without_any (HFV.out.bel hS4).at_ ((HFV.out.ok.fit (HFV.out.bel hS4).at_)) key
          unfold MV.val at hcc
          go_simp
          refine hcc.mono ?_
          clear hcc
          rintro e y4 ⟨mw, rfl, hp, ho, hb⟩
          have Hmw := Lib.hid (And.intro hp ho.at_)
          have HNmw := Lib.hid (And.intro ho.fr ho.at_.lt)
          have HXmw9 : Hid (BlkP (fun b => ¬ b = g9) mw) := Lib.hid (ho.fr.mono (fun b hb' e => by have h1 := HZ9.out.lt; have h2 : y3.heap.size ≤ b := hb'; omega))
          have HZ9 := Lib.hid (HZ9.out.below hb HZ9.out.lt)
          have Hmu := Lib.hid (And.intro Hmu.out.1 (Hmu.out.2.bel hb))
          clear hp ho
          unfold MV.val
          go_simp
          refine hK.out _ _ (hS4.trans (hb.mono hS4.size)) (fun hS5 => ?_)
          clear hK K' hS4 hb
          refine wpAnyH_ready (rs := [10]) (by kernel_rfl) (by simp) ?_
          refine AllReadyH.cons rfl (fun K' hK => ?_) AllReadyH.nil
          go_simp
          have HZ10 : Hid (Blk (y4.alloc (.cells #[.int .i64 0, .int .i64 0, .string ⟨#[]⟩, .slice none 0 0, .slice none 0 0] 25)) y4.heap.size 25 #[.int .i64 0, .int .i64 0, .string ⟨#[]⟩, .slice none 0 0, .slice none 0 0]) := Lib.hid (Blk.new _ _ _)
          have HGE10 : Hid (W5.heap.size ≤ y4.heap.size) := Lib.hid hS5.size
          have HXmu10 : Hid (BlkP (fun b => ¬ b = y4.heap.size) mu) := Lib.hid (Hmu.out.2.lt.mono (fun b hb => Nat.ne_of_lt hb))
          have Hmu := Lib.hid (And.intro Hmu.out.1 (Hmu.out.2.bel (below_new y4 (.cells #[.int .i64 0, .int .i64 0, .string ⟨#[]⟩, .slice none 0 0, .slice none 0 0] 25))))
          have HXmw10 : Hid (BlkP (fun b => ¬ b = y4.heap.size) mw) := Lib.hid (Hmw.out.2.lt.mono (fun b hb => Nat.ne_of_lt hb))
          have Hmw := Lib.hid (And.intro Hmw.out.1 (Hmw.out.2.bel (below_new y4 (.cells #[.int .i64 0, .int .i64 0, .string ⟨#[]⟩, .slice none 0 0, .slice none 0 0] 25))))
          have HNE : Hid (¬ g9 = y4.heap.size) := Lib.hid (Nat.ne_of_lt HZ9.out.lt)
          have HZ9 := Lib.hid (HZ9.out.alloc (.cells #[.int .i64 0, .int .i64 0, .string ⟨#[]⟩, .slice none 0 0, .slice none 0 0] 25))
          refine hK.out _ _ (hS5.alloc hS5.size _) (fun hS6 => ?_)
          clear hK K' hS5
          generalize y4.alloc (.cells #[.int .i64 0, .int .i64 0, .string ⟨#[]⟩, .slice none 0 0, .slice none 0 0] 25) = y5 at HZ10 HZ9 Hmu Hmw hS6 ⊢
          generalize HG7E : y4.heap.size = g10 at HZ10 HGE10 HXmu10 HXmw10 HNE ⊢
          clear HG7E
          refine wpAnyH_ready (rs := [11]) (by kernel_rfl) (by simp) ?_
          refine AllReadyH.cons rfl (fun K' hK => ?_) AllReadyH.nil
          obtain ⟨z0, z1, z2, z3, z4⟩ := five_cells HZ9.out
          obtain ⟨y0, y1, y2, y3, y4⟩ := five_fr HZ9.out
          have HF := Lib.hid (fr_five (w := y5) (g := g9) (a := .int .i64 mu.k) (b := .int .i64 mu.n) (c := .string mu.s) (d := .slice mu.lA mu.l.length mu.lc) (e := .slice mu.mA mu.m.length mu.mc))
          have HK7 := Lib.hid (blk_five (a := .int .i64 mu.k) (b := .int .i64 mu.n) (c := .string mu.s) (d := .slice mu.lA mu.l.length mu.lc) (e := .slice mu.mA mu.m.length mu.mc) HZ9.out)
          have HZ10 := Lib.hid (HZ10.out.fr HF.out (fun e => HNE.out e.symm))
          have hb6 := Fr.below_trans hS6 HF.out hS6.size (fun k e => by rw [show k = g9 from e]; exact HGE9.out)
          have Hmu := Lib.hid (And.intro Hmu.out.1 (Hmu.out.2.fr HF.out HXmu9.out))
          have Hmw := Lib.hid (And.intro Hmw.out.1 (Hmw.out.2.fr HF.out HXmw9.out))
          go_simp
          refine hK.out _ _ hb6 (fun hS7 => ?_)
          clear hK K' hS6 hb6 z0 z1 z2 z3 z4 y0 y1 y2 y3 y4 HZ9
          generalize (((((y5.setCell ⟨g9, 0, none⟩ (.int .i64 mu.k)).setCell ⟨g9, 1, none⟩ (.int .i64 mu.n)).setCell ⟨g9, 2, none⟩ (.string mu.s)).setCell ⟨g9, 3, none⟩ (.slice mu.lA mu.l.length mu.lc)).setCell ⟨g9, 4, none⟩ (.slice mu.mA mu.m.length mu.mc)) = y8 at HK7 HF HZ10 Hmu Hmw hS7 ⊢
          refine wpAnyH_done (by kernel_rfl) ?_ _
          refine lastQ_normal (wpOp_step rfl (fun K' hK => ?_))
          obtain ⟨z0, z1, z2, z3, z4⟩ := five_cells HZ10.out
          obtain ⟨y0, y1, y2, y3, y4⟩ := five_fr HZ10.out
          have HF := Lib.hid (fr_five (w := y8) (g := g10) (a := .int .i64 mw.k) (b := .int .i64 mw.n) (c := .string mw.s) (d := .slice mw.lA mw.l.length mw.lc) (e := .slice mw.mA mw.m.length mw.mc))
          have HK8 := Lib.hid (blk_five (a := .int .i64 mw.k) (b := .int .i64 mw.n) (c := .string mw.s) (d := .slice mw.lA mw.l.length mw.lc) (e := .slice mw.mA mw.m.length mw.mc) HZ10.out)
          have HK7 := Lib.hid (HK7.out.fr HF.out HNE.out)
          have HB9 := Lib.hid (Fr.below_trans hS7 HF.out hS7.size (fun k e => by rw [show k = g10 from e]; exact HGE10.out))
          have Hmu := Lib.hid (And.intro Hmu.out.1 (Hmu.out.2.fr HF.out HXmu10.out))
          have Hmw := Lib.hid (And.intro Hmw.out.1 (Hmw.out.2.fr HF.out HXmw10.out))
          go_simp
          refine hK _ _ ?_
          clear hK K' hS7 z0 z1 z2 z3 z4 y0 y1 y2 y3 y4 HZ10
          exact HREST.out g9 g10 mu mw _ _ _ _ _ _ _ _ _ _ HB9.out HK7.out HK8.out Hmu.out Hmw.out
        · go_simp
          have HZ10 : Hid (Blk (y3.alloc (.cells #[.int .i64 0, .int .i64 0, .string ⟨#[]⟩, .slice none 0 0, .slice none 0 0] 25)) y3.heap.size 25 #[.int .i64 0, .int .i64 0, .string ⟨#[]⟩, .slice none 0 0, .slice none 0 0]) := Lib.hid (Blk.new _ _ _)
          have HGE10 : Hid (W5.heap.size ≤ y3.heap.size) := Lib.hid hS4.size
          have HXmu10 : Hid (BlkP (fun b => ¬ b = y3.heap.size) mu) := Lib.hid (Hmu.out.2.lt.mono (fun b hb => Nat.ne_of_lt hb))
          have Hmu := Lib.hid (And.intro Hmu.out.1 (Hmu.out.2.bel (below_new y3 (.cells #[.int .i64 0, .int .i64 0, .string ⟨#[]⟩, .slice none 0 0, .slice none 0 0] 25))))
          have HNE : Hid (¬ g9 = y3.heap.size) := Lib.hid (Nat.ne_of_lt HZ9.out.lt)
          have HZ9 := Lib.hid (HZ9.out.alloc (.cells #[.int .i64 0, .int .i64 0, .string ⟨#[]⟩, .slice none 0 0, .slice none 0 0] 25))
          refine hK.out _ _ (hS4.alloc hS4.size _) (fun hS5 => ?_)
          clear hK K' hS4
          generalize y3.alloc (.cells #[.int .i64 0, .int .i64 0, .string ⟨#[]⟩, .slice none 0 0, .slice none 0 0] 25) = y4 at HZ10 HZ9 Hmu hS5 ⊢
          generalize HG7E : y3.heap.size = g10 at HZ10 HGE10 HXmu10 HNE ⊢
          clear HG7E
          refine wpAnyH_ready (rs := [8]) (by kernel_rfl) (by simp) ?_
          refine AllReadyH.cons rfl (fun K' hK => ?_) AllReadyH.nil
          have hcc := without_any (HFV.out.bel hS5).at_ ((HFV.out.ok.fit (HFV.out.bel hS5).at_)) key
          unfold MV.val at hcc
          go_simp
          refine hcc.mono ?_
          clear hcc
          rintro e y5 ⟨mw, rfl, hp, ho, hb⟩
          have Hmw := Lib.hid (And.intro hp ho.at_)
          have HNmw := Lib.hid (And.intro ho.fr ho.at_.lt)
          have HXmw9 : Hid (BlkP (fun b => ¬ b = g9) mw) := Lib.hid (ho.fr.mono (fun b hb' e => by have h1 := HZ9.out.lt; have h2 : y4.heap.size ≤ b := hb'; omega))
          have HXmw10 : Hid (BlkP (fun b => ¬ b = g10) mw) := Lib.hid (ho.fr.mono (fun b hb' e => by have h1 := HZ10.out.lt; have h2 : y4.heap.size ≤ b := hb'; omega))
          have HZ9 := Lib.hid (HZ9.out.below hb HZ9.out.lt)
          have HZ10 := Lib.hid (HZ10.out.below hb HZ10.out.lt)
          have Hmu := Lib.hid (And.intro Hmu.out.1 (Hmu.out.2.bel hb))
          clear hp ho
          unfold MV.val
          go_simp
          refine hK.out _ _ (hS5.trans (hb.mono hS5.size)) (fun hS6 => ?_)
          clear hK K' hS5 hb
          refine wpAnyH_ready (rs := [11]) (by kernel_rfl) (by simp) ?_
          refine AllReadyH.cons rfl (fun K' hK => ?_) AllReadyH.nil
          obtain ⟨z0, z1, z2, z3, z4⟩ := five_cells HZ9.out
          obtain ⟨y0, y1, y2, y3, y4⟩ := five_fr HZ9.out
          have HF := Lib.hid (fr_five (w := y5) (g := g9) (a := .int .i64 mu.k) (b := .int .i64 mu.n) (c := .string mu.s) (d := .slice mu.lA mu.l.length mu.lc) (e := .slice mu.mA mu.m.length mu.mc))
          have HK7 := Lib.hid (blk_five (a := .int .i64 mu.k) (b := .int .i64 mu.n) (c := .string mu.s) (d := .slice mu.lA mu.l.length mu.lc) (e := .slice mu.mA mu.m.length mu.mc) HZ9.out)
          have HZ10 := Lib.hid (HZ10.out.fr HF.out (fun e => HNE.out e.symm))
          have hb6 := Fr.below_trans hS6 HF.out hS6.size (fun k e => by rw [show k = g9 from e]; exact HGE9.out)
          have Hmu := Lib.hid (And.intro Hmu.out.1 (Hmu.out.2.fr HF.out HXmu9.out))
          have Hmw := Lib.hid (And.intro Hmw.out.1 (Hmw.out.2.fr HF.out HXmw9.out))
          go_simp
          refine hK.out _ _ hb6 (fun hS7 => ?_)
          clear hK K' hS6 hb6 z0 z1 z2 z3 z4 y0 y1 y2 y3 y4 HZ9
          generalize (((((y5.setCell ⟨g9, 0, none⟩ (.int .i64 mu.k)).setCell ⟨g9, 1, none⟩ (.int .i64 mu.n)).setCell ⟨g9, 2, none⟩ (.string mu.s)).setCell ⟨g9, 3, none⟩ (.slice mu.lA mu.l.length mu.lc)).setCell ⟨g9, 4, none⟩ (.slice mu.mA mu.m.length mu.mc)) = y8 at HK7 HF HZ10 Hmu Hmw hS7 ⊢
          refine wpAnyH_done (by kernel_rfl) ?_ _
          refine lastQ_normal (wpOp_step rfl (fun K' hK => ?_))
          obtain ⟨z0, z1, z2, z3, z4⟩ := five_cells HZ10.out
          obtain ⟨y0, y1, y2, y3, y4⟩ := five_fr HZ10.out
          have HF := Lib.hid (fr_five (w := y8) (g := g10) (a := .int .i64 mw.k) (b := .int .i64 mw.n) (c := .string mw.s) (d := .slice mw.lA mw.l.length mw.lc) (e := .slice mw.mA mw.m.length mw.mc))
          have HK8 := Lib.hid (blk_five (a := .int .i64 mw.k) (b := .int .i64 mw.n) (c := .string mw.s) (d := .slice mw.lA mw.l.length mw.lc) (e := .slice mw.mA mw.m.length mw.mc) HZ10.out)
          have HK7 := Lib.hid (HK7.out.fr HF.out HNE.out)
          have HB9 := Lib.hid (Fr.below_trans hS7 HF.out hS7.size (fun k e => by rw [show k = g10 from e]; exact HGE10.out))
          have Hmu := Lib.hid (And.intro Hmu.out.1 (Hmu.out.2.fr HF.out HXmu10.out))
          have Hmw := Lib.hid (And.intro Hmw.out.1 (Hmw.out.2.fr HF.out HXmw10.out))
          go_simp
          refine hK _ _ ?_
          clear hK K' hS7 z0 z1 z2 z3 z4 y0 y1 y2 y3 y4 HZ10
          exact HREST.out g9 g10 mu mw _ _ _ _ _ _ _ _ _ _ HB9.out HK7.out HK8.out Hmu.out Hmw.out
      · go_simp
        have HZ10 : Hid (Blk (y2.alloc (.cells #[.int .i64 0, .int .i64 0, .string ⟨#[]⟩, .slice none 0 0, .slice none 0 0] 25)) y2.heap.size 25 #[.int .i64 0, .int .i64 0, .string ⟨#[]⟩, .slice none 0 0, .slice none 0 0]) := Lib.hid (Blk.new _ _ _)
        have HGE10 : Hid (W5.heap.size ≤ y2.heap.size) := Lib.hid hS3.size
        have Ha1 := Lib.hid (And.intro Ha1.out.1 (And.intro (Ha1.out.2.1.bel (below_new y2 (.cells #[.int .i64 0, .int .i64 0, .string ⟨#[]⟩, .slice none 0 0, .slice none 0 0] 25))) Ha1.out.2.2))
        have HNE : Hid (¬ g9 = y2.heap.size) := Lib.hid (Nat.ne_of_lt HZ9.out.lt)
        have HZ9 := Lib.hid (HZ9.out.alloc (.cells #[.int .i64 0, .int .i64 0, .string ⟨#[]⟩, .slice none 0 0, .slice none 0 0] 25))
        refine hK.out _ _ (hS3.alloc hS3.size _) (fun hS4 => ?_)
        clear hK K' hS3
        generalize y2.alloc (.cells #[.int .i64 0, .int .i64 0, .string ⟨#[]⟩, .slice none 0 0, .slice none 0 0] 25) = y3 at HZ10 HZ9 Ha1 hS4 ⊢
        generalize HG7E : y2.heap.size = g10 at HZ10 HGE10 HNE ⊢
        clear HG7E
        refine wpAnyH_ready (rs := [5]) (by kernel_rfl) (by simp) ?_
        refine AllReadyH.cons rfl (fun K' hK => ?_) AllReadyH.nil
        have hcc := without_any Ha1.out.2.1 Ha1.out.2.2 key
        unfold MV.val at hcc
        rw [Ha1.out.1, wo_with] at hcc
        go_simp
        refine hcc.mono ?_
        clear hcc
        rintro e y4 ⟨mu, rfl, hp, ho, hb⟩
        have Hmu := Lib.hid (And.intro hp ho.at_)
        have HNmu := Lib.hid (And.intro ho.fr ho.at_.lt)
        have HXmu9 : Hid (BlkP (fun b => ¬ b = g9) mu) := Lib.hid (ho.fr.mono (fun b hb' e => by have h1 := HZ9.out.lt; have h2 : y3.heap.size ≤ b := hb'; omega))
        have HXmu10 : Hid (BlkP (fun b => ¬ b = g10) mu) := Lib.hid (ho.fr.mono (fun b hb' e => by have h1 := HZ10.out.lt; have h2 : y3.heap.size ≤ b := hb'; omega))
        have HZ9 := Lib.hid (HZ9.out.below hb HZ9.out.lt)
        have HZ10 := Lib.hid (HZ10.out.below hb HZ10.out.lt)
        clear Ha1
        clear hp ho
        unfold MV.val
        go_simp
        refine hK.out _ _ (hS4.trans (hb.mono hS4.size)) (fun hS5 => ?_)
        clear hK K' hS4 hb
        refine wpAnyH_ready (rs := [8]) (by kernel_rfl) (by simp) ?_
        refine AllReadyH.cons rfl (fun K' hK => ?_) AllReadyH.nil
        have hcc := without_any (HFV.out.bel hS5).at_ ((HFV.out.ok.fit (HFV.out.bel hS5).at_)) key
        unfold MV.val at hcc
        go_simp
        refine hcc.mono ?_
        clear hcc
        rintro e y5 ⟨mw, rfl, hp, ho, hb⟩
        have Hmw := Lib.hid (And.intro hp ho.at_)
        have HNmw := Lib.hid (And.intro ho.fr ho.at_.lt)
        have HXmw9 : Hid (BlkP (fun b => ¬ b = g9) mw) := Lib.hid (ho.fr.mono (fun b hb' e => by have h1 := HZ9.out.lt; have h2 : y4.heap.size ≤ b := hb'; omega))
        have HXmw10 : Hid (BlkP (fun b => ¬ b = g10) mw) := Lib.hid (ho.fr.mono (fun b hb' e => by have h1 := HZ10.out.lt; have h2 : y4.heap.size ≤ b := hb'; omega))
        have HZ9 := Lib.hid (HZ9.out.below hb HZ9.out.lt)
        have HZ10 := Lib.hid (HZ10.out.below hb HZ10.out.lt)
        have Hmu := Lib.hid (And.intro Hmu.out.1 (Hmu.out.2.bel hb))
        clear hp ho
        unfold MV.val
        go_simp
        refine hK.out _ _ (hS5.trans (hb.mono hS5.size)) (fun hS6 => ?_)
        clear hK K' hS5 hb
        refine wpAnyH_ready (rs := [11]) (by kernel_rfl) (by simp) ?_
        refine AllReadyH.cons rfl (fun K' hK => ?_) AllReadyH.nil
        obtain ⟨z0, z1, z2, z3, z4⟩ := five_cells HZ9.out
        obtain ⟨y0, y1, y2, y3, y4⟩ := five_fr HZ9.out
        have HF := Lib.hid (fr_five (w := y5) (g := g9) (a := .int .i64 mu.k) (b := .int .i64 mu.n) (c := .string mu.s) (d := .slice mu.lA mu.l.length mu.lc) (e := .slice mu.mA mu.m.length mu.mc))
        have HK7 := Lib.hid (blk_five (a := .int .i64 mu.k) (b := .int .i64 mu.n) (c := .string mu.s) (d := .slice mu.lA mu.l.length mu.lc) (e := .slice mu.mA mu.m.length mu.mc) HZ9.out)
        have HZ10 := Lib.hid (HZ10.out.fr HF.out (fun e => HNE.out e.symm))
        have hb6 := Fr.below_trans hS6 HF.out hS6.size (fun k e => by rw [show k = g9 from e]; exact HGE9.out)
        have Hmu := Lib.hid (And.intro Hmu.out.1 (Hmu.out.2.fr HF.out HXmu9.out))
        have Hmw := Lib.hid (And.intro Hmw.out.1 (Hmw.out.2.fr HF.out HXmw9.out))
        go_simp
        refine hK.out _ _ hb6 (fun hS7 => ?_)
        clear hK K' hS6 hb6 z0 z1 z2 z3 z4 y0 y1 y2 y3 y4 HZ9
        generalize (((((y5.setCell ⟨g9, 0, none⟩ (.int .i64 mu.k)).setCell ⟨g9, 1, none⟩ (.int .i64 mu.n)).setCell ⟨g9, 2, none⟩ (.string mu.s)).setCell ⟨g9, 3, none⟩ (.slice mu.lA mu.l.length mu.lc)).setCell ⟨g9, 4, none⟩ (.slice mu.mA mu.m.length mu.mc)) = y8 at HK7 HF HZ10 Hmu Hmw hS7 ⊢
        refine wpAnyH_done (by kernel_rfl) ?_ _
        refine lastQ_normal (wpOp_step rfl (fun K' hK => ?_))
        obtain ⟨z0, z1, z2, z3, z4⟩ := five_cells HZ10.out
        obtain ⟨y0, y1, y2, y3, y4⟩ := five_fr HZ10.out
        have HF := Lib.hid (fr_five (w := y8) (g := g10) (a := .int .i64 mw.k) (b := .int .i64 mw.n) (c := .string mw.s) (d := .slice mw.lA mw.l.length mw.lc) (e := .slice mw.mA mw.m.length mw.mc))
        have HK8 := Lib.hid (blk_five (a := .int .i64 mw.k) (b := .int .i64 mw.n) (c := .string mw.s) (d := .slice mw.lA mw.l.length mw.lc) (e := .slice mw.mA mw.m.length mw.mc) HZ10.out)
        have HK7 := Lib.hid (HK7.out.fr HF.out HNE.out)
        have HB9 := Lib.hid (Fr.below_trans hS7 HF.out hS7.size (fun k e => by rw [show k = g10 from e]; exact HGE10.out))
        have Hmu := Lib.hid (And.intro Hmu.out.1 (Hmu.out.2.fr HF.out HXmu10.out))
        have Hmw := Lib.hid (And.intro Hmw.out.1 (Hmw.out.2.fr HF.out HXmw10.out))
        go_simp
        refine hK _ _ ?_
        clear hK K' hS7 z0 z1 z2 z3 z4 y0 y1 y2 y3 y4 HZ10
        exact HREST.out g9 g10 mu mw _ _ _ _ _ _ _ _ _ _ HB9.out HK7.out HK8.out Hmu.out Hmw.out
    · go_simp
      have HZ10 : Hid (Blk (y1.alloc (.cells #[.int .i64 0, .int .i64 0, .string ⟨#[]⟩, .slice none 0 0, .slice none 0 0] 25)) y1.heap.size 25 #[.int .i64 0, .int .i64 0, .string ⟨#[]⟩, .slice none 0 0, .slice none 0 0]) := Lib.hid (Blk.new _ _ _)
      have HGE10 : Hid (W5.heap.size ≤ y1.heap.size) := Lib.hid hS2.size
      have Ha1 := Lib.hid (And.intro Ha1.out.1 (And.intro (Ha1.out.2.1.bel (below_new y1 (.cells #[.int .i64 0, .int .i64 0, .string ⟨#[]⟩, .slice none 0 0, .slice none 0 0] 25))) Ha1.out.2.2))
      refine hK.out _ _ (hS2.alloc hS2.size _) (fun hS3 => ?_)
      clear hK K' hS2
      generalize y1.alloc (.cells #[.int .i64 0, .int .i64 0, .string ⟨#[]⟩, .slice none 0 0, .slice none 0 0] 25) = y2 at HZ10 Ha1 hS3 ⊢
      generalize HG7E : y1.heap.size = g10 at HZ10 HGE10 ⊢
      clear HG7E
      refine wpAnyH_ready (rs := [5, 9]) (by kernel_rfl) (by simp) ?_
      refine AllReadyH.cons rfl (fun K' hK => ?_) (AllReadyH.cons rfl (fun K' hK => ?_) AllReadyH.nil)
      · have hcc := without_any Ha1.out.2.1 Ha1.out.2.2 key
        unfold MV.val at hcc
        rw [Ha1.out.1, wo_with] at hcc
        go_simp
        refine hcc.mono ?_
        clear hcc
        rintro e y3 ⟨mu, rfl, hp, ho, hb⟩
        have Hmu := Lib.hid (And.intro hp ho.at_)
        have HNmu := Lib.hid (And.intro ho.fr ho.at_.lt)
        have HXmu10 : Hid (BlkP (fun b => ¬ b = g10) mu) := Lib.hid (ho.fr.mono (fun b hb' e => by have h1 := HZ10.out.lt; have h2 : y2.heap.size ≤ b := hb'; omega))
        have HZ10 := Lib.hid (HZ10.out.below hb HZ10.out.lt)
        clear Ha1
        clear hp ho
        unfold MV.val
        go_simp
        refine hK.out _ _ (hS3.trans (hb.mono hS3.size)) (fun hS4 => ?_)
        clear hK K' hS3 hb
        refine wpAnyH_ready (rs := [8, 9]) (by kernel_rfl) (by simp) ?_
        refine AllReadyH.cons rfl (fun K' hK => ?_) (AllReadyH.cons rfl (fun K' hK => ?_) AllReadyH.nil)
        · have hcc := without_any (HFV.out.bel hS4).at_ ((HFV.out.ok.fit (HFV.out.bel hS4).at_)) key
          unfold MV.val at hcc
          go_simp
          refine hcc.mono ?_
          clear hcc
          rintro e y4 ⟨mw, rfl, hp, ho, hb⟩
          have Hmw := Lib.hid (And.intro hp ho.at_)
          have HNmw := Lib.hid (And.intro ho.fr ho.at_.lt)
          have HXmw10 : Hid (BlkP (fun b => ¬ b = g10) mw) := Lib.hid (ho.fr.mono (fun b hb' e => by have h1 := HZ10.out.lt; have h2 : y3.heap.size ≤ b := hb'; omega))
          have HZ10 := Lib.hid (HZ10.out.below hb HZ10.out.lt)
          have Hmu := Lib.hid (And.intro Hmu.out.1 (Hmu.out.2.bel hb))
          clear hp ho
          unfold MV.val
          go_simp
          refine hK.out _ _ (hS4.trans (hb.mono hS4.size)) (fun hS5 => ?_)
          clear hK K' hS4 hb
          refine wpAnyH_ready (rs := [9]) (by kernel_rfl) (by simp) ?_
          refine AllReadyH.cons rfl (fun K' hK => ?_) AllReadyH.nil
          go_simp
          have HZ9 : Hid (Blk (y4.alloc (.cells #[.int .i64 0, .int .i64 0, .string ⟨#[]⟩, .slice none 0 0, .slice none 0 0] 25)) y4.heap.size 25 #[.int .i64 0, .int .i64 0, .string ⟨#[]⟩, .slice none 0 0, .slice none 0 0]) := Lib.hid (Blk.new _ _ _)
          have HGE9 : Hid (W5.heap.size ≤ y4.heap.size) := Lib.hid hS5.size
          have HXmu9 : Hid (BlkP (fun b => ¬ b = y4.heap.size) mu) := Lib.hid (Hmu.out.2.lt.mono (fun b hb => Nat.ne_of_lt hb))
          have Hmu := Lib.hid (And.intro Hmu.out.1 (Hmu.out.2.bel (below_new y4 (.cells #[.int .i64 0, .int .i64 0, .string ⟨#[]⟩, .slice none 0 0, .slice none 0 0] 25))))
          have HXmw9 : Hid (BlkP (fun b => ¬ b = y4.heap.size) mw) := Lib.hid (Hmw.out.2.lt.mono (fun b hb => Nat.ne_of_lt hb))
          have Hmw := Lib.hid (And.intro Hmw.out.1 (Hmw.out.2.bel (below_new y4 (.cells #[.int .i64 0, .int .i64 0, .string ⟨#[]⟩, .slice none 0 0, .slice none 0 0] 25))))
          have HNE : Hid (¬ g10 = y4.heap.size) := Lib.hid (Nat.ne_of_lt HZ10.out.lt)
          have HZ10 := Lib.hid (HZ10.out.alloc (.cells #[.int .i64 0, .int .i64 0, .string ⟨#[]⟩, .slice none 0 0, .slice none 0 0] 25))
          refine hK.out _ _ (hS5.alloc hS5.size _) (fun hS6 => ?_)
          clear hK K' hS5
          generalize y4.alloc (.cells #[.int .i64 0, .int .i64 0, .string ⟨#[]⟩, .slice none 0 0, .slice none 0 0] 25) = y5 at HZ9 HZ10 Hmu Hmw hS6 ⊢
          generalize HG7E : y4.heap.size = g9 at HZ9 HGE9 HXmu9 HXmw9 HNE ⊢
          clear HG7E
          refine wpAnyH_ready (rs := [11]) (by kernel_rfl) (by simp) ?_
          refine AllReadyH.cons rfl (fun K' hK => ?_) AllReadyH.nil
          obtain ⟨z0, z1, z2, z3, z4⟩ := five_cells HZ9.out
          obtain ⟨y0, y1, y2, y3, y4⟩ := five_fr HZ9.out
          have HF := Lib.hid (fr_five (w := y5) (g := g9) (a := .int .i64 mu.k) (b := .int .i64 mu.n) (c := .string mu.s) (d := .slice mu.lA mu.l.length mu.lc) (e := .slice mu.mA mu.m.length mu.mc))
          have HK7 := Lib.hid (blk_five (a := .int .i64 mu.k) (b := .int .i64 mu.n) (c := .string mu.s) (d := .slice mu.lA mu.l.length mu.lc) (e := .slice mu.mA mu.m.length mu.mc) HZ9.out)
          have HZ10 := Lib.hid (HZ10.out.fr HF.out (fun e => (fun e => HNE.out e.symm) e.symm))
          have hb6 := Fr.below_trans hS6 HF.out hS6.size (fun k e => by rw [show k = g9 from e]; exact HGE9.out)
          have Hmu := Lib.hid (And.intro Hmu.out.1 (Hmu.out.2.fr HF.out HXmu9.out))
          have Hmw := Lib.hid (And.intro Hmw.out.1 (Hmw.out.2.fr HF.out HXmw9.out))
          go_simp
          refine hK.out _ _ hb6 (fun hS7 => ?_)
          clear hK K' hS6 hb6 z0 z1 z2 z3 z4 y0 y1 y2 y3 y4 HZ9
          generalize (((((y5.setCell ⟨g9, 0, none⟩ (.int .i64 mu.k)).setCell ⟨g9, 1, none⟩ (.int .i64 mu.n)).setCell ⟨g9, 2, none⟩ (.string mu.s)).setCell ⟨g9, 3, none⟩ (.slice mu.lA mu.l.length mu.lc)).setCell ⟨g9, 4, none⟩ (.slice mu.mA mu.m.length mu.mc)) = y8 at HK7 HF HZ10 Hmu Hmw hS7 ⊢
          refine wpAnyH_done (by kernel_rfl) ?_ _
          refine lastQ_normal (wpOp_step rfl (fun K' hK => ?_))
          obtain ⟨z0, z1, z2, z3, z4⟩ := five_cells HZ10.out
          obtain ⟨y0, y1, y2, y3, y4⟩ := five_fr HZ10.out
          have HF := Lib.hid (fr_five (w := y8) (g := g10) (a := .int .i64 mw.k) (b := .int .i64 mw.n) (c := .string mw.s) (d := .slice mw.lA mw.l.length mw.lc) (e := .slice mw.mA mw.m.length mw.mc))
          have HK8 := Lib.hid (blk_five (a := .int .i64 mw.k) (b := .int .i64 mw.n) (c := .string mw.s) (d := .slice mw.lA mw.l.length mw.lc) (e := .slice mw.mA mw.m.length mw.mc) HZ10.out)
          have HK7 := Lib.hid (HK7.out.fr HF.out (fun e => HNE.out e.symm))
          have HB9 := Lib.hid (Fr.below_trans hS7 HF.out hS7.size (fun k e => by rw [show k = g10 from e]; exact HGE10.out))
          have Hmu := Lib.hid (And.intro Hmu.out.1 (Hmu.out.2.fr HF.out HXmu10.out))
          have Hmw := Lib.hid (And.intro Hmw.out.1 (Hmw.out.2.fr HF.out HXmw10.out))
          go_simp
          refine hK _ _ ?_
          clear hK K' hS7 z0 z1 z2 z3 z4 y0 y1 y2 y3 y4 HZ10
          exact HREST.out g9 g10 mu mw _ _ _ _ _ _ _ _ _ _ HB9.out HK7.out HK8.out Hmu.out Hmw.out
        · go_simp
          have HZ9 : Hid (Blk (y3.alloc (.cells #[.int .i64 0, .int .i64 0, .string ⟨#[]⟩, .slice none 0 0, .slice none 0 0] 25)) y3.heap.size 25 #[.int .i64 0, .int .i64 0, .string ⟨#[]⟩, .slice none 0 0, .slice none 0 0]) := Lib.hid (Blk.new _ _ _)
          have HGE9 : Hid (W5.heap.size ≤ y3.heap.size) := Lib.hid hS4.size
          have HXmu9 : Hid (BlkP (fun b => ¬ b = y3.heap.size) mu) := Lib.hid (Hmu.out.2.lt.mono (fun b hb => Nat.ne_of_lt hb))
          have Hmu := Lib.hid (And.intro Hmu.out.1 (Hmu.out.2.bel (below_new y3 (.cells #[.int .i64 0, .int .i64 0, .string ⟨#[]⟩, .slice none 0 0, .slice none 0 0] 25))))
          have HNE : Hid (¬ g10 = y3.heap.size) := Lib.hid (Nat.ne_of_lt HZ10.out.lt)
          have HZ10 := Lib.hid (HZ10.out.alloc (.cells #[.int .i64 0, .int .i64 0, .string ⟨#[]⟩, .slice none 0 0, .slice none 0 0] 25))
          refine hK.out _ _ (hS4.alloc hS4.size _) (fun hS5 => ?_)
          clear hK K' hS4
          generalize y3.alloc (.cells #[.int .i64 0, .int .i64 0, .string ⟨#[]⟩, .slice none 0 0, .slice none 0 0] 25) = y4 at HZ9 HZ10 Hmu hS5 ⊢
          generalize HG7E : y3.heap.size = g9 at HZ9 HGE9 HXmu9 HNE ⊢
          clear HG7E
          refine wpAnyH_ready (rs := [8]) (by kernel_rfl) (by simp) ?_
          refine AllReadyH.cons rfl (fun K' hK => ?_) AllReadyH.nil
          have hcc := without_any (HFV.out.bel hS5).at_ ((HFV.out.ok.fit (HFV.out.bel hS5).at_)) key
          unfold MV.val at hcc
          go_simp
          refine hcc.mono ?_
          clear hcc
          rintro e y5 ⟨mw, rfl, hp, ho, hb⟩
          have Hmw := Lib.hid (And.intro hp ho.at_)
          have HNmw := Lib.hid (And.intro ho.fr ho.at_.lt)
          have HXmw9 : Hid (BlkP (fun b => ¬ b = g9) mw) := Lib.hid (ho.fr.mono (fun b hb' e => by have h1 := HZ9.out.lt; have h2 : y4.heap.size ≤ b := hb'; omega))
          have HXmw10 : Hid (BlkP (fun b => ¬ b = g10) mw) := Lib.hid (ho.fr.mono (fun b hb' e => by have h1 := HZ10.out.lt; have h2 : y4.heap.size ≤ b := hb'; omega))
          have HZ9 := Lib.hid (HZ9.out.below hb HZ9.out.lt)
          have HZ10 := Lib.hid (HZ10.out.below hb HZ10.out.lt)
          have Hmu := Lib.hid (And.intro Hmu.out.1 (Hmu.out.2.bel hb))
          clear hp ho
          unfold MV.val
          go_simp
          refine hK.out _ _ (hS5.trans (hb.mono hS5.size)) (fun hS6 => ?_)
          clear hK K' hS5 hb
          refine wpAnyH_ready (rs := [11]) (by kernel_rfl) (by simp) ?_
          refine AllReadyH.cons rfl (fun K' hK => ?_) AllReadyH.nil
          obtain ⟨z0, z1, z2, z3, z4⟩ := five_cells HZ9.out
          obtain ⟨y0, y1, y2, y3, y4⟩ := five_fr HZ9.out
          have HF := Lib.hid (fr_five (w := y5) (g := g9) (a := .int .i64 mu.k) (b := .int .i64 mu.n) (c := .string mu.s) (d := .slice mu.lA mu.l.length mu.lc) (e := .slice mu.mA mu.m.length mu.mc))
          have HK7 := Lib.hid (blk_five (a := .int .i64 mu.k) (b := .int .i64 mu.n) (c := .string mu.s) (d := .slice mu.lA mu.l.length mu.lc) (e := .slice mu.mA mu.m.length mu.mc) HZ9.out)
          have HZ10 := Lib.hid (HZ10.out.fr HF.out (fun e => (fun e => HNE.out e.symm) e.symm))
          have hb6 := Fr.below_trans hS6 HF.out hS6.size (fun k e => by rw [show k = g9 from e]; exact HGE9.out)
          have Hmu := Lib.hid (And.intro Hmu.out.1 (Hmu.out.2.fr HF.out HXmu9.out))
          have Hmw := Lib.hid (And.intro Hmw.out.1 (Hmw.out.2.fr HF.out HXmw9.out))
          go_simp
          refine hK.out _ _ hb6 (fun hS7 => ?_)
          clear hK K' hS6 hb6 z0 z1 z2 z3 z4 y0 y1 y2 y3 y4 HZ9
          generalize (((((y5.setCell ⟨g9, 0, none⟩ (.int .i64 mu.k)).setCell ⟨g9, 1, none⟩ (.int .i64 mu.n)).setCell ⟨g9, 2, none⟩ (.string mu.s)).setCell ⟨g9, 3, none⟩ (.slice mu.lA mu.l.length mu.lc)).setCell ⟨g9, 4, none⟩ (.slice mu.mA mu.m.length mu.mc)) = y8 at HK7 HF HZ10 Hmu Hmw hS7 ⊢
          refine wpAnyH_done (by kernel_rfl) ?_ _
          refine lastQ_normal (wpOp_step rfl (fun K' hK => ?_))
          obtain ⟨z0, z1, z2, z3, z4⟩ := five_cells HZ10.out
          obtain ⟨y0, y1, y2, y3, y4⟩ := five_fr HZ10.out
          have HF := Lib.hid (fr_five (w := y8) (g := g10) (a := .int .i64 mw.k) (b := .int .i64 mw.n) (c := .string mw.s) (d := .slice mw.lA mw.l.length mw.lc) (e := .slice mw.mA mw.m.length mw.mc))
          have HK8 := Lib.hid (blk_five (a := .int .i64 mw.k) (b := .int .i64 mw.n) (c := .string mw.s) (d := .slice mw.lA mw.l.length mw.lc) (e := .slice mw.mA mw.m.length mw.mc) HZ10.out)
          have HK7 := Lib.hid (HK7.out.fr HF.out (fun e => HNE.out e.symm))
          have HB9 := Lib.hid (Fr.below_trans hS7 HF.out hS7.size (fun k e => by rw [show k = g10 from e]; exact HGE10.out))
          have Hmu := Lib.hid (And.intro Hmu.out.1 (Hmu.out.2.fr HF.out HXmu10.out))
          have Hmw := Lib.hid (And.intro Hmw.out.1 (Hmw.out.2.fr HF.out HXmw10.out))
          go_simp
          refine hK _ _ ?_
          clear hK K' hS7 z0 z1 z2 z3 z4 y0 y1 y2 y3 y4 HZ10
          exact HREST.out g9 g10 mu mw _ _ _ _ _ _ _ _ _ _ HB9.out HK7.out HK8.out Hmu.out Hmw.out
      · go_simp
        have HZ9 : Hid (Blk (y2.alloc (.cells #[.int .i64 0, .int .i64 0, .string ⟨#[]⟩, .slice none 0 0, .slice none 0 0] 25)) y2.heap.size 25 #[.int .i64 0, .int .i64 0, .string ⟨#[]⟩, .slice none 0 0, .slice none 0 0]) := Lib.hid (Blk.new _ _ _)
        have HGE9 : Hid (W5.heap.size ≤ y2.heap.size) := Lib.hid hS3.size
        have Ha1 := Lib.hid (And.intro Ha1.out.1 (And.intro (Ha1.out.2.1.bel (below_new y2 (.cells #[.int .i64 0, .int .i64 0, .string ⟨#[]⟩, .slice none 0 0, .slice none 0 0] 25))) Ha1.out.2.2))
        have HNE : Hid (¬ g10 = y2.heap.size) := Lib.hid (Nat.ne_of_lt HZ10.out.lt)
        have HZ10 := Lib.hid (HZ10.out.alloc (.cells #[.int .i64 0, .int .i64 0, .string ⟨#[]⟩, .slice none 0 0, .slice none 0 0] 25))
        refine hK.out _ _ (hS3.alloc hS3.size _) (fun hS4 => ?_)
        clear hK K' hS3
        generalize y2.alloc (.cells #[.int .i64 0, .int .i64 0, .string ⟨#[]⟩, .slice none 0 0, .slice none 0 0] 25) = y3 at HZ9 HZ10 Ha1 hS4 ⊢
        generalize HG7E : y2.heap.size = g9 at HZ9 HGE9 HNE ⊢
        clear HG7E
        refine wpAnyH_ready (rs := [5]) (by kernel_rfl) (by simp) ?_
        refine AllReadyH.cons rfl (fun K' hK => ?_) AllReadyH.nil
        have hcc := without_any Ha1.out.2.1 Ha1.out.2.2 key
        unfold MV.val at hcc
        rw [Ha1.out.1, wo_with] at hcc
        go_simp
        refine hcc.mono ?_
        clear hcc
        rintro e y4 ⟨mu, rfl, hp, ho, hb⟩
        have Hmu := Lib.hid (And.intro hp ho.at_)
        have HNmu := Lib.hid (And.intro ho.fr ho.at_.lt)
        have HXmu9 : Hid (BlkP (fun b => ¬ b = g9) mu) := Lib.hid (ho.fr.mono (fun b hb' e => by have h1 := HZ9.out.lt; have h2 : y3.heap.size ≤ b := hb'; omega))
        have HXmu10 : Hid (BlkP (fun b => ¬ b = g10) mu) := Lib.hid (ho.fr.mono (fun b hb' e => by have h1 := HZ10.out.lt; have h2 : y3.heap.size ≤ b := hb'; omega))
        have HZ9 := Lib.hid (HZ9.out.below hb HZ9.out.lt)
        have HZ10 := Lib.hid (HZ10.out.below hb HZ10.out.lt)
        clear Ha1
        clear hp ho
        unfold MV.val
        go_simp
        refine hK.out _ _ (hS4.trans (hb.mono hS4.size)) (fun hS5 => ?_)
        clear hK K' hS4 hb
        refine wpAnyH_ready (rs := [8]) (by kernel_rfl) (by simp) ?_
        refine AllReadyH.cons rfl (fun K' hK => ?_) AllReadyH.nil
        have hcc := without_any (HFV.out.bel hS5).at_ ((HFV.out.ok.fit (HFV.out.bel hS5).at_)) key
        unfold MV.val at hcc
        go_simp
        refine hcc.mono ?_
        clear hcc
        rintro e y5 ⟨mw, rfl, hp, ho, hb⟩
        have Hmw := Lib.hid (And.intro hp ho.at_)
        have HNmw := Lib.hid (And.intro ho.fr ho.at_.lt)
        have HXmw9 : Hid (BlkP (fun b => ¬ b = g9) mw) := Lib.hid (ho.fr.mono (fun b hb' e => by have h1 := HZ9.out.lt; have h2 : y4.heap.size ≤ b := hb'; omega))
        have HXmw10 : Hid (BlkP (fun b => ¬ b = g10) mw) := Lib.hid (ho.fr.mono (fun b hb' e => by have h1 := HZ10.out.lt; have h2 : y4.heap.size ≤ b := hb'; omega))
        have HZ9 := Lib.hid (HZ9.out.below hb HZ9.out.lt)
        have HZ10 := Lib.hid (HZ10.out.below hb HZ10.out.lt)
        have Hmu := Lib.hid (And.intro Hmu.out.1 (Hmu.out.2.bel hb))
        clear hp ho
        unfold MV.val
        go_simp
        refine hK.out _ _ (hS5.trans (hb.mono hS5.size)) (fun hS6 => ?_)
        clear hK K' hS5 hb
        refine wpAnyH_ready (rs := [11]) (by kernel_rfl) (by simp) ?_
        refine AllReadyH.cons rfl (fun K' hK => ?_) AllReadyH.nil
        obtain ⟨z0, z1, z2, z3, z4⟩ := five_cells HZ9.out
        obtain ⟨y0, y1, y2, y3, y4⟩ := five_fr HZ9.out
        have HF := Lib.hid (fr_five (w := y5) (g := g9) (a := .int .i64 mu.k) (b := .int .i64 mu.n) (c := .string mu.s) (d := .slice mu.lA mu.l.length mu.lc) (e := .slice mu.mA mu.m.length mu.mc))
        have HK7 := Lib.hid (blk_five (a := .int .i64 mu.k) (b := .int .i64 mu.n) (c := .string mu.s) (d := .slice mu.lA mu.l.length mu.lc) (e := .slice mu.mA mu.m.length mu.mc) HZ9.out)
        have HZ10 := Lib.hid (HZ10.out.fr HF.out (fun e => (fun e => HNE.out e.symm) e.symm))
        have hb6 := Fr.below_trans hS6 HF.out hS6.size (fun k e => by rw [show k = g9 from e]; exact HGE9.out)
        have Hmu := Lib.hid (And.intro Hmu.out.1 (Hmu.out.2.fr HF.out HXmu9.out))
        have Hmw := Lib.hid (And.intro Hmw.out.1 (Hmw.out.2.fr HF.out HXmw9.out))
        go_simp
        refine hK.out _ _ hb6 (fun hS7 => ?_)
        clear hK K' hS6 hb6 z0 z1 z2 z3 z4 y0 y1 y2 y3 y4 HZ9
        generalize (((((y5.setCell ⟨g9, 0, none⟩ (.int .i64 mu.k)).setCell ⟨g9, 1, none⟩ (.int .i64 mu.n)).setCell ⟨g9, 2, none⟩ (.string mu.s)).setCell ⟨g9, 3, none⟩ (.slice mu.lA mu.l.length mu.lc)).setCell ⟨g9, 4, none⟩ (.slice mu.mA mu.m.length mu.mc)) = y8 at HK7 HF HZ10 Hmu Hmw hS7 ⊢
        refine wpAnyH_done (by kernel_rfl) ?_ _
        refine lastQ_normal (wpOp_step rfl (fun K' hK => ?_))
        obtain ⟨z0, z1, z2, z3, z4⟩ := five_cells HZ10.out
        obtain ⟨y0, y1, y2, y3, y4⟩ := five_fr HZ10.out
        have HF := Lib.hid (fr_five (w := y8) (g := g10) (a := .int .i64 mw.k) (b := .int .i64 mw.n) (c := .string mw.s) (d := .slice mw.lA mw.l.length mw.lc) (e := .slice mw.mA mw.m.length mw.mc))
        have HK8 := Lib.hid (blk_five (a := .int .i64 mw.k) (b := .int .i64 mw.n) (c := .string mw.s) (d := .slice mw.lA mw.l.length mw.lc) (e := .slice mw.mA mw.m.length mw.mc) HZ10.out)
        have HK7 := Lib.hid (HK7.out.fr HF.out (fun e => HNE.out e.symm))
        have HB9 := Lib.hid (Fr.below_trans hS7 HF.out hS7.size (fun k e => by rw [show k = g10 from e]; exact HGE10.out))
        have Hmu := Lib.hid (And.intro Hmu.out.1 (Hmu.out.2.fr HF.out HXmu10.out))
        have Hmw := Lib.hid (And.intro Hmw.out.1 (Hmw.out.2.fr HF.out HXmw10.out))
        go_simp
        refine hK _ _ ?_
        clear hK K' hS7 z0 z1 z2 z3 z4 y0 y1 y2 y3 y4 HZ10
        exact HREST.out g9 g10 mu mw _ _ _ _ _ _ _ _ _ _ HB9.out HK7.out HK8.out Hmu.out Hmw.out
  · go_simp
    have HZ9 : Hid (Blk (y0.alloc (.cells #[.int .i64 0, .int .i64 0, .string ⟨#[]⟩, .slice none 0 0, .slice none 0 0] 25)) y0.heap.size 25 #[.int .i64 0, .int .i64 0, .string ⟨#[]⟩, .slice none 0 0, .slice none 0 0]) := Lib.hid (Blk.new _ _ _)
    have HGE9 : Hid (W5.heap.size ≤ y0.heap.size) := Lib.hid hS1.size
    refine hK.out _ _ (hS1.alloc hS1.size _) (fun hS2 => ?_)
    clear hK K' hS1
    generalize y0.alloc (.cells #[.int .i64 0, .int .i64 0, .string ⟨#[]⟩, .slice none 0 0, .slice none 0 0] 25) = y1 at HZ9 hS2 ⊢
    generalize HG7E : y0.heap.size = g9 at HZ9 HGE9 ⊢
    clear HG7E
    refine wpAnyH_ready (rs := [3, 10]) (by kernel_rfl) (by simp) ?_
    refine AllReadyH.cons rfl (fun K' hK => ?_) (AllReadyH.cons rfl (fun K' hK => ?_) AllReadyH.nil)
    · have hcc := with_any (HFV.out.bel hS2).at_ ((HFV.out.ok.fit (HFV.out.bel hS2).at_)) (HFX.out.bel hS2).at_ ((HFX.out.ok.fit (HFX.out.bel hS2).at_)) key
      unfold MV.val at hcc
      go_simp
      refine hcc.mono ?_
      clear hcc
      rintro e y2 ⟨a1, rfl, hp, ho, hb⟩
      have Ha1 := Lib.hid (And.intro hp (And.intro ho.at_ (clone_fit hp (fit_with HFV.out.ok HFX.out.ok HFEW.out key) ho.at_)))
      have HZ9 := Lib.hid (HZ9.out.below hb HZ9.out.lt)
      clear hp ho
      unfold MV.val
      go_simp
      refine hK.out _ _ (hS2.trans (hb.mono hS2.size)) (fun hS3 => ?_)
      clear hK K' hS2 hb
      refine wpAnyH_ready (rs := [5, 10]) (by kernel_rfl) (by simp) ?_
      refine AllReadyH.cons rfl (fun K' hK => ?_) (AllReadyH.cons rfl (fun K' hK => ?_) AllReadyH.nil)
      · have hcc := without_any Ha1.out.2.1 Ha1.out.2.2 key
        unfold MV.val at hcc
        rw [Ha1.out.1, wo_with] at hcc
        go_simp
        refine hcc.mono ?_
        clear hcc
        rintro e y3 ⟨mu, rfl, hp, ho, hb⟩
        have Hmu := Lib.hid (And.intro hp ho.at_)
        have HNmu := Lib.hid (And.intro ho.fr ho.at_.lt)
        have HXmu9 : Hid (BlkP (fun b => ¬ b = g9) mu) := Lib.hid (ho.fr.mono (fun b hb' e => by have h1 := HZ9.out.lt; have h2 : y2.heap.size ≤ b := hb'; omega))
        have HZ9 := Lib.hid (HZ9.out.below hb HZ9.out.lt)
        clear Ha1
        clear hp ho
        unfold MV.val
        go_simp
        refine hK.out _ _ (hS3.trans (hb.mono hS3.size)) (fun hS4 => ?_)
        clear hK K' hS3 hb
        refine wpAnyH_ready (rs := [8, 10]) (by kernel_rfl) (by simp) ?_
        refine AllReadyH.cons rfl (fun K' hK => ?_) (AllReadyH.cons rfl (fun K' hK => ?_) AllReadyH.nil)
        · have hcc := without_any (HFV.out.bel hS4).at_ ((HFV.out.ok.fit (HFV.out.bel hS4).at_)) key
          unfold MV.val at hcc
          go_simp
          refine hcc.mono ?_
          clear hcc
          rintro e y4 ⟨mw, rfl, hp, ho, hb⟩
          have Hmw := Lib.hid (And.intro hp ho.at_)
          have HNmw := Lib.hid (And.intro ho.fr ho.at_.lt)
          have HXmw9 : Hid (BlkP (fun b => ¬ b = g9) mw) := Lib.hid (ho.fr.mono (fun b hb' e => by have h1 := HZ9.out.lt; have h2 : y3.heap.size ≤ b := hb'; omega))
          have HZ9 := Lib.hid (HZ9.out.below hb HZ9.out.lt)
          have Hmu := Lib.hid (And.intro Hmu.out.1 (Hmu.out.2.bel hb))
          clear hp ho
          unfold MV.val
          go_simp
          refine hK.out _ _ (hS4.trans (hb.mono hS4.size)) (fun hS5 => ?_)
          clear hK K' hS4 hb
          refine wpAnyH_ready (rs := [10]) (by kernel_rfl) (by simp) ?_
          refine AllReadyH.cons rfl (fun K' hK => ?_) AllReadyH.nil
          go_simp
          have HZ10 : Hid (Blk (y4.alloc (.cells #[.int .i64 0, .int .i64 0, .string ⟨#[]⟩, .slice none 0 0, .slice none 0 0] 25)) y4.heap.size 25 #[.int .i64 0, .int .i64 0, .string ⟨#[]⟩, .slice none 0 0, .slice none 0 0]) := Lib.hid (Blk.new _ _ _)
          have HGE10 : Hid (W5.heap.size ≤ y4.heap.size) := Lib.hid hS5.size
          have HXmu10 : Hid (BlkP (fun b => ¬ b = y4.heap.size) mu) := Lib.hid (Hmu.out.2.lt.mono (fun b hb => Nat.ne_of_lt hb))
          have Hmu := Lib.hid (And.intro Hmu.out.1 (Hmu.out.2.bel (below_new y4 (.cells #[.int .i64 0, .int .i64 0, .string ⟨#[]⟩, .slice none 0 0, .slice none 0 0] 25))))
          have HXmw10 : Hid (BlkP (fun b => ¬ b = y4.heap.size) mw) := Lib.hid (Hmw.out.2.lt.mono (fun b hb => Nat.ne_of_lt hb))
          have Hmw := Lib.hid (And.intro Hmw.out.1 (Hmw.out.2.bel (below_new y4 (.cells #[.int .i64 0, .int .i64 0, .string ⟨#[]⟩, .slice none 0 0, .slice none 0 0] 25))))
          have HNE : Hid (¬ g9 = y4.heap.size) := Lib.hid (Nat.ne_of_lt HZ9.out.lt)
          have HZ9 := Lib.hid (HZ9.out.alloc (.cells #[.int .i64 0, .int .i64 0, .string ⟨#[]⟩, .slice none 0 0, .slice none 0 0] 25))
          refine hK.out _ _ (hS5.alloc hS5.size _) (fun hS6 => ?_)
          clear hK K' hS5
          generalize y4.alloc (.cells #[.int .i64 0, .int .i64 0, .string ⟨#[]⟩, .slice none 0 0, .slice none 0 0] 25) = y5 at HZ10 HZ9 Hmu Hmw hS6 ⊢
          generalize HG7E : y4.heap.size = g10 at HZ10 HGE10 HXmu10 HXmw10 HNE ⊢
          clear HG7E
          refine wpAnyH_ready (rs := [11]) (by kernel_rfl) (by simp) ?_
          refine AllReadyH.cons rfl (fun K' hK => ?_) AllReadyH.nil
          obtain ⟨z0, z1, z2, z3, z4⟩ := five_cells HZ9.out
          obtain ⟨y0, y1, y2, y3, y4⟩ := five_fr HZ9.out
          have HF := Lib.hid (fr_five (w := y5) (g := g9) (a := .int .i64 mu.k) (b := .int .i64 mu.n) (c := .string mu.s) (d := .slice mu.lA mu.l.length mu.lc) (e := .slice mu.mA mu.m.length mu.mc))
          have HK7 := Lib.hid (blk_five (a := .int .i64 mu.k) (b := .int .i64 mu.n) (c := .string mu.s) (d := .slice mu.lA mu.l.length mu.lc) (e := .slice mu.mA mu.m.length mu.mc) HZ9.out)
          have HZ10 := Lib.hid (HZ10.out.fr HF.out (fun e => HNE.out e.symm))
          have hb6 := Fr.below_trans hS6 HF.out hS6.size (fun k e => by rw [show k = g9 from e]; exact HGE9.out)
          have Hmu := Lib.hid (And.intro Hmu.out.1 (Hmu.out.2.fr HF.out HXmu9.out))
          have Hmw := Lib.hid (And.intro Hmw.out.1 (Hmw.out.2.fr HF.out HXmw9.out))
          go_simp
          refine hK.out _ _ hb6 (fun hS7 => ?_)
          clear hK K' hS6 hb6 z0 z1 z2 z3 z4 y0 y1 y2 y3 y4 HZ9
          generalize (((((y5.setCell ⟨g9, 0, none⟩ (.int .i64 mu.k)).setCell ⟨g9, 1, none⟩ (.int .i64 mu.n)).setCell ⟨g9, 2, none⟩ (.string mu.s)).setCell ⟨g9, 3, none⟩ (.slice mu.lA mu.l.length mu.lc)).setCell ⟨g9, 4, none⟩ (.slice mu.mA mu.m.length mu.mc)) = y8 at HK7 HF HZ10 Hmu Hmw hS7 ⊢
          refine wpAnyH_done (by kernel_rfl) ?_ _
          refine lastQ_normal (wpOp_step rfl (fun K' hK => ?_))
          obtain ⟨z0, z1, z2, z3, z4⟩ := five_cells HZ10.out
          obtain ⟨y0, y1, y2, y3, y4⟩ := five_fr HZ10.out
          have HF := Lib.hid (fr_five (w := y8) (g := g10) (a := .int .i64 mw.k) (b := .int .i64 mw.n) (c := .string mw.s) (d := .slice mw.lA mw.l.length mw.lc) (e := .slice mw.mA mw.m.length mw.mc))
          have HK8 := Lib.hid (blk_five (a := .int .i64 mw.k) (b := .int .i64 mw.n) (c := .string mw.s) (d := .slice mw.lA mw.l.length mw.lc) (e := .slice mw.mA mw.m.length mw.mc) HZ10.out)
          have HK7 := Lib.hid (HK7.out.fr HF.out HNE.out)
          have HB9 := Lib.hid (Fr.below_trans hS7 HF.out hS7.size (fun k e => by rw [show k = g10 from e]; exact HGE10.out))
          have Hmu := Lib.hid (And.intro Hmu.out.1 (Hmu.out.2.fr HF.out HXmu10.out))
          have Hmw := Lib.hid (And.intro Hmw.out.1 (Hmw.out.2.fr HF.out HXmw10.out))
          go_simp
          refine hK _ _ ?_
          clear hK K' hS7 z0 z1 z2 z3 z4 y0 y1 y2 y3 y4 HZ10
          exact HREST.out g9 g10 mu mw _ _ _ _ _ _ _ _ _ _ HB9.out HK7.out HK8.out Hmu.out Hmw.out
        · go_simp
          have HZ10 : Hid (Blk (y3.alloc (.cells #[.int .i64 0, .int .i64 0, .string ⟨#[]⟩, .slice none 0 0, .slice none 0 0] 25)) y3.heap.size 25 #[.int .i64 0, .int .i64 0, .string ⟨#[]⟩, .slice none 0 0, .slice none 0 0]) := Lib.hid (Blk.new _ _ _)
          have HGE10 : Hid (W5.heap.size ≤ y3.heap.size) := Lib.hid hS4.size
          have HXmu10 : Hid (BlkP (fun b => ¬ b = y3.heap.size) mu) := Lib.hid (Hmu.out.2.lt.mono (fun b hb => Nat.ne_of_lt hb))
          have Hmu := Lib.hid (And.intro Hmu.out.1 (Hmu.out.2.bel (below_new y3 (.cells #[.int .i64 0, .int .i64 0, .string ⟨#[]⟩, .slice none 0 0, .slice none 0 0] 25))))
          have HNE : Hid (¬ g9 = y3.heap.size) := Lib.hid (Nat.ne_of_lt HZ9.out.lt)
          have HZ9 := Lib.hid (HZ9.out.alloc (.cells #[.int .i64 0, .int .i64 0, .string ⟨#[]⟩, .slice none 0 0, .slice none 0 0] 25))
          refine hK.out _ _ (hS4.alloc hS4.size _) (fun hS5 => ?_)
          clear hK K' hS4
          generalize y3.alloc (.cells #[.int .i64 0, .int .i64 0, .string ⟨#[]⟩, .slice none 0 0, .slice none 0 0] 25) = y4 at HZ10 HZ9 Hmu hS5 ⊢
          generalize HG7E : y3.heap.size = g10 at HZ10 HGE10 HXmu10 HNE ⊢
          clear HG7E
          refine wpAnyH_ready (rs := [8]) (by kernel_rfl) (by simp) ?_
          refine AllReadyH.cons rfl (fun K' hK => ?_) AllReadyH.nil
          have hcc := without_any (HFV.out.bel hS5).at_ ((HFV.out.ok.fit (HFV.out.bel hS5).at_)) key
          unfold MV.val at hcc
          go_simp
          refine hcc.mono ?_
          clear hcc
          rintro e y5 ⟨mw, rfl, hp, ho, hb⟩
          have Hmw := Lib.hid (And.intro hp ho.at_)
          have HNmw := Lib.hid (And.intro ho.fr ho.at_.lt)
          have HXmw9 : Hid (BlkP (fun b => ¬ b = g9) mw) := Lib.hid (ho.fr.mono (fun b hb' e => by have h1 := HZ9.out.lt; have h2 : y4.heap.size ≤ b := hb'; omega))
          have HXmw10 : Hid (BlkP (fun b => ¬ b = g10) mw) := Lib.hid (ho.fr.mono (fun b hb' e => by have h1 := HZ10.out.lt; have h2 : y4.heap.size ≤ b := hb'; omega))
          have HZ9 := Lib.hid (HZ9.out.below hb HZ9.out.lt)
          have HZ10 := Lib.hid (HZ10.out.below hb HZ10.out.lt)
          have Hmu := Lib.hid (And.intro Hmu.out.1 (Hmu.out.2.bel hb))
          clear hp ho
          unfold MV.val
          go_simp
          refine hK.out _ _ (hS5.trans (hb.mono hS5.size)) (fun hS6 => ?_)
          clear hK K' hS5 hb
          refine wpAnyH_ready (rs := [11]) (by kernel_rfl) (by simp) ?_
          refine AllReadyH.cons rfl (fun K' hK => ?_) AllReadyH.nil
          obtain ⟨z0, z1, z2, z3, z4⟩ := five_cells HZ9.out
          obtain ⟨y0, y1, y2, y3, y4⟩ := five_fr HZ9.out
          have HF := Lib.hid (fr_five (w := y5) (g := g9) (a := .int .i64 mu.k) (b := .int .i64 mu.n) (c := .string mu.s) (d := .slice mu.lA mu.l.length mu.lc) (e := .slice mu.mA mu.m.length mu.mc))
          have HK7 := Lib.hid (blk_five (a := .int .i64 mu.k) (b := .int .i64 mu.n) (c := .string mu.s) (d := .slice mu.lA mu.l.length mu.lc) (e := .slice mu.mA mu.m.length mu.mc) HZ9.out)
          have HZ10 := Lib.hid (HZ10.out.fr HF.out (fun e => HNE.out e.symm))
          have hb6 := Fr.below_trans hS6 HF.out hS6.size (fun k e => by rw [show k = g9 from e]; exact HGE9.out)
          have Hmu := Lib.hid (And.intro Hmu.out.1 (Hmu.out.2.fr HF.out HXmu9.out))
          have Hmw := Lib.hid (And.intro Hmw.out.1 (Hmw.out.2.fr HF.out HXmw9.out))
          go_simp
          refine hK.out _ _ hb6 (fun hS7 => ?_)
          clear hK K' hS6 hb6 z0 z1 z2 z3 z4 y0 y1 y2 y3 y4 HZ9
          generalize (((((y5.setCell ⟨g9, 0, none⟩ (.int .i64 mu.k)).setCell ⟨g9, 1, none⟩ (.int .i64 mu.n)).setCell ⟨g9, 2, none⟩ (.string mu.s)).setCell ⟨g9, 3, none⟩ (.slice mu.lA mu.l.length mu.lc)).setCell ⟨g9, 4, none⟩ (.slice mu.mA mu.m.length mu.mc)) = y8 at HK7 HF HZ10 Hmu Hmw hS7 ⊢
          refine wpAnyH_done (by kernel_rfl) ?_ _
          refine lastQ_normal (wpOp_step rfl (fun K' hK => ?_))
          obtain ⟨z0, z1, z2, z3, z4⟩ := five_cells HZ10.out
          obtain ⟨y0, y1, y2, y3, y4⟩ := five_fr HZ10.out
          have HF := Lib.hid (fr_five (w := y8) (g := g10) (a := .int .i64 mw.k) (b := .int .i64 mw.n) (c := .string mw.s) (d := .slice mw.lA mw.l.length mw.lc) (e := .slice mw.mA mw.m.length mw.mc))
          have HK8 := Lib.hid (blk_five (a := .int .i64 mw.k) (b := .int .i64 mw.n) (c := .string mw.s) (d := .slice mw.lA mw.l.length mw.lc) (e := .slice mw.mA mw.m.length mw.mc) HZ10.out)
          have HK7 := Lib.hid (HK7.out.fr HF.out HNE.out)
          have HB9 := Lib.hid (Fr.below_trans hS7 HF.out hS7.size (fun k e => by rw [show k = g10 from e]; exact HGE10.out))
          have Hmu := Lib.hid (And.intro Hmu.out.1 (Hmu.out.2.fr HF.out HXmu10.out))
          have Hmw := Lib.hid (And.intro Hmw.out.1 (Hmw.out.2.fr HF.out HXmw10.out))
          go_simp
          refine hK _ _ ?_
          clear hK K' hS7 z0 z1 z2 z3 z4 y0 y1 y2 y3 y4 HZ10
          exact HREST.out g9 g10 mu mw _ _ _ _ _ _ _ _ _ _ HB9.out HK7.out HK8.out Hmu.out Hmw.out
      · go_simp
        have HZ10 : Hid (Blk (y2.alloc (.cells #[.int .i64 0, .int .i64 0, .string ⟨#[]⟩, .slice none 0 0, .slice none 0 0] 25)) y2.heap.size 25 #[.int .i64 0, .int .i64 0, .string ⟨#[]⟩, .slice none 0 0, .slice none 0 0]) := Lib.hid (Blk.new _ _ _)
        have HGE10 : Hid (W5.heap.size ≤ y2.heap.size) := Lib.hid hS3.size
        have Ha1 := Lib.hid (And.intro Ha1.out.1 (And.intro (Ha1.out.2.1.bel (below_new y2 (.cells #[.int .i64 0, .int .i64 0, .string ⟨#[]⟩, .slice none 0 0, .slice none 0 0] 25))) Ha1.out.2.2))
        have HNE : Hid (¬ g9 = y2.heap.size) := Lib.hid (Nat.ne_of_lt HZ9.out.lt)
        have HZ9 := Lib.hid (HZ9.out.alloc (.cells #[.int .i64 0, .int .i64 0, .string ⟨#[]⟩, .slice none 0 0, .slice none 0 0] 25))
        refine hK.out _ _ (hS3.alloc hS3.size _) (fun hS4 => ?_)
        clear hK K' hS3
        generalize y2.alloc (.cells #[.int .i64 0, .int .i64 0, .string ⟨#[]⟩, .slice none 0 0, .slice none 0 0] 25) = y3 at HZ10 HZ9 Ha1 hS4 ⊢
        generalize HG7E : y2.heap.size = g10 at HZ10 HGE10 HNE ⊢
        clear HG7E
        refine wpAnyH_ready (rs := [5]) (by kernel_rfl) (by simp) ?_
        refine AllReadyH.cons rfl (fun K' hK => ?_) AllReadyH.nil
        have hcc := without_any Ha1.out.2.1 Ha1.out.2.2 key
        unfold MV.val at hcc
        rw [Ha1.out.1, wo_with] at hcc
        go_simp
        refine hcc.mono ?_
        clear hcc
        rintro e y4 ⟨mu, rfl, hp, ho, hb⟩
        have Hmu := Lib.hid (And.intro hp ho.at_)
        have HNmu := Lib.hid (And.intro ho.fr ho.at_.lt)
        have HXmu9 : Hid (BlkP (fun b => ¬ b = g9) mu) := Lib.hid (ho.fr.mono (fun b hb' e => by have h1 := HZ9.out.lt; have h2 : y3.heap.size ≤ b := hb'; omega))
        have HXmu10 : Hid (BlkP (fun b => ¬ b = g10) mu) := Lib.hid (ho.fr.mono (fun b hb' e => by have h1 := HZ10.out.lt; have h2 : y3.heap.size ≤ b := hb'; omega))
        have HZ9 := Lib.hid (HZ9.out.below hb HZ9.out.lt)
        have HZ10 := Lib.hid (HZ10.out.below hb HZ10.out.lt)
        clear Ha1
        clear hp ho
        unfold MV.val
        go_simp
        refine hK.out _ _ (hS4.trans (hb.mono hS4.size)) (fun hS5 => ?_)
        clear hK K' hS4 hb
        refine wpAnyH_ready (rs := [8]) (by kernel_rfl) (by simp) ?_
        refine AllReadyH.cons rfl (fun K' hK => ?_) AllReadyH.nil
        have hcc := without_any (HFV.out.bel hS5).at_ ((HFV.out.ok.fit (HFV.out.bel hS5).at_)) key
        unfold MV.val at hcc
        go_simp
        refine hcc.mono ?_
        clear hcc
        rintro e y5 ⟨mw, rfl, hp, ho, hb⟩
        have Hmw := Lib.hid (And.intro hp ho.at_)
        have HNmw := Lib.hid (And.intro ho.fr ho.at_.lt)
        have HXmw9 : Hid (BlkP (fun b => ¬ b = g9) mw) := Lib.hid (ho.fr.mono (fun b hb' e => by have h1 := HZ9.out.lt; have h2 : y4.heap.size ≤ b := hb'; omega))
        have HXmw10 : Hid (BlkP (fun b => ¬ b = g10) mw) := Lib.hid (ho.fr.mono (fun b hb' e => by have h1 := HZ10.out.lt; have h2 : y4.heap.size ≤ b := hb'; omega))
        have HZ9 := Lib.hid (HZ9.out.below hb HZ9.out.lt)
        have HZ10 := Lib.hid (HZ10.out.below hb HZ10.out.lt)
        have Hmu := Lib.hid (And.intro Hmu.out.1 (Hmu.out.2.bel hb))
        clear hp ho
        unfold MV.val
        go_simp
        refine hK.out _ _ (hS5.trans (hb.mono hS5.size)) (fun hS6 => ?_)
        clear hK K' hS5 hb
        refine wpAnyH_ready (rs := [11]) (by kernel_rfl) (by simp) ?_
        refine AllReadyH.cons rfl (fun K' hK => ?_) AllReadyH.nil
        obtain ⟨z0, z1, z2, z3, z4⟩ := five_cells HZ9.out
        obtain ⟨y0, y1, y2, y3, y4⟩ := five_fr HZ9.out
        have HF := Lib.hid (fr_five (w := y5) (g := g9) (a := .int .i64 mu.k) (b := .int .i64 mu.n) (c := .string mu.s) (d := .slice mu.lA mu.l.length mu.lc) (e := .slice mu.mA mu.m.length mu.mc))
        have HK7 := Lib.hid (blk_five (a := .int .i64 mu.k) (b := .int .i64 mu.n) (c := .string mu.s) (d := .slice mu.lA mu.l.length mu.lc) (e := .slice mu.mA mu.m.length mu.mc) HZ9.out)
        have HZ10 := Lib.hid (HZ10.out.fr HF.out (fun e => HNE.out e.symm))
        have hb6 := Fr.below_trans hS6 HF.out hS6.size (fun k e => by rw [show k = g9 from e]; exact HGE9.out)
        have Hmu := Lib.hid (And.intro Hmu.out.1 (Hmu.out.2.fr HF.out HXmu9.out))
        have Hmw := Lib.hid (And.intro Hmw.out.1 (Hmw.out.2.fr HF.out HXmw9.out))
        go_simp
        refine hK.out _ _ hb6 (fun hS7 => ?_)
        clear hK K' hS6 hb6 z0 z1 z2 z3 z4 y0 y1 y2 y3 y4 HZ9
        generalize (((((y5.setCell ⟨g9, 0, none⟩ (.int .i64 mu.k)).setCell ⟨g9, 1, none⟩ (.int .i64 mu.n)).setCell ⟨g9, 2, none⟩ (.string mu.s)).setCell ⟨g9, 3, none⟩ (.slice mu.lA mu.l.length mu.lc)).setCell ⟨g9, 4, none⟩ (.slice mu.mA mu.m.length mu.mc)) = y8 at HK7 HF HZ10 Hmu Hmw hS7 ⊢
        refine wpAnyH_done (by kernel_rfl) ?_ _
        refine lastQ_normal (wpOp_step rfl (fun K' hK => ?_))
        obtain ⟨z0, z1, z2, z3, z4⟩ := five_cells HZ10.out
        obtain ⟨y0, y1, y2, y3, y4⟩ := five_fr HZ10.out
        have HF := Lib.hid (fr_five (w := y8) (g := g10) (a := .int .i64 mw.k) (b := .int .i64 mw.n) (c := .string mw.s) (d := .slice mw.lA mw.l.length mw.lc) (e := .slice mw.mA mw.m.length mw.mc))
        have HK8 := Lib.hid (blk_five (a := .int .i64 mw.k) (b := .int .i64 mw.n) (c := .string mw.s) (d := .slice mw.lA mw.l.length mw.lc) (e := .slice mw.mA mw.m.length mw.mc) HZ10.out)
        have HK7 := Lib.hid (HK7.out.fr HF.out HNE.out)
        have HB9 := Lib.hid (Fr.below_trans hS7 HF.out hS7.size (fun k e => by rw [show k = g10 from e]; exact HGE10.out))
        have Hmu := Lib.hid (And.intro Hmu.out.1 (Hmu.out.2.fr HF.out HXmu10.out))
        have Hmw := Lib.hid (And.intro Hmw.out.1 (Hmw.out.2.fr HF.out HXmw10.out))
        go_simp
        refine hK _ _ ?_
        clear hK K' hS7 z0 z1 z2 z3 z4 y0 y1 y2 y3 y4 HZ10
        exact HREST.out g9 g10 mu mw _ _ _ _ _ _ _ _ _ _ HB9.out HK7.out HK8.out Hmu.out Hmw.out
    · go_simp
      have HZ10 : Hid (Blk (y1.alloc (.cells #[.int .i64 0, .int .i64 0, .string ⟨#[]⟩, .slice none 0 0, .slice none 0 0] 25)) y1.heap.size 25 #[.int .i64 0, .int .i64 0, .string ⟨#[]⟩, .slice none 0 0, .slice none 0 0]) := Lib.hid (Blk.new _ _ _)
      have HGE10 : Hid (W5.heap.size ≤ y1.heap.size) := Lib.hid hS2.size
      have HNE : Hid (¬ g9 = y1.heap.size) := Lib.hid (Nat.ne_of_lt HZ9.out.lt)
      have HZ9 := Lib.hid (HZ9.out.alloc (.cells #[.int .i64 0, .int .i64 0, .string ⟨#[]⟩, .slice none 0 0, .slice none 0 0] 25))
      refine hK.out _ _ (hS2.alloc hS2.size _) (fun hS3 => ?_)
      clear hK K' hS2
      generalize y1.alloc (.cells #[.int .i64 0, .int .i64 0, .string ⟨#[]⟩, .slice none 0 0, .slice none 0 0] 25) = y2 at HZ10 HZ9 hS3 ⊢
      generalize HG7E : y1.heap.size = g10 at HZ10 HGE10 HNE ⊢
      clear HG7E
      refine wpAnyH_ready (rs := [3]) (by kernel_rfl) (by simp) ?_
      refine AllReadyH.cons rfl (fun K' hK => ?_) AllReadyH.nil
      have hcc := with_any (HFV.out.bel hS3).at_ ((HFV.out.ok.fit (HFV.out.bel hS3).at_)) (HFX.out.bel hS3).at_ ((HFX.out.ok.fit (HFX.out.bel hS3).at_)) key
      unfold MV.val at hcc
      go_simp
      refine hcc.mono ?_
      clear hcc
      rintro e y3 ⟨a1, rfl, hp, ho, hb⟩
      have Ha1 := Lib.hid (And.intro hp (And.intro ho.at_ (clone_fit hp (fit_with HFV.out.ok HFX.out.ok HFEW.out key) ho.at_)))
      have HZ9 := Lib.hid (HZ9.out.below hb HZ9.out.lt)
      have HZ10 := Lib.hid (HZ10.out.below hb HZ10.out.lt)
      clear hp ho
      unfold MV.val
      go_simp
      refine hK.out _ _ (hS3.trans (hb.mono hS3.size)) (fun hS4 => ?_)
      clear hK K' hS3 hb
      refine wpAnyH_ready (rs := [5]) (by kernel_rfl) (by simp) ?_
      refine AllReadyH.cons rfl (fun K' hK => ?_) AllReadyH.nil
      have hcc := without_any Ha1.out.2.1 Ha1.out.2.2 key
      unfold MV.val at hcc
      rw [Ha1.out.1, wo_with] at hcc
      go_simp
      refine hcc.mono ?_
      clear hcc
      rintro e y4 ⟨mu, rfl, hp, ho, hb⟩
      have Hmu := Lib.hid (And.intro hp ho.at_)
      have HNmu := Lib.hid (And.intro ho.fr ho.at_.lt)
      have HXmu9 : Hid (BlkP (fun b => ¬ b = g9) mu) := Lib.hid (ho.fr.mono (fun b hb' e => by have h1 := HZ9.out.lt; have h2 : y3.heap.size ≤ b := hb'; omega))
      have HXmu10 : Hid (BlkP (fun b => ¬ b = g10) mu) := Lib.hid (ho.fr.mono (fun b hb' e => by have h1 := HZ10.out.lt; have h2 : y3.heap.size ≤ b := hb'; omega))
      have HZ9 := Lib.hid (HZ9.out.below hb HZ9.out.lt)
      have HZ10 := Lib.hid (HZ10.out.below hb HZ10.out.lt)
      clear Ha1
      clear hp ho
      unfold MV.val
      go_simp
      refine hK.out _ _ (hS4.trans (hb.mono hS4.size)) (fun hS5 => ?_)
      clear hK K' hS4 hb
      refine wpAnyH_ready (rs := [8]) (by kernel_rfl) (by simp) ?_
      refine AllReadyH.cons rfl (fun K' hK => ?_) AllReadyH.nil
      have hcc := without_any (HFV.out.bel hS5).at_ ((HFV.out.ok.fit (HFV.out.bel hS5).at_)) key
      unfold MV.val at hcc
      go_simp
      refine hcc.mono ?_
      clear hcc
      rintro e y5 ⟨mw, rfl, hp, ho, hb⟩
      have Hmw := Lib.hid (And.intro hp ho.at_)
      have HNmw := Lib.hid (And.intro ho.fr ho.at_.lt)
      have HXmw9 : Hid (BlkP (fun b => ¬ b = g9) mw) := Lib.hid (ho.fr.mono (fun b hb' e => by have h1 := HZ9.out.lt; have h2 : y4.heap.size ≤ b := hb'; omega))
      have HXmw10 : Hid (BlkP (fun b => ¬ b = g10) mw) := Lib.hid (ho.fr.mono (fun b hb' e => by have h1 := HZ10.out.lt; have h2 : y4.heap.size ≤ b := hb'; omega))
      have HZ9 := Lib.hid (HZ9.out.below hb HZ9.out.lt)
      have HZ10 := Lib.hid (HZ10.out.below hb HZ10.out.lt)
      have Hmu := Lib.hid (And.intro Hmu.out.1 (Hmu.out.2.bel hb))
      clear hp ho
      unfold MV.val
      go_simp
      refine hK.out _ _ (hS5.trans (hb.mono hS5.size)) (fun hS6 => ?_)
      clear hK K' hS5 hb
      refine wpAnyH_ready (rs := [11]) (by kernel_rfl) (by simp) ?_
      refine AllReadyH.cons rfl (fun K' hK => ?_) AllReadyH.nil
      obtain ⟨z0, z1, z2, z3, z4⟩ := five_cells HZ9.out
      obtain ⟨y0, y1, y2, y3, y4⟩ := five_fr HZ9.out
      have HF := Lib.hid (fr_five (w := y5) (g := g9) (a := .int .i64 mu.k) (b := .int .i64 mu.n) (c := .string mu.s) (d := .slice mu.lA mu.l.length mu.lc) (e := .slice mu.mA mu.m.length mu.mc))
      have HK7 := Lib.hid (blk_five (a := .int .i64 mu.k) (b := .int .i64 mu.n) (c := .string mu.s) (d := .slice mu.lA mu.l.length mu.lc) (e := .slice mu.mA mu.m.length mu.mc) HZ9.out)
      have HZ10 := Lib.hid (HZ10.out.fr HF.out (fun e => HNE.out e.symm))
      have hb6 := Fr.below_trans hS6 HF.out hS6.size (fun k e => by rw [show k = g9 from e]; exact HGE9.out)
      have Hmu := Lib.hid (And.intro Hmu.out.1 (Hmu.out.2.fr HF.out HXmu9.out))
      have Hmw := Lib.hid (And.intro Hmw.out.1 (Hmw.out.2.fr HF.out HXmw9.out))
      go_simp
      refine hK.out _ _ hb6 (fun hS7 => ?_)
      clear hK K' hS6 hb6 z0 z1 z2 z3 z4 y0 y1 y2 y3 y4 HZ9
      generalize (((((y5.setCell ⟨g9, 0, none⟩ (.int .i64 mu.k)).setCell ⟨g9, 1, none⟩ (.int .i64 mu.n)).setCell ⟨g9, 2, none⟩ (.string mu.s)).setCell ⟨g9, 3, none⟩ (.slice mu.lA mu.l.length mu.lc)).setCell ⟨g9, 4, none⟩ (.slice mu.mA mu.m.length mu.mc)) = y8 at HK7 HF HZ10 Hmu Hmw hS7 ⊢
      refine wpAnyH_done (by kernel_rfl) ?_ _
      refine lastQ_normal (wpOp_step rfl (fun K' hK => ?_))
      obtain ⟨z0, z1, z2, z3, z4⟩ := five_cells HZ10.out
      obtain ⟨y0, y1, y2, y3, y4⟩ := five_fr HZ10.out
      have HF := Lib.hid (fr_five (w := y8) (g := g10) (a := .int .i64 mw.k) (b := .int .i64 mw.n) (c := .string mw.s) (d := .slice mw.lA mw.l.length mw.lc) (e := .slice mw.mA mw.m.length mw.mc))
      have HK8 := Lib.hid (blk_five (a := .int .i64 mw.k) (b := .int .i64 mw.n) (c := .string mw.s) (d := .slice mw.lA mw.l.length mw.lc) (e := .slice mw.mA mw.m.length mw.mc) HZ10.out)
      have HK7 := Lib.hid (HK7.out.fr HF.out HNE.out)
      have HB9 := Lib.hid (Fr.below_trans hS7 HF.out hS7.size (fun k e => by rw [show k = g10 from e]; exact HGE10.out))
      have Hmu := Lib.hid (And.intro Hmu.out.1 (Hmu.out.2.fr HF.out HXmu10.out))
      have Hmw := Lib.hid (And.intro Hmw.out.1 (Hmw.out.2.fr HF.out HXmw10.out))
      go_simp
      refine hK _ _ ?_
      clear hK K' hS7 z0 z1 z2 z3 z4 y0 y1 y2 y3 y4 HZ10
      exact HREST.out g9 g10 mu mw _ _ _ _ _ _ _ _ _ _ HB9.out HK7.out HK8.out Hmu.out Hmw.out
  · go_simp
    have HZ10 : Hid (Blk (y0.alloc (.cells #[.int .i64 0, .int .i64 0, .string ⟨#[]⟩, .slice none 0 0, .slice none 0 0] 25)) y0.heap.size 25 #[.int .i64 0, .int .i64 0, .string ⟨#[]⟩, .slice none 0 0, .slice none 0 0]) := Lib.hid (Blk.new _ _ _)
    have HGE10 : Hid (W5.heap.size ≤ y0.heap.size) := Lib.hid hS1.size
    refine hK.out _ _ (hS1.alloc hS1.size _) (fun hS2 => ?_)
    clear hK K' hS1
    generalize y0.alloc (.cells #[.int .i64 0, .int .i64 0, .string ⟨#[]⟩, .slice none 0 0, .slice none 0 0] 25) = y1 at HZ10 hS2 ⊢
    generalize HG7E : y0.heap.size = g10 at HZ10 HGE10 ⊢
    clear HG7E
    refine wpAnyH_ready (rs := [3, 9]) (by kernel_rfl) (by simp) ?_
    refine AllReadyH.cons rfl (fun K' hK => ?_) (AllReadyH.cons rfl (fun K' hK => ?_) AllReadyH.nil)
    · have hcc := with_any (HFV.out.bel hS2).at_ ((HFV.out.ok.fit (HFV.out.bel hS2).at_)) (HFX.out.bel hS2).at_ ((HFX.out.ok.fit (HFX.out.bel hS2).at_)) key
      unfold MV.val at hcc
      go_simp
      refine hcc.mono ?_
      clear hcc
      rintro e y2 ⟨a1, rfl, hp, ho, hb⟩
      have Ha1 := Lib.hid (And.intro hp (And.intro ho.at_ (clone_fit hp (fit_with HFV.out.ok HFX.out.ok HFEW.out key) ho.at_)))
      have HZ10 := Lib.hid (HZ10.out.below hb HZ10.out.lt)
      clear hp ho
      unfold MV.val
      go_simp
      refine hK.out _ _ (hS2.trans (hb.mono hS2.size)) (fun hS3 => ?_)
      clear hK K' hS2 hb
      refine wpAnyH_ready (rs := [5, 9]) (by kernel_rfl) (by simp) ?_
      refine AllReadyH.cons rfl (fun K' hK => ?_) (AllReadyH.cons rfl (fun K' hK => ?_) AllReadyH.nil)
      · have hcc := without_any Ha1.out.2.1 Ha1.out.2.2 key
        unfold MV.val at hcc
        rw [Ha1.out.1, wo_with] at hcc
        go_simp
        refine hcc.mono ?_
        clear hcc
        rintro e y3 ⟨mu, rfl, hp, ho, hb⟩
        have Hmu := Lib.hid (And.intro hp ho.at_)
        have HNmu := Lib.hid (And.intro ho.fr ho.at_.lt)
        have HXmu10 : Hid (BlkP (fun b => ¬ b = g10) mu) := Lib.hid (ho.fr.mono (fun b hb' e => by have h1 := HZ10.out.lt; have h2 : y2.heap.size ≤ b := hb'; omega))
        have HZ10 := Lib.hid (HZ10.out.below hb HZ10.out.lt)
        clear Ha1
        clear hp ho
        unfold MV.val
        go_simp
        refine hK.out _ _ (hS3.trans (hb.mono hS3.size)) (fun hS4 => ?_)
        clear hK K' hS3 hb
        refine wpAnyH_ready (rs := [8, 9]) (by kernel_rfl) (by simp) ?_
        refine AllReadyH.cons rfl (fun K' hK => ?_) (AllReadyH.cons rfl (fun K' hK => ?_) AllReadyH.nil)
        · have hcc := without_any (HFV.out.bel hS4).at_ ((HFV.out.ok.fit (HFV.out.bel hS4).at_)) key
          unfold MV.val at hcc
          go_simp
          refine hcc.mono ?_
          clear hcc
          rintro e y4 ⟨mw, rfl, hp, ho, hb⟩
          have Hmw := Lib.hid (And.intro hp ho.at_)
          have HNmw := Lib.hid (And.intro ho.fr ho.at_.lt)
          have HXmw10 : Hid (BlkP (fun b => ¬ b = g10) mw) := Lib.hid (ho.fr.mono (fun b hb' e => by have h1 := HZ10.out.lt; have h2 : y3.heap.size ≤ b := hb'; omega))
          have HZ10 := Lib.hid (HZ10.out.below hb HZ10.out.lt)
          have Hmu := Lib.hid (And.intro Hmu.out.1 (Hmu.out.2.bel hb))
          clear hp ho
          unfold MV.val
          go_simp
          refine hK.out _ _ (hS4.trans (hb.mono hS4.size)) (fun hS5 => ?_)
          clear hK K' hS4 hb
          refine wpAnyH_ready (rs := [9]) (by kernel_rfl) (by simp) ?_
          refine AllReadyH.cons rfl (fun K' hK => ?_) AllReadyH.nil
          go_simp
          have HZ9 : Hid (Blk (y4.alloc (.cells #[.int .i64 0, .int .i64 0, .string ⟨#[]⟩, .slice none 0 0, .slice none 0 0] 25)) y4.heap.size 25 #[.int .i64 0, .int .i64 0, .string ⟨#[]⟩, .slice none 0 0, .slice none 0 0]) := Lib.hid (Blk.new _ _ _)
          have HGE9 : Hid (W5.heap.size ≤ y4.heap.size) := Lib.hid hS5.size
          have HXmu9 : Hid (BlkP (fun b => ¬ b = y4.heap.size) mu) := Lib.hid (Hmu.out.2.lt.mono (fun b hb => Nat.ne_of_lt hb))
          have Hmu := Lib.hid (And.intro Hmu.out.1 (Hmu.out.2.bel (below_new y4 (.cells #[.int .i64 0, .int .i64 0, .string ⟨#[]⟩, .slice none 0 0, .slice none 0 0] 25))))
          have HXmw9 : Hid (BlkP (fun b => ¬ b = y4.heap.size) mw) := Lib.hid (Hmw.out.2.lt.mono (fun b hb => Nat.ne_of_lt hb))
          have Hmw := Lib.hid (And.intro Hmw.out.1 (Hmw.out.2.bel (below_new y4 (.cells #[.int .i64 0, .int .i64 0, .string ⟨#[]⟩, .slice none 0 0, .slice none 0 0] 25))))
          have HNE : Hid (¬ g10 = y4.heap.size) := Lib.hid (Nat.ne_of_lt HZ10.out.lt)
          have HZ10 := Lib.hid (HZ10.out.alloc (.cells #[.int .i64 0, .int .i64 0, .string ⟨#[]⟩, .slice none 0 0, .slice none 0 0] 25))
          refine hK.out _ _ (hS5.alloc hS5.size _) (fun hS6 => ?_)
          clear hK K' hS5
          generalize y4.alloc (.cells #[.int .i64 0, .int .i64 0, .string ⟨#[]⟩, .slice none 0 0, .slice none 0 0] 25) = y5 at HZ9 HZ10 Hmu Hmw hS6 ⊢
          generalize HG7E : y4.heap.size = g9 at HZ9 HGE9 HXmu9 HXmw9 HNE ⊢
          clear HG7E
          refine wpAnyH_ready (rs := [11]) (by kernel_rfl) (by simp) ?_
          refine AllReadyH.cons rfl (fun K' hK => ?_) AllReadyH.nil
          obtain ⟨z0, z1, z2, z3, z4⟩ := five_cells HZ9.out
          obtain ⟨y0, y1, y2, y3, y4⟩ := five_fr HZ9.out
          have HF := Lib.hid (fr_five (w := y5) (g := g9) (a := .int .i64 mu.k) (b := .int .i64 mu.n) (c := .string mu.s) (d := .slice mu.lA mu.l.length mu.lc) (e := .slice mu.mA mu.m.length mu.mc))
          have HK7 := Lib.hid (blk_five (a := .int .i64 mu.k) (b := .int .i64 mu.n) (c := .string mu.s) (d := .slice mu.lA mu.l.length mu.lc) (e := .slice mu.mA mu.m.length mu.mc) HZ9.out)
          have HZ10 := Lib.hid (HZ10.out.fr HF.out (fun e => (fun e => HNE.out e.symm) e.symm))
          have hb6 := Fr.below_trans hS6 HF.out hS6.size (fun k e => by rw [show k = g9 from e]; exact HGE9.out)
          have Hmu := Lib.hid (And.intro Hmu.out.1 (Hmu.out.2.fr HF.out HXmu9.out))
          have Hmw := Lib.hid (And.intro Hmw.out.1 (Hmw.out.2.fr HF.out HXmw9.out))
          go_simp
          refine hK.out _ _ hb6 (fun hS7 => ?_)
          clear hK K' hS6 hb6 z0 z1 z2 z3 z4 y0 y1 y2 y3 y4 HZ9
          generalize (((((y5.setCell ⟨g9, 0, none⟩ (.int .i64 mu.k)).setCell ⟨g9, 1, none⟩ (.int .i64 mu.n)).setCell ⟨g9, 2, none⟩ (.string mu.s)).setCell ⟨g9, 3, none⟩ (.slice mu.lA mu.l.length mu.lc)).setCell ⟨g9, 4, none⟩ (.slice mu.mA mu.m.length mu.mc)) = y8 at HK7 HF HZ10 Hmu Hmw hS7 ⊢
          refine wpAnyH_done (by kernel_rfl) ?_ _
          refine lastQ_normal (wpOp_step rfl (fun K' hK => ?_))
          obtain ⟨z0, z1, z2, z3, z4⟩ := five_cells HZ10.out
          obtain ⟨y0, y1, y2, y3, y4⟩ := five_fr HZ10.out
          have HF := Lib.hid (fr_five (w := y8) (g := g10) (a := .int .i64 mw.k) (b := .int .i64 mw.n) (c := .string mw.s) (d := .slice mw.lA mw.l.length mw.lc) (e := .slice mw.mA mw.m.length mw.mc))
          have HK8 := Lib.hid (blk_five (a := .int .i64 mw.k) (b := .int .i64 mw.n) (c := .string mw.s) (d := .slice mw.lA mw.l.length mw.lc) (e := .slice mw.mA mw.m.length mw.mc) HZ10.out)
          have HK7 := Lib.hid (HK7.out.fr HF.out (fun e => HNE.out e.symm))
          have HB9 := Lib.hid (Fr.below_trans hS7 HF.out hS7.size (fun k e => by rw [show k = g10 from e]; exact HGE10.out))
          have Hmu := Lib.hid (And.intro Hmu.out.1 (Hmu.out.2.fr HF.out HXmu10.out))
          have Hmw := Lib.hid (And.intro Hmw.out.1 (Hmw.out.2.fr HF.out HXmw10.out))
          go_simp
          refine hK _ _ ?_
          clear hK K' hS7 z0 z1 z2 z3 z4 y0 y1 y2 y3 y4 HZ10
          exact HREST.out g9 g10 mu mw _ _ _ _ _ _ _ _ _ _ HB9.out HK7.out HK8.out Hmu.out Hmw.out
        · go_simp
          have HZ9 : Hid (Blk (y3.alloc (.cells #[.int .i64 0, .int .i64 0, .string ⟨#[]⟩, .slice none 0 0, .slice none 0 0] 25)) y3.heap.size 25 #[.int .i64 0, .int .i64 0, .string ⟨#[]⟩, .slice none 0 0, .slice none 0 0]) := Lib.hid (Blk.new _ _ _)
          have HGE9 : Hid (W5.heap.size ≤ y3.heap.size) := Lib.hid hS4.size
          have HXmu9 : Hid (BlkP (fun b => ¬ b = y3.heap.size) mu) := Lib.hid (Hmu.out.2.lt.mono (fun b hb => Nat.ne_of_lt hb))
          have Hmu := Lib.hid (And.intro Hmu.out.1 (Hmu.out.2.bel (below_new y3 (.cells #[.int .i64 0, .int .i64 0, .string ⟨#[]⟩, .slice none 0 0, .slice none 0 0] 25))))
          have HNE : Hid (¬ g10 = y3.heap.size) := Lib.hid (Nat.ne_of_lt HZ10.out.lt)
          have HZ10 := Lib.hid (HZ10.out.alloc (.cells #[.int .i64 0, .int .i64 0, .string ⟨#[]⟩, .slice none 0 0, .slice none 0 0] 25))
          refine hK.out _ _ (hS4.alloc hS4.size _) (fun hS5 => ?_)
          clear hK K' hS4
          generalize y3.alloc (.cells #[.int .i64 0, .int .i64 0, .string ⟨#[]⟩, .slice none 0 0, .slice none 0 0] 25) = y4 at HZ9 HZ10 Hmu hS5 ⊢
          generalize HG7E : y3.heap.size = g9 at HZ9 HGE9 HXmu9 HNE ⊢
          clear HG7E
          refine wpAnyH_ready (rs := [8]) (by kernel_rfl) (by simp) ?_
          refine AllReadyH.cons rfl (fun K' hK => ?_) AllReadyH.nil
          have hcc := without_any (HFV.out.bel hS5).at_ ((HFV.out.ok.fit (HFV.out.bel hS5).at_)) key
          unfold MV.val at hcc
          go_simp
          refine hcc.mono ?_
          clear hcc
          rintro e y5 ⟨mw, rfl, hp, ho, hb⟩
          have Hmw := Lib.hid (And.intro hp ho.at_)
          have HNmw := Lib.hid (And.intro ho.fr ho.at_.lt)
          have HXmw9 : Hid (BlkP (fun b => ¬ b = g9) mw) := Lib.hid (ho.fr.mono (fun b hb' e => by have h1 := HZ9.out.lt; have h2 : y4.heap.size ≤ b := hb'; omega))
          have HXmw10 : Hid (BlkP (fun b => ¬ b = g10) mw) := Lib.hid (ho.fr.mono (fun b hb' e => by have h1 := HZ10.out.lt; have h2 : y4.heap.size ≤ b := hb'; omega))
          have HZ9 := Lib.hid (HZ9.out.below hb HZ9.out.lt)
          have HZ10 := Lib.hid (HZ10.out.below hb HZ10.out.lt)
          have Hmu := Lib.hid (And.intro Hmu.out.1 (Hmu.out.2.bel hb))
          clear hp ho
          unfold MV.val
          go_simp
          refine hK.out _ _ (hS5.trans (hb.mono hS5.size)) (fun hS6 => ?_)
          clear hK K' hS5 hb
          refine wpAnyH_ready (rs := [11]) (by kernel_rfl) (by simp) ?_
          refine AllReadyH.cons rfl (fun K' hK => ?_) AllReadyH.nil
          obtain ⟨z0, z1, z2, z3, z4⟩ := five_cells HZ9.out
          obtain ⟨y0, y1, y2, y3, y4⟩ := five_fr HZ9.out
          have HF := Lib.hid (fr_five (w := y5) (g := g9) (a := .int .i64 mu.k) (b := .int .i64 mu.n) (c := .string mu.s) (d := .slice mu.lA mu.l.length mu.lc) (e := .slice mu.mA mu.m.length mu.mc))
          have HK7 := Lib.hid (blk_five (a := .int .i64 mu.k) (b := .int .i64 mu.n) (c := .string mu.s) (d := .slice mu.lA mu.l.length mu.lc) (e := .slice mu.mA mu.m.length mu.mc) HZ9.out)
          have HZ10 := Lib.hid (HZ10.out.fr HF.out (fun e => (fun e => HNE.out e.symm) e.symm))
          have hb6 := Fr.below_trans hS6 HF.out hS6.size (fun k e => by rw [show k = g9 from e]; exact HGE9.out)
          have Hmu := Lib.hid (And.intro Hmu.out.1 (Hmu.out.2.fr HF.out HXmu9.out))
          have Hmw := Lib.hid (And.intro Hmw.out.1 (Hmw.out.2.fr HF.out HXmw9.out))
          go_simp
          refine hK.out _ _ hb6 (fun hS7 => ?_)
          clear hK K' hS6 hb6 z0 z1 z2 z3 z4 y0 y1 y2 y3 y4 HZ9
          generalize (((((y5.setCell ⟨g9, 0, none⟩ (.int .i64 mu.k)).setCell ⟨g9, 1, none⟩ (.int .i64 mu.n)).setCell ⟨g9, 2, none⟩ (.string mu.s)).setCell ⟨g9, 3, none⟩ (.slice mu.lA mu.l.length mu.lc)).setCell ⟨g9, 4, none⟩ (.slice mu.mA mu.m.length mu.mc)) = y8 at HK7 HF HZ10 Hmu Hmw hS7 ⊢
          refine wpAnyH_done (by kernel_rfl) ?_ _
          refine lastQ_normal (wpOp_step rfl (fun K' hK => ?_))
          obtain ⟨z0, z1, z2, z3, z4⟩ := five_cells HZ10.out
          obtain ⟨y0, y1, y2, y3, y4⟩ := five_fr HZ10.out
          have HF := Lib.hid (fr_five (w := y8) (g := g10) (a := .int .i64 mw.k) (b := .int .i64 mw.n) (c := .string mw.s) (d := .slice mw.lA mw.l.length mw.lc) (e := .slice mw.mA mw.m.length mw.mc))
          have HK8 := Lib.hid (blk_five (a := .int .i64 mw.k) (b := .int .i64 mw.n) (c := .string mw.s) (d := .slice mw.lA mw.l.length mw.lc) (e := .slice mw.mA mw.m.length mw.mc) HZ10.out)
          have HK7 := Lib.hid (HK7.out.fr HF.out (fun e => HNE.out e.symm))
          have HB9 := Lib.hid (Fr.below_trans hS7 HF.out hS7.size (fun k e => by rw [show k = g10 from e]; exact HGE10.out))
          have Hmu := Lib.hid (And.intro Hmu.out.1 (Hmu.out.2.fr HF.out HXmu10.out))
          have Hmw := Lib.hid (And.intro Hmw.out.1 (Hmw.out.2.fr HF.out HXmw10.out))
          go_simp
          refine hK _ _ ?_
          clear hK K' hS7 z0 z1 z2 z3 z4 y0 y1 y2 y3 y4 HZ10
          exact HREST.out g9 g10 mu mw _ _ _ _ _ _ _ _ _ _ HB9.out HK7.out HK8.out Hmu.out Hmw.out
      · go_simp
        have HZ9 : Hid (Blk (y2.alloc (.cells #[.int .i64 0, .int .i64 0, .string ⟨#[]⟩, .slice none 0 0, .slice none 0 0] 25)) y2.heap.size 25 #[.int .i64 0, .int .i64 0, .string ⟨#[]⟩, .slice none 0 0, .slice none 0 0]) := Lib.hid (Blk.new _ _ _)
        have HGE9 : Hid (W5.heap.size ≤ y2.heap.size) := Lib.hid hS3.size
        have Ha1 := Lib.hid (And.intro Ha1.out.1 (And.intro (Ha1.out.2.1.bel (below_new y2 (.cells #[.int .i64 0, .int .i64 0, .string ⟨#[]⟩, .slice none 0 0, .slice none 0 0] 25))) Ha1.out.2.2))
        have HNE : Hid (¬ g10 = y2.heap.size) := Lib.hid (Nat.ne_of_lt HZ10.out.lt)
        have HZ10 := Lib.hid (HZ10.out.alloc (.cells #[.int .i64 0, .int .i64 0, .string ⟨#[]⟩, .slice none 0 0, .slice none 0 0] 25))
        refine hK.out _ _ (hS3.alloc hS3.size _) (fun hS4 => ?_)
        clear hK K' hS3
        generalize y2.alloc (.cells #[.int .i64 0, .int .i64 0, .string ⟨#[]⟩, .slice none 0 0, .slice none 0 0] 25) = y3 at HZ9 HZ10 Ha1 hS4 ⊢
        generalize HG7E : y2.heap.size = g9 at HZ9 HGE9 HNE ⊢
        clear HG7E
        refine wpAnyH_ready (rs := [5]) (by kernel_rfl) (by simp) ?_
        refine AllReadyH.cons rfl (fun K' hK => ?_) AllReadyH.nil
        have hcc := without_any Ha1.out.2.1 Ha1.out.2.2 key
        unfold MV.val at hcc
        rw [Ha1.out.1, wo_with] at hcc
        go_simp
        refine hcc.mono ?_
        clear hcc
        rintro e y4 ⟨mu, rfl, hp, ho, hb⟩
        have Hmu := Lib.hid (And.intro hp ho.at_)
        have HNmu := Lib.hid (And.intro ho.fr ho.at_.lt)
        have HXmu9 : Hid (BlkP (fun b => ¬ b = g9) mu) := Lib.hid (ho.fr.mono (fun b hb' e => by have h1 := HZ9.out.lt; have h2 : y3.heap.size ≤ b := hb'; omega))
        have HXmu10 : Hid (BlkP (fun b => ¬ b = g10) mu) := Lib.hid (ho.fr.mono (fun b hb' e => by have h1 := HZ10.out.lt; have h2 : y3.heap.size ≤ b := hb'; omega))
        have HZ9 := Lib.hid (HZ9.out.below hb HZ9.out.lt)
        have HZ10 := Lib.hid (HZ10.out.below hb HZ10.out.lt)
        clear Ha1
        clear hp ho
        unfold MV.val
        go_simp
        refine hK.out _ _ (hS4.trans (hb.mono hS4.size)) (fun hS5 => ?_)
        clear hK K' hS4 hb
        refine wpAnyH_ready (rs := [8]) (by kernel_rfl) (by simp) ?_
        refine AllReadyH.cons rfl (fun K' hK => ?_) AllReadyH.nil
        have hcc := without_any (HFV.out.bel hS5).at_ ((HFV.out.ok.fit (HFV.out.bel hS5).at_)) key
        unfold MV.val at hcc
        go_simp
        refine hcc.mono ?_
        clear hcc
        rintro e y5 ⟨mw, rfl, hp, ho, hb⟩
        have Hmw := Lib.hid (And.intro hp ho.at_)
        have HNmw := Lib.hid (And.intro ho.fr ho.at_.lt)
        have HXmw9 : Hid (BlkP (fun b => ¬ b = g9) mw) := Lib.hid (ho.fr.mono (fun b hb' e => by have h1 := HZ9.out.lt; have h2 : y4.heap.size ≤ b := hb'; omega))
        have HXmw10 : Hid (BlkP (fun b => ¬ b = g10) mw) := Lib.hid (ho.fr.mono (fun b hb' e => by have h1 := HZ10.out.lt; have h2 : y4.heap.size ≤ b := hb'; omega))
        have HZ9 := Lib.hid (HZ9.out.below hb HZ9.out.lt)
        have HZ10 := Lib.hid (HZ10.out.below hb HZ10.out.lt)
        have Hmu := Lib.hid (And.intro Hmu.out.1 (Hmu.out.2.bel hb))
        clear hp ho
        unfold MV.val
        go_simp
        refine hK.out _ _ (hS5.trans (hb.mono hS5.size)) (fun hS6 => ?_)
        clear hK K' hS5 hb
        refine wpAnyH_ready (rs := [11]) (by kernel_rfl) (by simp) ?_
        refine AllReadyH.cons rfl (fun K' hK => ?_) AllReadyH.nil
        obtain ⟨z0, z1, z2, z3, z4⟩ := five_cells HZ9.out
        obtain ⟨y0, y1, y2, y3, y4⟩ := five_fr HZ9.out
        have HF := Lib.hid (fr_five (w := y5) (g := g9) (a := .int .i64 mu.k) (b := .int .i64 mu.n) (c := .string mu.s) (d := .slice mu.lA mu.l.length mu.lc) (e := .slice mu.mA mu.m.length mu.mc))
        have HK7 := Lib.hid (blk_five (a := .int .i64 mu.k) (b := .int .i64 mu.n) (c := .string mu.s) (d := .slice mu.lA mu.l.length mu.lc) (e := .slice mu.mA mu.m.length mu.mc) HZ9.out)
        have HZ10 := Lib.hid (HZ10.out.fr HF.out (fun e => (fun e => HNE.out e.symm) e.symm))
        have hb6 := Fr.below_trans hS6 HF.out hS6.size (fun k e => by rw [show k = g9 from e]; exact HGE9.out)
        have Hmu := Lib.hid (And.intro Hmu.out.1 (Hmu.out.2.fr HF.out HXmu9.out))
        have Hmw := Lib.hid (And.intro Hmw.out.1 (Hmw.out.2.fr HF.out HXmw9.out))
        go_simp
        refine hK.out _ _ hb6 (fun hS7 => ?_)
        clear hK K' hS6 hb6 z0 z1 z2 z3 z4 y0 y1 y2 y3 y4 HZ9
        generalize (((((y5.setCell ⟨g9, 0, none⟩ (.int .i64 mu.k)).setCell ⟨g9, 1, none⟩ (.int .i64 mu.n)).setCell ⟨g9, 2, none⟩ (.string mu.s)).setCell ⟨g9, 3, none⟩ (.slice mu.lA mu.l.length mu.lc)).setCell ⟨g9, 4, none⟩ (.slice mu.mA mu.m.length mu.mc)) = y8 at HK7 HF HZ10 Hmu Hmw hS7 ⊢
        refine wpAnyH_done (by kernel_rfl) ?_ _
        refine lastQ_normal (wpOp_step rfl (fun K' hK => ?_))
        obtain ⟨z0, z1, z2, z3, z4⟩ := five_cells HZ10.out
        obtain ⟨y0, y1, y2, y3, y4⟩ := five_fr HZ10.out
        have HF := Lib.hid (fr_five (w := y8) (g := g10) (a := .int .i64 mw.k) (b := .int .i64 mw.n) (c := .string mw.s) (d := .slice mw.lA mw.l.length mw.lc) (e := .slice mw.mA mw.m.length mw.mc))
        have HK8 := Lib.hid (blk_five (a := .int .i64 mw.k) (b := .int .i64 mw.n) (c := .string mw.s) (d := .slice mw.lA mw.l.length mw.lc) (e := .slice mw.mA mw.m.length mw.mc) HZ10.out)
        have HK7 := Lib.hid (HK7.out.fr HF.out (fun e => HNE.out e.symm))
        have HB9 := Lib.hid (Fr.below_trans hS7 HF.out hS7.size (fun k e => by rw [show k = g10 from e]; exact HGE10.out))
        have Hmu := Lib.hid (And.intro Hmu.out.1 (Hmu.out.2.fr HF.out HXmu10.out))
        have Hmw := Lib.hid (And.intro Hmw.out.1 (Hmw.out.2.fr HF.out HXmw10.out))
        go_simp
        refine hK _ _ ?_
        clear hK K' hS7 z0 z1 z2 z3 z4 y0 y1 y2 y3 y4 HZ10
        exact HREST.out g9 g10 mu mw _ _ _ _ _ _ _ _ _ _ HB9.out HK7.out HK8.out Hmu.out Hmw.out
    · go_simp
      have HZ9 : Hid (Blk (y1.alloc (.cells #[.int .i64 0, .int .i64 0, .string ⟨#[]⟩, .slice none 0 0, .slice none 0 0] 25)) y1.heap.size 25 #[.int .i64 0, .int .i64 0, .string ⟨#[]⟩, .slice none 0 0, .slice none 0 0]) := Lib.hid (Blk.new _ _ _)
      have HGE9 : Hid (W5.heap.size ≤ y1.heap.size) := Lib.hid hS2.size
      have HNE : Hid (¬ g10 = y1.heap.size) := Lib.hid (Nat.ne_of_lt HZ10.out.lt)
      have HZ10 := Lib.hid (HZ10.out.alloc (.cells #[.int .i64 0, .int .i64 0, .string ⟨#[]⟩, .slice none 0 0, .slice none 0 0] 25))
      refine hK.out _ _ (hS2.alloc hS2.size _) (fun hS3 => ?_)
      clear hK K' hS2
      generalize y1.alloc (.cells #[.int .i64 0, .int .i64 0, .string ⟨#[]⟩, .slice none 0 0, .slice none 0 0] 25) = y2 at HZ9 HZ10 hS3 ⊢
      generalize HG7E : y1.heap.size = g9 at HZ9 HGE9 HNE ⊢
      clear HG7E
      refine wpAnyH_ready (rs := [3]) (by kernel_rfl) (by simp) ?_
      refine AllReadyH.cons rfl (fun K' hK => ?_) AllReadyH.nil
      have hcc := with_any (HFV.out.bel hS3).at_ ((HFV.out.ok.fit (HFV.out.bel hS3).at_)) (HFX.out.bel hS3).at_ ((HFX.out.ok.fit (HFX.out.bel hS3).at_)) key
      unfold MV.val at hcc
      go_simp
      refine hcc.mono ?_
      clear hcc
      rintro e y3 ⟨a1, rfl, hp, ho, hb⟩
      have Ha1 := Lib.hid (And.intro hp (And.intro ho.at_ (clone_fit hp (fit_with HFV.out.ok HFX.out.ok HFEW.out key) ho.at_)))
      have HZ9 := Lib.hid (HZ9.out.below hb HZ9.out.lt)
      have HZ10 := Lib.hid (HZ10.out.below hb HZ10.out.lt)
      clear hp ho
      unfold MV.val
      go_simp
      refine hK.out _ _ (hS3.trans (hb.mono hS3.size)) (fun hS4 => ?_)
      clear hK K' hS3 hb
      refine wpAnyH_ready (rs := [5]) (by kernel_rfl) (by simp) ?_
      refine AllReadyH.cons rfl (fun K' hK => ?_) AllReadyH.nil
      have hcc := without_any Ha1.out.2.1 Ha1.out.2.2 key
      unfold MV.val at hcc
      rw [Ha1.out.1, wo_with] at hcc
      go_simp
      refine hcc.mono ?_
      clear hcc
      rintro e y4 ⟨mu, rfl, hp, ho, hb⟩
      have Hmu := Lib.hid (And.intro hp ho.at_)
      have HNmu := Lib.hid (And.intro ho.fr ho.at_.lt)
      have HXmu9 : Hid (BlkP (fun b => ¬ b = g9) mu) := Lib.hid (ho.fr.mono (fun b hb' e => by have h1 := HZ9.out.lt; have h2 : y3.heap.size ≤ b := hb'; omega))
      have HXmu10 : Hid (BlkP (fun b => ¬ b = g10) mu) := Lib.hid (ho.fr.mono (fun b hb' e => by have h1 := HZ10.out.lt; have h2 : y3.heap.size ≤ b := hb'; omega))
      have HZ9 := Lib.hid (HZ9.out.below hb HZ9.out.lt)
      have HZ10 := Lib.hid (HZ10.out.below hb HZ10.out.lt)
      clear Ha1
      clear hp ho
      unfold MV.val
      go_simp
      refine hK.out _ _ (hS4.trans (hb.mono hS4.size)) (fun hS5 => ?_)
      clear hK K' hS4 hb
      refine wpAnyH_ready (rs := [8]) (by kernel_rfl) (by simp) ?_
      refine AllReadyH.cons rfl (fun K' hK => ?_) AllReadyH.nil
      have hcc := without_any (HFV.out.bel hS5).at_ ((HFV.out.ok.fit (HFV.out.bel hS5).at_)) key
      unfold MV.val at hcc
      go_simp
      refine hcc.mono ?_
      clear hcc
      rintro e y5 ⟨mw, rfl, hp, ho, hb⟩
      have Hmw := Lib.hid (And.intro hp ho.at_)
      have HNmw := Lib.hid (And.intro ho.fr ho.at_.lt)
      have HXmw9 : Hid (BlkP (fun b => ¬ b = g9) mw) := Lib.hid (ho.fr.mono (fun b hb' e => by have h1 := HZ9.out.lt; have h2 : y4.heap.size ≤ b := hb'; omega))
      have HXmw10 : Hid (BlkP (fun b => ¬ b = g10) mw) := Lib.hid (ho.fr.mono (fun b hb' e => by have h1 := HZ10.out.lt; have h2 : y4.heap.size ≤ b := hb'; omega))
      have HZ9 := Lib.hid (HZ9.out.below hb HZ9.out.lt)
      have HZ10 := Lib.hid (HZ10.out.below hb HZ10.out.lt)
      have Hmu := Lib.hid (And.intro Hmu.out.1 (Hmu.out.2.bel hb))
      clear hp ho
      unfold MV.val
      go_simp
      refine hK.out _ _ (hS5.trans (hb.mono hS5.size)) (fun hS6 => ?_)
      clear hK K' hS5 hb
      refine wpAnyH_ready (rs := [11]) (by kernel_rfl) (by simp) ?_
      refine AllReadyH.cons rfl (fun K' hK => ?_) AllReadyH.nil
      obtain ⟨z0, z1, z2, z3, z4⟩ := five_cells HZ9.out
      obtain ⟨y0, y1, y2, y3, y4⟩ := five_fr HZ9.out
      have HF := Lib.hid (fr_five (w := y5) (g := g9) (a := .int .i64 mu.k) (b := .int .i64 mu.n) (c := .string mu.s) (d := .slice mu.lA mu.l.length mu.lc) (e := .slice mu.mA mu.m.length mu.mc))
      have HK7 := Lib.hid (blk_five (a := .int .i64 mu.k) (b := .int .i64 mu.n) (c := .string mu.s) (d := .slice mu.lA mu.l.length mu.lc) (e := .slice mu.mA mu.m.length mu.mc) HZ9.out)
      have HZ10 := Lib.hid (HZ10.out.fr HF.out (fun e => (fun e => HNE.out e.symm) e.symm))
      have hb6 := Fr.below_trans hS6 HF.out hS6.size (fun k e => by rw [show k = g9 from e]; exact HGE9.out)
      have Hmu := Lib.hid (And.intro Hmu.out.1 (Hmu.out.2.fr HF.out HXmu9.out))
      have Hmw := Lib.hid (And.intro Hmw.out.1 (Hmw.out.2.fr HF.out HXmw9.out))
      go_simp
      refine hK.out _ _ hb6 (fun hS7 => ?_)
      clear hK K' hS6 hb6 z0 z1 z2 z3 z4 y0 y1 y2 y3 y4 HZ9
      generalize (((((y5.setCell ⟨g9, 0, none⟩ (.int .i64 mu.k)).setCell ⟨g9, 1, none⟩ (.int .i64 mu.n)).setCell ⟨g9, 2, none⟩ (.string mu.s)).setCell ⟨g9, 3, none⟩ (.slice mu.lA mu.l.length mu.lc)).setCell ⟨g9, 4, none⟩ (.slice mu.mA mu.m.length mu.mc)) = y8 at HK7 HF HZ10 Hmu Hmw hS7 ⊢
      refine wpAnyH_done (by kernel_rfl) ?_ _
      refine lastQ_normal (wpOp_step rfl (fun K' hK => ?_))
      obtain ⟨z0, z1, z2, z3, z4⟩ := five_cells HZ10.out
      obtain ⟨y0, y1, y2, y3, y4⟩ := five_fr HZ10.out
      have HF := Lib.hid (fr_five (w := y8) (g := g10) (a := .int .i64 mw.k) (b := .int .i64 mw.n) (c := .string mw.s) (d := .slice mw.lA mw.l.length mw.lc) (e := .slice mw.mA mw.m.length mw.mc))
      have HK8 := Lib.hid (blk_five (a := .int .i64 mw.k) (b := .int .i64 mw.n) (c := .string mw.s) (d := .slice mw.lA mw.l.length mw.lc) (e := .slice mw.mA mw.m.length mw.mc) HZ10.out)
      have HK7 := Lib.hid (HK7.out.fr HF.out (fun e => HNE.out e.symm))
      have HB9 := Lib.hid (Fr.below_trans hS7 HF.out hS7.size (fun k e => by rw [show k = g10 from e]; exact HGE10.out))
      have Hmu := Lib.hid (And.intro Hmu.out.1 (Hmu.out.2.fr HF.out HXmu10.out))
      have Hmw := Lib.hid (And.intro Hmw.out.1 (Hmw.out.2.fr HF.out HXmw10.out))
      go_simp
      refine hK _ _ ?_
      clear hK K' hS7 z0 z1 z2 z3 z4 y0 y1 y2 y3 y4 HZ10
      exact HREST.out g9 g10 mu mw _ _ _ _ _ _ _ _ _ _ HB9.out HK7.out HK8.out Hmu.out Hmw.out
end Go.Proofs.YteodigdcdhceiaaDoor
