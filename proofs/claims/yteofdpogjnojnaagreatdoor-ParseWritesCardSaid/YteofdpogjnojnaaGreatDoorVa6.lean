/-
  The document's Depth and Count.
-/
import Derived.Test.YteofdpogjnojnaaGreatDoorVa5
namespace Go.Proofs.YteofdpogjnojnaaGreatDoor
open Go.RowKit
attribute [local go_sem ↓] Go.wp_at_zero Go.wp_at_succ
set_option linter.unusedVariables false
set_option linter.unusedSimpArgs false

theorem depL_app (a b : List MV) : MV.depL (a ++ b) = max (MV.depL a) (MV.depL b) := by
  induction a with
  | nil => simp [MV.depL]
  | cons v r ih => rw [List.cons_append, MV.depL, MV.depL, ih]; omega
theorem depL_snoc (l : List MV) (i : Nat) (hi : i < l.length) : MV.depL (l.take (i + 1)) = max (MV.depL (l.take i)) l[i].dep := by
  rw [List.take_succ_eq_append_getElem hi, depL_app]
  simp [MV.depL]
theorem cntL_app (a b : List MV) : MV.cntL (a ++ b) = MV.cntL a + MV.cntL b := by
  induction a with
  | nil => simp [MV.cntL]
  | cons v r ih => rw [List.cons_append, MV.cntL, MV.cntL, ih]; omega
theorem cntL_snoc (l : List MV) (i : Nat) (hi : i < l.length) : MV.cntL (l.take (i + 1)) = MV.cntL (l.take i) + l[i].cnt := by
  rw [List.take_succ_eq_append_getElem hi, cntL_app]
  simp [MV.cntL]
theorem depL_mem {l : List MV} {x : MV} (h : x ∈ l) : x.dep ≤ MV.depL l := by
  induction l with
  | nil => cases h
  | cons v r ih =>
    rw [MV.depL]
    rcases List.mem_cons.1 h with h | h
    · subst h; omega
    · have := ih h; omega
theorem cntL_mem {l : List MV} {x : MV} (h : x ∈ l) : x.cnt ≤ MV.cntL l := by
  induction l with
  | nil => cases h
  | cons v r ih =>
    rw [MV.cntL]
    rcases List.mem_cons.1 h with h | h
    · subst h; omega
    · have := ih h; omega
theorem cntL_take_le (l : List MV) (i : Nat) : MV.cntL (l.take i) ≤ MV.cntL l := by
  have h : MV.cntL l = MV.cntL (l.take i) + MV.cntL (l.drop i) := by rw [← cntL_app, List.take_append_drop]
  omega
theorem depL_take_le (l : List MV) (i : Nat) : MV.depL (l.take i) ≤ MV.depL l := by
  have h : MV.depL l = max (MV.depL (l.take i)) (MV.depL (l.drop i)) := by rw [← depL_app, List.take_append_drop]
  omega
theorem dep_eq (v : MV) : v.dep = MV.depL (v.l ++ v.m) + 1 := by
  cases v
  rw [MV.dep, depL_app]
  rfl
theorem cnt_eq (v : MV) : v.cnt = MV.cntL (v.l ++ v.m) + 1 := by
  cases v
  rw [MV.cnt, cntL_app]
  rfl
theorem csL_cells {w : World} {A : Option Addr} {n : Nat} {l : List MV} (h : Reads w w.heap.size 5 A n (l.flatMap MV.cs)) (hn : n = l.length) {i : Nat} (hi : i < l.length) : ∃ b o, A = some ⟨b, o, none⟩ ∧ ∀ j, j < 5 → w.cell? ⟨b, o + i * 5 + j, none⟩ = (l[i]).cs[j]? := by
  obtain ⟨ad, hA, hlt, hc⟩ := h.2 (by omega)
  have h0 : w.cell? (ad.add 0) = some (.int .i64 (l[0]'(by omega)).k) := by
    refine hc 0 _ ?_
    have := csL_at l 0 (by omega) 0 (by omega)
    rw [Nat.zero_mul, Nat.zero_add] at this
    rw [this]
    rfl
  have e1 : ad.add 0 = ad := by simp [Addr.add]
  rw [e1] at h0
  have e2 := cell_spot h0
  refine ⟨ad.block, ad.off, by rw [← e2]; exact hA, fun j hj => ?_⟩
  have h1 := csL_at l i hi j hj
  obtain ⟨u, hu⟩ : ∃ u, (l[i]'hi).cs[j]? = some u := by
    rw [List.getElem?_eq_getElem (show j < (l[i]'hi).cs.length by simp [MV.cs]; omega)]
    exact ⟨_, rfl⟩
  have h2 := hc _ u (h1.trans hu)
  rw [e2, Addr.add_lit, ← Nat.add_assoc] at h2
  exact h2.trans hu.symm
set_option maxRecDepth 100000 in
set_option maxHeartbeats 2000000 in
theorem rcount_any {w0 : World} {v : MV} (h : VAt w0 v) : ∀ (w : World), Below w0.heap.size w0 w → FitV v → v.cnt ≤ 1000000 →
    Calls Tryz.prog 12 #[v.val] w fun e w' => e = .returned (.int .i64 (v.cnt : Int)) ∧ Below w.heap.size w w' := by
  have hgo : ∀ (v : MV), VAt w0 v → (∀ x ∈ v.l ++ v.m, ∀ (w : World), Below w0.heap.size w0 w → FitV x → x.cnt ≤ 1000000 → Calls Tryz.prog 12 #[x.val] w fun e w' => e = .returned (.int .i64 (x.cnt : Int)) ∧ Below w.heap.size w w') → ∀ (w : World), Below w0.heap.size w0 w → FitV v → v.cnt ≤ 1000000 →
      Calls Tryz.prog 12 #[v.val] w fun e w' => e = .returned (.int .i64 (v.cnt : Int)) ∧ Below w.heap.size w w' := by
    intro v hv ih w hb hf hcn
    have hce := cnt_eq v
    obtain ⟨L, hL⟩ : ∃ L, L = v.l ++ v.m := ⟨_, rfl⟩
    have hfx : ∀ x ∈ L, FitV x := by
      rw [hL]
      cases hf with
      | mk _ h1 h2 => exact fun x hx => (List.mem_append.1 hx).elim (h1 x) (h2 x)
    have hb1 : Below w.heap.size w (w.alloc (.cells #[.int .i64 v.k, .int .i64 v.n, .string v.s, .slice v.lA v.l.length v.lc, .slice v.mA v.m.length v.mc] 25)) := (Below.refl _ _).alloc (Nat.le_refl _) _
    have HKD := rkids_any v (w.alloc (.cells #[.int .i64 v.k, .int .i64 v.n, .string v.s, .slice v.lA v.l.length v.lc, .slice v.mA v.m.length v.mc] 25)) (hv.bel (hb.trans (hb1.mono hb.size))) hf
    unfold KidP MV.val at HKD
    rw [← hL] at HKD ih hce
    have HKD := Lib.hid HKD
    have HB1 := Lib.hid hb1
    have HB0 := Lib.hid hb
    have HIH := Lib.hid ih
    have HFX := Lib.hid hfx
    have HCE := Lib.hid hce
    unfold MV.val
    obtain ⟨C, hC⟩ : ∃ C, C = v.cnt := ⟨_, rfl⟩
    rw [← hC] at hcn ⊢
    have HCC : Hid (C = MV.cntL L + 1) := Lib.hid (hC.trans hce)
    clear hb1 hb ih hfx hce hf hv hC
    go_enter Tryz.func12, Tryz.ntmps12
    go_wp2_with fail
    refine HKD.out.mono ?_
    rintro e w1 ⟨A, n, c, rfl, hn, hr, hb1⟩
    have HN := Lib.hid hn
    have HRD := Lib.hid hr
    have HB2 : Hid (Below w.heap.size w w1) := Lib.hid (HB1.out.trans (hb1.mono HB1.out.size))
    have hn3 : n ≤ 1000000 := by
      have : ∀ l : List MV, l.length ≤ MV.cntL l := fun l => by
        induction l with
        | nil => simp
        | cons v r ih => rw [MV.cntL, List.length_cons, cnt_eq v]; omega
      have := this L
      rw [hn]
      have := HCC.out
      omega
    clear hn hr hb1 HKD
    go_wp2
    go_loopw [3, 5] (fun x y wr => ∃ i t : Nat, x = .int .i64 (t : Int) ∧ y = .int .i64 (i : Int) ∧ i ≤ n ∧ t ≤ 1000000 ∧ Hid (t = MV.cntL (L.take i) + 1) ∧ Hid (Below w1.heap.size w1 wr)) (fun _ y _ => n - (intOf y).toNat)
    case atStart => exact ⟨0, 1, rfl, rfl, Nat.zero_le _, by omega, Lib.hid (by simp [MV.cntL]), Lib.hid (Below.refl _ _)⟩
    case round =>
      obtain ⟨i, t, rfl, rfl, hi, ht, HT, HW⟩ := hrel
      rcases (by omega : i < n ∨ i = n) with hlt | heq
      · have q0 : decide ((i : Int) < (n : Int)) = true := by rw [decide_eq_true_iff]; omega
        have q0' : decide (i < n) = true := by rw [decide_eq_true_iff]; omega
        have hil : i < L.length := by rw [← HN.out]; exact hlt
        have HRW := Lib.hid ((Reads.below HRD.out HW.out).more HW.out.size)
        obtain ⟨b, o, hA, hc⟩ := csL_cells HRW.out HN.out hil
        subst hA
        obtain ⟨x, hx⟩ : ∃ x, x = L[i] := ⟨_, rfl⟩
        have hxm : x ∈ L := by rw [hx]; exact List.getElem_mem hil
        have hsn := cntL_snoc L i hil
        have htk := cntL_take_le L (i + 1)
        rw [← hx] at hc hsn
        have d0 : wr.cell? ⟨b, o + i * 5, none⟩ = some (.int .i64 x.k) := hc 0 (by omega)
        have d1 : wr.cell? ⟨b, o + i * 5 + 1, none⟩ = some (.int .i64 x.n) := hc 1 (by omega)
        have d2 : wr.cell? ⟨b, o + i * 5 + 2, none⟩ = some (.string x.s) := hc 2 (by omega)
        have d3 : wr.cell? ⟨b, o + i * 5 + 3, none⟩ = some (.slice x.lA x.l.length x.lc) := hc 3 (by omega)
        have d4 : wr.cell? ⟨b, o + i * 5 + 4, none⟩ = some (.slice x.mA x.m.length x.mc) := hc 4 (by omega)
        have hct : MV.cntL (L.take (i + 1)) ≤ MV.cntL L := htk
        have hxc : x.cnt ≤ 1000000 := by have := HCC.out; omega
        obtain ⟨cx, hcx⟩ : ∃ cx, cx = x.cnt := ⟨_, rfl⟩
        have hcall := HIH.out x hxm wr (HB0.out.trans ((HB2.out.trans (HW.out.mono HB2.out.size)).mono HB0.out.size)) (HFX.out x hxm) hxc
        unfold MV.val at hcall
        rw [← hcx] at hcall hxc hsn
        have HCL := Lib.hid hcall
        have HT2 : Hid (t + cx = MV.cntL (L.take (i + 1)) + 1) := Lib.hid (by rw [hsn]; have := HT.out; omega)
        have htc : t + cx ≤ 1000000 := by rw [HT2.out]; have := HCC.out; omega
        have hii : (i : Int) < (n : Int) := by omega
        have hi0 : (0 : Int) ≤ (i : Int) := by omega
        clear hc hx hxm hsn htk hct hcx hcall
        go_wp2_with fail
        refine HCL.out.mono ?_
        rintro e w2 ⟨rfl, hb2⟩
        have HW2 := Lib.hid (HW.out.trans (hb2.mono HW.out.size))
        clear hb2 d0 d1 d2 d3 d4
        go_wp2
        go_roundw
        case rel => exact ⟨i + 1, t + cx, by go_num, by go_num, by omega, htc, HT2, HW2⟩
        case measure => simp [intOf]; omega
      · have q0 : decide ((i : Int) < (n : Int)) = false := by rw [decide_eq_false_iff_not]; omega
        have q0' : decide (i < n) = false := by rw [decide_eq_false_iff_not]; omega
        have HTC : Hid (t = C) := Lib.hid (by rw [HT.out, HCC.out, heq, HN.out, List.take_length])
        have HWE := Lib.hid (HB2.out.trans (HW.out.mono HB2.out.size))
        clear heq
        go_wp2
        go_ret
        exact ⟨by rw [← HTC.out]; rfl, HWE.out⟩
  induction h with
  | mk a b c d e f g h i j ih1 ih2 => exact hgo _ (.mk a b c d e f g h i j) (fun x hx => (List.mem_append.1 hx).elim (ih1 x) (ih2 x))
end Go.Proofs.YteofdpogjnojnaaGreatDoor
