/-
  The document's Large: how much a value weighs.
-/
import Derived.Test.YteofdpogjnojnaaGreatDoorVaM
import Derived.Deep.RegionHeld3
import Derived.Deep.DrawnRows
namespace Go.Proofs.YteofdpogjnojnaaGreatDoor
open Go.RowKit
attribute [local go_sem ↓] Go.wp_at_zero Go.wp_at_succ
set_option linter.unusedVariables false
set_option linter.unusedSimpArgs false

/-- sizes that came in -/
inductive SzV : MV → Prop
  | mk {key : ByteArray} {k n : Int} {s : ByteArray} {lA : Option Addr} {lc : Nat} {l : List MV} {mA : Option Addr} {mc : Nat} {m : List MV} :
    s.size ≤ 140737488351232 → l.length ≤ 140737488351232 → m.length ≤ 140737488351232 → (∀ x ∈ l, SzV x) → (∀ x ∈ m, x.key.size ≤ 140737488351232) → (∀ x ∈ m, SzV x) → SzV (.mk key k n s lA lc l mA mc m)
/-- few are side by side -/
inductive FitV : MV → Prop
  | mk {key : ByteArray} {k n : Int} {s : ByteArray} {lA : Option Addr} {lc : Nat} {l : List MV} {mA : Option Addr} {mc : Nat} {m : List MV} :
    l.length + m.length ≤ 3001 → (∀ x ∈ l, FitV x) → (∀ x ∈ m, FitV x) → FitV (.mk key k n s lA lc l mA mc m)
theorem wtL_take (l : List MV) (i : Nat) (hi : i < l.length) : MV.wtL (l.take (i + 1)) = MV.wtL (l.take i) + l[i].wt := by
  induction l generalizing i with
  | nil => simp at hi
  | cons v r ih =>
    cases i with
    | zero => simp [MV.wtL]
    | succ i =>
      rw [List.take_succ_cons, List.take_succ_cons, MV.wtL, MV.wtL, ih i (by simpa using hi)]
      simp only [List.getElem_cons_succ]
      omega
theorem wtM_cons (v : MV) (r : List MV) : MV.wtM (v :: r) = 1 + v.key.size / 10 + v.wt + MV.wtM r := by
  cases v
  rw [MV.wtM]
  rfl
theorem wtM_take (l : List MV) (i : Nat) (hi : i < l.length) : MV.wtM (l.take (i + 1)) = MV.wtM (l.take i) + (1 + l[i].key.size / 10 + l[i].wt) := by
  induction l generalizing i with
  | nil => simp at hi
  | cons v r ih =>
    cases i with
    | zero => simp [wtM_cons, MV.wtM]
    | succ i =>
      rw [List.take_succ_cons, List.take_succ_cons, wtM_cons, wtM_cons, ih i (by simpa using hi)]
      simp only [List.getElem_cons_succ]
      omega
theorem depL_le {l : List MV} {d : Nat} (h : ∀ x ∈ l, x.dep ≤ d) : MV.depL l ≤ d := by
  induction l with
  | nil => simp [MV.depL]
  | cons v r ih =>
    rw [MV.depL]
    have h1 := h v (by simp)
    have h2 := ih (fun x hx => h x (by simp [hx]))
    omega
structure Acc (f : List MV → Nat) (l : List MV) (i r base d : Nat) : Prop where
  ge : base ≤ r
  le : r + 100000000000000 ≤ (22 - d) * 1000000000000000
  ok : r ≤ 6000 → r = base + f (l.take i) ∧ (∀ x ∈ l.take i, x.dep + (d + 1) ≤ 21) ∧ (∀ x ∈ l.take i, FitV x)
theorem Acc.more {f : List MV → Nat} {l : List MV} {i r base d r' a : Nat} (h : Acc f l i r base d) (hi : i < l.length) (hd : d ≤ 20) (hr : r ≤ 6000) (hf : f (l.take (i + 1)) = f (l.take i) + (a + l[i].wt)) (ha : a ≤ 20000000000000) (h1 : r' ≤ (22 - (d + 1)) * 1000000000000000) (h2 : r' ≤ 6000 → r' = l[i].wt ∧ l[i].dep + (d + 1) ≤ 21 ∧ FitV l[i]) : Acc f l (i + 1) (r + a + r') base d := by
  obtain ⟨e1, e2, e3⟩ := h.ok hr
  have hg := h.ge
  refine ⟨by omega, by omega, fun h9 => ?_⟩
  obtain ⟨k1, k2, k3⟩ := h2 (by omega)
  refine ⟨by rw [hf]; omega, ?_, ?_⟩
  all_goals
    intro x hx
    rw [List.take_succ_eq_append_getElem hi] at hx
    rcases List.mem_append.1 hx with hx | hx
    · first | exact e2 x hx | exact e3 x hx
    · rw [List.mem_singleton] at hx
      subst hx
      assumption
def LarP (v : MV) (d : Nat) (w : World) (e : Ending) (w' : World) : Prop :=
  ∃ r : Nat, e = .returned (.int .i64 (r : Int)) ∧ 1 ≤ r ∧ r ≤ (22 - d) * 1000000000000000 ∧ Below w.heap.size w w' ∧ (r ≤ 6000 → r = v.wt ∧ v.dep + d ≤ 21 ∧ FitV v)
def PF (P : Ending → World → Prop) (e : Ending) (w : World) : Prop := P e w
set_option maxRecDepth 100000 in
set_option maxHeartbeats 16000000 in
theorem rlarge_any {w0 : World} {v : MV} (h : VAt w0 v) : ∀ (d : Nat) (w : World), Below w0.heap.size w0 w → SzV v → d ≤ 21 →
    Calls Tryz.prog 10 #[v.val, .int .i64 (d : Int)] w fun e w' => LarP v d w e w' := by
  induction h with
  | mk wk wn rl cl1 cl2 rm cm1 cm2 hl hm ih1 ih2 =>
  rename_i key k n s lA lc l mA mc m
  intro d w hb hz hd
  show Calls Tryz.prog 10 #[_, .int .i64 (d : Int)] w fun e w' => PF (LarP (.mk key k n s lA lc l mA mc m) d w) e w'
  have HV : Hid (VAt w (.mk key k n s lA lc l mA mc m)) := Lib.hid ((VAt.mk wk wn rl cl1 cl2 rm cm1 cm2 hl hm).bel hb)
  have HB0 := Lib.hid hb
  cases hz with
  | mk zs zl zm zkl zky zkm =>
  have HI1 := Lib.hid ih1
  have HI2 := Lib.hid ih2
  have HZL := Lib.hid zkl
  have HZM := Lib.hid zkm
  have HZK := Lib.hid zky
  unfold MV.val
  simp only [MV.k, MV.n, MV.s, MV.lA, MV.lc, MV.l, MV.mA, MV.mc, MV.m]
  obtain ⟨nl, hnl⟩ : ∃ nl, nl = l.length := ⟨_, rfl⟩
  obtain ⟨nm, hnm⟩ : ∃ nm, nm = m.length := ⟨_, rfl⟩
  rw [← hnl] at zl cl1 ⊢
  rw [← hnm] at zm cm1 ⊢
  have HNL : Hid (l.length = nl) := Lib.hid hnl.symm
  have HNM : Hid (m.length = nm) := Lib.hid hnm.symm
  have hd0 : (0 : Int) ≤ (d : Int) := by omega
  have hd1 : (d : Int) ≤ 21 := by omega
  obtain ⟨ss, hss⟩ : ∃ ss, ss = s.size := ⟨_, rfl⟩
  have HSS : Hid (s.size = ss) := Lib.hid hss.symm
  have hss2 : (ss : Int) ≤ 140737488351232 := by omega
  have hss3 : (0 : Int) ≤ (ss : Int) := by omega
  have e1 : Int.tdiv (ss : Int) 10 = ((ss / 10 : Nat) : Int) := rfl
  have hbx : Below w.heap.size w (w.alloc (.cells #[.int .i64 k, .int .i64 n, .string s, .slice lA nl lc, .slice mA nm mc] 25)) := (Below.refl _ _).alloc (Nat.le_refl _) _
  have hkx : Blk (w.alloc (.cells #[.int .i64 k, .int .i64 n, .string s, .slice lA nl lc, .slice mA nm mc] 25)) w.heap.size 25 #[.int .i64 k, .int .i64 n, .string s, .slice lA nl lc, .slice mA nm mc] := Blk.new _ _ _
  have HBX := Lib.hid hbx
  have HKX := Lib.hid hkx
  clear hbx hkx hb ih1 ih2 zkl zkm zky hl hm rl rm wk wn hnl hnm zs hss cl1 cl2 cm1 cm2
  by_cases h20 : 20 < d
  · have q1 : decide ((20 : Int) < (d : Int)) = true := by rw [decide_eq_true_iff]; omega
    have q1' : decide (20 < d) = true := by rw [decide_eq_true_iff]; omega
    have HD := Lib.hid h20
    clear h20
    go_enter Tryz.func10, Tryz.ntmps10
    go_wp2
    go_ret
    exact ⟨10000, rfl, by omega, by have := HD.out; omega, HBX.out, fun h => by omega⟩
  have q1 : decide ((20 : Int) < (d : Int)) = false := by rw [decide_eq_false_iff_not]; omega
  have q1' : decide (20 < d) = false := by rw [decide_eq_false_iff_not]; omega
  by_cases h30 : 3000 < nl + nm
  · have q2 : decide ((3000 : Int) < (nl : Int) + (nm : Int)) = true := by rw [decide_eq_true_iff]; omega
    have HD := Lib.hid h20
    clear h20 h30
    go_enter Tryz.func10, Tryz.ntmps10
    go_wp2
    go_ret
    exact ⟨10000, rfl, by omega, by have := HD.out; omega, HBX.out, fun h => by omega⟩
  have q2 : decide ((3000 : Int) < (nl : Int) + (nm : Int)) = false := by rw [decide_eq_false_iff_not]; omega
  have HD := Lib.hid (And.intro h20 h30)
  have hnl3 : (nl : Int) ≤ 3000 := by omega
  have hnm3 : (nm : Int) ≤ 3000 := by omega
  clear h20 h30
  obtain ⟨s0, hs0⟩ : ∃ s0 : Nat, s0 = ss / 10 := ⟨_, rfl⟩
  rw [← hs0] at e1
  have hs1 : (s0 : Int) ≤ 14073748835123 := by omega
  have HS0 : Hid (s0 = ss / 10) := Lib.hid hs0
  clear hs0
  have hsz : (s.size : Int) = (ss : Int) := by rw [HSS.out]
  go_enter Tryz.func10, Tryz.ntmps10
  go_wp2_with fail
  go_loopw [5, 6] (fun x y wr => ∃ (i r : Nat), x = .int .i64 (r : Int) ∧ y = .int .i64 (i : Int) ∧ i ≤ nl ∧ r ≤ 22000000000000000 ∧ Hid (Acc MV.wtL l i r (1 + s0) d) ∧ Hid (Below (w.alloc (.cells #[.int .i64 k, .int .i64 n, .string s, .slice lA nl lc, .slice mA nm mc] 25)).heap.size (w.alloc (.cells #[.int .i64 k, .int .i64 n, .string s, .slice lA nl lc, .slice mA nm mc] 25)) wr)) (fun _ y _ => nl - (intOf y).toNat)
  case atStart => exact ⟨0, 1 + s0, by go_num, rfl, Nat.zero_le _, by omega, Lib.hid ⟨Nat.le_refl _, by have := HD.out; omega, fun _ => ⟨by simp [MV.wtL], by simp, by simp⟩⟩, Lib.hid (Below.refl _ _)⟩
  case round =>
    obtain ⟨i, r, rfl, rfl, hi, hr, HA, HW⟩ := hrel
    have HWB : Hid (Below w0.heap.size w0 wr) := Lib.hid (HB0.out.trans ((HBX.out.trans (HW.out.mono HBX.out.size)).mono HB0.out.size))
    have HWW : Hid (Below w.heap.size w wr) := Lib.hid (HBX.out.trans (HW.out.mono HBX.out.size))
    have hkr := HKX.out.below HW.out HKX.out.lt
    have b3 := hkr.cell 3
    have b4 := hkr.cell 4
    simp only [List.getElem?_toArray, List.getElem?_cons_zero, List.getElem?_cons_succ] at b3 b4
    clear hkr
    rcases (by omega : (i < nl ∧ r ≤ 6000) ∨ i = nl ∨ (i < nl ∧ 6000 < r)) with ⟨hlt, hr6⟩ | heq | ⟨hlt, hr6⟩
    · have q0 : decide ((i : Int) < (nl : Int)) = true := by rw [decide_eq_true_iff]; omega
      have q0' : decide (i < nl) = true := by rw [decide_eq_true_iff]; omega
      have q3 : decide ((r : Int) ≤ 6000) = true := by rw [decide_eq_true_iff]; omega
      have q3' : decide (r ≤ 6000) = true := by rw [decide_eq_true_iff]; omega
      have hil : i < l.length := by rw [HNL.out]; exact hlt
      obtain ⟨b, o, hA', hbl, hc'⟩ := (HV.out.bel HWW.out).la (i := i) hil
      have hA : lA = some ⟨b, o, none⟩ := hA'
      have hc : ∀ j, j < 5 → wr.cell? ⟨b, o + i * 5 + j, none⟩ = l[i].cs[j]? := hc'
      clear hA' hc'
      subst hA
      obtain ⟨x, hx⟩ : ∃ x, x = l[i] := ⟨_, rfl⟩
      have hxm : x ∈ l := by rw [hx]; exact List.getElem_mem hil
      rw [← hx] at hc
      have c0 : wr.cell? ⟨b, o + i * 5, none⟩ = some (.int .i64 x.k) := hc 0 (by omega)
      have c1 : wr.cell? ⟨b, o + i * 5 + 1, none⟩ = some (.int .i64 x.n) := hc 1 (by omega)
      have c2 : wr.cell? ⟨b, o + i * 5 + 2, none⟩ = some (.string x.s) := hc 2 (by omega)
      have c3 : wr.cell? ⟨b, o + i * 5 + 3, none⟩ = some (.slice x.lA x.l.length x.lc) := hc 3 (by omega)
      have c4 : wr.cell? ⟨b, o + i * 5 + 4, none⟩ = some (.slice x.mA x.m.length x.mc) := hc 4 (by omega)
      have hcall := HI1.out x hxm (d + 1) wr HWB.out (HZL.out x hxm) (by have := HD.out; omega)
      unfold MV.val at hcall
      have hd' : ((d + 1 : Nat) : Int) = (d : Int) + 1 := by omega
      rw [hd'] at hcall
      have HCC := Lib.hid hcall
      have hii : (i : Int) < (nl : Int) := by omega
      have hi0 : (0 : Int) ≤ (i : Int) := by omega
      have HXX := Lib.hid hx
      clear hc hxm hcall hd' hx hbl
      go_wp2_with fail
      refine HCC.out.mono ?_
      rintro e w2 ⟨r', rfl, hr1, hr2, hb2, hok⟩
      have hr3 : r' ≤ 22000000000000000 := by omega
      rw [HXX.out] at hok
      have HA2 : Hid (Acc MV.wtL l (i + 1) (r + 0 + r') (1 + s0) d) := Lib.hid (HA.out.more hil (by have := HD.out; omega) hr6 (by rw [wtL_take l i hil]; omega) (by omega) hr2 hok)
      have HW2 : Hid (Below (w.alloc (.cells #[.int .i64 k, .int .i64 n, .string s, .slice (some ⟨b, o, none⟩) nl lc, .slice mA nm mc] 25)).heap.size (w.alloc (.cells #[.int .i64 k, .int .i64 n, .string s, .slice (some ⟨b, o, none⟩) nl lc, .slice mA nm mc] 25)) w2) := Lib.hid (HW.out.trans (hb2.mono HW.out.size))
      clear hok hr1 hr2 hb2
      go_wp2
      go_roundw
      case rel => exact ⟨i + 1, r + 0 + r', by go_num, by go_num, by omega, by have := HA2.out.le; omega, HA2, HW2⟩
      case measure => simp [intOf]; omega
    · have q0 : decide ((i : Int) < (nl : Int)) = false := by rw [decide_eq_false_iff_not]; omega
      have q0' : decide (i < nl) = false := by rw [decide_eq_false_iff_not]; omega
      have HE : Hid (r ≤ 6000 → r = (1 + s0) + MV.wtL l ∧ (∀ x ∈ l, x.dep + (d + 1) ≤ 21) ∧ (∀ x ∈ l, FitV x)) := Lib.hid (fun h => by
        have h1 := HA.out.ok h
        rw [heq, List.take_of_length_le (by rw [HNL.out]; exact Nat.le_refl _)] at h1
        exact h1)
      have HGE : Hid (1 ≤ r ∧ r + 100000000000000 ≤ (22 - d) * 1000000000000000) := Lib.hid ⟨by have := HA.out.ge; omega, HA.out.le⟩
      clear heq
      go_wp2
      clear b3 b4
      go_loopw [5, 7] (fun x y wr => ∃ (i t : Nat), x = .int .i64 (t : Int) ∧ y = .int .i64 (i : Int) ∧ i ≤ nm ∧ t ≤ 22000000000000000 ∧ Hid (Acc MV.wtM m i t r d) ∧ Hid (Below (w.alloc (.cells #[.int .i64 k, .int .i64 n, .string s, .slice lA nl lc, .slice mA nm mc] 25)).heap.size (w.alloc (.cells #[.int .i64 k, .int .i64 n, .string s, .slice lA nl lc, .slice mA nm mc] 25)) wr)) (fun _ y _ => nm - (intOf y).toNat)
      case atStart => exact ⟨0, r, rfl, rfl, Nat.zero_le _, by omega, Lib.hid ⟨Nat.le_refl _, HGE.out.2, fun _ => ⟨by simp [MV.wtM], by simp, by simp⟩⟩, HW⟩
      case round =>
        clear HA HW HWB HWW
        obtain ⟨i2, t, rfl, rfl, hi2, ht, HA, HW⟩ := hrel
        have HWB : Hid (Below w0.heap.size w0 wr) := Lib.hid (HB0.out.trans ((HBX.out.trans (HW.out.mono HBX.out.size)).mono HB0.out.size))
        have HWW : Hid (Below w.heap.size w wr) := Lib.hid (HBX.out.trans (HW.out.mono HBX.out.size))
        have hkr := HKX.out.below HW.out HKX.out.lt
        have b4 := hkr.cell 4
        simp only [List.getElem?_toArray, List.getElem?_cons_zero, List.getElem?_cons_succ] at b4
        have HKR := Lib.hid hkr
        clear hkr
        have HEND : Hid (∀ w', Below w.heap.size w w' → (t ≤ 6000 → i2 = nm) → PF (LarP (.mk key k n s lA lc l mA mc m) d w) (.returned (.int .i64 (t : Int))) w') := Lib.hid (fun w' hb' hdone => by
          refine ⟨t, rfl, Nat.le_trans HGE.out.1 HA.out.ge, by have := HA.out.le; omega, hb', fun h6 => ?_⟩
          obtain ⟨e1, e2, e3⟩ := HE.out (by have := HA.out.ge; omega)
          have hh := HA.out.ok h6
          rw [hdone h6, List.take_of_length_le (by rw [HNM.out]; exact Nat.le_refl _)] at hh
          obtain ⟨k1, k2, k3⟩ := hh
          refine ⟨by rw [MV.wt, HSS.out, ← HS0.out]; omega, ?_, .mk (by rw [HNL.out, HNM.out]; have := HD.out; omega) e3 k3⟩
          rw [MV.dep]
          have h1 := depL_le (l := l) (d := 20 - d) (fun x hx => by have := e2 x hx; omega)
          have h2 := depL_le (l := m) (d := 20 - d) (fun x hx => by have := k2 x hx; omega)
          have := HD.out
          omega)
        rcases (by omega : (i2 < nm ∧ t ≤ 6000) ∨ i2 = nm ∨ (i2 < nm ∧ 6000 < t)) with ⟨hlt, hr6⟩ | heq | ⟨hlt, hr6⟩
        · have q5 : decide ((i2 : Int) < (nm : Int)) = true := by rw [decide_eq_true_iff]; omega
          have q5' : decide (i2 < nm) = true := by rw [decide_eq_true_iff]; omega
          have q6 : decide ((t : Int) ≤ 6000) = true := by rw [decide_eq_true_iff]; omega
          have q6' : decide (t ≤ 6000) = true := by rw [decide_eq_true_iff]; omega
          have hil : i2 < m.length := by rw [HNM.out]; exact hlt
          obtain ⟨b, o, hA', hbl, hc'⟩ := (HV.out.bel HWW.out).ma (i := i2) hil
          have hA : mA = some ⟨b, o, none⟩ := hA'
          have hc : ∀ j, j < 6 → wr.cell? ⟨b, o + i2 * 6 + j, none⟩ = m[i2].pcs[j]? := hc'
          clear hA' hc'
          subst hA
          obtain ⟨x, hx⟩ : ∃ x, x = m[i2] := ⟨_, rfl⟩
          have hxm : x ∈ m := by rw [hx]; exact List.getElem_mem hil
          rw [← hx] at hc
          have HSV : Hid (∀ V, Below wr.heap.size wr V → V.cell? ⟨w.heap.size, 4, none⟩ = some (.slice (some ⟨b, o, none⟩) nm mc) ∧ V.cell? ⟨b, o + i2 * 6, none⟩ = some (.string x.key) ∧ V.cell? ⟨b, o + i2 * 6 + 1, none⟩ = some (.int .i64 x.k) ∧ V.cell? ⟨b, o + i2 * 6 + 1 + 1, none⟩ = some (.int .i64 x.n) ∧ V.cell? ⟨b, o + i2 * 6 + 1 + 2, none⟩ = some (.string x.s) ∧ V.cell? ⟨b, o + i2 * 6 + 1 + 3, none⟩ = some (.slice x.lA x.l.length x.lc) ∧ V.cell? ⟨b, o + i2 * 6 + 1 + 4, none⟩ = some (.slice x.mA x.m.length x.mc)) := Lib.hid (fun V hV => by
            have hk4 := (HKR.out.below hV HKR.out.lt).cell 4
            simp only [List.getElem?_toArray, List.getElem?_cons_zero, List.getElem?_cons_succ] at hk4
            have h9 : ∀ j, V.cell? ⟨b, j, none⟩ = wr.cell? ⟨b, j, none⟩ := fun j => hV.cell (p := ⟨b, j, none⟩) hbl
            refine ⟨hk4, ?_, ?_, ?_, ?_, ?_, ?_⟩
            · rw [h9]; exact hc 0 (by omega)
            · rw [h9]; exact hc 1 (by omega)
            · rw [h9]; exact hc 2 (by omega)
            · rw [h9]; exact hc 3 (by omega)
            · rw [h9]; exact hc 4 (by omega)
            · rw [h9]; exact hc 5 (by omega))
          have hkz := HZK.out x hxm
          have hkz2 : (x.key.size : Int) ≤ 140737488351232 := by omega
          obtain ⟨k0, hk0⟩ : ∃ k0 : Nat, k0 = x.key.size / 10 := ⟨_, rfl⟩
          have e5 : Int.tdiv (x.key.size : Int) 10 = (k0 : Int) := by rw [hk0]; rfl
          have hk1 : (k0 : Int) ≤ 14073748835123 := by omega
          have HK0 : Hid (k0 = x.key.size / 10) := Lib.hid hk0
          have hcall := HI2.out x hxm (d + 1)
          have hszx := HZM.out x hxm
          unfold MV.val at hcall
          have hd' : ((d + 1 : Nat) : Int) = (d : Int) + 1 := by omega
          rw [hd'] at hcall
          have HCC := Lib.hid (fun V (hV : Below wr.heap.size wr V) => hcall V (HWB.out.trans (hV.mono HWB.out.size)) hszx (by have := HD.out; omega))
          have hii : (i2 : Int) < (nm : Int) := by omega
          have hi0 : (0 : Int) ≤ (i2 : Int) := by omega
          have HXX := Lib.hid hx
          have HIL := Lib.hid (And.intro hil hr6)
          clear hc hxm hcall hd' hx hbl hk0 hszx hkz
          go_wp2
          refine wp_region_held_drew (S := fun V => Below wr.heap.size wr V) (by kernel_rfl) ((Below.refl _ _).drew) (fun hS1 => ?_)
          refine wpAnyH_take (i := 0) (oi := ⟨some 57, _, _, _, _, _⟩) (v := .int .i64 (t : Int)) rfl (by kernel_rfl) (by kernel_rfl) (by kernel_rfl) (fun _ _ _ h => h) (.inl ⟨by kernel_rfl, fun V hS => by go_simp⟩) hS1 ?_
          simp only [Act.put, List.setIfInBounds_toArray, List.set_cons_zero, List.set_cons_succ]
          refine wpAnyH_take (i := 1) (oi := ⟨some 58, _, _, _, _, _⟩) (v := .int .i64 ((t : Int) + 1)) rfl (by kernel_rfl) (by kernel_rfl) (by kernel_rfl) (fun _ _ _ h => h) (.inl ⟨by kernel_rfl, fun V hS => by go_simp; exact IntWalk.i64_in _ (by omega)⟩) hS1 ?_
          simp only [Act.put, List.setIfInBounds_toArray, List.set_cons_zero, List.set_cons_succ]
          refine wpAnyH_take (i := 2) (oi := ⟨some 59, _, _, _, _, _⟩) (v := .pointer (some ⟨w.heap.size, 4, none⟩)) rfl (by kernel_rfl) (by kernel_rfl) (by kernel_rfl) (fun _ _ _ h => h) (.inl ⟨by kernel_rfl, fun V hS => by go_simp⟩) hS1 ?_
          simp only [Act.put, List.setIfInBounds_toArray, List.set_cons_zero, List.set_cons_succ]
          refine wpAnyH_take (i := 3) (oi := ⟨some 60, _, _, _, _, _⟩) (v := .slice (some ⟨b, o, none⟩) nm mc) rfl (by kernel_rfl) (by kernel_rfl) (by kernel_rfl) (fun _ _ _ h => h) (.inl ⟨by kernel_rfl, fun V hS => by obtain ⟨h0, h1, h2, h3, h4, h5, h6⟩ := HSV.out V hS; go_simp⟩) hS1 ?_
          simp only [Act.put, List.setIfInBounds_toArray, List.set_cons_zero, List.set_cons_succ]
          refine wpAnyH_take (i := 4) (oi := ⟨some 61, _, _, _, _, _⟩) (v := .int .i64 (i2 : Int)) rfl (by kernel_rfl) (by kernel_rfl) (by kernel_rfl) (fun _ _ _ h => h) (.inl ⟨by kernel_rfl, fun V hS => by go_simp⟩) hS1 ?_
          simp only [Act.put, List.setIfInBounds_toArray, List.set_cons_zero, List.set_cons_succ]
          refine wpAnyH_take (i := 5) (oi := ⟨some 62, _, _, _, _, _⟩) (v := .pointer (some ⟨b, o + i2 * 6, none⟩)) rfl (by kernel_rfl) (by kernel_rfl) (by kernel_rfl) (fun _ _ _ h => h) (.inl ⟨by kernel_rfl, fun V hS => by go_simp⟩) hS1 ?_
          simp only [Act.put, List.setIfInBounds_toArray, List.set_cons_zero, List.set_cons_succ]
          refine wpAnyH_take (i := 6) (oi := ⟨some 63, _, _, _, _, _⟩) (v := .pointer (some ⟨b, o + i2 * 6, none⟩)) rfl (by kernel_rfl) (by kernel_rfl) (by kernel_rfl) (fun _ _ _ h => h) (.inl ⟨by kernel_rfl, fun V hS => by go_simp⟩) hS1 ?_
          simp only [Act.put, List.setIfInBounds_toArray, List.set_cons_zero, List.set_cons_succ]
          refine wpAnyH_take (i := 7) (oi := ⟨some 64, _, _, _, _, _⟩) (v := .string x.key) rfl (by kernel_rfl) (by kernel_rfl) (by kernel_rfl) (fun _ _ _ h => h) (.inl ⟨by kernel_rfl, fun V hS => by obtain ⟨h0, h1, h2, h3, h4, h5, h6⟩ := HSV.out V hS; go_simp⟩) hS1 ?_
          simp only [Act.put, List.setIfInBounds_toArray, List.set_cons_zero, List.set_cons_succ]
          refine wpAnyH_take (i := 8) (oi := ⟨some 65, _, _, _, _, _⟩) (v := .int .i64 (x.key.size : Int)) rfl (by kernel_rfl) (by kernel_rfl) (by kernel_rfl) (fun _ _ _ h => h) (.inl ⟨by kernel_rfl, fun V hS => by go_simp⟩) hS1 ?_
          simp only [Act.put, List.setIfInBounds_toArray, List.set_cons_zero, List.set_cons_succ]
          refine wpAnyH_take (i := 9) (oi := ⟨some 66, _, _, _, _, _⟩) (v := .int .i64 (k0 : Int)) rfl (by kernel_rfl) (by kernel_rfl) (by kernel_rfl) (fun _ _ _ h => h) (.inl ⟨by kernel_rfl, fun V hS => by go_simp; exact IntWalk.i64_in _ (by omega)⟩) hS1 ?_
          simp only [Act.put, List.setIfInBounds_toArray, List.set_cons_zero, List.set_cons_succ]
          refine wpAnyH_take (i := 10) (oi := ⟨some 67, _, _, _, _, _⟩) (v := .int .i64 ((t : Int) + 1 + (k0 : Int))) rfl (by kernel_rfl) (by kernel_rfl) (by kernel_rfl) (fun _ _ _ h => h) (.inl ⟨by kernel_rfl, fun V hS => by go_simp; exact IntWalk.i64_in _ (by omega)⟩) hS1 ?_
          simp only [Act.put, List.setIfInBounds_toArray, List.set_cons_zero, List.set_cons_succ]
          refine wpAnyH_take (i := 11) (oi := ⟨some 68, _, _, _, _, _⟩) (v := .pointer (some ⟨w.heap.size, 4, none⟩)) rfl (by kernel_rfl) (by kernel_rfl) (by kernel_rfl) (fun _ _ _ h => h) (.inl ⟨by kernel_rfl, fun V hS => by go_simp⟩) hS1 ?_
          simp only [Act.put, List.setIfInBounds_toArray, List.set_cons_zero, List.set_cons_succ]
          refine wpAnyH_take (i := 12) (oi := ⟨some 69, _, _, _, _, _⟩) (v := .slice (some ⟨b, o, none⟩) nm mc) rfl (by kernel_rfl) (by kernel_rfl) (by kernel_rfl) (fun _ _ _ h => h) (.inl ⟨by kernel_rfl, fun V hS => by obtain ⟨h0, h1, h2, h3, h4, h5, h6⟩ := HSV.out V hS; go_simp⟩) hS1 ?_
          simp only [Act.put, List.setIfInBounds_toArray, List.set_cons_zero, List.set_cons_succ]
          refine wpAnyH_take (i := 13) (oi := ⟨some 70, _, _, _, _, _⟩) (v := .int .i64 (i2 : Int)) rfl (by kernel_rfl) (by kernel_rfl) (by kernel_rfl) (fun _ _ _ h => h) (.inl ⟨by kernel_rfl, fun V hS => by go_simp⟩) hS1 ?_
          simp only [Act.put, List.setIfInBounds_toArray, List.set_cons_zero, List.set_cons_succ]
          refine wpAnyH_take (i := 14) (oi := ⟨some 71, _, _, _, _, _⟩) (v := .pointer (some ⟨b, o + i2 * 6, none⟩)) rfl (by kernel_rfl) (by kernel_rfl) (by kernel_rfl) (fun _ _ _ h => h) (.inl ⟨by kernel_rfl, fun V hS => by go_simp⟩) hS1 ?_
          simp only [Act.put, List.setIfInBounds_toArray, List.set_cons_zero, List.set_cons_succ]
          refine wpAnyH_take (i := 15) (oi := ⟨some 72, _, _, _, _, _⟩) (v := .pointer (some ⟨b, o + i2 * 6 + 1, none⟩)) rfl (by kernel_rfl) (by kernel_rfl) (by kernel_rfl) (fun _ _ _ h => h) (.inl ⟨by kernel_rfl, fun V hS => by go_simp⟩) hS1 ?_
          simp only [Act.put, List.setIfInBounds_toArray, List.set_cons_zero, List.set_cons_succ]
          refine wpAnyH_take (i := 16) (oi := ⟨some 73, _, _, _, _, _⟩) (v := .agg #[.int .i64 x.k, .int .i64 x.n, .string x.s, .slice x.lA x.l.length x.lc, .slice x.mA x.m.length x.mc]) rfl (by kernel_rfl) (by kernel_rfl) (by kernel_rfl) (fun _ _ _ h => h) (.inl ⟨by kernel_rfl, fun V hS => by obtain ⟨h0, h1, h2, h3, h4, h5, h6⟩ := HSV.out V hS; go_simp⟩) hS1 ?_
          simp only [Act.put, List.setIfInBounds_toArray, List.set_cons_zero, List.set_cons_succ]
          refine wpAnyH_take (i := 17) (oi := ⟨some 74, _, _, _, _, _⟩) (v := .int .i64 (d : Int)) rfl (by kernel_rfl) (by kernel_rfl) (by kernel_rfl) (fun _ _ _ h => h) (.inl ⟨by kernel_rfl, fun V hS => by go_simp⟩) hS1 ?_
          simp only [Act.put, List.setIfInBounds_toArray, List.set_cons_zero, List.set_cons_succ]
          refine wpAnyH_take (i := 18) (oi := ⟨some 75, _, _, _, _, _⟩) (v := .int .i64 ((d : Int) + 1)) rfl (by kernel_rfl) (by kernel_rfl) (by kernel_rfl) (fun _ _ _ h => h) (.inl ⟨by kernel_rfl, fun V hS => by go_simp; exact IntWalk.i64_in _ (by omega)⟩) hS1 ?_
          simp only [Act.put, List.setIfInBounds_toArray, List.set_cons_zero, List.set_cons_succ]
          refine wpAnyH_ready (rs := [19]) (by kernel_rfl) (by simp) ?_
          refine AllReadyH.cons rfl (fun K' hK => ?_) AllReadyH.nil
          go_simp
          refine (HCC.out _ hS1).mono ?_
          rintro e w2 ⟨r', rfl, hr1, hr2, hb2, hok⟩
          have hr3 : (r' : Int) ≤ 22000000000000000 := by omega
          have HRR := Lib.hid (And.intro hr2 (And.intro hb2 hok))
          go_simp
          refine hK.out _ _ ((hS1).trans (hb2.mono (hS1).size)) (fun hS2 => ?_)
          clear hK K' hS1
          refine wpAnyH_take (i := 20) (oi := ⟨some 77, _, _, _, _, _⟩) (v := (.int .i64 ((t : Int) + 1 + (k0 : Int) + (r' : Int)))) rfl (by kernel_rfl) (by kernel_rfl) (by kernel_rfl) (fun _ _ _ h => h) (.inl ⟨by kernel_rfl, fun V hS => by go_simp; exact IntWalk.i64_in _ (by omega)⟩) hS2 ?_
          simp only [Act.put, List.setIfInBounds_toArray, List.set_cons_zero, List.set_cons_succ]
          refine wpAnyH_take (i := 21) (oi := ⟨some 5, _, _, _, _, _⟩) (v := (.int .i64 ((t : Int) + 1 + (k0 : Int) + (r' : Int)))) rfl (by kernel_rfl) (by kernel_rfl) (by kernel_rfl) (fun _ _ _ h => h) (.inl ⟨by kernel_rfl, fun V hS => by go_simp⟩) hS2 ?_
          simp only [Act.put, List.setIfInBounds_toArray, List.set_cons_zero, List.set_cons_succ]
          refine wpAnyH_done (by kernel_rfl) ?_ _
          have HFF := Lib.hid hS2
          clear hS2
          have HA2 : Hid (Acc MV.wtM m (i2 + 1) (t + (1 + k0) + r') r d) := Lib.hid (by
            have h9 := HRR.out.2.2
            rw [HXX.out] at h9
            exact HA.out.more HIL.out.1 (by have := HD.out; omega) HIL.out.2 (by rw [wtM_take m i2 HIL.out.1, HK0.out, HXX.out]) (by omega) HRR.out.1 h9)
          have HW2 : Hid (Below (w.alloc (.cells #[.int .i64 k, .int .i64 n, .string s, .slice lA nl lc, .slice (some ⟨b, o, none⟩) nm mc] 25)).heap.size (w.alloc (.cells #[.int .i64 k, .int .i64 n, .string s, .slice lA nl lc, .slice (some ⟨b, o, none⟩) nm mc] 25)) w2) := Lib.hid (HW.out.trans (HFF.out.mono HW.out.size))
          go_wp2
          go_roundw
          case rel => exact ⟨i2 + 1, t + (1 + k0) + r', by go_num, by go_num, by omega, by have := HA2.out.le; omega, HA2, HW2⟩
          case measure => simp [intOf]; omega
        · have q5 : decide ((i2 : Int) < (nm : Int)) = false := by rw [decide_eq_false_iff_not]; omega
          have q5' : decide (i2 < nm) = false := by rw [decide_eq_false_iff_not]; omega
          have HR := Lib.hid (HEND.out wr HWW.out (fun _ => heq))
          clear heq
          go_wp2
          go_ret
          exact HR.out
        · have q5 : decide ((i2 : Int) < (nm : Int)) = true := by rw [decide_eq_true_iff]; omega
          have q5' : decide (i2 < nm) = true := by rw [decide_eq_true_iff]; omega
          have q6 : decide ((t : Int) ≤ 6000) = false := by rw [decide_eq_false_iff_not]; omega
          have q6' : decide (t ≤ 6000) = false := by rw [decide_eq_false_iff_not]; omega
          have HR := Lib.hid (HEND.out wr HWW.out (fun h => absurd h (by omega)))
          clear hr6
          go_wp2
          go_ret
          exact HR.out
    · have q0 : decide ((i : Int) < (nl : Int)) = true := by rw [decide_eq_true_iff]; omega
      have q0' : decide (i < nl) = true := by rw [decide_eq_true_iff]; omega
      have q3 : decide ((r : Int) ≤ 6000) = false := by rw [decide_eq_false_iff_not]; omega
      have q3' : decide (r ≤ 6000) = false := by rw [decide_eq_false_iff_not]; omega
      have HGT := Lib.hid hr6
      clear hr6 hlt
      go_wp2
      clear b3 b4
      go_loopw [5, 7] (fun x y wr => x = .int .i64 (r : Int) ∧ y = .int .i64 0 ∧ Hid (Below (w.alloc (.cells #[.int .i64 k, .int .i64 n, .string s, .slice lA nl lc, .slice mA nm mc] 25)).heap.size (w.alloc (.cells #[.int .i64 k, .int .i64 n, .string s, .slice lA nl lc, .slice mA nm mc] 25)) wr)) (fun _ y _ => 0)
      case atStart => exact ⟨rfl, rfl, HW⟩
      case round =>
        clear HW HWB HWW
        obtain ⟨rfl, rfl, HW⟩ := hrel
        have HWW : Hid (Below w.heap.size w wr) := Lib.hid (HBX.out.trans (HW.out.mono HBX.out.size))
        have b4 := (HKX.out.below HW.out HKX.out.lt).cell 4
        simp only [List.getElem?_toArray, List.getElem?_cons_zero, List.getElem?_cons_succ] at b4
        by_cases h0 : 0 < nm
        · have q9 : decide ((0 : Int) < (nm : Int)) = true := by rw [decide_eq_true_iff]; omega
          have q9' : decide (0 < nm) = true := by rw [decide_eq_true_iff]; omega
          clear h0
          go_wp2
          go_ret
          exact ⟨r, rfl, by have := HA.out.ge; omega, by have := HA.out.le; omega, HWW.out, fun h => absurd h (by have := HGT.out; omega)⟩
        · have q9 : decide ((0 : Int) < (nm : Int)) = false := by rw [decide_eq_false_iff_not]; omega
          have q9' : decide (0 < nm) = false := by rw [decide_eq_false_iff_not]; omega
          clear h0
          go_wp2
          go_ret
          exact ⟨r, rfl, by have := HA.out.ge; omega, by have := HA.out.le; omega, HWW.out, fun h => absurd h (by have := HGT.out; omega)⟩
end Go.Proofs.YteofdpogjnojnaaGreatDoor
