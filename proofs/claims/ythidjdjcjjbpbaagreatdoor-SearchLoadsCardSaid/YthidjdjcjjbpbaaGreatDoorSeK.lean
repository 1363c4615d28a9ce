/-
  The document's SameKeys: two rows of keys.
-/
import Derived.Test.YthidjdjcjjbpbaaGreatDoorFrameSe
import Derived.Test.YthidjdjcjjbpbaaGreatDoorSeT
import Derived.DeepKeys
import Derived.Deep.MidRow
import Derived.Laws.StructEq
import Derived.BigQuiet
namespace Go.Proofs.YthidjdjcjjbpbaaGreatDoor
open Go.RowKit Sea
set_option linter.unusedVariables false
set_option linter.unusedSimpArgs false

/-- a row of keys is read -/
def KR (w : World) (A : Option Addr) (l : List PK) : Prop := 0 < l.length → ∃ B o, A = some ⟨B, o, none⟩ ∧ B < w.heap.size ∧ ∀ k (hk : k < l.length), w.rangeAt B (o + k * 35) l[k]
theorem KR.bel {w w' : World} {A : Option Addr} {l : List PK} (h : KR w A l) (hb : Below w.heap.size w w') : KR w' A l := fun h0 => by
  obtain ⟨B, o, hA, hB, hc⟩ := h h0
  exact ⟨B, o, hA, Nat.lt_of_lt_of_le hB hb.size, fun k hk j v hv => (hb.cell hB).trans (hc k hk j v hv)⟩
theorem KR.of_row {X : Nat → Prop} {w : World} {A : Option Addr} {l : List PK} (h : RowE (KyB w) 35 X w A l) : KR w A l := fun h0 => by
  obtain ⟨B, o, hA, hB, hX, hi⟩ := h h0
  refine ⟨B, o, hA, hB, fun k hk j v hv => ?_⟩
  obtain ⟨h35, hc⟩ := hi k hk
  have hj : j < 35 := by rw [← h35]; exact (List.getElem?_eq_some_iff.1 hv).1
  exact (hc j hj).trans hv
theorem flatten_at {l : List PK} (h35 : ∀ k ∈ l, k.length = 35) : ∀ {k : Nat} (hk : k < l.length) {j : Nat}, j < 35 → l.flatten[k * 35 + j]? = l[k][j]? := by
  induction l with
  | nil => intro k hk; simp at hk
  | cons a l ih =>
    intro k hk j hj
    have ha : a.length = 35 := h35 a (by simp)
    rw [List.flatten_cons]
    cases k with
    | zero => rw [List.getElem?_append_left (by omega)]; simp
    | succ k =>
      rw [List.getElem?_append_right (by omega), show (k + 1) * 35 + j - a.length = k * 35 + j from by omega]
      exact ih (fun x hx => h35 x (by simp [hx])) (by simp at hk; omega) hj
theorem KR.of_own {w : World} {base c : Nat} {A : Option Addr} {l : List PK} (h35 : ∀ k ∈ l, k.length = 35) (h : OG 78 35 w base (.slice A l.length c) l.length l.flatten) : KR w A l := fun h0 => by
  obtain ⟨A', c', e, h1, h2, h3, h4⟩ := OG.form h
  cases e
  cases hA : A with
  | none =>
    obtain ⟨ad, hlt, hc⟩ := h3.2 (by omega)
    rw [hA] at hlt
    cases hlt
  | some ad =>
    obtain ⟨g1, g2, g3, g4, _⟩ := h4 ad hA
    obtain ⟨b, o, sp⟩ := ad
    simp only at g1 g2 g3 g4
    subst g3; subst g4
    refine ⟨b, 0, rfl, g2, fun k hk j v hv => ?_⟩
    have hkk : l[k].length = 35 := h35 _ (List.getElem_mem _)
    have hj : j < 35 := by rw [← hkk]; exact (List.getElem?_eq_some_iff.1 hv).1
    obtain ⟨ad', e1, e2, e3⟩ := h3.2 (by omega)
    rw [hA] at e1
    cases e1
    have := e3 (k * 35 + j) v (by rw [flatten_at h35 hk hj]; exact hv)
    rw [Addr.add_mid, ← Nat.add_assoc] at this
    exact this
set_option maxRecDepth 100000 in
theorem keys_equalIn (x y : PK) (hx : KForm x) (hy : KForm y) : ∃ r : Bool, (x = y → r = true) ∧ ∀ w, (Op.equalIn 10000 78 (.agg x.toArray) (.agg y.toArray)).run Tryz.prog w = .ok r w := by
  obtain ⟨Lx, hLx⟩ := hx.2
  obtain ⟨Ly, hLy⟩ := hy.2
  have hC : Tryz.prog.cellsOf 78 = 35 := by kernel_rfl
  have hfm : ∀ z : PK, KForm z → (Value.agg z.toArray).formed Tryz.prog 78 = true := fun z hz => by
    simp only [Value.formed, Tryz.underlying78, hC]
    simp [hz.o.1]
  haveI : Decidable (Lx = Ly) := Classical.propDecidable _
  refine ⟨decide (Lx = Ly), fun e => ?_, fun w => ?_⟩
  · subst e; rw [hLx] at hLy; injection hLy with h; exact decide_eq_true h
  · obtain ⟨r, h1, h2⟩ := run_equalIn_deep (P := Tryz.prog) 9996 4 78 (by kernel_rfl) w 4 4 (.agg x.toArray) (.agg y.toArray) Lx Ly (hfm x hx) (hfm y hy) (by simpa [Value.cells] using hLx) (by simpa [Value.cells] using hLy)
    rw [h1]
    congr 1
    cases r with
    | true => exact (decide_eq_true (h2.1 rfl)).symm
    | false => exact (decide_eq_false (fun e => by have := h2.2 e; cases this)).symm
theorem below_drw1 {B : Nat} {a w : World} (h : Below B a w) : Below B a w.drew := h.drew
theorem noGuardK : Tryz.prog.eqGuardType Tryz.prog.depth 78 = false := by kernel_rfl
theorem load_key {op : Oper} {a : Act} {x : Operand} {V : World} {B O : Nat} {k : PK} (ho : op.op = .load 78 x) (hx : a.eval x = .pointer (some ⟨B, O, none⟩)) (hc : V.rangeAt B O k) (hk : (Tryz.prog.info? 78).map (·.size) = some k.length) : (execOp a.eval op).run Tryz.prog V = .ok (.value (.agg k.toArray)) V := by
  unfold execOp
  simp only [ho, hx, Instr.loadAt, Instr.sureAddr, Sem.run_bind, Sem.run_pure, Result.andThen_ok, run_loadVar_mid V B O 78 k _ hc Tryz.underlying78 rfl hk]
theorem neq_key {op : Oper} {a : Act} {x y : Operand} {t' : TypeId} {V : World} {kx ky : PK} {r : Bool} (ho : op.op = .binOp .neq 78 x y t') (hx : a.eval x = .agg kx.toArray) (hy : a.eval y = .agg ky.toArray) (h : ∀ w, (Op.equalIn 10000 78 (.agg kx.toArray) (.agg ky.toArray)).run Tryz.prog w = .ok r w) : (execOp a.eval op).run Tryz.prog V = .ok (.value (.bool (!r))) V := by
  unfold execOp
  simp only [ho, hx, hy, Sem.run_bind, run_eqGuard_agg V .neq 78 x y kx.toArray ky.toArray noGuardK, Result.andThen_ok, run_neq_struct, h, Sem.run_pure]
def SkP (p : Prop) (w : World) (e : Ending) (w' : World) : Prop := ∃ b : Bool, e = .returned (.bool b) ∧ (p → b = true) ∧ Below w.heap.size w w'
set_option maxRecDepth 100000 in
set_option maxHeartbeats 4000000 in
theorem rsameKeys_any (A B : Option Addr) (n c m d : Nat) (l l' : List PK) (w : World) (h : KR w A l) (h' : KR w B l') (hn : l.length = n) (hm : l'.length = m) (hs : n ≤ 1000000) (hs' : m ≤ 1000000) (hf : ∀ k ∈ l, KForm k) (hf' : ∀ k ∈ l', KForm k) :
    Calls Tryz.prog 14 #[.slice A n c, .slice B m d] w fun e w' => PF (SkP (l = l') w) e w' := by
  have HN := Lib.hid hn
  have HM := Lib.hid hm
  have HV := Lib.hid h
  have HV' := Lib.hid h'
  have HF := Lib.hid hf
  have HF' := Lib.hid hf'
  clear hn hm h h' hf hf'
  by_cases hnm : n = m
  · subst hnm
    go_enter Tryz.func14, Tryz.ntmps14
    go_wp2
    go_loopw [5] (fun i wr => ∃ k : Nat, k ≤ n ∧ i = .int .i64 k ∧ Hid (Below w.heap.size w wr)) (fun i _ => n - (intOf i).toNat)
    case atStart => exact ⟨0, Nat.zero_le _, rfl, Lib.hid (Below.refl _ _)⟩
    case round =>
      obtain ⟨k, hk, rfl, HW⟩ := hrel
      rcases (by omega : k < n ∨ k = n) with hlt | heq
      · have q0 : decide ((k : Int) < (n : Int)) = true := by rw [decide_eq_true_iff]; omega
        have q0' : decide (k < n) = true := by rw [decide_eq_true_iff]; omega
        have hkl : k < l.length := by rw [HN.out]; exact hlt
        have hkl' : k < l'.length := by rw [HM.out]; exact hlt
        obtain ⟨B1, o1, rfl, _, hc⟩ := (HV.out.bel HW.out) (by omega)
        obtain ⟨B2, o2, rfl, _, hc'⟩ := (HV'.out.bel HW.out) (by omega)
        obtain ⟨x, hx⟩ : ∃ x, x = l[k] := ⟨_, rfl⟩
        obtain ⟨y, hy⟩ : ∃ y, y = l'[k] := ⟨_, rfl⟩
        have HFX : Hid (KForm x) := Lib.hid (by rw [hx]; exact HF.out _ (List.getElem_mem _))
        have HFY : Hid (KForm y) := Lib.hid (by rw [hy]; exact HF'.out _ (List.getElem_mem _))
        have HRG : Hid ((fun V : World => V.rangeAt B1 (o1 + k * 35) x ∧ V.rangeAt B2 (o2 + k * 35) y) wr.drew) := Lib.hid (by rw [hx, hy]; exact ⟨hc k hkl, hc' k hkl'⟩)
        have hi35 : (Tryz.prog.info? 78).map (·.size) = some 35 := by kernel_rfl
        have HX35 : Hid ((Tryz.prog.info? 78).map (·.size) = some x.length) := Lib.hid (by rw [HFX.out.o.1]; exact hi35)
        have HY35 : Hid ((Tryz.prog.info? 78).map (·.size) = some y.length) := Lib.hid (by rw [HFY.out.o.1]; exact hi35)
        obtain ⟨rr, hrr, heq⟩ := keys_equalIn x y HFX.out HFY.out
        have HEQ := Lib.hid heq
        have HNE : Hid (rr = false → l ≠ l') := Lib.hid (fun e1 e2 => by
          have : rr = true := hrr (by rw [hx, hy]; subst e2; rfl)
          rw [e1] at this; cases this)
        have hng := noGuardK
        have hki : (k : Int) < (n : Int) := by omega
        have hk0 : (0 : Int) ≤ (k : Int) := by omega
        have HLT := Lib.hid hlt
        clear hx hy hc hc' heq hrr hi35 hkl hkl' hlt
        cases rr with
        | true =>
          go_wp2_with (fail)
          refine wp_region_held_drew (S := fun V => V.rangeAt B1 (o1 + k * 35) x ∧ V.rangeAt B2 (o2 + k * 35) y) (by kernel_rfl) (HRG.out) (fun hS1 => ?_)
          refine wpAnyH_take (i := 0) (oi := ⟨some 17, _, _, _, _, _⟩) (v := .slice (some ⟨B1, o1, none⟩) n c) rfl (by kernel_rfl) (by kernel_rfl) (by kernel_rfl) (fun _ _ _ h => h) (.inl ⟨by kernel_rfl, fun V hS => by go_simp⟩) hS1 ?_
          simp only [Act.put, List.setIfInBounds_toArray, List.set_cons_zero, List.set_cons_succ]
          refine wpAnyH_take (i := 1) (oi := ⟨some 18, _, _, _, _, _⟩) (v := .int .i64 (k : Int)) rfl (by kernel_rfl) (by kernel_rfl) (by kernel_rfl) (fun _ _ _ h => h) (.inl ⟨by kernel_rfl, fun V hS => by go_simp⟩) hS1 ?_
          simp only [Act.put, List.setIfInBounds_toArray, List.set_cons_zero, List.set_cons_succ]
          refine wpAnyH_take (i := 2) (oi := ⟨some 19, _, _, _, _, _⟩) (v := .pointer (some ⟨B1, o1 + k * 35, none⟩)) rfl (by kernel_rfl) (by kernel_rfl) (by kernel_rfl) (fun _ _ _ h => h) (.inl ⟨by kernel_rfl, fun V hS => by go_simp⟩) hS1 ?_
          simp only [Act.put, List.setIfInBounds_toArray, List.set_cons_zero, List.set_cons_succ]
          refine wpAnyH_take (i := 3) (oi := ⟨some 20, _, _, _, _, _⟩) (v := .agg x.toArray) rfl (by kernel_rfl) (by kernel_rfl) (by kernel_rfl) (fun _ _ _ h => h) (.inl ⟨by kernel_rfl, fun V hS => by exact load_key rfl rfl hS.1 HX35.out⟩) hS1 ?_
          simp only [Act.put, List.setIfInBounds_toArray, List.set_cons_zero, List.set_cons_succ]
          refine wpAnyH_take (i := 4) (oi := ⟨some 21, _, _, _, _, _⟩) (v := .slice (some ⟨B2, o2, none⟩) n d) rfl (by kernel_rfl) (by kernel_rfl) (by kernel_rfl) (fun _ _ _ h => h) (.inl ⟨by kernel_rfl, fun V hS => by go_simp⟩) hS1 ?_
          simp only [Act.put, List.setIfInBounds_toArray, List.set_cons_zero, List.set_cons_succ]
          refine wpAnyH_take (i := 5) (oi := ⟨some 22, _, _, _, _, _⟩) (v := .int .i64 (k : Int)) rfl (by kernel_rfl) (by kernel_rfl) (by kernel_rfl) (fun _ _ _ h => h) (.inl ⟨by kernel_rfl, fun V hS => by go_simp⟩) hS1 ?_
          simp only [Act.put, List.setIfInBounds_toArray, List.set_cons_zero, List.set_cons_succ]
          refine wpAnyH_take (i := 6) (oi := ⟨some 23, _, _, _, _, _⟩) (v := .pointer (some ⟨B2, o2 + k * 35, none⟩)) rfl (by kernel_rfl) (by kernel_rfl) (by kernel_rfl) (fun _ _ _ h => h) (.inl ⟨by kernel_rfl, fun V hS => by go_simp⟩) hS1 ?_
          simp only [Act.put, List.setIfInBounds_toArray, List.set_cons_zero, List.set_cons_succ]
          refine wpAnyH_take (i := 7) (oi := ⟨some 24, _, _, _, _, _⟩) (v := .agg y.toArray) rfl (by kernel_rfl) (by kernel_rfl) (by kernel_rfl) (fun _ _ _ h => h) (.inl ⟨by kernel_rfl, fun V hS => by exact load_key rfl rfl hS.2 HY35.out⟩) hS1 ?_
          simp only [Act.put, List.setIfInBounds_toArray, List.set_cons_zero, List.set_cons_succ]
          refine wpAnyH_take (i := 8) (oi := ⟨some 25, _, _, _, _, _⟩) (v := .bool false) rfl (by kernel_rfl) (by kernel_rfl) (by kernel_rfl) (fun _ _ _ h => h) (.inl ⟨by kernel_rfl, fun V hS => by exact neq_key rfl rfl rfl HEQ.out⟩) hS1 ?_
          simp only [Act.put, List.setIfInBounds_toArray, List.set_cons_zero, List.set_cons_succ]
          refine wpAnyH_done (by kernel_rfl) ?_ _
          clear hng
          go_wp2
          go_roundw
          case rel => exact ⟨k + 1, by have := HLT.out; omega, by go_num, Lib.hid (below_drw1 HW.out)⟩
          case measure => have := HLT.out; simp [intOf]; omega
        | false =>
          go_wp2_with (fail)
          refine wp_region_held_drew (S := fun V => V.rangeAt B1 (o1 + k * 35) x ∧ V.rangeAt B2 (o2 + k * 35) y) (by kernel_rfl) (HRG.out) (fun hS1 => ?_)
          refine wpAnyH_take (i := 0) (oi := ⟨some 17, _, _, _, _, _⟩) (v := .slice (some ⟨B1, o1, none⟩) n c) rfl (by kernel_rfl) (by kernel_rfl) (by kernel_rfl) (fun _ _ _ h => h) (.inl ⟨by kernel_rfl, fun V hS => by go_simp⟩) hS1 ?_
          simp only [Act.put, List.setIfInBounds_toArray, List.set_cons_zero, List.set_cons_succ]
          refine wpAnyH_take (i := 1) (oi := ⟨some 18, _, _, _, _, _⟩) (v := .int .i64 (k : Int)) rfl (by kernel_rfl) (by kernel_rfl) (by kernel_rfl) (fun _ _ _ h => h) (.inl ⟨by kernel_rfl, fun V hS => by go_simp⟩) hS1 ?_
          simp only [Act.put, List.setIfInBounds_toArray, List.set_cons_zero, List.set_cons_succ]
          refine wpAnyH_take (i := 2) (oi := ⟨some 19, _, _, _, _, _⟩) (v := .pointer (some ⟨B1, o1 + k * 35, none⟩)) rfl (by kernel_rfl) (by kernel_rfl) (by kernel_rfl) (fun _ _ _ h => h) (.inl ⟨by kernel_rfl, fun V hS => by go_simp⟩) hS1 ?_
          simp only [Act.put, List.setIfInBounds_toArray, List.set_cons_zero, List.set_cons_succ]
          refine wpAnyH_take (i := 3) (oi := ⟨some 20, _, _, _, _, _⟩) (v := .agg x.toArray) rfl (by kernel_rfl) (by kernel_rfl) (by kernel_rfl) (fun _ _ _ h => h) (.inl ⟨by kernel_rfl, fun V hS => by exact load_key rfl rfl hS.1 HX35.out⟩) hS1 ?_
          simp only [Act.put, List.setIfInBounds_toArray, List.set_cons_zero, List.set_cons_succ]
          refine wpAnyH_take (i := 4) (oi := ⟨some 21, _, _, _, _, _⟩) (v := .slice (some ⟨B2, o2, none⟩) n d) rfl (by kernel_rfl) (by kernel_rfl) (by kernel_rfl) (fun _ _ _ h => h) (.inl ⟨by kernel_rfl, fun V hS => by go_simp⟩) hS1 ?_
          simp only [Act.put, List.setIfInBounds_toArray, List.set_cons_zero, List.set_cons_succ]
          refine wpAnyH_take (i := 5) (oi := ⟨some 22, _, _, _, _, _⟩) (v := .int .i64 (k : Int)) rfl (by kernel_rfl) (by kernel_rfl) (by kernel_rfl) (fun _ _ _ h => h) (.inl ⟨by kernel_rfl, fun V hS => by go_simp⟩) hS1 ?_
          simp only [Act.put, List.setIfInBounds_toArray, List.set_cons_zero, List.set_cons_succ]
          refine wpAnyH_take (i := 6) (oi := ⟨some 23, _, _, _, _, _⟩) (v := .pointer (some ⟨B2, o2 + k * 35, none⟩)) rfl (by kernel_rfl) (by kernel_rfl) (by kernel_rfl) (fun _ _ _ h => h) (.inl ⟨by kernel_rfl, fun V hS => by go_simp⟩) hS1 ?_
          simp only [Act.put, List.setIfInBounds_toArray, List.set_cons_zero, List.set_cons_succ]
          refine wpAnyH_take (i := 7) (oi := ⟨some 24, _, _, _, _, _⟩) (v := .agg y.toArray) rfl (by kernel_rfl) (by kernel_rfl) (by kernel_rfl) (fun _ _ _ h => h) (.inl ⟨by kernel_rfl, fun V hS => by exact load_key rfl rfl hS.2 HY35.out⟩) hS1 ?_
          simp only [Act.put, List.setIfInBounds_toArray, List.set_cons_zero, List.set_cons_succ]
          refine wpAnyH_take (i := 8) (oi := ⟨some 25, _, _, _, _, _⟩) (v := .bool true) rfl (by kernel_rfl) (by kernel_rfl) (by kernel_rfl) (fun _ _ _ h => h) (.inl ⟨by kernel_rfl, fun V hS => by exact neq_key rfl rfl rfl HEQ.out⟩) hS1 ?_
          simp only [Act.put, List.setIfInBounds_toArray, List.set_cons_zero, List.set_cons_succ]
          refine wpAnyH_done (by kernel_rfl) ?_ _
          clear hng
          go_wp2
          go_ret
          exact ⟨false, rfl, fun e => absurd e (by simpa using HNE.out), below_drw1 HW.out⟩
      · have q0 : decide ((k : Int) < (n : Int)) = false := by rw [decide_eq_false_iff_not]; omega
        have q0' : decide (k < n) = false := by rw [decide_eq_false_iff_not]; omega
        clear heq
        go_wp2
        go_ret
        exact ⟨true, rfl, fun _ => rfl, HW.out⟩
  · have q0 : ((n : Int) != (m : Int)) = true := by rw [bne_iff_ne]; omega
    have HNE : Hid (l ≠ l') := Lib.hid (fun e => hnm (by rw [← HN.out, ← HM.out, e]))
    clear hnm
    go_enter Tryz.func14, Tryz.ntmps14
    go_wp2
    go_ret
    exact ⟨false, rfl, fun e => absurd e HNE.out, Below.refl _ _⟩
end Go.Proofs.YthidjdjcjjbpbaaGreatDoor
