/-
  parse: numbers.
-/
import Derived.Test.YteofdpogjnojnaaGreatDoorPaO
import Derived.Laws.RangeAny
import Derived.Laws.RangeString
import Derived.Deep.DrawnRows
namespace Go.Proofs.YteofdpogjnojnaaGreatDoor
open Go.RowKit Utf Pa
attribute [local go_sem ↓] Go.wp_at_zero Go.wp_at_succ
set_option linter.unusedVariables false
set_option linter.unusedSimpArgs false

theorem mem_atB (s : ByteArray) (k : Nat) (h : k < s.size) : s[k] ∈ s.data.toList := Array.mem_toList_iff.2 (Array.getElem_mem (xs := s.data) h)
theorem sum_app (a b : List UInt8) : sumP a ≤ sumP (a ++ b) := by
  unfold sumP
  rw [List.foldl_append]
  generalize a.foldl (fun n c => 10 * n + (c.toNat - 48)) 0 = x
  induction b generalizing x with
  | nil => exact Nat.le_refl _
  | cons c b ih => rw [List.foldl_cons]; exact Nat.le_trans (by omega) (ih _)
theorem sum_snoc (a : List UInt8) (c : UInt8) : sumP (a ++ [c]) = 10 * sumP a + (c.toNat - 48) := by unfold sumP; rw [List.foldl_append]; rfl
/-- what sum answers -/
def SmP (l : List UInt8) (w : World) (e : Ending) (w' : World) : Prop := e = .returned (.tuple #[.int .i64 ((if 9007199254740991 < sumP l then 0 else sumP l : Nat) : Int), .bool (decide (sumP l ≤ 9007199254740991))]) ∧ Below w.heap.size w w'
set_option maxRecDepth 100000 in
set_option maxHeartbeats 4000000 in
theorem sum_any (s : ByteArray) (w : World) (hd : ∀ c ∈ s.data.toList, isDig c = true) : Calls Tryz.prog 67 #[.string s] w fun e w' => PF (SmP s.data.toList w) e w' := by
  have HD := Lib.hid hd
  clear hd
  have HZ : Hid (s.data.toList.length = s.size) := Lib.hid rfl
  go_enter Tryz.func67, Tryz.ntmps67
  go_wp2
  go_loopw [4] (fun nv wr => ∃ k : Nat, k ≤ s.size ∧ (∃ n : Nat, nv = .int .i64 (n : Int) ∧ n ≤ 9007199254740991 ∧ Hid (n = sumP (s.data.toList.take k))) ∧ wr = w.iter s k) (fun _ wr => s.size - wr.iterPos w.heap.size)
  case atStart => exact ⟨0, Nat.zero_le _, ⟨0, rfl, by omega, Lib.hid rfl⟩, rfl⟩
  case round =>
    obtain ⟨k, hk, ⟨n, rfl, hn, HN⟩, rfl⟩ := hrel
    rcases (by omega : k < s.size ∨ k = s.size) with hlt | heq
    · obtain ⟨c, hc⟩ : ∃ c, c = s[k]'hlt := ⟨_, rfl⟩
      have hcm : isDig c = true := HD.out c (by rw [hc]; exact mem_atB s k hlt)
      have hcb : 48 ≤ c.toNat ∧ c.toNat ≤ 57 := by unfold isDig at hcm; simpa using hcm
      have hnx := fun ty => run_next_ascii (P := Tryz.prog) w s k ty hlt (by rw [← hc]; omega)
      rw [← hc] at hnx
      have htk : s.data.toList.take (k + 1) = s.data.toList.take k ++ [c] := by
        rw [List.take_succ_eq_append_getElem (by rw [HZ.out]; exact hlt)]
        congr 2
        rw [hc]
        rfl
      obtain ⟨m, hm⟩ : ∃ m, m = 10 * n + (c.toNat - 48) := ⟨_, rfl⟩
      have HM : Hid (m = sumP (s.data.toList.take (k + 1))) := Lib.hid (by rw [htk, sum_snoc, ← HN.out, hm])
      obtain ⟨x, hx⟩ : ∃ x : Nat, x = c.toNat := ⟨_, rfl⟩
      rw [← hx] at hnx hcb hm
      have e1 : (x : Int) - 48 = ((x - 48 : Nat) : Int) := by omega
      have e2 : IntKind.i32.wrap ((x : Int) - 48) = (x : Int) - 48 := IntWalk.i32_in _ (by omega)
      have e3 : IntKind.i64.wrap ((x : Int) - 48) = (x : Int) - 48 := IntWalk.i64_in _ (by omega)
      have e4 : IntKind.i64.wrap (10 * (n : Int)) = 10 * (n : Int) := IntWalk.i64_in _ (by omega)
      have e5 : IntKind.i64.wrap (10 * (n : Int) + ((x : Int) - 48)) = (m : Int) := by rw [IntWalk.i64_in _ (by omega)]; omega
      have HLT := Lib.hid hlt
      have HMX : Hid (m = 10 * n + (x - 48)) := Lib.hid hm
      clear hc hcm htk hm hx e1
      by_cases hbig : 9007199254740991 < m
      · have q0 : decide ((m : Int) > 9007199254740991) = true := by rw [decide_eq_true_iff]; omega
        have q0' : decide (9007199254740991 < (m : Int)) = true := by rw [decide_eq_true_iff]; omega
        have HS : Hid (9007199254740991 < sumP s.data.toList) := Lib.hid (by
          have h1 := sum_app (s.data.toList.take (k + 1)) (s.data.toList.drop (k + 1))
          rw [List.take_append_drop, ← HM.out] at h1
          omega)
        clear hbig
        go_wp2
        go_ret2
        exact ⟨by rw [if_pos HS.out, decide_eq_false (by have := HS.out; omega)]; rfl, (Below.alloc (Below.refl _ _) (Nat.le_refl _) _ : Below w.heap.size w (w.iter s _))⟩
      · have q0 : decide ((m : Int) > 9007199254740991) = false := by rw [decide_eq_false_iff_not]; omega
        have q0' : decide (9007199254740991 < (m : Int)) = false := by rw [decide_eq_false_iff_not]; omega
        have HB : Hid (m ≤ 9007199254740991) := Lib.hid (by omega)
        clear hbig
        go_wp2
        go_roundw
        case rel => exact ⟨k + 1, by have := HLT.out; omega, ⟨m, by go_num, HB.out, HM⟩, rfl⟩
        case measure => rw [World.iterPos_iter, World.iterPos_iter]; have := HLT.out; omega
    · have hnx := fun ty => run_next_end (P := Tryz.prog) w s k ty (by omega)
      have HS : Hid (sumP s.data.toList = n) := Lib.hid (by rw [HN.out, heq, List.take_of_length_le (by rw [HZ.out]; omega)])
      have HNB := Lib.hid hn
      clear heq
      go_wp2
      go_ret2
      exact ⟨by rw [HS.out, if_neg (by have := HNB.out; omega), decide_eq_true HNB.out]; rfl, (Below.alloc (Below.refl _ _) (Nat.le_refl _) _ : Below w.heap.size w (w.iter s _))⟩
/-- what number answers -/
def NumP (W : World) (B : Nat) (s : ByteArray) (r : St × PV) (w : World) (e : Ending) (w' : World) : Prop :=
  ∃ k n : Int, e = .returned (flat k n ⟨#[]⟩) ∧ r.2 = .mk k n ⟨#[]⟩ [] [] [] ∧ (Lit.int .i64 k).wf = true ∧ (Lit.int .i64 n).wf = true ∧ PSt W B s w' r.1 ∧ Fr (· = B) w w'
theorem num_end {W : World} {B R : Nat} {s : ByteArray} {r : St × PV} {k n : Int} {w w1 w2 : World} (hv : r.2 = .mk k n ⟨#[]⟩ [] [] [] ∧ (Lit.int .i64 k).wf = true ∧ (Lit.int .i64 n).wf = true) (hp : PSt W B s w1 r.1) (hR : Fr (· = R) w1 w2) (hf : Fr (· = B) w w1) (hw : R = w.heap.size ∧ B < w.heap.size ∧ W.heap.size ≤ w.heap.size) : NumP W B s r w (.returned (flat k n ⟨#[]⟩)) w2 := by
  refine ⟨k, n, rfl, hv.1, hv.2.1, hv.2.2, hp.fr hR (by omega) (fun b e => by omega), hf.trans_new hR (fun j hj e => by omega)⟩
noncomputable def nuC : Code := Tryz.f43.body.getD .skip
def nuAct (u : Nat → Value) : Act := ⟨#[u 0, u 1, u 2, u 3, u 4, u 5, u 6, u 7, u 8, u 9, u 10, u 11, u 12, u 13, u 14, u 15, u 16, u 17, u 18, u 19, u 20, u 21, u 22, u 23, u 24, u 25, u 26, u 27, u 28, u 29, u 30, u 31, u 32, u 33, u 34, u 35, u 36, u 37, u 38, u 39, u 40, u 41, u 42, u 43, u 44, u 45, u 46, u 47, u 48, u 49, u 50, u 51, u 52, u 53, u 54, u 55, u 56, u 57, u 58, u 59, u 60, u 61, u 62, u 63, u 64, u 65, u 66, u 67, u 68, u 69, u 70, u 71, u 72, u 73, u 74, u 75, u 76, u 77, u 78, u 79, u 80], []⟩
theorem nuact_lit (a : Act) (hs : a.tmps.size = 81) (hd : a.defers = []) : ∃ u : Nat → Value, (∀ k, a.tmps.getD k undef = u k) ∧ a = nuAct u := by
  refine ⟨fun k => a.tmps.getD k undef, fun _ => rfl, ?_⟩
  obtain ⟨t, d⟩ := a
  simp only at hs hd
  subst hd
  have h : t = ((List.range 81).map fun k => t.getD k undef).toArray := by
    apply Array.ext
    · simp [hs]
    · intro j h1 h2
      simp [Array.getD, h1]
  unfold nuAct
  congr 1
def partN : List Nat → Code → Code
  | [], c => c
  | 0 :: r, .seq a _ => partN r a
  | 1 :: r, .seq _ b => partN r b
  | 2 :: r, .block _ c => partN r c
  | 3 :: r, .loop c => partN r c
  | 4 :: r, .cond _ a _ => partN r a
  | 5 :: r, .cond _ _ b => partN r b
  | _, _ => .skip
def zeroV : List Value := [.int .i64 0, .int .i64 0, .string ⟨#[]⟩, .slice none 0 0, .slice none 0 0]
/-- behind the check of what follows: the number's sum -/
theorem wf_int {n : Int} (h : -9007199254740991 ≤ n ∧ n ≤ 9007199254740991) : (Lit.int .i64 n).wf = true := by
  simp only [Lit.wf, IntKind.min, IntKind.max, IntKind.signed, IntKind.bits, Bool.and_eq_true, decide_eq_true_eq, if_true]
  omega
theorem neg_wrap (n : Nat) (h : n ≤ 9007199254740991) : IntKind.i64.wrap (-(n : Int)) = -(n : Int) := IntWalk.i64_in _ (by omega)
set_option maxRecDepth 100000 in
set_option maxHeartbeats 8000000 in
theorem number_fin {W w wr : World} {B R : Nat} {s : ByteArray} {p q : St} {t : ByteArray} {mb : Bool} {r : St × PV} (u : Nat → Value) (hu0 : u 0 = .pointer (some ⟨B, 0, none⟩)) (hu2 : u 2 = .pointer (some ⟨R, 0, none⟩)) (hu3 : u 3 = .int .i64 (p.i : Int)) (hu4 : u 4 = .bool mb) (hu5 : u 5 = .string t)
    (hq : PSt W B s wr q) (hs : s.size ≤ 1000000) (hpi : p.i ≤ s.size) (hd : ∀ c ∈ t.data.toList, isDig c = true) (hK : Blk wr R 25 #[.int .i64 0, .int .i64 0, .string ⟨#[]⟩, .slice none 0 0, .slice none 0 0]) (hf : Fr (· = B) w wr) (hrn : R = w.heap.size ∧ B < w.heap.size ∧ W.heap.size ≤ w.heap.size)
    (hr : r = if 9007199254740991 < sumP t.data.toList then (q.fail p.i 52, pv0) else (q, .mk 3 (if mb then -(sumP t.data.toList : Int) else (sumP t.data.toList : Int)) ⟨#[]⟩ [] [] [])) :
    Code.wp Tryz.prog (partN [1, 1, 1, 1, 1, 1, 1] nuC) (bodyPost Tryz.prog Tryz.f43 (PF (NumP W B s r w))) (nuAct u) wr := by
  have HSM := Lib.hid (sum_any t wr hd)
  have HQ := Lib.hid hq
  have HK := Lib.hid hK
  have HF := Lib.hid hf
  have HRN := Lib.hid hrn
  unfold SmP at HSM
  obtain ⟨sm, hsm⟩ : ∃ sm, sm = sumP t.data.toList := ⟨_, rfl⟩
  rw [← hsm] at HSM hr
  clear hsm hd hq hK hf hrn
  by_cases hbig : 9007199254740991 < sm
  · rw [if_pos hbig] at hr HSM
    rw [decide_eq_false (by omega)] at HSM
    have HR := Lib.hid hr
    have HFL : Hid (∀ V, Below wr.heap.size wr V → Calls Tryz.prog 19 #[.pointer (some ⟨B, 0, none⟩), .int .i64 (p.i : Int), .int .i64 52] V fun e w' => PF (StpP W B s (.bool false) (q.fail p.i 52) V) e w') := Lib.hid (fun V hV => fail_any (HQ.out.below hV) p.i 52 hpi (by omega))
    clear hbig hr
    conv => arg 2; whnf
    unfold nuAct
    rw [hu0, hu2, hu3, hu4, hu5]
    clear hu0 hu2 hu3 hu4 hu5
    go_wp2_with fail
    refine HSM.out.mono ?_
    rintro e w1 ⟨rfl, hb1⟩
    have HB1 := Lib.hid hb1
    have HK1 := Lib.hid (HK.out.below hb1 HK.out.lt)
    clear hb1
    go_wp2_with fail
    refine (HFL.out w1 HB1.out).mono ?_
    rintro e w2 ⟨rfl, hp2, hf2⟩
    have HP2 : Hid (PSt W B s w2 r.1) := Lib.hid (by rw [HR.out]; exact hp2)
    have HF2 := Lib.hid (HF.out.trans ((Fr.of_below HB1.out).trans hf2))
    have HK2 : Hid (Blk w2 R 25 #[.int .i64 0, .int .i64 0, .string ⟨#[]⟩, .slice none 0 0, .slice none 0 0]) := Lib.hid (HK1.out.fr hf2 (by have := HRN.out; omega))
    clear hp2 hf2
    have z0 : w2.cell? ⟨R, 0, none⟩ = some (.int .i64 0) := HK2.out.cell 0
    have f0 : w2.frozen? ⟨R, 0, none⟩ = false := HK2.out.frozen 0
    have z1 : w2.cell? ⟨R, 1, none⟩ = some (.int .i64 0) := HK2.out.cell 1
    have f1 : w2.frozen? ⟨R, 1, none⟩ = false := HK2.out.frozen 1
    have z2 : w2.cell? ⟨R, 2, none⟩ = some (.string ⟨#[]⟩) := HK2.out.cell 2
    have f2 : w2.frozen? ⟨R, 2, none⟩ = false := HK2.out.frozen 2
    have z3 : w2.cell? ⟨R, 3, none⟩ = some (.slice none 0 0) := HK2.out.cell 3
    have f3 : w2.frozen? ⟨R, 3, none⟩ = false := HK2.out.frozen 3
    have z4 : w2.cell? ⟨R, 4, none⟩ = some (.slice none 0 0) := HK2.out.cell 4
    have f4 : w2.frozen? ⟨R, 4, none⟩ = false := HK2.out.frozen 4
    have HFK := Lib.hid (((((HK2.out.set_ 0 (.int .i64 0)).set_ 1 (.int .i64 0)).set_ 2 (.string ⟨#[]⟩)).set_ 3 (.slice none 0 0)).set_ 4 (.slice none 0 0))
    have HFR := Lib.hid ((((((Fr.refl (· = R) w2).setCell (p := ⟨R, 0, none⟩) (fun _ => rfl) (.int .i64 0)).setCell (p := ⟨R, 1, none⟩) (fun _ => rfl) (.int .i64 0)).setCell (p := ⟨R, 2, none⟩) (fun _ => rfl) (.string ⟨#[]⟩)).setCell (p := ⟨R, 3, none⟩) (fun _ => rfl) (.slice none 0 0)).setCell (p := ⟨R, 4, none⟩) (fun _ => rfl) (.slice none 0 0))
    go_wp2
    have k0 := HFK.out.cell 0
    have k1 := HFK.out.cell 1
    have k2 := HFK.out.cell 2
    have k3 := HFK.out.cell 3
    have k4 := HFK.out.cell 4
    simp at k0 k1 k2 k3 k4
    refine bodyPost_ret (v := flat 0 0 ⟨#[]⟩) (by simp [results, Tryz.results43, go_sem, k0, k1, k2, k3, k4, flat]) rfl ?_
    exact num_end ⟨by rw [HR.out]; rfl, rfl, rfl⟩ HP2.out HFR.out HF2.out HRN.out
  · rw [if_neg hbig] at hr HSM
    rw [decide_eq_true (by omega)] at HSM
    have HR := Lib.hid hr
    have HBG : Hid (sm ≤ 9007199254740991) := Lib.hid (by omega)
    have hng := neg_wrap sm (by omega)
    clear hbig hr
    cases mb with
    | true =>
      conv => arg 2; whnf
      unfold nuAct
      rw [hu0, hu2, hu3, hu4, hu5]
      clear hu0 hu2 hu3 hu4 hu5
      go_wp2_with fail
      refine HSM.out.mono ?_
      rintro e w1 ⟨rfl, hb1⟩
      have HB1 := Lib.hid hb1
      have HK1 := Lib.hid (HK.out.below hb1 HK.out.lt)
      clear hb1
      go_wp2_with fail
      refine (int_fl (-(sm : Int)) w1).mono ?_
      rintro e w2 ⟨rfl, hb2⟩
      have HB2 := Lib.hid (HB1.out.trans (hb2.mono HB1.out.size))
      have HK2 := Lib.hid (HK1.out.below hb2 HK1.out.lt)
      have HP2 : Hid (PSt W B s w2 r.1) := Lib.hid (by rw [HR.out]; exact HQ.out.below HB2.out)
      have HF2 := Lib.hid (HF.out.trans (Fr.of_below HB2.out))
      clear hb2 hng
      unfold flat
      have z0 : w2.cell? ⟨R, 0, none⟩ = some (.int .i64 0) := HK2.out.cell 0
      have f0 : w2.frozen? ⟨R, 0, none⟩ = false := HK2.out.frozen 0
      have z1 : w2.cell? ⟨R, 1, none⟩ = some (.int .i64 0) := HK2.out.cell 1
      have f1 : w2.frozen? ⟨R, 1, none⟩ = false := HK2.out.frozen 1
      have z2 : w2.cell? ⟨R, 2, none⟩ = some (.string ⟨#[]⟩) := HK2.out.cell 2
      have f2 : w2.frozen? ⟨R, 2, none⟩ = false := HK2.out.frozen 2
      have z3 : w2.cell? ⟨R, 3, none⟩ = some (.slice none 0 0) := HK2.out.cell 3
      have f3 : w2.frozen? ⟨R, 3, none⟩ = false := HK2.out.frozen 3
      have z4 : w2.cell? ⟨R, 4, none⟩ = some (.slice none 0 0) := HK2.out.cell 4
      have f4 : w2.frozen? ⟨R, 4, none⟩ = false := HK2.out.frozen 4
      have HFK := Lib.hid (((((HK2.out.set_ 0 (.int .i64 3)).set_ 1 (.int .i64 (-(sm : Int)))).set_ 2 (.string ⟨#[]⟩)).set_ 3 (.slice none 0 0)).set_ 4 (.slice none 0 0))
      have HFR := Lib.hid ((((((Fr.refl (· = R) w2).setCell (p := ⟨R, 0, none⟩) (fun _ => rfl) (.int .i64 3)).setCell (p := ⟨R, 1, none⟩) (fun _ => rfl) (.int .i64 (-(sm : Int)))).setCell (p := ⟨R, 2, none⟩) (fun _ => rfl) (.string ⟨#[]⟩)).setCell (p := ⟨R, 3, none⟩) (fun _ => rfl) (.slice none 0 0)).setCell (p := ⟨R, 4, none⟩) (fun _ => rfl) (.slice none 0 0))
      go_wp2
      have k0 := HFK.out.cell 0
      have k1 := HFK.out.cell 1
      have k2 := HFK.out.cell 2
      have k3 := HFK.out.cell 3
      have k4 := HFK.out.cell 4
      simp at k0 k1 k2 k3 k4
      refine bodyPost_ret (v := flat 3 (-(sm : Int)) ⟨#[]⟩) (by simp [results, Tryz.results43, go_sem, k0, k1, k2, k3, k4, flat]) rfl ?_
      exact num_end ⟨by rw [HR.out]; rfl, rfl, wf_int (by have := HBG.out; omega)⟩ HP2.out HFR.out HF2.out HRN.out
    | false =>
      conv => arg 2; whnf
      unfold nuAct
      rw [hu0, hu2, hu3, hu4, hu5]
      clear hu0 hu2 hu3 hu4 hu5
      go_wp2_with fail
      refine HSM.out.mono ?_
      rintro e w1 ⟨rfl, hb1⟩
      have HB1 := Lib.hid hb1
      have HK1 := Lib.hid (HK.out.below hb1 HK.out.lt)
      clear hb1
      go_wp2_with fail
      refine (int_fl (sm : Int) w1).mono ?_
      rintro e w2 ⟨rfl, hb2⟩
      have HB2 := Lib.hid (HB1.out.trans (hb2.mono HB1.out.size))
      have HK2 := Lib.hid (HK1.out.below hb2 HK1.out.lt)
      have HP2 : Hid (PSt W B s w2 r.1) := Lib.hid (by rw [HR.out]; exact HQ.out.below HB2.out)
      have HF2 := Lib.hid (HF.out.trans (Fr.of_below HB2.out))
      clear hb2 hng
      unfold flat
      have z0 : w2.cell? ⟨R, 0, none⟩ = some (.int .i64 0) := HK2.out.cell 0
      have f0 : w2.frozen? ⟨R, 0, none⟩ = false := HK2.out.frozen 0
      have z1 : w2.cell? ⟨R, 1, none⟩ = some (.int .i64 0) := HK2.out.cell 1
      have f1 : w2.frozen? ⟨R, 1, none⟩ = false := HK2.out.frozen 1
      have z2 : w2.cell? ⟨R, 2, none⟩ = some (.string ⟨#[]⟩) := HK2.out.cell 2
      have f2 : w2.frozen? ⟨R, 2, none⟩ = false := HK2.out.frozen 2
      have z3 : w2.cell? ⟨R, 3, none⟩ = some (.slice none 0 0) := HK2.out.cell 3
      have f3 : w2.frozen? ⟨R, 3, none⟩ = false := HK2.out.frozen 3
      have z4 : w2.cell? ⟨R, 4, none⟩ = some (.slice none 0 0) := HK2.out.cell 4
      have f4 : w2.frozen? ⟨R, 4, none⟩ = false := HK2.out.frozen 4
      have HFK := Lib.hid (((((HK2.out.set_ 0 (.int .i64 3)).set_ 1 (.int .i64 (sm : Int))).set_ 2 (.string ⟨#[]⟩)).set_ 3 (.slice none 0 0)).set_ 4 (.slice none 0 0))
      have HFR := Lib.hid ((((((Fr.refl (· = R) w2).setCell (p := ⟨R, 0, none⟩) (fun _ => rfl) (.int .i64 3)).setCell (p := ⟨R, 1, none⟩) (fun _ => rfl) (.int .i64 (sm : Int))).setCell (p := ⟨R, 2, none⟩) (fun _ => rfl) (.string ⟨#[]⟩)).setCell (p := ⟨R, 3, none⟩) (fun _ => rfl) (.slice none 0 0)).setCell (p := ⟨R, 4, none⟩) (fun _ => rfl) (.slice none 0 0))
      go_wp2
      have k0 := HFK.out.cell 0
      have k1 := HFK.out.cell 1
      have k2 := HFK.out.cell 2
      have k3 := HFK.out.cell 3
      have k4 := HFK.out.cell 4
      simp at k0 k1 k2 k3 k4
      refine bodyPost_ret (v := flat 3 (sm : Int) ⟨#[]⟩) (by simp [results, Tryz.results43, go_sem, k0, k1, k2, k3, k4, flat]) rfl ?_
      exact num_end ⟨by rw [HR.out]; rfl, rfl, wf_int (by have := HBG.out; omega)⟩ HP2.out HFR.out HF2.out HRN.out

theorem nu_add {W w : World} {B : Nat} {s : ByteArray} {q : St} (h : PSt W B s w q) {k : Nat} (hk : k ≤ q.r.length) (he : q.e = 0) : PSt W B s (w.setCell ⟨B, 1, none⟩ (.int .i64 ((q.i : Int) + k))) (q.adv k) := h.adv_ (w' := w) hk he
set_option maxRecDepth 100000 in
theorem idx_fl (c : UInt8) : (0 ≤ Lib.indexByte [46, 101, 69] c ↔ isFl (some c) = true) ∧ -1 ≤ Lib.indexByte [46, 101, 69] c ∧ Lib.indexByte [46, 101, 69] c ≤ 20 := by
  have : ∀ n : Fin 256, (0 ≤ Lib.indexByte [46, 101, 69] (UInt8.ofNat n.1) ↔ isFl (some (UInt8.ofNat n.1)) = true) ∧ -1 ≤ Lib.indexByte [46, 101, 69] (UInt8.ofNat n.1) ∧ Lib.indexByte [46, 101, 69] (UInt8.ofNat n.1) ≤ 20 := by decide
  exact all_u8 (p := fun c => (0 ≤ Lib.indexByte [46, 101, 69] c ↔ isFl (some c) = true) ∧ -1 ≤ Lib.indexByte [46, 101, 69] c ∧ Lib.indexByte [46, 101, 69] c ≤ 20) this c
set_option maxRecDepth 100000 in
set_option maxHeartbeats 8000000 in
/-- behind the check of the digits -/
theorem number_mid {W w wr : World} {B R : Nat} {s : ByteArray} {p q : St} {t : ByteArray} {mb : Bool} {r : St × PV} (u : Nat → Value) (hu0 : u 0 = .pointer (some ⟨B, 0, none⟩)) (hu2 : u 2 = .pointer (some ⟨R, 0, none⟩)) (hu3 : u 3 = .int .i64 (p.i : Int)) (hu4 : u 4 = .bool mb) (hu5 : u 5 = .string t)
    (hq : PSt W B s wr q) (hs : s.size ≤ 1000000) (hpi : p.i ≤ s.size) (hd : ∀ c ∈ t.data.toList, isDig c = true) (hK : Blk wr R 25 #[.int .i64 0, .int .i64 0, .string ⟨#[]⟩, .slice none 0 0, .slice none 0 0]) (hf : Fr (· = B) w wr) (hrn : R = w.heap.size ∧ B < w.heap.size ∧ W.heap.size ≤ w.heap.size) (he : q.e = 0) (htl : t.size ≤ q.r.length)
    (hr : r = if isFl (q.adv t.size).r.head? = true then ((q.adv t.size).fail (q.adv t.size).i 51, pv0) else if 9007199254740991 < sumP t.data.toList then ((q.adv t.size).fail p.i 52, pv0) else (q.adv t.size, .mk 3 (if mb then -(sumP t.data.toList : Int) else (sumP t.data.toList : Int)) ⟨#[]⟩ [] [] [])) :
    Code.wp Tryz.prog (partN [1, 1, 1, 1, 1] nuC) (bodyPost Tryz.prog Tryz.f43 (PF (NumP W B s r w))) (nuAct u) wr := by
  have HFIN : Hid (∀ (a : Act) (V : World), a.tmps.size = 81 → a.defers = [] → a.tmps.getD 0 undef = .pointer (some ⟨B, 0, none⟩) → a.tmps.getD 2 undef = .pointer (some ⟨R, 0, none⟩) → a.tmps.getD 3 undef = .int .i64 (p.i : Int) → a.tmps.getD 4 undef = .bool mb → a.tmps.getD 5 undef = .string t →
      PSt W B s V (q.adv t.size) → Blk V R 25 #[.int .i64 0, .int .i64 0, .string ⟨#[]⟩, .slice none 0 0, .slice none 0 0] → Fr (· = B) w V → (r = if 9007199254740991 < sumP t.data.toList then ((q.adv t.size).fail p.i 52, pv0) else (q.adv t.size, .mk 3 (if mb then -(sumP t.data.toList : Int) else (sumP t.data.toList : Int)) ⟨#[]⟩ [] [] [])) →
      Code.wp Tryz.prog (partN [1, 1, 1, 1, 1, 1, 1] nuC) (bodyPost Tryz.prog Tryz.f43 (PF (NumP W B s r w))) a V) := Lib.hid (by
    intro a V h1 h2 h3 h4 h5 h6 h7 h8 h9 h10 h11
    obtain ⟨v, hv', rfl⟩ := nuact_lit a h1 h2
    exact number_fin v ((hv' 0).symm.trans h3) ((hv' 2).symm.trans h4) ((hv' 3).symm.trans h5) ((hv' 4).symm.trans h6) ((hv' 5).symm.trans h7) h8 hs hpi hd h9 h10 hrn h11)
  have c1 : wr.cell? ⟨B, 1, none⟩ = some (.int .i64 q.i) := hq.blk.cell 1
  have f1 : wr.frozen? ⟨B, 1, none⟩ = false := hq.blk.frozen 1
  have hqi := hq.pi
  have hsum : q.i + t.size ≤ s.size := by
    have : q.r.length = s.size - q.i := by rw [hq.ok he, List.length_drop]; rfl
    omega
  have hw1 : IntKind.i64.wrap ((q.i : Int) + (t.size : Int)) = (q.i : Int) + (t.size : Int) := IntWalk.i64_in _ (by omega)
  obtain ⟨q2, hq2⟩ : ∃ q2, q2 = q.adv t.size := ⟨_, rfl⟩
  have hP2 := nu_add hq htl he
  rw [← hq2] at HFIN hr hP2
  obtain ⟨W2, hW2⟩ : ∃ W2, W2 = wr.setCell ⟨B, 1, none⟩ (.int .i64 ((q.i : Int) + t.size)) := ⟨_, rfl⟩
  rw [← hW2] at hP2
  have hK2 : Blk W2 R 25 #[.int .i64 0, .int .i64 0, .string ⟨#[]⟩, .slice none 0 0, .slice none 0 0] := by rw [hW2]; exact hK.fr frB (by omega)
  have hF2 : Fr (· = B) w W2 := by rw [hW2]; exact hf.trans frB
  have HR2 := Lib.hid (rest_any hP2 hs)
  have HP2 := Lib.hid hP2
  have HK2 := Lib.hid hK2
  have HF2 := Lib.hid hF2
  have HRN := Lib.hid hrn
  have HW2 := Lib.hid hW2
  have HR := Lib.hid hr
  have hrl := rs_list q2
  have hrz := rs_size q2
  clear hq hd hK hf hrn he htl hr hqi hsum hq2 hP2 hW2 hK2 hF2
  rw [show partN [1, 1, 1, 1, 1] nuC = (partN [1, 1, 1, 1, 1, 0] nuC).seq ((partN [1, 1, 1, 1, 1, 1, 0] nuC).seq (partN [1, 1, 1, 1, 1, 1, 1] nuC)) from rfl]
  generalize partN [1, 1, 1, 1, 1, 1, 1] nuC = KT at HFIN ⊢
  conv => arg 2; arg 1; whnf
  conv => arg 2; arg 2; arg 1; whnf
  unfold nuAct
  rw [hu0, hu2, hu3, hu4, hu5]
  clear hu0 hu2 hu3 hu4 hu5
  cases hx : q2.r with
  | nil =>
    rw [hx] at hrl hrz
    have hre : rs q2 = ⟨#[]⟩ := sz0 (by rw [hrz]; rfl)
    have HRE := Lib.hid hre
    have HR' : Hid (r = if 9007199254740991 < sumP t.data.toList then (q2.fail p.i 52, pv0) else (q2, .mk 3 (if mb then -(sumP t.data.toList : Int) else (sumP t.data.toList : Int)) ⟨#[]⟩ [] [] [])) := Lib.hid (by rw [HR.out, hx]; rfl)
    clear hre hrl hrz hx
    go_wp2_with fail
    rw [← HW2.out]
    refine HR2.out.mono ?_
    rintro e w3 ⟨rfl, hb3⟩
    rw [HRE.out]
    have HB3 := Lib.hid hb3
    clear hb3
    go_wp2
    exact HFIN.out _ _ rfl rfl rfl rfl rfl rfl rfl (HP2.out.below HB3.out) (HK2.out.below HB3.out HK2.out.lt) (HF2.out.below HB3.out) HR'.out
  | cons c x =>
    rw [hx] at hrl hrz
    have hpos : 0 < (rs q2).size := by rw [hrz]; simp
    have g0 : (rs q2)[0]'hpos = c := at_l hrl 0 hpos c rfl
    have g2 : (rs q2).toList.isEmpty = false := by rw [ByteArray.toList_eq, hrl]; rfl
    have HI := Lib.hid (fun w => idx_ge [46, 101, 69] c w (c.toNat : Int) rfl)
    have his := idx_fl c
    obtain ⟨ix, hix⟩ : ∃ ix, ix = Lib.indexByte [46, 101, 69] c := ⟨_, rfl⟩
    rw [← hix] at HI his
    have hfl : isFl q2.r.head? = isFl (some c) := by rw [hx]; rfl
    obtain ⟨tt, htt⟩ : ∃ tt, tt = rs q2 := ⟨_, rfl⟩
    unfold RstP at HR2
    rw [← htt] at HR2 hpos g2
    have g0' : tt[0]'hpos = c := by subst htt; exact g0
    have hts : (0 : Int) < (tt.size : Int) := by omega
    by_cases hge : 0 ≤ ix
    · have q0 : decide (ix ≥ 0) = true := decide_eq_true hge
      have q0' : decide (0 ≤ ix) = true := decide_eq_true hge
      have HR' : Hid (r = (q2.fail q2.i 51, pv0)) := Lib.hid (by rw [HR.out, if_pos (by rw [hfl]; exact his.1.1 hge)])
      have HFL : Hid (∀ V, Below W2.heap.size W2 V → Calls Tryz.prog 19 #[.pointer (some ⟨B, 0, none⟩), .int .i64 (q2.i : Int), .int .i64 51] V fun e w' => PF (StpP W B s (.bool false) (q2.fail q2.i 51) V) e w') := Lib.hid (fun V hV => fail_any (HP2.out.below hV) q2.i 51 HP2.out.pi (by omega))
      clear hrl hrz hx his hix hfl g0 htt hge
      go_wp2_with fail
      rw [← HW2.out]
      refine HR2.out.mono ?_
      rintro e w3 ⟨rfl, hb3⟩
      have HB3 := Lib.hid hb3
      have c3 : w3.cell? ⟨B, 1, none⟩ = some (.int .i64 q2.i) := (HP2.out.below hb3).blk.cell 1
      clear hb3
      go_wp2_with fail
      refine (HI.out w3).mono ?_
      rintro e w4 ⟨rfl, rfl⟩
      go_wp2_with fail
      refine (HFL.out w3 HB3.out).mono ?_
      rintro e w5 ⟨rfl, hp5, hf5⟩
      have HP5 : Hid (PSt W B s w5 r.1) := Lib.hid (by rw [HR'.out]; exact hp5)
      have HF5 := Lib.hid (HF2.out.trans ((Fr.of_below HB3.out).trans hf5))
      have HK5 : Hid (Blk w5 R 25 #[.int .i64 0, .int .i64 0, .string ⟨#[]⟩, .slice none 0 0, .slice none 0 0]) := Lib.hid ((HK2.out.below HB3.out HK2.out.lt).fr hf5 (by have := HRN.out; omega))
      clear hp5 hf5
      have z0 : w5.cell? ⟨R, 0, none⟩ = some (.int .i64 0) := HK5.out.cell 0
      have f0 : w5.frozen? ⟨R, 0, none⟩ = false := HK5.out.frozen 0
      have z1 : w5.cell? ⟨R, 1, none⟩ = some (.int .i64 0) := HK5.out.cell 1
      have f1 : w5.frozen? ⟨R, 1, none⟩ = false := HK5.out.frozen 1
      have z2 : w5.cell? ⟨R, 2, none⟩ = some (.string ⟨#[]⟩) := HK5.out.cell 2
      have f2 : w5.frozen? ⟨R, 2, none⟩ = false := HK5.out.frozen 2
      have z3 : w5.cell? ⟨R, 3, none⟩ = some (.slice none 0 0) := HK5.out.cell 3
      have f3 : w5.frozen? ⟨R, 3, none⟩ = false := HK5.out.frozen 3
      have z4 : w5.cell? ⟨R, 4, none⟩ = some (.slice none 0 0) := HK5.out.cell 4
      have f4 : w5.frozen? ⟨R, 4, none⟩ = false := HK5.out.frozen 4
      have HFK := Lib.hid (((((HK5.out.set_ 0 (.int .i64 0)).set_ 1 (.int .i64 0)).set_ 2 (.string ⟨#[]⟩)).set_ 3 (.slice none 0 0)).set_ 4 (.slice none 0 0))
      have HFR := Lib.hid ((((((Fr.refl (· = R) w5).setCell (p := ⟨R, 0, none⟩) (fun _ => rfl) (.int .i64 0)).setCell (p := ⟨R, 1, none⟩) (fun _ => rfl) (.int .i64 0)).setCell (p := ⟨R, 2, none⟩) (fun _ => rfl) (.string ⟨#[]⟩)).setCell (p := ⟨R, 3, none⟩) (fun _ => rfl) (.slice none 0 0)).setCell (p := ⟨R, 4, none⟩) (fun _ => rfl) (.slice none 0 0))
      go_wp2
      have k0 := HFK.out.cell 0
      have k1 := HFK.out.cell 1
      have k2 := HFK.out.cell 2
      have k3 := HFK.out.cell 3
      have k4 := HFK.out.cell 4
      simp at k0 k1 k2 k3 k4
      refine bodyPost_ret (v := flat 0 0 ⟨#[]⟩) (by simp [results, Tryz.results43, go_sem, k0, k1, k2, k3, k4, flat]) rfl ?_
      exact num_end ⟨by rw [HR'.out]; rfl, rfl, rfl⟩ HP5.out HFR.out HF5.out HRN.out
    · have q0 : decide (ix ≥ 0) = false := decide_eq_false hge
      have q0' : decide (0 ≤ ix) = false := decide_eq_false hge
      have HR' : Hid (r = if 9007199254740991 < sumP t.data.toList then (q2.fail p.i 52, pv0) else (q2, .mk 3 (if mb then -(sumP t.data.toList : Int) else (sumP t.data.toList : Int)) ⟨#[]⟩ [] [] [])) := Lib.hid (by rw [HR.out, if_neg (by rw [hfl]; exact fun q => hge (his.1.2 q))])
      clear hrl hrz hx his hix hfl g0 htt hge
      go_wp2_with fail
      rw [← HW2.out]
      refine HR2.out.mono ?_
      rintro e w3 ⟨rfl, hb3⟩
      have HB3 := Lib.hid hb3
      clear hb3
      go_wp2_with fail
      refine (HI.out w3).mono ?_
      rintro e w4 ⟨rfl, rfl⟩
      go_wp2
      exact HFIN.out _ _ rfl rfl rfl rfl rfl rfl rfl (HP2.out.below HB3.out) (HK2.out.below HB3.out HK2.out.lt) (HF2.out.below HB3.out) HR'.out

set_option maxRecDepth 100000 in
set_option maxHeartbeats 16000000 in
theorem number_any {W w : World} {B : Nat} {s : ByteArray} {p : St} (h : PSt W B s w p) (hs : s.size ≤ 1000000) (he : p.e = 0) : Calls Tryz.prog 43 #[.pointer (some ⟨B, 0, none⟩)] w fun e w' => PF (NumP W B s (numP p) w) e w' := by
  obtain ⟨q, hq⟩ : ∃ q, q = (p.eat 45).2 := ⟨_, rfl⟩
  obtain ⟨mb, hmb⟩ : ∃ mb, mb = (p.eat 45).1 := ⟨_, rfl⟩
  have hqe : q.e = 0 := by rw [hq, eat_e]; exact he
  obtain ⟨W0, hW0⟩ : ∃ W0, W0 = w.alloc (.cells #[.int .i64 0, .int .i64 0, .string ⟨#[]⟩, .slice none 0 0, .slice none 0 0] 25) := ⟨_, rfl⟩
  have hb0 : Below w.heap.size w W0 := by rw [hW0]; exact (Below.refl _ _).alloc (Nat.le_refl _) _
  have hk0 : Blk W0 w.heap.size 25 #[.int .i64 0, .int .i64 0, .string ⟨#[]⟩, .slice none 0 0, .slice none 0 0] := by rw [hW0]; exact Blk.new _ _ _
  have h0 := h.below hb0
  have c1 : W0.cell? ⟨B, 1, none⟩ = some (.int .i64 p.i) := h0.blk.cell 1
  rw [hW0] at c1
  have hea := eat_any h0 hs 45
  rw [← hq, ← hmb] at hea
  have HE := Lib.hid hea
  have hrn : w.heap.size = w.heap.size ∧ B < w.heap.size ∧ W.heap.size ≤ w.heap.size := ⟨rfl, h.blk.lt, h.bel.size⟩
  have HRN := Lib.hid hrn
  obtain ⟨k, hk⟩ : ∃ k, k = (q.r.takeWhile isDig).length := ⟨_, rfl⟩
  obtain ⟨t, ht⟩ : ∃ t, t = (rs q).extract 0 k := ⟨_, rfl⟩
  have hkl : k ≤ q.r.length := by rw [hk]; exact run_le _
  have htl : t.data.toList = q.r.takeWhile isDig := by
    rw [ht]
    have : ((rs q).extract 0 k).data.toList = (rs q).data.toList.take k := by simp [List.extract]
    rw [this, rs_list, hk]
    exact (List.prefix_iff_eq_take.1 (List.takeWhile_prefix isDig)).symm
  have hts : t.size = k := by
    have : t.size = t.data.toList.length := rfl
    rw [this, htl, ← hk]
  have HRS : Hid (∀ V, PSt W B s V q → Calls Tryz.prog 18 #[.pointer (some ⟨B, 0, none⟩)] V fun e w' => PF (RstP q V) e w') := Lib.hid (fun V hV => rest_any hV hs)
  have HRU : Hid (∀ V, PSt W B s V q → Calls Tryz.prog 66 #[.pointer (some ⟨B, 0, none⟩)] V fun e w' => PF (RunP k V) e w') := Lib.hid (fun V hV => by rw [hk]; exact run_any hV hs)
  have HFL : Hid (∀ V, PSt W B s V q → Calls Tryz.prog 19 #[.pointer (some ⟨B, 0, none⟩), .int .i64 (p.i : Int), .int .i64 50] V fun e w' => PF (StpP W B s (.bool false) (q.fail p.i 50) V) e w') := Lib.hid (fun V hV => fail_any hV p.i 50 h.pi (by omega))
  obtain ⟨r, hr⟩ : ∃ r, r = numP p := ⟨_, rfl⟩
  rw [← hr]
  have hnp : r = if q.r.takeWhile isDig = [] ∨ ((q.r.takeWhile isDig).head? = some 48 ∧ (mb = true ∨ 1 < (q.r.takeWhile isDig).length)) then (q.fail p.i 50, pv0) else if isFl (q.adv t.size).r.head? = true then ((q.adv t.size).fail (q.adv t.size).i 51, pv0) else if 9007199254740991 < sumP t.data.toList then ((q.adv t.size).fail p.i 52, pv0) else (q.adv t.size, .mk 3 (if mb then -(sumP t.data.toList : Int) else (sumP t.data.toList : Int)) ⟨#[]⟩ [] [] []) := by
    rw [hr, htl, hts, hk, hq, hmb]
    rfl
  have hdg : ∀ c ∈ t.data.toList, isDig c = true := by
    rw [htl]
    intro c hc
    have : ∀ l : List UInt8, ∀ c ∈ l.takeWhile isDig, isDig c = true := fun l => by
      induction l with
      | nil => intro c hc; cases hc
      | cons x l ih =>
        intro c hc
        cases hx : isDig x with
        | false => rw [List.takeWhile_cons_of_neg (by simp [hx])] at hc; cases hc
        | true =>
          rw [List.takeWhile_cons_of_pos hx] at hc
          rcases List.mem_cons.1 hc with rfl | hc
          · exact hx
          · exact ih c hc
    exact this _ c hc
  have HMID : Hid (∀ (a : Act) (V : World), a.tmps.size = 81 → a.defers = [] → a.tmps.getD 0 undef = .pointer (some ⟨B, 0, none⟩) → a.tmps.getD 2 undef = .pointer (some ⟨w.heap.size, 0, none⟩) → a.tmps.getD 3 undef = .int .i64 (p.i : Int) → a.tmps.getD 4 undef = .bool mb → a.tmps.getD 5 undef = .string t →
      PSt W B s V q → Blk V w.heap.size 25 #[.int .i64 0, .int .i64 0, .string ⟨#[]⟩, .slice none 0 0, .slice none 0 0] → Fr (· = B) w V → (r = if isFl (q.adv t.size).r.head? = true then ((q.adv t.size).fail (q.adv t.size).i 51, pv0) else if 9007199254740991 < sumP t.data.toList then ((q.adv t.size).fail p.i 52, pv0) else (q.adv t.size, .mk 3 (if mb then -(sumP t.data.toList : Int) else (sumP t.data.toList : Int)) ⟨#[]⟩ [] [] [])) →
      Code.wp Tryz.prog (partN [1, 1, 1, 1, 1] nuC) (bodyPost Tryz.prog Tryz.f43 (PF (NumP W B s r w))) a V) := Lib.hid (by
    intro a V h1 h2 h3 h4 h5 h6 h7 h8 h9 h10 h11
    obtain ⟨v, hv', rfl⟩ := nuact_lit a h1 h2
    exact number_mid v ((hv' 0).symm.trans h3) ((hv' 2).symm.trans h4) ((hv' 3).symm.trans h5) ((hv' 4).symm.trans h6) ((hv' 5).symm.trans h7) h8 hs h.pi hdg h9 h10 hrn hqe (by rw [hts]; exact hkl) h11)
  have HB0 := Lib.hid hb0
  have HK0 := Lib.hid hk0
  have HW0 := Lib.hid hW0
  have hrz := rs_size q
  have hk0' : (0 : Int) ≤ (k : Int) := by omega
  have hk1 : (k : Int) ≤ ((rs q).size : Int) := by rw [hrz]; omega
  rw [← htl] at hnp
  clear hea hq hmb hqe hb0 hk0 hW0 h0 hrn hk hkl htl hrz hdg h he hr
  have hext : (rs q).extract 0 k = t := ht.symm
  clear ht
  cases hx : t.data.toList with
  | nil =>
    have hte : t = ⟨#[]⟩ := sz0 (by have : t.size = t.data.toList.length := rfl; rw [this, hx]; rfl)
    have HR' : Hid (r = (q.fail p.i 50, pv0)) := Lib.hid (by rw [hnp, if_pos (.inl hx)])
    clear hnp hx hts
    subst hte
    refine calls_of_wp Tryz.func43 (c := nuC) rfl ?_
    simp only [Tryz.ntmps43, List.size_toArray, List.length_cons, List.length_nil, Nat.reduceAdd, Nat.reduceSub, Array.replicate_succ, Array.replicate_zero, List.push_toArray, List.append_toArray, List.nil_append, List.cons_append]
    rw [show nuC = (partN [0] nuC).seq ((partN [1, 0] nuC).seq ((partN [1, 1, 0] nuC).seq ((partN [1, 1, 1, 0] nuC).seq ((partN [1, 1, 1, 1, 0] nuC).seq (partN [1, 1, 1, 1, 1] nuC))))) from rfl]
    generalize partN [1, 1, 1, 1, 1] nuC = KT at HMID ⊢
    conv => arg 2; arg 1; whnf
    conv => arg 2; arg 2; arg 1; whnf
    conv => arg 2; arg 2; arg 2; arg 1; whnf
    conv => arg 2; arg 2; arg 2; arg 2; arg 1; whnf
    conv => arg 2; arg 2; arg 2; arg 2; arg 2; arg 1; whnf
    go_wp2_with fail
    rw [← HW0.out]
    refine HE.out.mono ?_
    rintro e w1 ⟨rfl, hp1, hf1⟩
    have HP1 := Lib.hid hp1
    have HF1 : Hid (Fr (· = B) w w1) := Lib.hid ((Fr.of_below HB0.out).trans hf1)
    have HK1 : Hid (Blk w1 w.heap.size 25 #[.int .i64 0, .int .i64 0, .string ⟨#[]⟩, .slice none 0 0, .slice none 0 0]) := Lib.hid (HK0.out.fr hf1 (by have := HRN.out; omega))
    clear hp1 hf1
    go_wp2_with fail
    refine (HRS.out w1 HP1.out).mono ?_
    rintro e w2 ⟨rfl, hb2⟩
    have HB2 := Lib.hid hb2
    have HP2 := Lib.hid (HP1.out.below hb2)
    clear hb2
    go_wp2_with fail
    refine (HRU.out w2 HP2.out).mono ?_
    rintro e w3 ⟨rfl, hb3⟩
    have HB3 := Lib.hid (HB2.out.trans (hb3.mono HB2.out.size))
    have HP3 := Lib.hid (HP1.out.below HB3.out)
    have HK3 := Lib.hid (HK1.out.below HB3.out HK1.out.lt)
    have HF3 := Lib.hid (HF1.out.below HB3.out)
    clear hb3
    go_wp2_with fail
    refine (HFL.out w3 HP3.out).mono ?_
    rintro e w5 ⟨rfl, hp5, hf5⟩
    have HP5 : Hid (PSt W B s w5 r.1) := Lib.hid (by rw [HR'.out]; exact hp5)
    have HF5 := Lib.hid (HF3.out.trans hf5)
    have HK5 : Hid (Blk w5 w.heap.size 25 #[.int .i64 0, .int .i64 0, .string ⟨#[]⟩, .slice none 0 0, .slice none 0 0]) := Lib.hid (HK3.out.fr hf5 (by have := HRN.out; omega))
    clear hp5 hf5
    have z0 : w5.cell? ⟨w.heap.size, 0, none⟩ = some (.int .i64 0) := HK5.out.cell 0
    have f0 : w5.frozen? ⟨w.heap.size, 0, none⟩ = false := HK5.out.frozen 0
    have z1 : w5.cell? ⟨w.heap.size, 1, none⟩ = some (.int .i64 0) := HK5.out.cell 1
    have f1 : w5.frozen? ⟨w.heap.size, 1, none⟩ = false := HK5.out.frozen 1
    have z2 : w5.cell? ⟨w.heap.size, 2, none⟩ = some (.string ⟨#[]⟩) := HK5.out.cell 2
    have f2 : w5.frozen? ⟨w.heap.size, 2, none⟩ = false := HK5.out.frozen 2
    have z3 : w5.cell? ⟨w.heap.size, 3, none⟩ = some (.slice none 0 0) := HK5.out.cell 3
    have f3 : w5.frozen? ⟨w.heap.size, 3, none⟩ = false := HK5.out.frozen 3
    have z4 : w5.cell? ⟨w.heap.size, 4, none⟩ = some (.slice none 0 0) := HK5.out.cell 4
    have f4 : w5.frozen? ⟨w.heap.size, 4, none⟩ = false := HK5.out.frozen 4
    have HFK := Lib.hid (((((HK5.out.set_ 0 (.int .i64 0)).set_ 1 (.int .i64 0)).set_ 2 (.string ⟨#[]⟩)).set_ 3 (.slice none 0 0)).set_ 4 (.slice none 0 0))
    have HFR := Lib.hid ((((((Fr.refl (· = w.heap.size) w5).setCell (p := ⟨w.heap.size, 0, none⟩) (fun _ => rfl) (.int .i64 0)).setCell (p := ⟨w.heap.size, 1, none⟩) (fun _ => rfl) (.int .i64 0)).setCell (p := ⟨w.heap.size, 2, none⟩) (fun _ => rfl) (.string ⟨#[]⟩)).setCell (p := ⟨w.heap.size, 3, none⟩) (fun _ => rfl) (.slice none 0 0)).setCell (p := ⟨w.heap.size, 4, none⟩) (fun _ => rfl) (.slice none 0 0))
    go_wp2
    have k0 := HFK.out.cell 0
    have k1 := HFK.out.cell 1
    have k2 := HFK.out.cell 2
    have k3 := HFK.out.cell 3
    have k4 := HFK.out.cell 4
    simp at k0 k1 k2 k3 k4
    refine bodyPost_ret (v := flat 0 0 ⟨#[]⟩) (by simp [results, Tryz.results43, go_sem, k0, k1, k2, k3, k4, flat]) rfl ?_
    exact num_end ⟨by rw [HR'.out]; rfl, rfl, rfl⟩ HP5.out HFR.out HF5.out ⟨rfl, HRN.out.2⟩
  | cons c x =>
    have hpos : 0 < t.size := by have : t.size = t.data.toList.length := rfl; rw [this, hx]; simp
    have g0 : t[0]'hpos = c := at_l hx 0 hpos c rfl
    have g2 : t.toList.isEmpty = false := by rw [ByteArray.toList_eq, hx]; rfl
    have hz : t.size = t.data.toList.length := rfl
    have hti : (0 : Int) < (t.size : Int) := by omega
    by_cases hc : c = 48
    · have q0 : ((c.toNat : Int) == 48) = true := by rw [hc]; rfl
      have hh : t.data.toList.head? = some 48 := by rw [hx, hc]; rfl
      cases mb with
      | true =>
        have HR' : Hid (r = (q.fail p.i 50, pv0)) := Lib.hid (by rw [hnp, if_pos (.inr ⟨hh, .inl rfl⟩)])
        clear hnp hx hts hz hc hh
        refine calls_of_wp Tryz.func43 (c := nuC) rfl ?_
        simp only [Tryz.ntmps43, List.size_toArray, List.length_cons, List.length_nil, Nat.reduceAdd, Nat.reduceSub, Array.replicate_succ, Array.replicate_zero, List.push_toArray, List.append_toArray, List.nil_append, List.cons_append]
        rw [show nuC = (partN [0] nuC).seq ((partN [1, 0] nuC).seq ((partN [1, 1, 0] nuC).seq ((partN [1, 1, 1, 0] nuC).seq ((partN [1, 1, 1, 1, 0] nuC).seq (partN [1, 1, 1, 1, 1] nuC))))) from rfl]
        generalize partN [1, 1, 1, 1, 1] nuC = KT at HMID ⊢
        conv => arg 2; arg 1; whnf
        conv => arg 2; arg 2; arg 1; whnf
        conv => arg 2; arg 2; arg 2; arg 1; whnf
        conv => arg 2; arg 2; arg 2; arg 2; arg 1; whnf
        conv => arg 2; arg 2; arg 2; arg 2; arg 2; arg 1; whnf
        go_wp2_with fail
        rw [← HW0.out]
        refine HE.out.mono ?_
        rintro e w1 ⟨rfl, hp1, hf1⟩
        have HP1 := Lib.hid hp1
        have HF1 : Hid (Fr (· = B) w w1) := Lib.hid ((Fr.of_below HB0.out).trans hf1)
        have HK1 : Hid (Blk w1 w.heap.size 25 #[.int .i64 0, .int .i64 0, .string ⟨#[]⟩, .slice none 0 0, .slice none 0 0]) := Lib.hid (HK0.out.fr hf1 (by have := HRN.out; omega))
        clear hp1 hf1
        go_wp2_with fail
        refine (HRS.out w1 HP1.out).mono ?_
        rintro e w2 ⟨rfl, hb2⟩
        have HB2 := Lib.hid hb2
        have HP2 := Lib.hid (HP1.out.below hb2)
        clear hb2
        go_wp2_with fail
        refine (HRU.out w2 HP2.out).mono ?_
        rintro e w3 ⟨rfl, hb3⟩
        have HB3 := Lib.hid (HB2.out.trans (hb3.mono HB2.out.size))
        have HP3 := Lib.hid (HP1.out.below HB3.out)
        have HK3 := Lib.hid (HK1.out.below HB3.out HK1.out.lt)
        have HF3 := Lib.hid (HF1.out.below HB3.out)
        clear hb3
        go_wp2_with fail
        refine (HFL.out w3 HP3.out).mono ?_
        rintro e w5 ⟨rfl, hp5, hf5⟩
        have HP5 : Hid (PSt W B s w5 r.1) := Lib.hid (by rw [HR'.out]; exact hp5)
        have HF5 := Lib.hid (HF3.out.trans hf5)
        have HK5 : Hid (Blk w5 w.heap.size 25 #[.int .i64 0, .int .i64 0, .string ⟨#[]⟩, .slice none 0 0, .slice none 0 0]) := Lib.hid (HK3.out.fr hf5 (by have := HRN.out; omega))
        clear hp5 hf5
        have z0 : w5.cell? ⟨w.heap.size, 0, none⟩ = some (.int .i64 0) := HK5.out.cell 0
        have f0 : w5.frozen? ⟨w.heap.size, 0, none⟩ = false := HK5.out.frozen 0
        have z1 : w5.cell? ⟨w.heap.size, 1, none⟩ = some (.int .i64 0) := HK5.out.cell 1
        have f1 : w5.frozen? ⟨w.heap.size, 1, none⟩ = false := HK5.out.frozen 1
        have z2 : w5.cell? ⟨w.heap.size, 2, none⟩ = some (.string ⟨#[]⟩) := HK5.out.cell 2
        have f2 : w5.frozen? ⟨w.heap.size, 2, none⟩ = false := HK5.out.frozen 2
        have z3 : w5.cell? ⟨w.heap.size, 3, none⟩ = some (.slice none 0 0) := HK5.out.cell 3
        have f3 : w5.frozen? ⟨w.heap.size, 3, none⟩ = false := HK5.out.frozen 3
        have z4 : w5.cell? ⟨w.heap.size, 4, none⟩ = some (.slice none 0 0) := HK5.out.cell 4
        have f4 : w5.frozen? ⟨w.heap.size, 4, none⟩ = false := HK5.out.frozen 4
        have HFK := Lib.hid (((((HK5.out.set_ 0 (.int .i64 0)).set_ 1 (.int .i64 0)).set_ 2 (.string ⟨#[]⟩)).set_ 3 (.slice none 0 0)).set_ 4 (.slice none 0 0))
        have HFR := Lib.hid ((((((Fr.refl (· = w.heap.size) w5).setCell (p := ⟨w.heap.size, 0, none⟩) (fun _ => rfl) (.int .i64 0)).setCell (p := ⟨w.heap.size, 1, none⟩) (fun _ => rfl) (.int .i64 0)).setCell (p := ⟨w.heap.size, 2, none⟩) (fun _ => rfl) (.string ⟨#[]⟩)).setCell (p := ⟨w.heap.size, 3, none⟩) (fun _ => rfl) (.slice none 0 0)).setCell (p := ⟨w.heap.size, 4, none⟩) (fun _ => rfl) (.slice none 0 0))
        go_wp2
        have k0 := HFK.out.cell 0
        have k1 := HFK.out.cell 1
        have k2 := HFK.out.cell 2
        have k3 := HFK.out.cell 3
        have k4 := HFK.out.cell 4
        simp at k0 k1 k2 k3 k4
        refine bodyPost_ret (v := flat 0 0 ⟨#[]⟩) (by simp [results, Tryz.results43, go_sem, k0, k1, k2, k3, k4, flat]) rfl ?_
        exact num_end ⟨by rw [HR'.out]; rfl, rfl, rfl⟩ HP5.out HFR.out HF5.out ⟨rfl, HRN.out.2⟩
      | false =>
        by_cases h1 : 1 < t.size
        · have q1 : decide ((t.size : Int) > 1) = true := by rw [decide_eq_true_iff]; omega
          have q1' : decide ((1 : Int) < (t.size : Int)) = true := by rw [decide_eq_true_iff]; omega
          have q1'' : decide (1 < t.size) = true := by rw [decide_eq_true_iff]; omega
          have HR' : Hid (r = (q.fail p.i 50, pv0)) := Lib.hid (by rw [hnp, if_pos (.inr ⟨hh, .inr (by rw [← hz]; exact h1)⟩)])
          clear hnp hx hts hz hc hh h1
          refine calls_of_wp Tryz.func43 (c := nuC) rfl ?_
          simp only [Tryz.ntmps43, List.size_toArray, List.length_cons, List.length_nil, Nat.reduceAdd, Nat.reduceSub, Array.replicate_succ, Array.replicate_zero, List.push_toArray, List.append_toArray, List.nil_append, List.cons_append]
          rw [show nuC = (partN [0] nuC).seq ((partN [1, 0] nuC).seq ((partN [1, 1, 0] nuC).seq ((partN [1, 1, 1, 0] nuC).seq ((partN [1, 1, 1, 1, 0] nuC).seq (partN [1, 1, 1, 1, 1] nuC))))) from rfl]
          generalize partN [1, 1, 1, 1, 1] nuC = KT at HMID ⊢
          conv => arg 2; arg 1; whnf
          conv => arg 2; arg 2; arg 1; whnf
          conv => arg 2; arg 2; arg 2; arg 1; whnf
          conv => arg 2; arg 2; arg 2; arg 2; arg 1; whnf
          conv => arg 2; arg 2; arg 2; arg 2; arg 2; arg 1; whnf
          go_wp2_with fail
          rw [← HW0.out]
          refine HE.out.mono ?_
          rintro e w1 ⟨rfl, hp1, hf1⟩
          have HP1 := Lib.hid hp1
          have HF1 : Hid (Fr (· = B) w w1) := Lib.hid ((Fr.of_below HB0.out).trans hf1)
          have HK1 : Hid (Blk w1 w.heap.size 25 #[.int .i64 0, .int .i64 0, .string ⟨#[]⟩, .slice none 0 0, .slice none 0 0]) := Lib.hid (HK0.out.fr hf1 (by have := HRN.out; omega))
          clear hp1 hf1
          go_wp2_with fail
          refine (HRS.out w1 HP1.out).mono ?_
          rintro e w2 ⟨rfl, hb2⟩
          have HB2 := Lib.hid hb2
          have HP2 := Lib.hid (HP1.out.below hb2)
          clear hb2
          go_wp2_with fail
          refine (HRU.out w2 HP2.out).mono ?_
          rintro e w3 ⟨rfl, hb3⟩
          have HB3 := Lib.hid (HB2.out.trans (hb3.mono HB2.out.size))
          have HP3 := Lib.hid (HP1.out.below HB3.out)
          have HK3 := Lib.hid (HK1.out.below HB3.out HK1.out.lt)
          have HF3 := Lib.hid (HF1.out.below HB3.out)
          clear hb3
          go_wp2_with fail
          refine (HFL.out w3 HP3.out).mono ?_
          rintro e w5 ⟨rfl, hp5, hf5⟩
          have HP5 : Hid (PSt W B s w5 r.1) := Lib.hid (by rw [HR'.out]; exact hp5)
          have HF5 := Lib.hid (HF3.out.trans hf5)
          have HK5 : Hid (Blk w5 w.heap.size 25 #[.int .i64 0, .int .i64 0, .string ⟨#[]⟩, .slice none 0 0, .slice none 0 0]) := Lib.hid (HK3.out.fr hf5 (by have := HRN.out; omega))
          clear hp5 hf5
          have z0 : w5.cell? ⟨w.heap.size, 0, none⟩ = some (.int .i64 0) := HK5.out.cell 0
          have f0 : w5.frozen? ⟨w.heap.size, 0, none⟩ = false := HK5.out.frozen 0
          have z1 : w5.cell? ⟨w.heap.size, 1, none⟩ = some (.int .i64 0) := HK5.out.cell 1
          have f1 : w5.frozen? ⟨w.heap.size, 1, none⟩ = false := HK5.out.frozen 1
          have z2 : w5.cell? ⟨w.heap.size, 2, none⟩ = some (.string ⟨#[]⟩) := HK5.out.cell 2
          have f2 : w5.frozen? ⟨w.heap.size, 2, none⟩ = false := HK5.out.frozen 2
          have z3 : w5.cell? ⟨w.heap.size, 3, none⟩ = some (.slice none 0 0) := HK5.out.cell 3
          have f3 : w5.frozen? ⟨w.heap.size, 3, none⟩ = false := HK5.out.frozen 3
          have z4 : w5.cell? ⟨w.heap.size, 4, none⟩ = some (.slice none 0 0) := HK5.out.cell 4
          have f4 : w5.frozen? ⟨w.heap.size, 4, none⟩ = false := HK5.out.frozen 4
          have HFK := Lib.hid (((((HK5.out.set_ 0 (.int .i64 0)).set_ 1 (.int .i64 0)).set_ 2 (.string ⟨#[]⟩)).set_ 3 (.slice none 0 0)).set_ 4 (.slice none 0 0))
          have HFR := Lib.hid ((((((Fr.refl (· = w.heap.size) w5).setCell (p := ⟨w.heap.size, 0, none⟩) (fun _ => rfl) (.int .i64 0)).setCell (p := ⟨w.heap.size, 1, none⟩) (fun _ => rfl) (.int .i64 0)).setCell (p := ⟨w.heap.size, 2, none⟩) (fun _ => rfl) (.string ⟨#[]⟩)).setCell (p := ⟨w.heap.size, 3, none⟩) (fun _ => rfl) (.slice none 0 0)).setCell (p := ⟨w.heap.size, 4, none⟩) (fun _ => rfl) (.slice none 0 0))
          go_wp2
          have k0 := HFK.out.cell 0
          have k1 := HFK.out.cell 1
          have k2 := HFK.out.cell 2
          have k3 := HFK.out.cell 3
          have k4 := HFK.out.cell 4
          simp at k0 k1 k2 k3 k4
          refine bodyPost_ret (v := flat 0 0 ⟨#[]⟩) (by simp [results, Tryz.results43, go_sem, k0, k1, k2, k3, k4, flat]) rfl ?_
          exact num_end ⟨by rw [HR'.out]; rfl, rfl, rfl⟩ HP5.out HFR.out HF5.out ⟨rfl, HRN.out.2⟩
        · have q1 : decide ((t.size : Int) > 1) = false := by rw [decide_eq_false_iff_not]; omega
          have q1' : decide ((1 : Int) < (t.size : Int)) = false := by rw [decide_eq_false_iff_not]; omega
          have q1'' : decide (1 < t.size) = false := by rw [decide_eq_false_iff_not]; omega
          have HR' := Lib.hid (hnp.trans (if_neg (by
            rintro (q | ⟨_, q | q⟩)
            · rw [hx] at q; cases q
            · cases q
            · rw [← hz] at q; exact h1 q)))
          clear hnp hx hts hz hc hh h1
          refine calls_of_wp Tryz.func43 (c := nuC) rfl ?_
          simp only [Tryz.ntmps43, List.size_toArray, List.length_cons, List.length_nil, Nat.reduceAdd, Nat.reduceSub, Array.replicate_succ, Array.replicate_zero, List.push_toArray, List.append_toArray, List.nil_append, List.cons_append]
          rw [show nuC = (partN [0] nuC).seq ((partN [1, 0] nuC).seq ((partN [1, 1, 0] nuC).seq ((partN [1, 1, 1, 0] nuC).seq ((partN [1, 1, 1, 1, 0] nuC).seq (partN [1, 1, 1, 1, 1] nuC))))) from rfl]
          generalize partN [1, 1, 1, 1, 1] nuC = KT at HMID ⊢
          conv => arg 2; arg 1; whnf
          conv => arg 2; arg 2; arg 1; whnf
          conv => arg 2; arg 2; arg 2; arg 1; whnf
          conv => arg 2; arg 2; arg 2; arg 2; arg 1; whnf
          conv => arg 2; arg 2; arg 2; arg 2; arg 2; arg 1; whnf
          go_wp2_with fail
          rw [← HW0.out]
          refine HE.out.mono ?_
          rintro e w1 ⟨rfl, hp1, hf1⟩
          have HP1 := Lib.hid hp1
          have HF1 : Hid (Fr (· = B) w w1) := Lib.hid ((Fr.of_below HB0.out).trans hf1)
          have HK1 : Hid (Blk w1 w.heap.size 25 #[.int .i64 0, .int .i64 0, .string ⟨#[]⟩, .slice none 0 0, .slice none 0 0]) := Lib.hid (HK0.out.fr hf1 (by have := HRN.out; omega))
          clear hp1 hf1
          go_wp2_with fail
          refine (HRS.out w1 HP1.out).mono ?_
          rintro e w2 ⟨rfl, hb2⟩
          have HB2 := Lib.hid hb2
          have HP2 := Lib.hid (HP1.out.below hb2)
          clear hb2
          go_wp2_with fail
          refine (HRU.out w2 HP2.out).mono ?_
          rintro e w3 ⟨rfl, hb3⟩
          have HB3 := Lib.hid (HB2.out.trans (hb3.mono HB2.out.size))
          have HP3 := Lib.hid (HP1.out.below HB3.out)
          have HK3 := Lib.hid (HK1.out.below HB3.out HK1.out.lt)
          have HF3 := Lib.hid (HF1.out.below HB3.out)
          clear hb3
          go_wp2
          exact HMID.out _ _ rfl rfl rfl rfl rfl rfl rfl HP3.out HK3.out HF3.out HR'.out
    · have q0 : ((c.toNat : Int) == 48) = false := by
        rw [beq_eq_false_iff_ne]
        intro q
        exact hc (UInt8.toNat_inj.1 (by have : (48 : UInt8).toNat = 48 := rfl; omega))
      have HR' := Lib.hid (hnp.trans (if_neg (by
        rintro (q | ⟨q, _⟩)
        · rw [hx] at q; cases q
        · rw [hx] at q; simp at q; exact hc q)))
      clear hnp hx hts hz hc
      refine calls_of_wp Tryz.func43 (c := nuC) rfl ?_
      simp only [Tryz.ntmps43, List.size_toArray, List.length_cons, List.length_nil, Nat.reduceAdd, Nat.reduceSub, Array.replicate_succ, Array.replicate_zero, List.push_toArray, List.append_toArray, List.nil_append, List.cons_append]
      rw [show nuC = (partN [0] nuC).seq ((partN [1, 0] nuC).seq ((partN [1, 1, 0] nuC).seq ((partN [1, 1, 1, 0] nuC).seq ((partN [1, 1, 1, 1, 0] nuC).seq (partN [1, 1, 1, 1, 1] nuC))))) from rfl]
      generalize partN [1, 1, 1, 1, 1] nuC = KT at HMID ⊢
      conv => arg 2; arg 1; whnf
      conv => arg 2; arg 2; arg 1; whnf
      conv => arg 2; arg 2; arg 2; arg 1; whnf
      conv => arg 2; arg 2; arg 2; arg 2; arg 1; whnf
      conv => arg 2; arg 2; arg 2; arg 2; arg 2; arg 1; whnf
      go_wp2_with fail
      rw [← HW0.out]
      refine HE.out.mono ?_
      rintro e w1 ⟨rfl, hp1, hf1⟩
      have HP1 := Lib.hid hp1
      have HF1 : Hid (Fr (· = B) w w1) := Lib.hid ((Fr.of_below HB0.out).trans hf1)
      have HK1 : Hid (Blk w1 w.heap.size 25 #[.int .i64 0, .int .i64 0, .string ⟨#[]⟩, .slice none 0 0, .slice none 0 0]) := Lib.hid (HK0.out.fr hf1 (by have := HRN.out; omega))
      clear hp1 hf1
      go_wp2_with fail
      refine (HRS.out w1 HP1.out).mono ?_
      rintro e w2 ⟨rfl, hb2⟩
      have HB2 := Lib.hid hb2
      have HP2 := Lib.hid (HP1.out.below hb2)
      clear hb2
      go_wp2_with fail
      refine (HRU.out w2 HP2.out).mono ?_
      rintro e w3 ⟨rfl, hb3⟩
      have HB3 := Lib.hid (HB2.out.trans (hb3.mono HB2.out.size))
      have HP3 := Lib.hid (HP1.out.below HB3.out)
      have HK3 := Lib.hid (HK1.out.below HB3.out HK1.out.lt)
      have HF3 := Lib.hid (HF1.out.below HB3.out)
      clear hb3
      go_wp2
      exact HMID.out _ _ rfl rfl rfl rfl rfl rfl rfl HP3.out HK3.out HF3.out HR'.out
end Go.Proofs.YteofdpogjnojnaaGreatDoor
