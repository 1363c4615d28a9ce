/-
  The law SearchLoads: its loops.
-/
import Derived.BigQuiet
import Derived.Deep.DrawnRows
import Derived.Test.YthidjdjcjjbpbaaGreatDoorSeLd2
namespace Go.Proofs.YthidjdjcjjbpbaaGreatDoor
open Go.RowKit Sea Glob
attribute [local go_sem ↓] Go.wp_at_zero Go.wp_at_succ
set_option linter.unusedVariables false
set_option linter.unusedSimpArgs false

noncomputable def slC : Code := Tryz.f4.body.getD .skip
def slAct (u : Nat → Value) : Act := ⟨#[u 0, u 1, u 2, u 3, u 4, u 5, u 6, u 7, u 8, u 9, u 10, u 11, u 12, u 13, u 14, u 15, u 16, u 17, u 18, u 19, u 20, u 21, u 22, u 23, u 24, u 25, u 26, u 27, u 28, u 29, u 30, u 31, u 32, u 33, u 34, u 35, u 36, u 37, u 38, u 39, u 40, u 41, u 42, u 43, u 44, u 45, u 46, u 47, u 48, u 49, u 50, u 51, u 52, u 53, u 54, u 55, u 56, u 57, u 58, u 59, u 60, u 61, u 62, u 63, u 64, u 65, u 66, u 67, u 68, u 69, u 70, u 71, u 72, u 73, u 74, u 75, u 76, u 77, u 78, u 79, u 80, u 81, u 82, u 83, u 84, u 85, u 86, u 87, u 88, u 89, u 90, u 91, u 92, u 93, u 94, u 95, u 96, u 97, u 98, u 99, u 100, u 101, u 102, u 103, u 104, u 105, u 106, u 107, u 108, u 109, u 110, u 111, u 112, u 113, u 114, u 115, u 116, u 117, u 118, u 119, u 120, u 121, u 122, u 123, u 124, u 125, u 126, u 127, u 128, u 129, u 130, u 131, u 132, u 133, u 134, u 135, u 136, u 137, u 138, u 139, u 140, u 141, u 142, u 143, u 144, u 145, u 146, u 147, u 148, u 149, u 150, u 151, u 152, u 153, u 154, u 155, u 156, u 157, u 158, u 159, u 160, u 161, u 162, u 163, u 164, u 165, u 166, u 167, u 168, u 169, u 170], []⟩
theorem slact_lit (a : Act) (hs : a.tmps.size = 171) (hd : a.defers = []) : ∃ u : Nat → Value, (∀ k, a.tmps.getD k undef = u k) ∧ a = slAct u := by
  refine ⟨fun k => a.tmps.getD k undef, fun _ => rfl, ?_⟩
  obtain ⟨t, d⟩ := a
  simp only at hs hd
  subst hd
  have h : t = ((List.range 171).map fun k => t.getD k undef).toArray := by
    apply Array.ext
    · simp [hs]
    · intro j h1 h2
      simp [Array.getD, h1]
  unfold slAct
  congr 1
/-- a part of a code, loops too -/
def partL : List Nat → Code → Code
  | [], c => c
  | 0 :: r, .seq a _ => partL r a
  | 1 :: r, .seq _ b => partL r b
  | 2 :: r, .block _ c => partL r c
  | 3 :: r, .loop c => partL r c
  | 4 :: r, .cond _ a _ => partL r a
  | 5 :: r, .cond _ _ b => partL r b
  | _, _ => .skip
/-- what the law ends with -/
def LQ (W : World) (e : Ending) (w' : World) : Prop := e = .returned (.bool true) ∧ Below W.heap.size W w'
set_option maxRecDepth 100000 in
set_option maxHeartbeats 16000000 in
theorem loads_tail (t : PM) (a : MA) (A : Option Addr) (n c : Nat) (l : List PN) (stop : Int) (W w8 : World) (u : Nat → Value) (LB : Nat) (nA : Option Addr) (nc kb : Nat) (kA : Option Addr) (kc nn : Nat) (names : List ByteArray) (ask : List (List PK)) (hu1 : u 1 = .slice A n c) (hu4 : u 4 = .pointer (some ⟨W.heap.size, 0, none⟩)) (hu9 : u 9 = .pointer (some ⟨LB, 0, none⟩)) (hin : InS W t a A n l) (hg : (PMs t ∧ PMz t ∧ PKo t) ∧ n ≤ 30 ∧ ∀ x ∈ l, PMs x.t ∧ PMz x.t ∧ PKo x.t) (hld : LdE LB A n c l stop w8 nA nc kb kA kc nn names ask) (hnn9 : nn ≤ 31) (hb8 : Below W.heap.size W w8) (hkw : Blk w8 W.heap.size 26 #[.int .i64 t.ver, .int .i64 t.exp, .slice a.tA t.ts.length a.tc, .slice a.kA t.ks.length a.kc, .slice a.dA t.ds.length a.dc]) (hask : ∀ k ∈ ask, k = t.ks ∨ ∃ n ∈ l, k = n.t.ks) :
    Code.wp Tryz.prog (partL [1, 1, 1, 1, 1, 1, 1, 1] slC) (bodyPost Tryz.prog Tryz.f4 (PF (LQ W))) (slAct u) w8 := by
  have HIN := Lib.hid hin
  have HG := Lib.hid hg
  have HLD8 := Lib.hid hld
  have HB8 := Lib.hid hb8
  have HKW8 := Lib.hid hkw
  have HASK := Lib.hid hask
  clear hin hg hld hb8 hkw hask
  conv => arg 2; whnf
  unfold slAct
  rw [hu1, hu4, hu9]
  clear hu1 hu4 hu9
  go_wp2
  go_loopw [16] (fun iv wr => ∃ i : Nat, i ≤ nn ∧ iv = .int .i64 (i : Int) ∧ Hid (Below w8.heap.size w8 wr)) (fun iv _ => nn - (intOf iv).toNat)
  case atStart => exact ⟨0, Nat.zero_le _, rfl, Lib.hid (Below.refl _ _)⟩
  case round =>
    obtain ⟨i, hi, rfl, HW⟩ := hrel
    have HLR := Lib.hid (HLD8.out.bel HW.out)
    have c2 : wr.cell? ⟨LB, 2, none⟩ = some (.slice kA nn kc) := by have := HLR.out.blk.cell 2; simpa using this
    rcases (by omega : i < nn ∨ i = nn) with hlt | heq
    · have q5 : decide ((i : Int) < (nn : Int)) = true := by rw [decide_eq_true_iff]; omega
      have q5' : decide (i < nn) = true := by rw [decide_eq_true_iff]; omega
      have hil : i < ask.length := by have := HLR.out.al; omega
      obtain ⟨hkA, xA, xc, hcell, hkb, hkr, h35⟩ := HLR.out.el i hil
      subst hkA
      obtain ⟨q, hq⟩ : ∃ q, q = ask[i] := ⟨_, rfl⟩
      rw [← hq] at hcell hkr
      have hqc : q = t.ks ∨ ∃ n ∈ l, q = n.t.ks := by rw [hq]; exact HASK.out _ (List.getElem_mem _)
      have hqf : (∀ k ∈ q, KForm k) ∧ q.length ≤ 50 := by
        rcases hqc with e | ⟨y, hy, e⟩
        · rw [e]; exact ⟨HIN.out.zt.2, HG.out.1.1.ks⟩
        · rw [e]; exact ⟨(HIN.out.zl y hy).2, (HG.out.2.2 y hy).1.ks⟩
      obtain ⟨qn, hqn⟩ : ∃ qn, qn = q.length := ⟨_, rfl⟩
      rw [← hqn] at hcell hqf
      have HQN := Lib.hid hqn
      have HQC := Lib.hid hqc
      have HQF := Lib.hid hqf
      have HKQ := Lib.hid hkr
      have HKLT := Lib.hid hkb
      have HBR : Hid (Below W.heap.size W wr) := Lib.hid (HB8.out.trans (HW.out.mono HB8.out.size))
      have HSK1 : Hid (∀ w, Below wr.heap.size wr w → Calls Tryz.prog 14 #[.slice xA qn xc, .slice a.kA t.ks.length a.kc] w fun e w' => PF (SkP (q = t.ks) w) e w') := Lib.hid (fun w hb =>
        rsameKeys_any xA a.kA qn xc t.ks.length a.kc q t.ks w (HKQ.out.bel hb) ((KR.of_row HIN.out.mo.rk).bel (HBR.out.trans (hb.mono HBR.out.size))) HQN.out.symm rfl (by have := HQF.out.2; omega) (by have := HG.out.1.1.ks; omega) HQF.out.1 HIN.out.zt.2)
      have HS0 : Hid ((fun V => Blk V LB 41 #[.slice A n c, .slice nA nn nc, .slice (some ⟨kb, 0, none⟩) nn kc, .int .i64 stop] ∧ V.cell? ⟨kb, i, none⟩ = some (.slice xA qn xc) ∧ Blk V W.heap.size 26 #[.int .i64 t.ver, .int .i64 t.exp, .slice a.tA t.ts.length a.tc, .slice a.kA t.ks.length a.kc, .slice a.dA t.ds.length a.dc]) wr.drew) := Lib.hid ⟨HLR.out.blk, hcell, (HKW8.out.below HW.out HKW8.out.lt).drew⟩
      have hii : (i : Int) < (nn : Int) := by omega
      have hi0 : (0 : Int) ≤ (i : Int) := by omega
      have hi9 : (i : Int) + 1 ≤ 100 := by omega
      have HILT := Lib.hid hlt
      have HCELL := Lib.hid hcell
      clear hil hcell hkb hkr h35 hq hqc hqf hqn hlt
      go_wp2_with fail
      refine wp_region_held_drew (S := fun V => Blk V LB 41 #[.slice A n c, .slice nA nn nc, .slice (some ⟨kb, 0, none⟩) nn kc, .int .i64 stop] ∧ V.cell? ⟨kb, i, none⟩ = some (.slice xA qn xc) ∧ Blk V W.heap.size 26 #[.int .i64 t.ver, .int .i64 t.exp, .slice a.tA t.ts.length a.tc, .slice a.kA t.ks.length a.kc, .slice a.dA t.ds.length a.dc]) (by kernel_rfl) (HS0.out) (fun hS1 => ?_)
      obtain ⟨WD, hWD⟩ : ∃ WD, WD = wr.drew := ⟨_, rfl⟩
      rw [← hWD] at hS1 ⊢
      have HBD : Hid (Below wr.heap.size wr WD) := Lib.hid (by rw [hWD]; exact (Below.refl _ _).drew)
      clear hWD
      refine wpAnyH_take (i := 0) (oi := ⟨some 136, _, _, _, _, _⟩) (v := .pointer (some ⟨LB, 0, none⟩)) rfl (by kernel_rfl) (by kernel_rfl) (by kernel_rfl) (fun _ _ _ h => h) (.inl ⟨by kernel_rfl, fun V hS => by go_simp⟩) hS1 ?_
      simp only [Act.put, List.setIfInBounds_toArray, List.set_cons_zero, List.set_cons_succ]
      refine wpAnyH_take (i := 1) (oi := ⟨some 137, _, _, _, _, _⟩) (v := .pointer (some ⟨LB, 0, none⟩)) rfl (by kernel_rfl) (by kernel_rfl) (by kernel_rfl) (fun _ _ _ h => h) (.inl ⟨by kernel_rfl, fun V hS => by go_simp⟩) hS1 ?_
      simp only [Act.put, List.setIfInBounds_toArray, List.set_cons_zero, List.set_cons_succ]
      refine wpAnyH_take (i := 2) (oi := ⟨some 138, _, _, _, _, _⟩) (v := .pointer (some ⟨LB, 2, none⟩)) rfl (by kernel_rfl) (by kernel_rfl) (by kernel_rfl) (fun _ _ _ h => h) (.inl ⟨by kernel_rfl, fun V hS => by go_simp⟩) hS1 ?_
      simp only [Act.put, List.setIfInBounds_toArray, List.set_cons_zero, List.set_cons_succ]
      refine wpAnyH_take (i := 3) (oi := ⟨some 139, _, _, _, _, _⟩) (v := .slice (some ⟨kb, 0, none⟩) nn kc) rfl (by kernel_rfl) (by kernel_rfl) (by kernel_rfl) (fun _ _ _ h => h) (.inl ⟨by kernel_rfl, fun V hS => by have sc := hS.1.cell 2; simp at sc; go_simp⟩) hS1 ?_
      simp only [Act.put, List.setIfInBounds_toArray, List.set_cons_zero, List.set_cons_succ]
      refine wpAnyH_take (i := 4) (oi := ⟨some 140, _, _, _, _, _⟩) (v := .int .i64 (i : Int)) rfl (by kernel_rfl) (by kernel_rfl) (by kernel_rfl) (fun _ _ _ h => h) (.inl ⟨by kernel_rfl, fun V hS => by go_simp⟩) hS1 ?_
      simp only [Act.put, List.setIfInBounds_toArray, List.set_cons_zero, List.set_cons_succ]
      refine wpAnyH_take (i := 5) (oi := ⟨some 141, _, _, _, _, _⟩) (v := .pointer (some ⟨kb, i, none⟩)) rfl (by kernel_rfl) (by kernel_rfl) (by kernel_rfl) (fun _ _ _ h => h) (.inl ⟨by kernel_rfl, fun V hS => by go_simp⟩) hS1 ?_
      simp only [Act.put, List.setIfInBounds_toArray, List.set_cons_zero, List.set_cons_succ]
      refine wpAnyH_take (i := 6) (oi := ⟨some 142, _, _, _, _, _⟩) (v := .slice xA qn xc) rfl (by kernel_rfl) (by kernel_rfl) (by kernel_rfl) (fun _ _ _ h => h) (.inl ⟨by kernel_rfl, fun V hS => by have sc := hS.2.1; go_simp⟩) hS1 ?_
      simp only [Act.put, List.setIfInBounds_toArray, List.set_cons_zero, List.set_cons_succ]
      refine wpAnyH_take (i := 7) (oi := ⟨some 143, _, _, _, _, _⟩) (v := .pointer (some ⟨W.heap.size, 3, none⟩)) rfl (by kernel_rfl) (by kernel_rfl) (by kernel_rfl) (fun _ _ _ h => h) (.inl ⟨by kernel_rfl, fun V hS => by go_simp⟩) hS1 ?_
      simp only [Act.put, List.setIfInBounds_toArray, List.set_cons_zero, List.set_cons_succ]
      refine wpAnyH_take (i := 8) (oi := ⟨some 144, _, _, _, _, _⟩) (v := .slice a.kA t.ks.length a.kc) rfl (by kernel_rfl) (by kernel_rfl) (by kernel_rfl) (fun _ _ _ h => h) (.inl ⟨by kernel_rfl, fun V hS => by have sc := hS.2.2.cell 3; simp at sc; go_simp⟩) hS1 ?_
      simp only [Act.put, List.setIfInBounds_toArray, List.set_cons_zero, List.set_cons_succ]
      refine wpAnyH_ready (rs := [9]) (by kernel_rfl) (by simp) ?_
      refine AllReadyH.cons rfl (fun K' hK => ?_) AllReadyH.nil
      go_simp
      refine (HSK1.out WD HBD.out).mono ?_
      rintro e wX ⟨bb, rfl, hbb, hbX⟩
      have HBX := Lib.hid (HBD.out.trans (hbX.mono HBD.out.size))
      have HBB := Lib.hid hbb
      refine hK.out _ _ (⟨(hS1).1.below hbX (hS1).1.lt, (hbX.cell (Nat.lt_of_lt_of_le HKLT.out HBD.out.size)).trans (hS1).2.1, (hS1).2.2.below hbX (hS1).2.2.lt⟩) (fun hS2 => ?_)
      clear hK K' hS1
      refine wpAnyH_take (i := 10) (oi := ⟨some 17, _, _, _, _, _⟩) (v := .bool bb) rfl (by kernel_rfl) (by kernel_rfl) (by kernel_rfl) (fun _ _ _ h => h) (.inl ⟨by kernel_rfl, fun V hS => by go_simp⟩) hS2 ?_
      simp only [Act.put, List.setIfInBounds_toArray, List.set_cons_zero, List.set_cons_succ]
      refine wpAnyH_done (by kernel_rfl) ?_ _
      clear c2 HS0
      go_wp2
      go_loopw [17, 18] (fun bv kv wq => ∃ (k : Nat) (b2 : Bool), k ≤ n ∧ bv = .bool b2 ∧ kv = .int .i64 (k : Int) ∧ Hid (Cov q t l k b2) ∧ Hid (Below wr.heap.size wr wq)) (fun _ kv _ => n - (intOf kv).toNat)
      case atStart => exact ⟨0, bb, Nat.zero_le _, rfl, rfl, Lib.hid ⟨HBB.out, fun j hj h => absurd h (by omega)⟩, HBX⟩
      case round =>
        obtain ⟨k, b2, hk, rfl, rfl, HCV, HWQ⟩ := hrel
        have HLQ := Lib.hid (HLR.out.bel HWQ.out)
        have HBWQ : Hid (Below W.heap.size W wr) := Lib.hid (HBR.out.trans (HWQ.out.mono HBR.out.size))
        rcases (by omega : k < n ∨ k = n) with hkl | hke
        · have p5 : decide ((k : Int) < (n : Int)) = true := by rw [decide_eq_true_iff]; omega
          have p5' : decide (k < n) = true := by rw [decide_eq_true_iff]; omega
          have HKL : Hid (k < l.length) := Lib.hid (by rw [HIN.out.hn]; exact hkl)
          have hn30 : (n : Int) ≤ 30 := by have := HG.out.2.1; omega
          have hkk : (k : Int) < (n : Int) := by omega
          have hk0 : (0 : Int) ≤ (k : Int) := by omega
          obtain ⟨b, o, hA, hbl, hbx, hc⟩ := (HIN.out.ns.bel HBWQ.out) (by have := HKL.out; omega)
          obtain ⟨x, hx, hck⟩ : ∃ x, x = l[k]'HKL.out ∧ NB (Beh W) wr b (o + k * 6) x := ⟨_, rfl, hc k HKL.out⟩
          obtain ⟨ax, hcs, hok⟩ := hck
          subst hA
          have HXE := Lib.hid hx
          have HBLT := Lib.hid hbl
          have HKLT2 : Hid (kb < wr.heap.size) := Lib.hid (Nat.lt_of_lt_of_le HKLT.out HWQ.out.size)
          have d4 : wr.cell? ⟨b, o + k * 6 + 1 + 3, none⟩ = some (.slice ax.kA x.t.ks.length ax.kc) := hcs 4 (by omega)
          have hxm : x ∈ l := by rw [hx]; exact List.getElem_mem _
          have HXM := Lib.hid hxm
          have HKX := Lib.hid (KR.of_row hok.rk)
          have HKN : Hid (k < n) := Lib.hid hkl
          cases b2 with
          | true =>
            clear d4 hcs hok hc hbx hbl hx hxm hkl
            go_wp2_with fail
            refine wp_region_held_drew (S := fun V => True) (by kernel_rfl) (trivial) (fun hS1 => ?_)
            obtain ⟨WD, hWD⟩ : ∃ WD, WD = wr.drew := ⟨_, rfl⟩
            rw [← hWD]
            have HBD : Hid (Below wr.heap.size wr WD) := Lib.hid (by rw [hWD]; exact (Below.refl _ _).drew)
            clear hWD
            refine wpAnyH_take (i := 0) (oi := ⟨some 152, _, _, _, _, _⟩) (v := .bool true) rfl (by kernel_rfl) (by kernel_rfl) (by kernel_rfl) (fun _ _ _ h => h) (.inl ⟨by kernel_rfl, fun V hS => by go_simp⟩) hS1 ?_
            simp only [Act.put, List.setIfInBounds_toArray, List.set_cons_zero, List.set_cons_succ]
            refine wpAnyH_take (i := 1) (oi := ⟨some 153, _, _, _, _, _⟩) (v := .bool true) rfl (by kernel_rfl) (by kernel_rfl) (by kernel_rfl) (fun _ _ _ h => h) (.inl ⟨by kernel_rfl, fun V hS => by go_simp⟩) hS1 ?_
            simp only [Act.put, List.setIfInBounds_toArray, List.set_cons_zero, List.set_cons_succ]
            refine wpAnyH_take (i := 2) (oi := ⟨some 154, _, _, _, _, _⟩) (v := undef) rfl (by kernel_rfl) (by kernel_rfl) (by kernel_rfl) (fun _ _ _ h => h) (.inr ⟨by kernel_rfl, rfl⟩) hS1 ?_
            simp only [Act.put, List.setIfInBounds_toArray, List.set_cons_zero, List.set_cons_succ]
            refine wpAnyH_take (i := 3) (oi := ⟨some 155, _, _, _, _, _⟩) (v := undef) rfl (by kernel_rfl) (by kernel_rfl) (by kernel_rfl) (fun _ _ _ h => h) (.inr ⟨by kernel_rfl, rfl⟩) hS1 ?_
            simp only [Act.put, List.setIfInBounds_toArray, List.set_cons_zero, List.set_cons_succ]
            refine wpAnyH_take (i := 4) (oi := ⟨some 156, _, _, _, _, _⟩) (v := undef) rfl (by kernel_rfl) (by kernel_rfl) (by kernel_rfl) (fun _ _ _ h => h) (.inr ⟨by kernel_rfl, rfl⟩) hS1 ?_
            simp only [Act.put, List.setIfInBounds_toArray, List.set_cons_zero, List.set_cons_succ]
            refine wpAnyH_take (i := 5) (oi := ⟨some 157, _, _, _, _, _⟩) (v := undef) rfl (by kernel_rfl) (by kernel_rfl) (by kernel_rfl) (fun _ _ _ h => h) (.inr ⟨by kernel_rfl, rfl⟩) hS1 ?_
            simp only [Act.put, List.setIfInBounds_toArray, List.set_cons_zero, List.set_cons_succ]
            refine wpAnyH_take (i := 6) (oi := ⟨some 158, _, _, _, _, _⟩) (v := undef) rfl (by kernel_rfl) (by kernel_rfl) (by kernel_rfl) (fun _ _ _ h => h) (.inr ⟨by kernel_rfl, rfl⟩) hS1 ?_
            simp only [Act.put, List.setIfInBounds_toArray, List.set_cons_zero, List.set_cons_succ]
            refine wpAnyH_take (i := 7) (oi := ⟨some 159, _, _, _, _, _⟩) (v := undef) rfl (by kernel_rfl) (by kernel_rfl) (by kernel_rfl) (fun _ _ _ h => h) (.inr ⟨by kernel_rfl, rfl⟩) hS1 ?_
            simp only [Act.put, List.setIfInBounds_toArray, List.set_cons_zero, List.set_cons_succ]
            refine wpAnyH_take (i := 8) (oi := ⟨some 160, _, _, _, _, _⟩) (v := undef) rfl (by kernel_rfl) (by kernel_rfl) (by kernel_rfl) (fun _ _ _ h => h) (.inr ⟨by kernel_rfl, rfl⟩) hS1 ?_
            simp only [Act.put, List.setIfInBounds_toArray, List.set_cons_zero, List.set_cons_succ]
            refine wpAnyH_take (i := 9) (oi := ⟨some 161, _, _, _, _, _⟩) (v := undef) rfl (by kernel_rfl) (by kernel_rfl) (by kernel_rfl) (fun _ _ _ h => h) (.inr ⟨by kernel_rfl, rfl⟩) hS1 ?_
            simp only [Act.put, List.setIfInBounds_toArray, List.set_cons_zero, List.set_cons_succ]
            refine wpAnyH_take (i := 10) (oi := ⟨some 162, _, _, _, _, _⟩) (v := undef) rfl (by kernel_rfl) (by kernel_rfl) (by kernel_rfl) (fun _ _ _ h => h) (.inr ⟨by kernel_rfl, rfl⟩) hS1 ?_
            simp only [Act.put, List.setIfInBounds_toArray, List.set_cons_zero, List.set_cons_succ]
            refine wpAnyH_take (i := 11) (oi := ⟨some 163, _, _, _, _, _⟩) (v := undef) rfl (by kernel_rfl) (by kernel_rfl) (by kernel_rfl) (fun _ _ _ h => h) (.inr ⟨by kernel_rfl, rfl⟩) hS1 ?_
            simp only [Act.put, List.setIfInBounds_toArray, List.set_cons_zero, List.set_cons_succ]
            refine wpAnyH_take (i := 12) (oi := ⟨some 164, _, _, _, _, _⟩) (v := undef) rfl (by kernel_rfl) (by kernel_rfl) (by kernel_rfl) (fun _ _ _ h => h) (.inr ⟨by kernel_rfl, rfl⟩) hS1 ?_
            simp only [Act.put, List.setIfInBounds_toArray, List.set_cons_zero, List.set_cons_succ]
            refine wpAnyH_take (i := 13) (oi := ⟨some 165, _, _, _, _, _⟩) (v := undef) rfl (by kernel_rfl) (by kernel_rfl) (by kernel_rfl) (fun _ _ _ h => h) (.inr ⟨by kernel_rfl, rfl⟩) hS1 ?_
            simp only [Act.put, List.setIfInBounds_toArray, List.set_cons_zero, List.set_cons_succ]
            refine wpAnyH_take (i := 14) (oi := ⟨some 166, _, _, _, _, _⟩) (v := undef) rfl (by kernel_rfl) (by kernel_rfl) (by kernel_rfl) (fun _ _ _ h => h) (.inr ⟨by kernel_rfl, rfl⟩) hS1 ?_
            simp only [Act.put, List.setIfInBounds_toArray, List.set_cons_zero, List.set_cons_succ]
            refine wpAnyH_take (i := 15) (oi := ⟨some 167, _, _, _, _, _⟩) (v := undef) rfl (by kernel_rfl) (by kernel_rfl) (by kernel_rfl) (fun _ _ _ h => h) (.inr ⟨by kernel_rfl, rfl⟩) hS1 ?_
            simp only [Act.put, List.setIfInBounds_toArray, List.set_cons_zero, List.set_cons_succ]
            refine wpAnyH_take (i := 16) (oi := ⟨some 168, _, _, _, _, _⟩) (v := .bool true) rfl (by kernel_rfl) (by kernel_rfl) (by kernel_rfl) (fun _ _ _ h => h) (.inl ⟨by kernel_rfl, fun V hS => by go_simp⟩) hS1 ?_
            simp only [Act.put, List.setIfInBounds_toArray, List.set_cons_zero, List.set_cons_succ]
            refine wpAnyH_take (i := 17) (oi := ⟨some 17, _, _, _, _, _⟩) (v := .bool true) rfl (by kernel_rfl) (by kernel_rfl) (by kernel_rfl) (fun _ _ _ h => h) (.inl ⟨by kernel_rfl, fun V hS => by go_simp⟩) hS1 ?_
            simp only [Act.put, List.setIfInBounds_toArray, List.set_cons_zero, List.set_cons_succ]
            refine wpAnyH_done (by kernel_rfl) ?_ _
            go_wp2
            go_roundw
            case rel => exact ⟨k + 1, true, by have := HKN.out; omega, rfl, by go_num, Lib.hid (Cov.yes _), Lib.hid (HWQ.out.trans (HBD.out.mono HWQ.out.size))⟩
            case measure => have := HKN.out; simp [intOf]; omega
          | false =>
            have HSK2 : Hid (∀ w, Below wr.heap.size wr w → Calls Tryz.prog 14 #[.slice xA qn xc, .slice ax.kA x.t.ks.length ax.kc] w fun e w' => PF (SkP (q = x.t.ks) w) e w') := Lib.hid (fun w hb =>
              rsameKeys_any xA ax.kA qn xc x.t.ks.length ax.kc q x.t.ks w ((HKQ.out.bel HWQ.out).bel hb) (HKX.out.bel hb) HQN.out.symm rfl (by have := HQF.out.2; omega) (by have := (HG.out.2.2 x HXM.out).1.ks; omega) HQF.out.1 (HIN.out.zl x HXM.out).2)
            have HS0 : Hid ((fun V => Blk V LB 41 #[.slice (some ⟨b, o, none⟩) n c, .slice nA nn nc, .slice (some ⟨kb, 0, none⟩) nn kc, .int .i64 stop] ∧ V.cell? ⟨kb, i, none⟩ = some (.slice xA qn xc) ∧ V.cell? ⟨b, o + k * 6 + 1 + 3, none⟩ = some (.slice ax.kA x.t.ks.length ax.kc)) wr.drew) := Lib.hid ⟨HLQ.out.blk, (HWQ.out.cell HKLT.out).trans HCELL.out, d4⟩
            have HKLT := HKLT2
            clear d4 hcs hok hc hbx hbl hx hxm hkl
            go_wp2_with fail
            refine wp_region_held_drew (S := fun V => Blk V LB 41 #[.slice (some ⟨b, o, none⟩) n c, .slice nA nn nc, .slice (some ⟨kb, 0, none⟩) nn kc, .int .i64 stop] ∧ V.cell? ⟨kb, i, none⟩ = some (.slice xA qn xc) ∧ V.cell? ⟨b, o + k * 6 + 1 + 3, none⟩ = some (.slice ax.kA x.t.ks.length ax.kc)) (by kernel_rfl) (HS0.out) (fun hS1 => ?_)
            obtain ⟨WD, hWD⟩ : ∃ WD, WD = wr.drew := ⟨_, rfl⟩
            rw [← hWD] at hS1 ⊢
            have HBD : Hid (Below wr.heap.size wr WD) := Lib.hid (by rw [hWD]; exact (Below.refl _ _).drew)
            clear hWD
            refine wpAnyH_take (i := 0) (oi := ⟨some 152, _, _, _, _, _⟩) (v := .bool false) rfl (by kernel_rfl) (by kernel_rfl) (by kernel_rfl) (fun _ _ _ h => h) (.inl ⟨by kernel_rfl, fun V hS => by go_simp⟩) hS1 ?_
            simp only [Act.put, List.setIfInBounds_toArray, List.set_cons_zero, List.set_cons_succ]
            refine wpAnyH_take (i := 1) (oi := ⟨some 153, _, _, _, _, _⟩) (v := .bool false) rfl (by kernel_rfl) (by kernel_rfl) (by kernel_rfl) (fun _ _ _ h => h) (.inl ⟨by kernel_rfl, fun V hS => by go_simp⟩) hS1 ?_
            simp only [Act.put, List.setIfInBounds_toArray, List.set_cons_zero, List.set_cons_succ]
            refine wpAnyH_take (i := 2) (oi := ⟨some 154, _, _, _, _, _⟩) (v := .pointer (some ⟨LB, 0, none⟩)) rfl (by kernel_rfl) (by kernel_rfl) (by kernel_rfl) (fun _ _ _ h => h) (.inl ⟨by kernel_rfl, fun V hS => by go_simp⟩) hS1 ?_
            simp only [Act.put, List.setIfInBounds_toArray, List.set_cons_zero, List.set_cons_succ]
            refine wpAnyH_take (i := 3) (oi := ⟨some 155, _, _, _, _, _⟩) (v := .pointer (some ⟨LB, 0, none⟩)) rfl (by kernel_rfl) (by kernel_rfl) (by kernel_rfl) (fun _ _ _ h => h) (.inl ⟨by kernel_rfl, fun V hS => by go_simp⟩) hS1 ?_
            simp only [Act.put, List.setIfInBounds_toArray, List.set_cons_zero, List.set_cons_succ]
            refine wpAnyH_take (i := 4) (oi := ⟨some 156, _, _, _, _, _⟩) (v := .pointer (some ⟨LB, 2, none⟩)) rfl (by kernel_rfl) (by kernel_rfl) (by kernel_rfl) (fun _ _ _ h => h) (.inl ⟨by kernel_rfl, fun V hS => by go_simp⟩) hS1 ?_
            simp only [Act.put, List.setIfInBounds_toArray, List.set_cons_zero, List.set_cons_succ]
            refine wpAnyH_take (i := 5) (oi := ⟨some 157, _, _, _, _, _⟩) (v := .slice (some ⟨kb, 0, none⟩) nn kc) rfl (by kernel_rfl) (by kernel_rfl) (by kernel_rfl) (fun _ _ _ h => h) (.inl ⟨by kernel_rfl, fun V hS => by have sc := hS.1.cell 2; simp at sc; go_simp⟩) hS1 ?_
            simp only [Act.put, List.setIfInBounds_toArray, List.set_cons_zero, List.set_cons_succ]
            refine wpAnyH_take (i := 6) (oi := ⟨some 158, _, _, _, _, _⟩) (v := .int .i64 (i : Int)) rfl (by kernel_rfl) (by kernel_rfl) (by kernel_rfl) (fun _ _ _ h => h) (.inl ⟨by kernel_rfl, fun V hS => by go_simp⟩) hS1 ?_
            simp only [Act.put, List.setIfInBounds_toArray, List.set_cons_zero, List.set_cons_succ]
            refine wpAnyH_take (i := 7) (oi := ⟨some 159, _, _, _, _, _⟩) (v := .pointer (some ⟨kb, i, none⟩)) rfl (by kernel_rfl) (by kernel_rfl) (by kernel_rfl) (fun _ _ _ h => h) (.inl ⟨by kernel_rfl, fun V hS => by go_simp⟩) hS1 ?_
            simp only [Act.put, List.setIfInBounds_toArray, List.set_cons_zero, List.set_cons_succ]
            refine wpAnyH_take (i := 8) (oi := ⟨some 160, _, _, _, _, _⟩) (v := .slice xA qn xc) rfl (by kernel_rfl) (by kernel_rfl) (by kernel_rfl) (fun _ _ _ h => h) (.inl ⟨by kernel_rfl, fun V hS => by have sc := hS.2.1; go_simp⟩) hS1 ?_
            simp only [Act.put, List.setIfInBounds_toArray, List.set_cons_zero, List.set_cons_succ]
            refine wpAnyH_take (i := 9) (oi := ⟨some 161, _, _, _, _, _⟩) (v := .slice (some ⟨b, o, none⟩) n c) rfl (by kernel_rfl) (by kernel_rfl) (by kernel_rfl) (fun _ _ _ h => h) (.inl ⟨by kernel_rfl, fun V hS => by go_simp⟩) hS1 ?_
            simp only [Act.put, List.setIfInBounds_toArray, List.set_cons_zero, List.set_cons_succ]
            refine wpAnyH_take (i := 10) (oi := ⟨some 162, _, _, _, _, _⟩) (v := .int .i64 (k : Int)) rfl (by kernel_rfl) (by kernel_rfl) (by kernel_rfl) (fun _ _ _ h => h) (.inl ⟨by kernel_rfl, fun V hS => by go_simp⟩) hS1 ?_
            simp only [Act.put, List.setIfInBounds_toArray, List.set_cons_zero, List.set_cons_succ]
            refine wpAnyH_take (i := 11) (oi := ⟨some 163, _, _, _, _, _⟩) (v := .pointer (some ⟨b, o + k * 6, none⟩)) rfl (by kernel_rfl) (by kernel_rfl) (by kernel_rfl) (fun _ _ _ h => h) (.inl ⟨by kernel_rfl, fun V hS => by go_simp⟩) hS1 ?_
            simp only [Act.put, List.setIfInBounds_toArray, List.set_cons_zero, List.set_cons_succ]
            refine wpAnyH_take (i := 12) (oi := ⟨some 164, _, _, _, _, _⟩) (v := .pointer (some ⟨b, o + k * 6 + 1, none⟩)) rfl (by kernel_rfl) (by kernel_rfl) (by kernel_rfl) (fun _ _ _ h => h) (.inl ⟨by kernel_rfl, fun V hS => by go_simp⟩) hS1 ?_
            simp only [Act.put, List.setIfInBounds_toArray, List.set_cons_zero, List.set_cons_succ]
            refine wpAnyH_take (i := 13) (oi := ⟨some 165, _, _, _, _, _⟩) (v := .pointer (some ⟨b, o + k * 6 + 1 + 3, none⟩)) rfl (by kernel_rfl) (by kernel_rfl) (by kernel_rfl) (fun _ _ _ h => h) (.inl ⟨by kernel_rfl, fun V hS => by go_simp⟩) hS1 ?_
            simp only [Act.put, List.setIfInBounds_toArray, List.set_cons_zero, List.set_cons_succ]
            refine wpAnyH_take (i := 14) (oi := ⟨some 166, _, _, _, _, _⟩) (v := .slice ax.kA x.t.ks.length ax.kc) rfl (by kernel_rfl) (by kernel_rfl) (by kernel_rfl) (fun _ _ _ h => h) (.inl ⟨by kernel_rfl, fun V hS => by have sc := hS.2.2; go_simp⟩) hS1 ?_
            simp only [Act.put, List.setIfInBounds_toArray, List.set_cons_zero, List.set_cons_succ]
            refine wpAnyH_ready (rs := [15]) (by kernel_rfl) (by simp) ?_
            refine AllReadyH.cons rfl (fun K' hK => ?_) AllReadyH.nil
            go_simp
            refine (HSK2.out WD HBD.out).mono ?_
            rintro e wX ⟨bb, rfl, hbb, hbX⟩
            have HBX := Lib.hid (HBD.out.trans (hbX.mono HBD.out.size))
            have HBB := Lib.hid hbb
            refine hK.out _ _ (⟨(hS1).1.below hbX (hS1).1.lt, (hbX.cell (Nat.lt_of_lt_of_le HKLT.out HBD.out.size)).trans (hS1).2.1, (hbX.cell (Nat.lt_of_lt_of_le HBLT.out HBD.out.size)).trans (hS1).2.2⟩) (fun hS2 => ?_)
            clear hK K' hS1
            refine wpAnyH_take (i := 16) (oi := ⟨some 168, _, _, _, _, _⟩) (v := .bool bb) rfl (by kernel_rfl) (by kernel_rfl) (by kernel_rfl) (fun _ _ _ h => h) (.inl ⟨by kernel_rfl, fun V hS => by go_simp⟩) hS2 ?_
            simp only [Act.put, List.setIfInBounds_toArray, List.set_cons_zero, List.set_cons_succ]
            refine wpAnyH_take (i := 17) (oi := ⟨some 17, _, _, _, _, _⟩) (v := .bool bb) rfl (by kernel_rfl) (by kernel_rfl) (by kernel_rfl) (fun _ _ _ h => h) (.inl ⟨by kernel_rfl, fun V hS => by go_simp⟩) hS2 ?_
            simp only [Act.put, List.setIfInBounds_toArray, List.set_cons_zero, List.set_cons_succ]
            refine wpAnyH_done (by kernel_rfl) ?_ _
            clear HS0
            go_wp2
            go_roundw
            case rel => exact ⟨k + 1, bb, by have := HKN.out; omega, rfl, by go_num, Lib.hid (HCV.out.snoc HKL.out (fun e => by cases e) (fun e => HBB.out (by rw [HXE.out]; exact e))), Lib.hid (HWQ.out.trans (HBX.out.mono HWQ.out.size))⟩
            case measure => have := HKN.out; simp [intOf]; omega
        · have p5 : decide ((k : Int) < (n : Int)) = false := by rw [decide_eq_false_iff_not]; omega
          have p5' : decide (k < n) = false := by rw [decide_eq_false_iff_not]; omega
          have hb2 : b2 = true := by
            have h9 := HCV.out
            rw [show k = l.length from by rw [HIN.out.hn]; exact hke] at h9
            exact h9.end_ HQC.out
          subst hb2
          clear hke
          go_wp2
          go_roundw
          case rel => exact ⟨i + 1, by have := HILT.out; omega, by go_num, Lib.hid (HW.out.trans (HWQ.out.mono HW.out.size))⟩
          case measure => have := HILT.out; simp [intOf]; omega
    · have q5 : decide ((i : Int) < (nn : Int)) = false := by rw [decide_eq_false_iff_not]; omega
      have q5' : decide (i < nn) = false := by rw [decide_eq_false_iff_not]; omega
      clear heq
      go_wp2
      go_ret
      exact ⟨rfl, HB8.out.trans (HW.out.mono HB8.out.size)⟩
end Go.Proofs.YthidjdjcjjbpbaaGreatDoor
