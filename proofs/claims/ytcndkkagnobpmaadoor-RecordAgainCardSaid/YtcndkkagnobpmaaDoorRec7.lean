/-
  record: Commit.
-/
import Derived.Test.YtcndkkagnobpmaaDoorRec6
namespace Go.Proofs.YtcndkkagnobpmaaDoor
open Go.RowKit
attribute [local go_sem ↓] Go.wp_at_zero Go.wp_at_succ
set_option linter.unusedVariables false

set_option maxRecDepth 100000 in
set_option maxHeartbeats 1000000 in
theorem rcommit_nil (A : Option Addr) (n c : Nat) (w : World) : Calls Tryd.prog 14 #[.pointer none, .slice A n c] w fun e w' => e = .returned (.int .i64 6) ∧ Below w.heap.size w w' := by
  go_enter Tryd.func14, Tryd.ntmps14
  go_wp2
  go_ret
  exact ⟨rfl, (((Below.refl _ _).alloc (Nat.le_refl _) _).alloc (by simp) _)⟩
set_option maxRecDepth 100000 in
set_option maxHeartbeats 2000000 in
theorem rcommit_long {r d first half num : Nat} {T0 : List UInt8} {dead : Bool} (A : Option Addr) (n c : Nat) (w : World) (hR : RecAt w r d first half num T0 dead) (hh : 2 ≤ half) (hhb : half ≤ 16384) (hn : 64 * (half - 1) < n) (hnb : n ≤ 9223372036854775807) :
    Calls Tryd.prog 14 #[.pointer (some ⟨r, 0, none⟩), .slice A n c] w fun e w' => e = .returned (.int .i64 3) ∧ Below w.heap.size w w' := by
  have hb2 : Below w.heap.size w ((w.alloc (.cells #[.pointer (some ⟨r, 0, none⟩)] 23)).alloc (.cells #[.slice A n c] 22)) := (((Below.refl _ _).alloc (Nat.le_refl _) _).alloc (by simp) _)
  have HRM := Lib.hid (rroom_any (((w.alloc (.cells #[.pointer (some ⟨r, 0, none⟩)] 23)).alloc (.cells #[.slice A n c] 22)).drew) ((hR.below hb2).below ⟨rfl, rfl, rfl, Nat.le_refl _, fun _ _ => rfl⟩) (by omega) hhb)
  have HB := Lib.hid hb2
  have b2 := ((Blk.new w 23 #[.pointer (some ⟨r, 0, none⟩)]).alloc (.cells #[.slice A n c] 22)).cell 0
  have b3 := (Blk.new (w.alloc (.cells #[.pointer (some ⟨r, 0, none⟩)] 23)) 22 #[.slice A n c]).cell 0
  simp only [List.getElem?_toArray, List.getElem?_cons_zero, World.size_alloc] at b2 b3
  have d1 : decide (64 * ((half : Int) - 1) < (n : Int)) = true := by rw [decide_eq_true_iff]; omega
  clear hR hb2
  go_enter Tryd.func14, Tryd.ntmps14
  go_wp2
  go_region_held3 (fun V => V.cell? ⟨w.heap.size, 0, none⟩ = some (.pointer (some ⟨r, 0, none⟩)) ∧ V.cell? ⟨w.heap.size + 1, 0, none⟩ = some (.slice A n c))
    (first | exact ⟨b2, b3⟩ | go_keep)
    (first | (go_at_call 13; refine HRM.out.mono ?_; rintro e w1 ⟨rfl, rfl⟩))
  go_wp2
  go_ret
  exact ⟨rfl, ⟨HB.out.os, HB.out.tape, HB.out.output, HB.out.size, HB.out.block⟩⟩
/-- what is behind a commit -/
def ComPost (d s M r first half num : Nat) (T0 T : List UInt8) (w : World) (Kc : Dk) (e : Ending) (w' : World) : Prop :=
  e = .returned (.int .i64 (offE Kc)) ∧ (∃ n', (Kc.off = false → n' = 0) ∧ DiskAt w' d s M n' Kc) ∧
  (if Kc.off then RecAt w' r d first half num T0 true else RecAt w' r d first half (num + 1) T false) ∧ Fr (fun k => DS d s M k ∨ k = r) w w'
set_option maxRecDepth 100000 in
set_option maxHeartbeats 4000000 in
theorem rcommit_any {d s M nn r first half num : Nat} {T0 : List UInt8} {K : Dk} (A : Option Addr) (n c : Nat) (T : List UInt8) (w : World) (h : DiskAt w d s M nn K) (htab : TabK w) (hR : RecAt w r d first half num T0 false) (ho : K.off = false) (hh : 2 ≤ half) (hin : first + 2 * half ≤ K.sure.length)
    (hT : RB w A T) (hTn : T.length = n) (hc : n ≤ c) (hcm : c ≤ 9223372036854775807) (hn : n ≤ 64 * (half - 1)) (hnum : num < 1152921504606846976) (hnn : nn + 80000 < 1000000) :
    Calls Tryd.prog 14 #[.pointer (some ⟨r, 0, none⟩), .slice A n c] w fun e w' => ComPost d s M r first half num T0 T w (commitK K (first + (num + 1) % 2 * half) (num + 1) T) e w' := by
  have hfew := h.few.2
  have hhb : half ≤ 16384 := by omega
  have hb2 : Below w.heap.size w ((w.alloc (.cells #[.pointer (some ⟨r, 0, none⟩)] 23)).alloc (.cells #[.slice A n c] 22)).drew := (((Below.refl _ _).alloc (Nat.le_refl _) _).alloc (by simp) _).drew
  have HRM := Lib.hid (rroom_any (((w.alloc (.cells #[.pointer (some ⟨r, 0, none⟩)] 23)).alloc (.cells #[.slice A n c] 22)).drew) (hR.below hb2) (by omega) hhb)
  have k2 : Blk ((w.alloc (.cells #[.pointer (some ⟨r, 0, none⟩)] 23)).alloc (.cells #[.slice A n c] 22)).drew w.heap.size 23 #[.pointer (some ⟨r, 0, none⟩)] := ((Blk.new w 23 #[.pointer (some ⟨r, 0, none⟩)]).alloc (.cells #[.slice A n c] 22)).drew
  have k3 : Blk ((w.alloc (.cells #[.pointer (some ⟨r, 0, none⟩)] 23)).alloc (.cells #[.slice A n c] 22)).drew (w.heap.size + 1) 22 #[.slice A n c] := by
    have := (Blk.new (w.alloc (.cells #[.pointer (some ⟨r, 0, none⟩)] 23)) 22 #[.slice A n c]).drew
    rw [World.size_alloc] at this
    exact this
  have hsz : ((w.alloc (.cells #[.pointer (some ⟨r, 0, none⟩)] 23)).alloc (.cells #[.slice A n c] 22)).drew.heap.size = w.heap.size + 2 := by
    show ((w.alloc _).alloc _).heap.size = _
    simp
  have HK2 := Lib.hid k2
  have HK3 := Lib.hid k3
  have b2 : ((w.alloc (.cells #[.pointer (some ⟨r, 0, none⟩)] 23)).alloc (.cells #[.slice A n c] 22)).cell? ⟨w.heap.size, 0, none⟩ = some (.pointer (some ⟨r, 0, none⟩)) := k2.cell 0
  have b3 : ((w.alloc (.cells #[.pointer (some ⟨r, 0, none⟩)] 23)).alloc (.cells #[.slice A n c] 22)).cell? ⟨w.heap.size + 1, 0, none⟩ = some (.slice A n c) := k3.cell 0
  have d1 : decide (64 * ((half : Int) - 1) < (n : Int)) = false := by rw [decide_eq_false_iff_not]; omega
  have d2 : decide (1152921504606846976 ≤ (num : Int)) = false := by rw [decide_eq_false_iff_not]; omega
  have d2' : decide (1152921504606846976 ≤ num) = false := by rw [decide_eq_false_iff_not]; omega
  have HH := Lib.hid h
  have HTAB := Lib.hid htab
  have HRA := Lib.hid hR
  have HO := Lib.hid ho
  have HT := Lib.hid hT
  have HTN := Lib.hid hTn
  have HB2 := Lib.hid hb2
  have HSZ := Lib.hid hsz
  have HNB := Lib.hid hR.noBy
  obtain ⟨A0, c0, hrw, hx1, hx2, hx3⟩ := hR
  have hrb := hrw.below hb2 hrw.lt
  have HRW := Lib.hid hrw
  have HX := Lib.hid (And.intro hx1 (And.intro hx2 hx3))
  clear hx1 hx2 hx3
  have n0 := hrb.cell 0
  have n1 := hrb.cell 1
  have n2 := hrb.cell 2
  have n4 := hrb.cell 4
  have n5 := hrb.cell 5
  simp only [recV, List.getElem?_toArray, List.getElem?_cons_succ, List.getElem?_cons_zero] at n0 n1 n2 n4 n5
  have HRB := Lib.hid hrb
  clear hb2 h htab ho hT hTn k2 k3 hsz hrb hrw
  go_enter Tryd.func14, Tryd.ntmps14
  go_wp2
  go_region_held3 (fun V => V.cell? ⟨w.heap.size, 0, none⟩ = some (.pointer (some ⟨r, 0, none⟩)) ∧ V.cell? ⟨w.heap.size + 1, 0, none⟩ = some (.slice A n c))
    (first | exact ⟨b2, b3⟩ | go_keep)
    (first | (go_at_call 13; refine HRM.out.mono ?_; rintro e w1 ⟨rfl, rfl⟩))
  generalize ((w.alloc (.cells #[.pointer (some ⟨r, 0, none⟩)] 23)).alloc (.cells #[.slice A n c] 22)).drew = W3 at *
  obtain ⟨p, hp⟩ : ∃ p, p = (num + 1) % 2 := ⟨_, rfl⟩
  have hrm : ((num : Int) + 1).tmod 2 = (p : Int) := by rw [Int.tmod_eq_emod_of_nonneg (by omega)]; omega
  have hrm' : ((num : Int) + 1) % 2 = (p : Int) := by omega
  have hpb : p ≤ 1 := by omega
  obtain ⟨q, hq⟩ : ∃ q, q = p * half := ⟨_, rfl⟩
  have hmul : (p : Int) * (half : Int) = (q : Int) := by rw [hq]; simp
  have hqb : q ≤ half := by
    rcases (by omega : p = 0 ∨ p = 1) with e | e
    · rw [hq, e]; omega
    · rw [hq, e]; omega
  have HQ : Hid (first + (num + 1) % 2 * half = first + q) := by show _ = _; rw [hq, hp]
  have wp : IntKind.i64.wrap (p : Int) = (p : Int) := IntWalk.i64_in _ (by omega)
  have wq : IntKind.i64.wrap (q : Int) = (q : Int) := IntWalk.i64_in _ (by omega)
  have wf : IntKind.i64.wrap ((first : Int) + (q : Int)) = (first : Int) + (q : Int) := IntWalk.i64_in _ (by omega)
  clear hp hq
  go_wp2
  have k5 := Blk.new W3 3 #[.int .i64 ((num : Int) + 1)]
  have k2 := HK2.out.alloc (.cells #[.int .i64 ((num : Int) + 1)] 3)
  have k3 := HK3.out.alloc (.cells #[.int .i64 ((num : Int) + 1)] 3)
  have kr := HRB.out.alloc (.cells #[.int .i64 ((num : Int) + 1)] 3)
  have hb4 : Below w.heap.size w (W3.alloc (.cells #[.int .i64 ((num : Int) + 1)] 3)) := HB2.out.alloc HB2.out.size _
  have hz4 : (W3.alloc (.cells #[.int .i64 ((num : Int) + 1)] 3)).heap.size = w.heap.size + 3 := by rw [World.size_alloc, HSZ.out]
  have hz3 := HSZ.out
  rw [hz3] at k5 ⊢
  clear n0 n1 n2 n4 n5 b2 b3 HRM HK2 HK3 HRB HB2 HSZ
  generalize W3.alloc (.cells #[.int .i64 ((num : Int) + 1)] 3) = W4 at k5 k2 k3 kr hb4 hz4 ⊢
  have m1 := kr.cell 1
  have m2 := kr.cell 2
  have m3 := k2.cell 0
  have m4 := k5.cell 0
  simp only [recV, List.getElem?_toArray, List.getElem?_cons_succ, List.getElem?_cons_zero] at m1 m2 m3 m4
  have K5 := Lib.hid k5
  have K2 := Lib.hid k2
  have K3 := Lib.hid k3
  have KR := Lib.hid kr
  have HB4 := Lib.hid hb4
  have HZ4 := Lib.hid hz4
  have ma := World.new_ne W4 ⟨w.heap.size, 0, none⟩ m3
  have mb := World.new_ne W4 ⟨r, 1, none⟩ m1
  have mc := World.new_ne W4 ⟨w.heap.size + 2, 0, none⟩ m4
  dsimp only at ma mb mc
  clear k5 k2 k3 kr hb4 hz4 hz3
  go_region_held3 (fun V => V.cell? ⟨w.heap.size, 0, none⟩ = some (.pointer (some ⟨r, 0, none⟩)) ∧ V.cell? ⟨r, 1, none⟩ = some (.int .i64 (first : Int)) ∧ V.cell? ⟨r, 2, none⟩ = some (.int .i64 (half : Int)) ∧ V.cell? ⟨w.heap.size + 2, 0, none⟩ = some (.int .i64 ((num : Int) + 1)))
    (first | exact ⟨m3, m1, m2, m4⟩ | go_keep)
    (fail)
  have e6 := Blk.new W4 3 #[.int .i64 ((first : Int) + (q : Int))]
  rw [HZ4.out] at e6 ⊢
  have k6 := e6.drew
  have k5 := (K5.out.alloc (.cells #[.int .i64 ((first : Int) + (q : Int))] 3)).drew
  have k2 := (K2.out.alloc (.cells #[.int .i64 ((first : Int) + (q : Int))] 3)).drew
  have k3 := (K3.out.alloc (.cells #[.int .i64 ((first : Int) + (q : Int))] 3)).drew
  have kr := (KR.out.alloc (.cells #[.int .i64 ((first : Int) + (q : Int))] 3)).drew
  have hb5 : Below w.heap.size w (W4.alloc (.cells #[.int .i64 ((first : Int) + (q : Int))] 3)).drew := (HB4.out.alloc HB4.out.size _).drew
  have hz5 : (W4.alloc (.cells #[.int .i64 ((first : Int) + (q : Int))] 3)).drew.heap.size = w.heap.size + 4 := by
    show (W4.alloc _).heap.size = _
    rw [World.size_alloc, HZ4.out]
  clear e6 m1 m2 m3 m4 ma mb mc K5 K2 K3 KR HB4 HZ4
  generalize (W4.alloc (.cells #[.int .i64 ((first : Int) + (q : Int))] 3)).drew = W5 at k6 k5 k2 k3 kr hb5 hz5 ⊢
  have h6 : Below W5.heap.size W5 (W5.alloc (.cells #[.func (.func 31) #[] #[.pointer (some ⟨w.heap.size, 0, none⟩), .pointer (some ⟨w.heap.size + 3, 0, none⟩), .pointer (some ⟨w.heap.size + 1, 0, none⟩)], .func (.func 18) #[.pointer (some ⟨d, 0, none⟩)] #[], .func (.func 33) #[] #[.pointer (some ⟨w.heap.size, 0, none⟩), .pointer (some ⟨w.heap.size + 3, 0, none⟩), .pointer (some ⟨w.heap.size + 2, 0, none⟩), .pointer (some ⟨w.heap.size + 1, 0, none⟩)], .func (.func 18) #[.pointer (some ⟨d, 0, none⟩)] #[]] 37)).drew := ((Below.refl _ _).alloc (Nat.le_refl _) _).drew
  have hb6 := hb5.trans (h6.mono hb5.size)
  have gl := (Blk.new W5 37 #[.func (.func 31) #[] #[.pointer (some ⟨w.heap.size, 0, none⟩), .pointer (some ⟨w.heap.size + 3, 0, none⟩), .pointer (some ⟨w.heap.size + 1, 0, none⟩)], .func (.func 18) #[.pointer (some ⟨d, 0, none⟩)] #[], .func (.func 33) #[] #[.pointer (some ⟨w.heap.size, 0, none⟩), .pointer (some ⟨w.heap.size + 3, 0, none⟩), .pointer (some ⟨w.heap.size + 2, 0, none⟩), .pointer (some ⟨w.heap.size + 1, 0, none⟩)], .func (.func 18) #[.pointer (some ⟨d, 0, none⟩)] #[]]).drew
  rw [hz5] at gl
  have r6 := kr.below h6 kr.lt
  have hd6 := HH.out.below hb6
  have HCM : Hid (ComAt w.heap.size d s M r first half num (.slice A0 T0.length c0) w.heap.size (w.heap.size + 1) (w.heap.size + 2) (w.heap.size + 3) (w.heap.size + 4) (first + q) (num + 1) n c A T 4 nn K (W5.alloc (.cells #[.func (.func 31) #[] #[.pointer (some ⟨w.heap.size, 0, none⟩), .pointer (some ⟨w.heap.size + 3, 0, none⟩), .pointer (some ⟨w.heap.size + 1, 0, none⟩)], .func (.func 18) #[.pointer (some ⟨d, 0, none⟩)] #[], .func (.func 33) #[] #[.pointer (some ⟨w.heap.size, 0, none⟩), .pointer (some ⟨w.heap.size + 3, 0, none⟩), .pointer (some ⟨w.heap.size + 2, 0, none⟩), .pointer (some ⟨w.heap.size + 1, 0, none⟩)], .func (.func 18) #[.pointer (some ⟨d, 0, none⟩)] #[]] 37)).drew) := by
    have hl := HH.out.lt
    have htl := HTN.out
    refine Lib.hid ⟨hd6, TabK.below HTAB.out hb6, r6, k2.below h6 k2.lt, k3.below h6 k3.lt, ?_, ?_, gl, HT.out.below hb6, HTN.out, by omega, ⟨hc, hcm⟩, ?_, by omega, by omega, hl, by omega, fun x e => by cases e⟩
    · have := k5.below h6 k5.lt
      rw [show ((num + 1 : Nat) : Int) = (num : Int) + 1 from by simp]
      exact this
    · have := k6.below h6 k6.lt
      rw [show ((first + q : Nat) : Int) = (first : Int) + (q : Int) from by simp]
      exact this
    · unfold chunksN
      omega
  have HSP := Lib.hid (steps_any _ HCM.out HO.out)
  have n0 := kr.cell 0
  have n2 := k2.cell 0
  simp only [recV, List.getElem?_toArray, List.getElem?_cons_zero] at n0 n2
  have n3 := (r6.cell 0)
  have n4 := (k2.below h6 k2.lt).cell 0
  simp only [recV, List.getElem?_toArray, List.getElem?_cons_zero] at n3 n4
  have HB6 := Lib.hid hb6
  have HZ5 := Lib.hid hz5
  have HRL : Hid (r < w.heap.size) := HRW.out.lt
  have K26 := Lib.hid (k2.below h6 k2.lt)
  have K36 := Lib.hid (k3.below h6 k3.lt)
  have K56 := Lib.hid (k5.below h6 k5.lt)
  have HSB : Hid (∀ V, StepsPost d s M r first half num (.slice A0 T0.length c0) (W5.alloc (.cells #[.func (.func 31) #[] #[.pointer (some ⟨w.heap.size, 0, none⟩), .pointer (some ⟨w.heap.size + 3, 0, none⟩), .pointer (some ⟨w.heap.size + 1, 0, none⟩)], .func (.func 18) #[.pointer (some ⟨d, 0, none⟩)] #[], .func (.func 33) #[] #[.pointer (some ⟨w.heap.size, 0, none⟩), .pointer (some ⟨w.heap.size + 3, 0, none⟩), .pointer (some ⟨w.heap.size + 2, 0, none⟩), .pointer (some ⟨w.heap.size + 1, 0, none⟩)], .func (.func 18) #[.pointer (some ⟨d, 0, none⟩)] #[]] 37)).drew (commitK K (first + q) (num + 1) T) V → V.cell? ⟨w.heap.size, 0, none⟩ = some (.pointer (some ⟨r, 0, none⟩)) ∧ V.cell? ⟨r, 0, none⟩ = some (.pointer (some ⟨d, 0, none⟩))) := by
    refine Lib.hid (fun V hv => ?_)
    obtain ⟨_, v2, v3⟩ := hv
    have e0 := v2.cell 0
    have e2 := (K26.out.fr v3 (by
      have hl := HH.out.lt
      have hrl := HRL.out
      rintro ((e | e | e) | e) <;> omega)).cell 0
    exact ⟨e2, e0⟩
  clear k6 k5 k2 k3 kr hb5 hz5 h6 hb6 gl r6 hd6
  go_wp2
  rw [← HZ5.out] at HSP
  go_region_held3 (fun V => V.cell? ⟨w.heap.size, 0, none⟩ = some (.pointer (some ⟨r, 0, none⟩)) ∧ V.cell? ⟨r, 0, none⟩ = some (.pointer (some ⟨d, 0, none⟩)))
    (first | exact ⟨n2, n0⟩ | exact ⟨n4, n3⟩ | exact hc1)
    (first | (go_at_call 35; refine HSP.out.mono ?_; rintro e w7 ⟨rfl, hsp⟩; have hc1 := HSB.out w7 hsp; have HS7 := Lib.hid hsp; clear hsp))
  all_goals clear hc1 n0 n2 n3 n4 HSP HSB HCM
  all_goals
    have HFW : Hid (Fr (fun k => DS d s M k ∨ k = r) w w7) := Lib.hid ((Fr.of_below HB6.out).trans HS7.out.2.2)
    have HNO : Hid (∀ g, (DS d s M g ∨ g = r) → g < w.heap.size → NoBy w g) := Lib.hid (fun g hg _ => hg.elim (fun e => HH.out.noBy g e) (fun e => e ▸ HNB.out))
    cases hoff : (commitK K (first + q) (num + 1) T).off with
    | true =>
      have HE : offE (commitK K (first + q) (num + 1) T) = 210 := by unfold offE; rw [hoff]; rfl
      have HPOST : Hid ((∃ n', ((commitK K (first + q) (num + 1) T).off = false → n' = 0) ∧ DiskAt w7 d s M n' (commitK K (first + q) (num + 1) T)) ∧ RecAt w7 r d first half num T0 true ∧ Fr (fun k => DS d s M k ∨ k = r) w w7) := by
        refine Lib.hid ⟨HS7.out.1, ⟨A0, c0, ?_, HX.out.1, HX.out.2.1, HX.out.2.2.fr2 HFW.out HNO.out⟩, HFW.out⟩
        have := HS7.out.2.1
        rw [hoff] at this
        exact this
      have HOFF := Lib.hid hoff
      rw [HE]
      clear hoff HE
      go_wp2
      go_ret
      rw [HQ.out]
      refine ⟨?_, HPOST.out.1, ?_, HPOST.out.2.2⟩
      · unfold offE; rw [HOFF.out]; rfl
      · rw [HOFF.out, if_pos rfl]; exact HPOST.out.2.1
    | false =>
      have HE : offE (commitK K (first + q) (num + 1) T) = 0 := by unfold offE; rw [hoff]; rfl
      have hr7 : Blk w7 r 55 (recV d first half (.slice A0 T0.length c0) num false) := by
        have := HS7.out.2.1
        rw [hoff] at this
        exact this
      have HR7 : Hid (RecAt w7 r d first half num T0 false) := Lib.hid ⟨A0, c0, hr7, HX.out.1, HX.out.2.1, HX.out.2.2.fr2 HFW.out HNO.out⟩
      have HT7 := Lib.hid (HT.out.fr2 HFW.out HNO.out)
      have hnot : ∀ g, w.heap.size ≤ g → ¬ (DS d s M g ∨ g = r) := by
        have hl := HH.out.lt
        have hrl := HRL.out
        rintro g hg ((e | e | e) | e) <;> omega
      have j2 := K26.out.fr HS7.out.2.2 (hnot _ (by omega))
      have j3 := K36.out.fr HS7.out.2.2 (hnot _ (by omega))
      have j5 := K56.out.fr HS7.out.2.2 (hnot _ (by omega))
      have i2 := j2.cell 0
      have i3 := j3.cell 0
      have i5 := j5.cell 0
      simp only [List.getElem?_toArray, List.getElem?_cons_zero] at i2 i3 i5
      have J2 := Lib.hid j2
      have J3 := Lib.hid j3
      have J5 := Lib.hid j5
      have HCL := Lib.hid (clone_n A n c T w7.drew HTN.out (by omega) HT7.out.drew')
      have HOFF := Lib.hid hoff
      have hrl := HRL.out
      have g1 : r ≠ w.heap.size := by omega
      have g2 : r ≠ w.heap.size + 1 := by omega
      have g3 : r ≠ w.heap.size + 2 := by omega
      rw [HE]
      clear hoff HE hr7 hnot j2 j3 j5
      go_wp2
      go_region_held3 (fun V => V.cell? ⟨w.heap.size, 0, none⟩ = some (.pointer (some ⟨r, 0, none⟩)) ∧ V.cell? ⟨w.heap.size + 1, 0, none⟩ = some (.slice A n c) ∧ V.cell? ⟨w.heap.size + 2, 0, none⟩ = some (.int .i64 ((num : Int) + 1)))
        (first | exact ⟨i2, i3, i5⟩ | exact ⟨i6, i7, i8⟩ | go_keep)
        (first | (go_at_call 30; refine HCL.out.mono ?_; rintro e w8 ⟨v, rfl, hv, hb8⟩; obtain ⟨A8, c8, rfl, p1, p2, p3, _⟩ := hv.shape_n HTN.out; have i6 := (J2.out.drew.below hb8 J2.out.lt).cell 0; have i7 := (J3.out.drew.below hb8 J3.out.lt).cell 0; have i8 := (J5.out.drew.below hb8 J5.out.lt).cell 0; simp only [List.getElem?_toArray, List.getElem?_cons_zero] at i6 i7 i8; have HR8 := Lib.hid ((HR7.out.below (show Below w7.heap.size w7 w8 from ((Below.refl _ _).drew).trans hb8))); obtain ⟨A7, c7, hb7, _⟩ := HR8.out; have o3 := hb7.cell 3; have o4 := hb7.cell 4; have f3 := hb7.frozen 3; have f4 := hb7.frozen 4; simp only [recV, List.getElem?_toArray, List.getElem?_cons_succ, List.getElem?_cons_zero] at o3 o4; have HB8 := Lib.hid hb8; have HP3 := Lib.hid p3; clear hb7 hb8 p3 hv))
      have hset := HR8.out.set' (N' := num + 1) (T' := T) (A := A8) (c := c8) (by rw [HTN.out]; exact p1) (by unfold maxLen at p2; omega) HP3.out
      rw [HTN.out, show ((num + 1 : Nat) : Int) = (num : Int) + 1 from by simp] at hset
      have HPOST : Hid ((∃ n', ((commitK K (first + q) (num + 1) T).off = false → n' = 0) ∧ DiskAt ((w8.setCell ⟨r, 3, none⟩ (.slice A8 n c8)).setCell ⟨r, 4, none⟩ (.int .i64 ((num : Int) + 1))) d s M n' (commitK K (first + q) (num + 1) T)) ∧ RecAt ((w8.setCell ⟨r, 3, none⟩ (.slice A8 n c8)).setCell ⟨r, 4, none⟩ (.int .i64 ((num : Int) + 1))) r d first half (num + 1) T false ∧ Fr (fun k => DS d s M k ∨ k = r) w ((w8.setCell ⟨r, 3, none⟩ (.slice A8 n c8)).setCell ⟨r, 4, none⟩ (.int .i64 ((num : Int) + 1)))) := by
        obtain ⟨n', hn', hD⟩ := HS7.out.1
        have hb78 : Below w7.heap.size w7 w8 := ((Below.refl _ _).drew).trans HB8.out
        refine Lib.hid ⟨⟨n', hn', (hD.below hb78).fr hset.2 (fun k hk e => ?_) (fun g e _ => e ▸ HR8.out.noBy)⟩, hset.1, (HFW.out.below hb78).trans (hset.2.mono (fun k _ e => .inr e))⟩
        obtain ⟨A5, c5, hb5, _⟩ := HR7.out
        subst e
        rcases hk with e | e | e
        · obtain ⟨cap, hb, _⟩ := hD.blk
          exact hb5.ne_ hb (by decide) e
        · obtain ⟨cs, hb, _⟩ := hD.row
          exact hb5.ne_ hb (by decide) e
        · obtain ⟨f, hm, _⟩ := hD.map
          exact hm.not_blk hb5 e
      clear hset
      go_wp2
      go_ret
      rw [HQ.out]
      refine ⟨?_, HPOST.out.1, ?_, HPOST.out.2.2⟩
      · unfold offE; rw [HOFF.out]; rfl
      · rw [HOFF.out, if_neg (by simp)]; exact HPOST.out.2.1
end Go.Proofs.YtcndkkagnobpmaaDoor
