/-
  record: Commit.
  record: a commit while the power stays.
  pursuivantlaw22.lives.
  A commit that a crash cuts, plainly.
  What is found behind a crash within a commit.
  record: contracts at a disk whose halves are as every commit and every crash leaves them.
-/
import Derived.Test.YtgpcinfhcamgpaaGreatDoorGRb
import Derived.Test.YtgpcinfhcamgpaaGreatDoorGA
import Derived.Lib.SlBytesConst
import Derived.Test.YtgpcinfhcamgpaaGreatDoorGD
namespace Go.Proofs.YtgpcinfhcamgpaaGreatDoor
open Go.RowKit
attribute [local go_sem ↓] Go.wp_at_zero Go.wp_at_succ
set_option linter.unusedVariables false

set_option maxRecDepth 100000 in
set_option maxHeartbeats 1000000 in
theorem rcommit_nil (A : Option Addr) (n c : Nat) (w : World) : Calls Tryz.prog 57 #[.pointer none, .slice A n c] w fun e w' => e = .returned (.int .i64 6) ∧ Below w.heap.size w w' := by
  go_enter Tryz.func57, Tryz.ntmps57
  go_wp2
  go_ret
  exact ⟨rfl, (((Below.refl _ _).alloc (Nat.le_refl _) _).alloc (by simp) _)⟩
set_option maxRecDepth 100000 in
set_option maxHeartbeats 2000000 in
theorem rcommit_long {r d first half num : Nat} {T0 : List UInt8} {dead : Bool} (A : Option Addr) (n c : Nat) (w : World) (hR : RecAt w r d first half num T0 dead) (hh : 2 ≤ half) (hhb : half ≤ 16384) (hn : 64 * (half - 1) < n) (hnb : n ≤ 9223372036854775807) :
    Calls Tryz.prog 57 #[.pointer (some ⟨r, 0, none⟩), .slice A n c] w fun e w' => e = .returned (.int .i64 3) ∧ Below w.heap.size w w' := by
  have hb2 : Below w.heap.size w ((w.alloc (.cells #[.pointer (some ⟨r, 0, none⟩)] 85)).alloc (.cells #[.slice A n c] 22)) := (((Below.refl _ _).alloc (Nat.le_refl _) _).alloc (by simp) _)
  have HRM := Lib.hid (rroom_any (((w.alloc (.cells #[.pointer (some ⟨r, 0, none⟩)] 85)).alloc (.cells #[.slice A n c] 22)).drew) ((hR.below hb2).below ⟨rfl, rfl, rfl, Nat.le_refl _, fun _ _ => rfl⟩) (by omega) hhb)
  have HB := Lib.hid hb2
  have b2 := ((Blk.new w 85 #[.pointer (some ⟨r, 0, none⟩)]).alloc (.cells #[.slice A n c] 22)).cell 0
  have b3 := (Blk.new (w.alloc (.cells #[.pointer (some ⟨r, 0, none⟩)] 85)) 22 #[.slice A n c]).cell 0
  simp only [List.getElem?_toArray, List.getElem?_cons_zero, World.size_alloc] at b2 b3
  have d1 : decide (64 * ((half : Int) - 1) < (n : Int)) = true := by rw [decide_eq_true_iff]; omega
  clear hR hb2
  go_enter Tryz.func57, Tryz.ntmps57
  go_wp2
  go_region_held3 (fun V => V.cell? ⟨w.heap.size, 0, none⟩ = some (.pointer (some ⟨r, 0, none⟩)) ∧ V.cell? ⟨w.heap.size + 1, 0, none⟩ = some (.slice A n c))
    (first | exact ⟨b2, b3⟩ | go_keep)
    (first | (go_at_call 59; refine HRM.out.mono ?_; rintro e w1 ⟨rfl, rfl⟩))
  go_wp2
  go_ret
  exact ⟨rfl, ⟨HB.out.os, HB.out.tape, HB.out.output, HB.out.size, HB.out.block⟩⟩
/-- what is behind a commit -/
def ComPost (d s M r first half num : Nat) (T0 T : List UInt8) (w : World) (Kc : Dk) (e : Ending) (w' : World) : Prop :=
  e = .returned (.int .i64 (offE Kc)) ∧ (∃ n', (Kc.off = false → n' = 0) ∧ DiskAt w' d s M n' Kc) ∧
  (if Kc.off then RecAt w' r d first half num T0 true else RecAt w' r d first half (num + 1) T false) ∧ Fr (fun k => DS d s M k ∨ k = r) w w'
set_option maxRecDepth 100000 in
set_option maxHeartbeats 4000000 in
theorem rcommit_any {d s M nn r first half num : Nat} {T0 : List UInt8} {K : Dk} (A : Option Addr) (n c : Nat) (T : List UInt8) (w : World) (h : DiskAt w d s M nn K) (htab : TabK w) (hR : RecAt w r d first half num T0 false) (ho : K.off = false) (hh : 2 ≤ half) (hin : first + 2 * half ≤ K.sure.length)
    (hT : RB w A T) (hTn : T.length = n) (hc : n ≤ c) (hcm : c ≤ 9223372036854775807) (hn : n ≤ 64 * (half - 1)) (hnum : num < 1152921504606846976) (hnn : nn + 80000 < 1000000) :
    Calls Tryz.prog 57 #[.pointer (some ⟨r, 0, none⟩), .slice A n c] w fun e w' => ComPost d s M r first half num T0 T w (commitK K (first + (num + 1) % 2 * half) (num + 1) T) e w' := by
  have hfew := h.few.2
  have hhb : half ≤ 16384 := by omega
  have hb2 : Below w.heap.size w ((w.alloc (.cells #[.pointer (some ⟨r, 0, none⟩)] 85)).alloc (.cells #[.slice A n c] 22)).drew := (((Below.refl _ _).alloc (Nat.le_refl _) _).alloc (by simp) _).drew
  have HRM := Lib.hid (rroom_any (((w.alloc (.cells #[.pointer (some ⟨r, 0, none⟩)] 85)).alloc (.cells #[.slice A n c] 22)).drew) (hR.below hb2) (by omega) hhb)
  have k2 : Blk ((w.alloc (.cells #[.pointer (some ⟨r, 0, none⟩)] 85)).alloc (.cells #[.slice A n c] 22)).drew w.heap.size 85 #[.pointer (some ⟨r, 0, none⟩)] := ((Blk.new w 85 #[.pointer (some ⟨r, 0, none⟩)]).alloc (.cells #[.slice A n c] 22)).drew
  have k3 : Blk ((w.alloc (.cells #[.pointer (some ⟨r, 0, none⟩)] 85)).alloc (.cells #[.slice A n c] 22)).drew (w.heap.size + 1) 22 #[.slice A n c] := by
    have := (Blk.new (w.alloc (.cells #[.pointer (some ⟨r, 0, none⟩)] 85)) 22 #[.slice A n c]).drew
    rw [World.size_alloc] at this
    exact this
  have hsz : ((w.alloc (.cells #[.pointer (some ⟨r, 0, none⟩)] 85)).alloc (.cells #[.slice A n c] 22)).drew.heap.size = w.heap.size + 2 := by
    show ((w.alloc _).alloc _).heap.size = _
    simp
  have HK2 := Lib.hid k2
  have HK3 := Lib.hid k3
  have b2 : ((w.alloc (.cells #[.pointer (some ⟨r, 0, none⟩)] 85)).alloc (.cells #[.slice A n c] 22)).cell? ⟨w.heap.size, 0, none⟩ = some (.pointer (some ⟨r, 0, none⟩)) := k2.cell 0
  have b3 : ((w.alloc (.cells #[.pointer (some ⟨r, 0, none⟩)] 85)).alloc (.cells #[.slice A n c] 22)).cell? ⟨w.heap.size + 1, 0, none⟩ = some (.slice A n c) := k3.cell 0
  have d1 : decide (64 * ((half : Int) - 1) < (n : Int)) = false := by rw [decide_eq_false_iff_not]; omega
  have d2 : decide (1152921504606846976 ≤ (num : Int)) = false := by rw [decide_eq_false_iff_not]; omega
  have d2' : decide (1152921504606846976 ≤ num) = false := by rw [decide_eq_false_iff_not]; omega
  have HH := Lib.hid h
  have HTAB := Lib.hid htab
  have HRA := Lib.hid hR
  have HO := Lib.hid ho
  have HT := Lib.hid hT
  have HTN := Lib.hid hTn
  have HB2 := Lib.hid hb2
  have HSZ := Lib.hid hsz
  have HNB := Lib.hid hR.noBy
  obtain ⟨A0, c0, hrw, hx1, hx2, hx3⟩ := hR
  have hrb := hrw.below hb2 hrw.lt
  have HRW := Lib.hid hrw
  have HX := Lib.hid (And.intro hx1 (And.intro hx2 hx3))
  clear hx1 hx2 hx3
  have n0 := hrb.cell 0
  have n1 := hrb.cell 1
  have n2 := hrb.cell 2
  have n4 := hrb.cell 4
  have n5 := hrb.cell 5
  simp only [recV, List.getElem?_toArray, List.getElem?_cons_succ, List.getElem?_cons_zero] at n0 n1 n2 n4 n5
  have HRB := Lib.hid hrb
  clear hb2 h htab ho hT hTn k2 k3 hsz hrb hrw
  go_enter Tryz.func57, Tryz.ntmps57
  go_wp2
  go_region_held3 (fun V => V.cell? ⟨w.heap.size, 0, none⟩ = some (.pointer (some ⟨r, 0, none⟩)) ∧ V.cell? ⟨w.heap.size + 1, 0, none⟩ = some (.slice A n c))
    (first | exact ⟨b2, b3⟩ | go_keep)
    (first | (go_at_call 59; refine HRM.out.mono ?_; rintro e w1 ⟨rfl, rfl⟩))
  generalize ((w.alloc (.cells #[.pointer (some ⟨r, 0, none⟩)] 85)).alloc (.cells #[.slice A n c] 22)).drew = W3 at *
  obtain ⟨p, hp⟩ : ∃ p, p = (num + 1) % 2 := ⟨_, rfl⟩
  have hrm : ((num : Int) + 1).tmod 2 = (p : Int) := by rw [Int.tmod_eq_emod_of_nonneg (by omega)]; omega
  have hrm' : ((num : Int) + 1) % 2 = (p : Int) := by omega
  have hpb : p ≤ 1 := by omega
  obtain ⟨q, hq⟩ : ∃ q, q = p * half := ⟨_, rfl⟩
  have hmul : (p : Int) * (half : Int) = (q : Int) := by rw [hq]; simp
  have hqb : q ≤ half := by
    rcases (by omega : p = 0 ∨ p = 1) with e | e
    · rw [hq, e]; omega
    · rw [hq, e]; omega
  have HQ : Hid (first + (num + 1) % 2 * half = first + q) := by show _ = _; rw [hq, hp]
  have wp : IntKind.i64.wrap (p : Int) = (p : Int) := IntWalk.i64_in _ (by omega)
  have wq : IntKind.i64.wrap (q : Int) = (q : Int) := IntWalk.i64_in _ (by omega)
  have wf : IntKind.i64.wrap ((first : Int) + (q : Int)) = (first : Int) + (q : Int) := IntWalk.i64_in _ (by omega)
  clear hp hq
  go_wp2
  have k5 := Blk.new W3 3 #[.int .i64 ((num : Int) + 1)]
  have k2 := HK2.out.alloc (.cells #[.int .i64 ((num : Int) + 1)] 3)
  have k3 := HK3.out.alloc (.cells #[.int .i64 ((num : Int) + 1)] 3)
  have kr := HRB.out.alloc (.cells #[.int .i64 ((num : Int) + 1)] 3)
  have hb4 : Below w.heap.size w (W3.alloc (.cells #[.int .i64 ((num : Int) + 1)] 3)) := HB2.out.alloc HB2.out.size _
  have hz4 : (W3.alloc (.cells #[.int .i64 ((num : Int) + 1)] 3)).heap.size = w.heap.size + 3 := by rw [World.size_alloc, HSZ.out]
  have hz3 := HSZ.out
  rw [hz3] at k5 ⊢
  clear n0 n1 n2 n4 n5 b2 b3 HRM HK2 HK3 HRB HB2 HSZ
  generalize W3.alloc (.cells #[.int .i64 ((num : Int) + 1)] 3) = W4 at k5 k2 k3 kr hb4 hz4 ⊢
  have m1 := kr.cell 1
  have m2 := kr.cell 2
  have m3 := k2.cell 0
  have m4 := k5.cell 0
  simp only [recV, List.getElem?_toArray, List.getElem?_cons_succ, List.getElem?_cons_zero] at m1 m2 m3 m4
  have K5 := Lib.hid k5
  have K2 := Lib.hid k2
  have K3 := Lib.hid k3
  have KR := Lib.hid kr
  have HB4 := Lib.hid hb4
  have HZ4 := Lib.hid hz4
  have ma := World.new_ne W4 ⟨w.heap.size, 0, none⟩ m3
  have mb := World.new_ne W4 ⟨r, 1, none⟩ m1
  have mc := World.new_ne W4 ⟨w.heap.size + 2, 0, none⟩ m4
  dsimp only at ma mb mc
  clear k5 k2 k3 kr hb4 hz4 hz3
  go_region_held3 (fun V => V.cell? ⟨w.heap.size, 0, none⟩ = some (.pointer (some ⟨r, 0, none⟩)) ∧ V.cell? ⟨r, 1, none⟩ = some (.int .i64 (first : Int)) ∧ V.cell? ⟨r, 2, none⟩ = some (.int .i64 (half : Int)) ∧ V.cell? ⟨w.heap.size + 2, 0, none⟩ = some (.int .i64 ((num : Int) + 1)))
    (first | exact ⟨m3, m1, m2, m4⟩ | go_keep)
    (fail)
  have e6 := Blk.new W4 3 #[.int .i64 ((first : Int) + (q : Int))]
  rw [HZ4.out] at e6 ⊢
  have k6 := e6.drew
  have k5 := (K5.out.alloc (.cells #[.int .i64 ((first : Int) + (q : Int))] 3)).drew
  have k2 := (K2.out.alloc (.cells #[.int .i64 ((first : Int) + (q : Int))] 3)).drew
  have k3 := (K3.out.alloc (.cells #[.int .i64 ((first : Int) + (q : Int))] 3)).drew
  have kr := (KR.out.alloc (.cells #[.int .i64 ((first : Int) + (q : Int))] 3)).drew
  have hb5 : Below w.heap.size w (W4.alloc (.cells #[.int .i64 ((first : Int) + (q : Int))] 3)).drew := (HB4.out.alloc HB4.out.size _).drew
  have hz5 : (W4.alloc (.cells #[.int .i64 ((first : Int) + (q : Int))] 3)).drew.heap.size = w.heap.size + 4 := by
    show (W4.alloc _).heap.size = _
    rw [World.size_alloc, HZ4.out]
  clear e6 m1 m2 m3 m4 ma mb mc K5 K2 K3 KR HB4 HZ4
  generalize (W4.alloc (.cells #[.int .i64 ((first : Int) + (q : Int))] 3)).drew = W5 at k6 k5 k2 k3 kr hb5 hz5 ⊢
  have h6 : Below W5.heap.size W5 (W5.alloc (.cells #[.func (.func 90) #[] #[.pointer (some ⟨w.heap.size, 0, none⟩), .pointer (some ⟨w.heap.size + 3, 0, none⟩), .pointer (some ⟨w.heap.size + 1, 0, none⟩)], .func (.func 96) #[.pointer (some ⟨d, 0, none⟩)] #[], .func (.func 92) #[] #[.pointer (some ⟨w.heap.size, 0, none⟩), .pointer (some ⟨w.heap.size + 3, 0, none⟩), .pointer (some ⟨w.heap.size + 2, 0, none⟩), .pointer (some ⟨w.heap.size + 1, 0, none⟩)], .func (.func 96) #[.pointer (some ⟨d, 0, none⟩)] #[]] 72)).drew := ((Below.refl _ _).alloc (Nat.le_refl _) _).drew
  have hb6 := hb5.trans (h6.mono hb5.size)
  have gl := (Blk.new W5 72 #[.func (.func 90) #[] #[.pointer (some ⟨w.heap.size, 0, none⟩), .pointer (some ⟨w.heap.size + 3, 0, none⟩), .pointer (some ⟨w.heap.size + 1, 0, none⟩)], .func (.func 96) #[.pointer (some ⟨d, 0, none⟩)] #[], .func (.func 92) #[] #[.pointer (some ⟨w.heap.size, 0, none⟩), .pointer (some ⟨w.heap.size + 3, 0, none⟩), .pointer (some ⟨w.heap.size + 2, 0, none⟩), .pointer (some ⟨w.heap.size + 1, 0, none⟩)], .func (.func 96) #[.pointer (some ⟨d, 0, none⟩)] #[]]).drew
  rw [hz5] at gl
  have r6 := kr.below h6 kr.lt
  have hd6 := HH.out.below hb6
  have HCM : Hid (ComAt w.heap.size d s M r first half num (.slice A0 T0.length c0) w.heap.size (w.heap.size + 1) (w.heap.size + 2) (w.heap.size + 3) (w.heap.size + 4) (first + q) (num + 1) n c A T 4 nn K (W5.alloc (.cells #[.func (.func 90) #[] #[.pointer (some ⟨w.heap.size, 0, none⟩), .pointer (some ⟨w.heap.size + 3, 0, none⟩), .pointer (some ⟨w.heap.size + 1, 0, none⟩)], .func (.func 96) #[.pointer (some ⟨d, 0, none⟩)] #[], .func (.func 92) #[] #[.pointer (some ⟨w.heap.size, 0, none⟩), .pointer (some ⟨w.heap.size + 3, 0, none⟩), .pointer (some ⟨w.heap.size + 2, 0, none⟩), .pointer (some ⟨w.heap.size + 1, 0, none⟩)], .func (.func 96) #[.pointer (some ⟨d, 0, none⟩)] #[]] 72)).drew) := by
    have hl := HH.out.lt
    have htl := HTN.out
    refine Lib.hid ⟨hd6, TabK.below HTAB.out hb6, r6, k2.below h6 k2.lt, k3.below h6 k3.lt, ?_, ?_, gl, HT.out.below hb6, HTN.out, by omega, ⟨hc, hcm⟩, ?_, by omega, by omega, hl, by omega, fun x e => by cases e⟩
    · have := k5.below h6 k5.lt
      rw [show ((num + 1 : Nat) : Int) = (num : Int) + 1 from by simp]
      exact this
    · have := k6.below h6 k6.lt
      rw [show ((first + q : Nat) : Int) = (first : Int) + (q : Int) from by simp]
      exact this
    · unfold chunksN
      omega
  have HSP := Lib.hid (steps_any _ HCM.out HO.out)
  have n0 := kr.cell 0
  have n2 := k2.cell 0
  simp only [recV, List.getElem?_toArray, List.getElem?_cons_zero] at n0 n2
  have n3 := (r6.cell 0)
  have n4 := (k2.below h6 k2.lt).cell 0
  simp only [recV, List.getElem?_toArray, List.getElem?_cons_zero] at n3 n4
  have HB6 := Lib.hid hb6
  have HZ5 := Lib.hid hz5
  have HRL : Hid (r < w.heap.size) := HRW.out.lt
  have K26 := Lib.hid (k2.below h6 k2.lt)
  have K36 := Lib.hid (k3.below h6 k3.lt)
  have K56 := Lib.hid (k5.below h6 k5.lt)
  have HSB : Hid (∀ V, StepsPost d s M r first half num (.slice A0 T0.length c0) (W5.alloc (.cells #[.func (.func 90) #[] #[.pointer (some ⟨w.heap.size, 0, none⟩), .pointer (some ⟨w.heap.size + 3, 0, none⟩), .pointer (some ⟨w.heap.size + 1, 0, none⟩)], .func (.func 96) #[.pointer (some ⟨d, 0, none⟩)] #[], .func (.func 92) #[] #[.pointer (some ⟨w.heap.size, 0, none⟩), .pointer (some ⟨w.heap.size + 3, 0, none⟩), .pointer (some ⟨w.heap.size + 2, 0, none⟩), .pointer (some ⟨w.heap.size + 1, 0, none⟩)], .func (.func 96) #[.pointer (some ⟨d, 0, none⟩)] #[]] 72)).drew (commitK K (first + q) (num + 1) T) V → V.cell? ⟨w.heap.size, 0, none⟩ = some (.pointer (some ⟨r, 0, none⟩)) ∧ V.cell? ⟨r, 0, none⟩ = some (.pointer (some ⟨d, 0, none⟩))) := by
    refine Lib.hid (fun V hv => ?_)
    obtain ⟨_, v2, v3⟩ := hv
    have e0 := v2.cell 0
    have e2 := (K26.out.fr v3 (by
      have hl := HH.out.lt
      have hrl := HRL.out
      rintro ((e | e | e) | e) <;> omega)).cell 0
    exact ⟨e2, e0⟩
  clear k6 k5 k2 k3 kr hb5 hz5 h6 hb6 gl r6 hd6
  go_wp2
  rw [← HZ5.out] at HSP
  go_region_held3 (fun V => V.cell? ⟨w.heap.size, 0, none⟩ = some (.pointer (some ⟨r, 0, none⟩)) ∧ V.cell? ⟨r, 0, none⟩ = some (.pointer (some ⟨d, 0, none⟩)))
    (first | exact ⟨n2, n0⟩ | exact ⟨n4, n3⟩ | exact hc1)
    (first | (go_at_call 95; refine HSP.out.mono ?_; rintro e w7 ⟨rfl, hsp⟩; have hc1 := HSB.out w7 hsp; have HS7 := Lib.hid hsp; clear hsp))
  all_goals clear hc1 n0 n2 n3 n4 HSP HSB HCM
  all_goals
    have HFW : Hid (Fr (fun k => DS d s M k ∨ k = r) w w7) := Lib.hid ((Fr.of_below HB6.out).trans HS7.out.2.2)
    have HNO : Hid (∀ g, (DS d s M g ∨ g = r) → g < w.heap.size → NoBy w g) := Lib.hid (fun g hg _ => hg.elim (fun e => HH.out.noBy g e) (fun e => e ▸ HNB.out))
    cases hoff : (commitK K (first + q) (num + 1) T).off with
    | true =>
      have HE : offE (commitK K (first + q) (num + 1) T) = 210 := by unfold offE; rw [hoff]; rfl
      have HPOST : Hid ((∃ n', ((commitK K (first + q) (num + 1) T).off = false → n' = 0) ∧ DiskAt w7 d s M n' (commitK K (first + q) (num + 1) T)) ∧ RecAt w7 r d first half num T0 true ∧ Fr (fun k => DS d s M k ∨ k = r) w w7) := by
        refine Lib.hid ⟨HS7.out.1, ⟨A0, c0, ?_, HX.out.1, HX.out.2.1, HX.out.2.2.fr2 HFW.out HNO.out⟩, HFW.out⟩
        have := HS7.out.2.1
        rw [hoff] at this
        exact this
      have HOFF := Lib.hid hoff
      rw [HE]
      clear hoff HE
      go_wp2
      go_ret
      rw [HQ.out]
      refine ⟨?_, HPOST.out.1, ?_, HPOST.out.2.2⟩
      · unfold offE; rw [HOFF.out]; rfl
      · rw [HOFF.out, if_pos rfl]; exact HPOST.out.2.1
    | false =>
      have HE : offE (commitK K (first + q) (num + 1) T) = 0 := by unfold offE; rw [hoff]; rfl
      have hr7 : Blk w7 r 119 (recV d first half (.slice A0 T0.length c0) num false) := by
        have := HS7.out.2.1
        rw [hoff] at this
        exact this
      have HR7 : Hid (RecAt w7 r d first half num T0 false) := Lib.hid ⟨A0, c0, hr7, HX.out.1, HX.out.2.1, HX.out.2.2.fr2 HFW.out HNO.out⟩
      have HT7 := Lib.hid (HT.out.fr2 HFW.out HNO.out)
      have hnot : ∀ g, w.heap.size ≤ g → ¬ (DS d s M g ∨ g = r) := by
        have hl := HH.out.lt
        have hrl := HRL.out
        rintro g hg ((e | e | e) | e) <;> omega
      have j2 := K26.out.fr HS7.out.2.2 (hnot _ (by omega))
      have j3 := K36.out.fr HS7.out.2.2 (hnot _ (by omega))
      have j5 := K56.out.fr HS7.out.2.2 (hnot _ (by omega))
      have i2 := j2.cell 0
      have i3 := j3.cell 0
      have i5 := j5.cell 0
      simp only [List.getElem?_toArray, List.getElem?_cons_zero] at i2 i3 i5
      have J2 := Lib.hid j2
      have J3 := Lib.hid j3
      have J5 := Lib.hid j5
      have HCL := Lib.hid (clone_n A n c T w7.drew HTN.out (by omega) HT7.out.drew')
      have HOFF := Lib.hid hoff
      have hrl := HRL.out
      have g1 : r ≠ w.heap.size := by omega
      have g2 : r ≠ w.heap.size + 1 := by omega
      have g3 : r ≠ w.heap.size + 2 := by omega
      rw [HE]
      clear hoff HE hr7 hnot j2 j3 j5
      go_wp2
      go_region_held3 (fun V => V.cell? ⟨w.heap.size, 0, none⟩ = some (.pointer (some ⟨r, 0, none⟩)) ∧ V.cell? ⟨w.heap.size + 1, 0, none⟩ = some (.slice A n c) ∧ V.cell? ⟨w.heap.size + 2, 0, none⟩ = some (.int .i64 ((num : Int) + 1)))
        (first | exact ⟨i2, i3, i5⟩ | exact ⟨i6, i7, i8⟩ | go_keep)
        (first | (go_at_call 64; refine HCL.out.mono ?_; rintro e w8 ⟨v, rfl, hv, hb8⟩; obtain ⟨A8, c8, rfl, p1, p2, p3, _⟩ := hv.shape_n HTN.out; have i6 := (J2.out.drew.below hb8 J2.out.lt).cell 0; have i7 := (J3.out.drew.below hb8 J3.out.lt).cell 0; have i8 := (J5.out.drew.below hb8 J5.out.lt).cell 0; simp only [List.getElem?_toArray, List.getElem?_cons_zero] at i6 i7 i8; have HR8 := Lib.hid ((HR7.out.below (show Below w7.heap.size w7 w8 from ((Below.refl _ _).drew).trans hb8))); obtain ⟨A7, c7, hb7, _⟩ := HR8.out; have o3 := hb7.cell 3; have o4 := hb7.cell 4; have f3 := hb7.frozen 3; have f4 := hb7.frozen 4; simp only [recV, List.getElem?_toArray, List.getElem?_cons_succ, List.getElem?_cons_zero] at o3 o4; have HB8 := Lib.hid hb8; have HP3 := Lib.hid p3; clear hb7 hb8 p3 hv))
      have hset := HR8.out.set' (N' := num + 1) (T' := T) (A := A8) (c := c8) (by rw [HTN.out]; exact p1) (by unfold maxLen at p2; omega) HP3.out
      rw [HTN.out, show ((num + 1 : Nat) : Int) = (num : Int) + 1 from by simp] at hset
      have HPOST : Hid ((∃ n', ((commitK K (first + q) (num + 1) T).off = false → n' = 0) ∧ DiskAt ((w8.setCell ⟨r, 3, none⟩ (.slice A8 n c8)).setCell ⟨r, 4, none⟩ (.int .i64 ((num : Int) + 1))) d s M n' (commitK K (first + q) (num + 1) T)) ∧ RecAt ((w8.setCell ⟨r, 3, none⟩ (.slice A8 n c8)).setCell ⟨r, 4, none⟩ (.int .i64 ((num : Int) + 1))) r d first half (num + 1) T false ∧ Fr (fun k => DS d s M k ∨ k = r) w ((w8.setCell ⟨r, 3, none⟩ (.slice A8 n c8)).setCell ⟨r, 4, none⟩ (.int .i64 ((num : Int) + 1)))) := by
        obtain ⟨n', hn', hD⟩ := HS7.out.1
        have hb78 : Below w7.heap.size w7 w8 := ((Below.refl _ _).drew).trans HB8.out
        refine Lib.hid ⟨⟨n', hn', (hD.below hb78).fr hset.2 (fun k hk e => ?_) (fun g e _ => e ▸ HR8.out.noBy)⟩, hset.1, (HFW.out.below hb78).trans (hset.2.mono (fun k _ e => .inr e))⟩
        obtain ⟨A5, c5, hb5, _⟩ := HR7.out
        subst e
        rcases hk with e | e | e
        · obtain ⟨cap, hb, _⟩ := hD.blk
          exact hb5.ne_ hb (by decide) e
        · obtain ⟨cs, hb, _⟩ := hD.row
          exact hb5.ne_ hb (by decide) e
        · obtain ⟨f, hm, _⟩ := hD.map
          exact hm.not_blk hb5 e
      clear hset
      go_wp2
      go_ret
      rw [HQ.out]
      refine ⟨?_, HPOST.out.1, ?_, HPOST.out.2.2⟩
      · unfold offE; rw [HOFF.out]; rfl
      · rw [HOFF.out, if_neg (by simp)]; exact HPOST.out.2.1
end Go.Proofs.YtgpcinfhcamgpaaGreatDoor

namespace Go.Proofs.YtgpcinfhcamgpaaGreatDoor
open Go.RowKit
set_option linter.unusedVariables false

/-- a disk in memory that is on and stays on, with a record of half blocks a half from block first on -/
structure RecOn (w : World) (d s M first half N : Nat) (T : List UInt8) (K : Dk) : Prop where
  disk : DiskAt w d s M 0 K
  on : K.off = false
  left : K.left < 0
  full : Full K
  rec_ : RecOK K first half N T
  inn : first + 2 * half ≤ K.sure.length
  two : 2 ≤ half
theorem RecOn.fr {S : Nat → Prop} {w w' : World} {d s M first half N : Nat} {T : List UInt8} {K : Dk} (h : RecOn w d s M first half N T K) (hf : Fr S w w') (hS : ∀ k, DS d s M k → ¬ S k) (hN : ∀ g, S g → g < w.heap.size → NoBy w g) : RecOn w' d s M first half N T K :=
  ⟨h.disk.fr hf hS hN, h.on, h.left, h.full, h.rec_, h.inn, h.two⟩
theorem RecOn.below {w w' : World} {d s M first half N : Nat} {T : List UInt8} {K : Dk} (h : RecOn w d s M first half N T K) (hb : Below w.heap.size w w') : RecOn w' d s M first half N T K :=
  ⟨h.disk.below hb, h.on, h.left, h.full, h.rec_, h.inn, h.two⟩
/-- what is behind a commit that goes well -/
def OnPost (d s M r first half num : Nat) (T : List UInt8) (K : Dk) (w : World) (e : Ending) (w' : World) : Prop :=
  e = .returned (.int .i64 0) ∧ (∃ K', RecOn w' d s M first half (num + 1) T K' ∧ K'.sure.length = K.sure.length ∧ ∀ j, j < K.sure.length → (j < first ∨ first + 2 * half ≤ j) → K'.now j = K.now j) ∧
  RecAt w' r d first half (num + 1) T false ∧ Fr (fun k => DS d s M k ∨ k = r) w w'
theorem rcommit_on {d s M r first half num : Nat} {T0 : List UInt8} {K : Dk} (A : Option Addr) (n c : Nat) (T : List UInt8) (w : World) (h : RecOn w d s M first half num T0 K) (htab : TabK w) (hR : RecAt w r d first half num T0 false)
    (hT : RB w A T) (hTn : T.length = n) (hc : n ≤ c) (hcm : c ≤ 9223372036854775807) (hn : n ≤ 64 * (half - 1)) (hnum : num < 1152921504606846976) :
    Calls Tryz.prog 57 #[.pointer (some ⟨r, 0, none⟩), .slice A n c] w fun e w' => OnPost d s M r first half num T K w e w' := by
  obtain ⟨h1, h2, h3⟩ := commit_left K (first + (num + 1) % 2 * half) (num + 1) T h.left h.on
  have hok := commit_ok K first half num T0 T h.rec_ h.full h.inn h.two (by omega) (by omega) hnum h2
  have hfull := commit_full K (first + (num + 1) % 2 * half) (num + 1) T h2 h.full
  have hlen := commit_len K (first + (num + 1) % 2 * half) (num + 1) T
  refine (rcommit_any A n c T w h.disk htab hR h.on h.two h.inn hT hTn hc hcm hn hnum (by omega)).mono ?_
  rintro e w' ⟨rfl, ⟨n', hn', hD⟩, hRA, hf⟩
  rw [h2, if_neg (by simp)] at hRA
  have e0 := hn' h2
  subst e0
  refine ⟨by unfold offE; rw [h2]; rfl, ⟨_, ⟨hD, h2, by rw [h1]; exact h.left, hfull, hok, by rw [hlen]; exact h.inn, h.two⟩, hlen, fun j hj hout => ?_⟩, hRA, hf⟩
  have hch : chunksN T ≤ half - 1 := by unfold chunksN; omega
  have htwo := h.two
  rw [commit_now K _ _ T h2 hj]
  rcases (by omega : (num + 1) % 2 = 0 ∨ (num + 1) % 2 = 1) with e | e
  · rw [e, if_neg (by omega), if_neg (by omega)]
  · rw [e, if_neg (by omega), if_neg (by omega)]
theorem open_on {d s M first half num : Nat} {T0 : List UInt8} {K : Dk} (count : Nat) (w : World) (h : RecOn w d s M first half num T0 K) (htab : TabK w) (hc : count = 2 * half) :
    Calls Tryz.prog 54 #[.pointer (some ⟨d, 0, none⟩), .int .i64 (first : Int), .int .i64 (count : Int)] w fun e w' => ∃ r, e = .returned (.tuple #[.pointer (some ⟨r, 0, none⟩), .int .i64 0]) ∧ w.heap.size ≤ r ∧ RecAt w' r d first half num T0 false ∧ Below w.heap.size w w' := by
  have := open_ok first count half w htab h.disk h.on hc h.two (by have := h.inn; omega) h.full
  rw [h.rec_.open_] at this
  exact this
theorem RecOn.rec_ds {w : World} {d s M first half N N' f' h' : Nat} {T T' : List UInt8} {K : Dk} {r d' : Nat} {dead : Bool} (h : RecOn w d s M first half N T K) (hR : RecAt w r d' f' h' N' T' dead) : ¬ DS d s M r := by
  obtain ⟨A5, c5, hb5, _⟩ := hR
  rintro (e | e | e)
  · obtain ⟨cap, hb, _⟩ := h.disk.blk
    exact hb5.ne_ hb (by decide) e
  · obtain ⟨cs, hb, _⟩ := h.disk.row
    exact hb5.ne_ hb (by decide) e
  · obtain ⟨f, hm, _⟩ := h.disk.map
    exact hm.not_blk hb5 e
end Go.Proofs.YtgpcinfhcamgpaaGreatDoor

namespace Go.Proofs.YtgpcinfhcamgpaaGreatDoor
open Go.RowKit
attribute [local go_sem ↓] Go.wp_at_zero Go.wp_at_succ
set_option linter.unusedVariables false

theorem zero_now (N i : Nat) (h : i < N) : (Dk.zero N).now i = zeros64 := by
  unfold Dk.now Dk.zero
  simp only [Option.getD_none]
  rw [List.getD_eq_getElem?_getD, List.getElem?_replicate, if_pos h]
  rfl
theorem zero_full (N : Nat) : Full (Dk.zero N) := fun i hi => by
  rw [zero_now N i (by simpa [Dk.zero] using hi)]; rfl
/-- a half whose first block is of zeros holds nothing -/
theorem st_zero {K : Dk} {first half g : Nat} (hh : 1 ≤ half) (h : K.now (first + g * half) = zeros64) : stK K first half g = none := by
  unfold stK
  generalize first + g * half = a at h ⊢
  obtain ⟨m, rfl⟩ : ∃ m, half = m + 1 := ⟨half - 1, by omega⟩
  refine stands_zero _ _ ?_
  rw [allL_cons, h, List.take_append_of_le_length (by decide)]
  decide
theorem rec_zero {K : Dk} {first half : Nat} (hh : 1 ≤ half) (h : ∀ i, i < 2 * half → K.now (first + i) = zeros64) : RecOK K first half 0 [] :=
  .inl ⟨rfl, rfl, st_zero hh (by have := h 0 (by omega); simpa using this), st_zero hh (by have := h half (by omega); simpa using this)⟩
theorem lit_rbf (w : World) (l : List UInt8) (cs : Array Value) (fr : Nat × Nat) (h : cs = (Lib.byteCells l).toArray) : RB (w.alloc (.cells cs 5 fr)) (some ⟨w.heap.size, 0, none⟩) l := by
  subst h
  refine ⟨by simp [Lib.byteCells], fun hn => ⟨_, rfl, by simp, fun j u hu => ?_⟩⟩
  rw [Addr.add_lit, Nat.zero_add, cell_of_row _ w.heap.size j _ 5 fr (heap_alloc_new w _)]
  simpa using hu
theorem fr_of_ge {S : Nat → Prop} {w w1 w' : World} (hb : Below w.heap.size w w1) (hf : Fr S w1 w') (hS : ∀ k, S k → w.heap.size ≤ k) : Below w.heap.size w w' := Fr.below_trans hb hf hb.size hS
end Go.Proofs.YtgpcinfhcamgpaaGreatDoor

namespace Go.Proofs.YtgpcinfhcamgpaaGreatDoor
open Go.RowKit
set_option linter.unusedVariables false

theorem lead_zero : ∀ (l : List UInt8), beVal l < 256 → l.take (l.length - 1) = List.replicate (l.length - 1) 0
  | [], _ => rfl
  | c :: l, h => by
    rcases l with _ | ⟨c', l⟩
    · rfl
    · rw [beVal_cons] at h
      have hp : 256 ≤ 256 ^ (c' :: l).length := by
        rw [List.length_cons, Nat.pow_succ]
        have : 0 < 256 ^ l.length := Nat.pow_pos (by omega)
        omega
      have hc : c.toNat = 0 := by
        rcases Nat.eq_zero_or_pos c.toNat with h0 | h0
        · exact h0
        · have : 256 ^ (c' :: l).length ≤ c.toNat * 256 ^ (c' :: l).length := Nat.le_mul_of_pos_left _ h0
          omega
      have hc0 : c = 0 := UInt8.toNat.inj hc
      have ih := lead_zero (c' :: l) (by omega)
      show (c :: c' :: l).take ((c' :: l).length) = List.replicate (c' :: l).length 0
      rw [List.length_cons] at ih ⊢
      rw [List.take_succ_cons, List.replicate_succ, hc0]
      simpa using ih
theorem lead_take {l : List UInt8} (h8 : l.length = 8) (h : beVal l < 256) {j : Nat} (hj : j ≤ 7) : l.take j = List.replicate j 0 := by
  have := lead_zero l h
  rw [h8] at this
  have e : l.take j = (l.take 7).take j := by rw [List.take_take, Nat.min_eq_left hj]
  rw [e, this, List.take_replicate, Nat.min_eq_left hj]
/-- the number at a block's end -/
def endN (X : List UInt8) : Nat := beVal (X.drop 56)
theorem hdL_end (N : Nat) (T : List UInt8) : (hdL N T).drop 56 = beBytes N 8 := by
  unfold hdL
  refine List.drop_left' ?_
  simp only [List.length_append, beBytes_length, List.length_take, shaL_len, List.length_replicate]; omega
theorem endN_hd (N : Nat) (T : List UInt8) (h : N < 18446744073709551616) : endN (hdL N T) = N := by
  unfold endN
  rw [hdL_end, beVal_be]
  exact Nat.mod_eq_of_lt h
theorem endN_torn (N : Nat) (T old : List UInt8) (q : Nat) (hq : q < 64) (hN : N < 256) (ho : old.length = 64) (he : endN old < 256) : endN ((hdL N T).take q ++ old.drop q) = endN old := by
  have hl : (hdL N T).length = 64 := hdL_len N T
  unfold endN at he ⊢
  congr 1
  rcases Nat.le_total q 56 with h | h
  · rw [List.drop_append, List.drop_eq_nil_of_le (by rw [List.length_take]; omega), List.nil_append, List.drop_drop, List.length_take, hl]
    congr 1; omega
  · rw [List.drop_append, List.drop_take, hdL_end, List.length_take, hl, show 56 - min q 64 = 0 from by omega, List.drop_zero]
    have e1 : (beBytes N 8).take (q - 56) = List.replicate (q - 56) 0 := lead_take (beBytes_length _ _) (by rw [beVal_be]; omega) (by omega)
    have e2 : (old.drop 56).take (q - 56) = List.replicate (q - 56) 0 := lead_take (by rw [List.length_drop]; omega) he (by omega)
    have e3 : old.drop q = (old.drop 56).drop (q - 56) := by rw [List.drop_drop]; congr 1; omega
    rw [e1, ← e2, e3, List.take_append_drop]
theorem torn_twice (hd old : List UInt8) (b n : Nat) (h1 : hd.length = 64) (h2 : old.length = 64) (hb : b ≤ 64) (hn : n ≤ 64) : ∃ q, q ≤ 64 ∧ (hd.take b ++ old.drop b).take n ++ old.drop n = hd.take q ++ old.drop q := by
  rcases Nat.le_total n b with h | h
  · refine ⟨n, hn, ?_⟩
    rw [List.take_append_of_le_length (by rw [List.length_take]; omega), List.take_take, Nat.min_eq_left h]
  · refine ⟨b, hb, ?_⟩
    rw [List.take_append, List.length_take, h1, Nat.min_eq_left hb, List.append_assoc]
    congr 1
    · exact List.take_of_length_le (by rw [List.length_take]; omega)
    · have : old.drop n = (old.drop b).drop (n - b) := by rw [List.drop_drop]; congr 1; omega
      rw [this, List.take_append_drop]
/-- the number at the end of a half's head -/
def ZK (K : Dk) (first half g : Nat) : Nat := endN (K.now (first + g * half))
theorem st_end {K : Dk} {first half g m : Nat} {t : List UInt8} (hh : 1 ≤ half) (h64 : (K.now (first + g * half)).length = 64) (h : stK K first half g = some (m, t)) : ZK K first half g = m ∧ 1 ≤ m := by
  have hb := st_bound h
  unfold stK standsL at h
  split at h
  · rename_i hs
    obtain ⟨h1, h2, h3, h4, h5⟩ := hs
    have hm : beVal ((allL K (first + g * half) half).take 8) = m := by injection h with h; exact congrArg Prod.fst h
    unfold ZK
    obtain ⟨k, rfl⟩ : ∃ k, half = k + 1 := ⟨half - 1, by omega⟩
    have e : (allL K (first + g * (k + 1)) (k + 1)).take 64 = K.now (first + g * (k + 1)) := by rw [allL_cons]; exact List.take_left' h64
    rw [e] at h5
    rw [h5, hm]
    exact ⟨endN_hd _ _ (by have := hb.2; simp only at this; omega), hb.1⟩
  · cases h
/-- what holds of the two halves behind every commit and every crash -/
def InvR (K : Dk) (first half N : Nat) (T : List UInt8) : Prop :=
  (N = 0 ∧ T = [] ∧ ZK K first half 0 = 0 ∧ ZK K first half 1 = 0) ∨
  (1 ≤ N ∧ stK K first half (N % 2) = some (N, T) ∧ (ZK K first half ((N + 1) % 2) = 0 ∨ ZK K first half ((N + 1) % 2) < N))
theorem half_in {first half g L : Nat} (hg : g < 2) (hin : first + 2 * half ≤ L) (hh : 2 ≤ half) : first + g * half + half ≤ L := by
  rcases (by omega : g = 0 ∨ g = 1) with rfl | rfl <;> omega
theorem InvR.rec_ {K : Dk} {first half N : Nat} {T : List UInt8} (h : InvR K first half N T) (hf : Full K) (hin : first + 2 * half ≤ K.sure.length) (hh : 2 ≤ half) : RecOK K first half N T := by
  have h64 : ∀ g, g < 2 → (K.now (first + g * half)).length = 64 := fun g hg => hf _ (by have := half_in hg hin hh; omega)
  rcases h with ⟨rfl, rfl, h0, h1⟩ | ⟨h1, h2, h3⟩
  · refine .inl ⟨rfl, rfl, ?_, ?_⟩
    · cases hs : stK K first half 0 with
      | none => rfl
      | some x => have := st_end (by omega) (h64 0 (by omega)) hs; omega
    · cases hs : stK K first half 1 with
      | none => rfl
      | some x => have := st_end (by omega) (h64 1 (by omega)) hs; omega
  · refine .inr ⟨h1, h2, fun m t hs => ?_⟩
    have := st_end (by omega) (h64 _ (by omega)) hs
    omega
/-- a disk with a record: on, nothing loose -/
structure DG (K : Dk) (first half N : Nat) (T : List UInt8) : Prop where
  on : K.off = false
  loo : ∀ i, K.loose i = none
  full : Full K
  inv : InvR K first half N T
  inn : first + 2 * half ≤ K.sure.length
  two : 2 ≤ half
theorem write_sure (K : Dk) (i : Nat) (b : List UInt8) : (K.write i b).sure = K.sure := by
  unfold Dk.write Dk.put
  split <;> simp only [go_sure]
theorem write_loose (K : Dk) (i : Nat) (b : List UInt8) (j : Nat) : (K.write i b).loose j = if j = i then some (if K.go.off then b.take K.bytes ++ (K.now i).drop K.bytes else b) else K.loose j := by
  unfold Dk.write Dk.put
  split <;> simp only [go_loose]
theorem body_gen (K : Dk) (a : Nat) (T : List UInt8) (hl : ∀ i, K.loose i = none) (k : Nat) : (bodyK K a T k).sure = K.sure ∧ (bodyK K a T k).bytes = K.bytes ∧ ∀ i, (bodyK K a T k).loose i ≠ none → a + 1 ≤ i ∧ i < a + 1 + k := by
  induction k with
  | zero => exact ⟨rfl, rfl, fun i h => absurd (hl i) h⟩
  | succ k ih =>
    obtain ⟨h1, h2, h3⟩ := ih
    unfold bodyK
    split
    · exact ⟨h1, h2, fun i h => by have := h3 i h; omega⟩
    · refine ⟨by rw [write_sure, h1], by rw [write_bytes, h2], fun i h => ?_⟩
      rw [write_loose] at h
      split at h
      · omega
      · have := h3 i h; omega
/-- a commit that the power cut: within the body, or within the head -/
def TornA (K Kc : Dk) (a : Nat) (T : List UInt8) : Prop := Kc.sure = K.sure ∧ ∀ i, Kc.loose i ≠ none → a + 1 ≤ i ∧ i < a + 1 + chunksN T
def TornC (K Kc : Dk) (a N : Nat) (T : List UInt8) : Prop :=
  Kc.sure.length = K.sure.length ∧ (∀ j, j < K.sure.length → Kc.sure.getD j [] = if a + 1 ≤ j ∧ j < a + 1 + chunksN T then pad64 (chunk T (j - a - 1)) else K.now j) ∧
  (∀ i, i ≠ a → Kc.loose i = none) ∧ ∃ b, b ≤ 64 ∧ Kc.loose a = some ((hdL N T).take b ++ (K.now a).drop b)
theorem commit_torn (K : Dk) (a N : Nat) (T : List UInt8) (hl : ∀ i, K.loose i = none) (hb : K.bytes ≤ 64) (ha : a < K.sure.length) (hf : (K.now a).length = 64) (h : (commitK K a N T).off = true) : TornA K (commitK K a N T) a T ∨ TornC K (commitK K a N T) a N T := by
  obtain ⟨b1, b2, b3⟩ := body_gen K a T hl (chunksN T)
  have hA1 : (bodyK K a T (chunksN T)).off = true → TornA K (commitK K a N T) a T := fun e1 => by
    have : commitK K a N T = bodyK K a T (chunksN T) := by simp only [commitK, ifOn, e1, if_true]
    rw [this]
    exact ⟨b1, b3⟩
  cases e1 : (bodyK K a T (chunksN T)).off with
  | true => exact .inl (hA1 e1)
  | false =>
    have hnow := body_now K a T (chunksN T) e1
    cases e2 : (bodyK K a T (chunksN T)).syncK.off with
    | true =>
      left
      have : commitK K a N T = (bodyK K a T (chunksN T)).go := by
        have e3 := e2
        rw [syncK_off] at e3
        have e4 : (bodyK K a T (chunksN T)).syncK = (bodyK K a T (chunksN T)).go := by unfold Dk.syncK; rw [e3]; rfl
        simp only [commitK, ifOn, e1, e2, if_true, Bool.false_eq_true, if_false]
        rw [e4]
      rw [this]
      exact ⟨by rw [go_sure, b1], fun i h => b3 i (by rw [go_loose] at h; exact h)⟩
    | false =>
      have e3 := e2
      rw [syncK_off] at e3
      have e4 : (bodyK K a T (chunksN T)).syncK = (bodyK K a T (chunksN T)).sync := by unfold Dk.syncK; rw [e3]; rfl
      have hlen : (bodyK K a T (chunksN T)).sure.length = K.sure.length := by rw [b1]
      obtain ⟨S, hS⟩ : ∃ S, S = (bodyK K a T (chunksN T)).syncK := ⟨_, rfl⟩
      have s1 : S.sure.length = K.sure.length := by rw [hS, syncK_len, hlen]
      have s2 : ∀ j, j < K.sure.length → S.sure.getD j [] = if a + 1 ≤ j ∧ j < a + 1 + chunksN T then pad64 (chunk T (j - a - 1)) else K.now j := fun j hj => by
        rw [hS, e4, ← hnow j]
        show ((List.range (bodyK K a T (chunksN T)).sure.length).map (bodyK K a T (chunksN T)).now).getD j [] = _
        rw [List.getD_eq_getElem?_getD, List.getElem?_map, List.getElem?_range (by rw [hlen]; exact hj)]
        rfl
      have s3 : ∀ i, S.loose i = none := fun i => by rw [hS, e4]; rfl
      have s4 : S.bytes = K.bytes := by
        rw [hS, e4]
        show (bodyK K a T (chunksN T)).go.bytes = _
        rw [go_bytes, b2]
      have s5 : S.now a = K.now a := by
        unfold Dk.now
        rw [s3, Option.getD_none, s2 a ha, if_neg (by omega)]
        rfl
      right
      cases e5 : (S.write a (hdL N T)).off with
      | true =>
        have : commitK K a N T = S.write a (hdL N T) := by
          have := e5
          rw [hS] at this
          simp only [commitK, ifOn, e1, e2, this, if_true, Bool.false_eq_true, if_false]
          rw [hS]
        rw [this]
        have e6 := e5
        rw [write_off_eq] at e6
        refine ⟨by rw [write_sure, s1], fun j hj => by rw [write_sure]; exact s2 j hj, fun i hi => by rw [write_loose, if_neg hi]; exact s3 i, K.bytes, hb, ?_⟩
        rw [write_loose, if_pos rfl, e6, if_pos rfl, s4, s5]
      | false =>
        have e7 : (S.write a (hdL N T)).syncK.off = true := by
          have h' := h
          have := e5
          rw [hS] at this
          simp only [commitK, ifOn, e1, e2, this, Bool.false_eq_true, if_false] at h'
          rw [hS]; exact h'
        have : commitK K a N T = (S.write a (hdL N T)).go := by
          have h9 := e5
          rw [hS] at h9
          have h8 := e7
          rw [syncK_off] at h8
          have h10 : (S.write a (hdL N T)).syncK = (S.write a (hdL N T)).go := by unfold Dk.syncK; rw [h8]; rfl
          simp only [commitK, ifOn, e1, e2, h9, Bool.false_eq_true, if_false]
          rw [← hS, h10]
        rw [this]
        have e6 := e5
        rw [write_off_eq] at e6
        refine ⟨by rw [go_sure, write_sure, s1], fun j hj => by rw [go_sure, write_sure]; exact s2 j hj, fun i hi => by rw [go_loose, write_loose, if_neg hi]; exact s3 i, 64, Nat.le_refl _, ?_⟩
        rw [go_loose, write_loose, if_pos rfl, e6, if_neg (by simp), List.take_of_length_le (by rw [hdL_len]; exact Nat.le_refl _), List.drop_eq_nil_of_le (by omega), List.append_nil]
end Go.Proofs.YtgpcinfhcamgpaaGreatDoor

namespace Go.Proofs.YtgpcinfhcamgpaaGreatDoor
open Go.RowKit
set_option linter.unusedVariables false

theorem DiskAt.full {w : World} {d s M n : Nat} {K : Dk} (h : DiskAt w d s M n K) : Full K := by
  intro i hi
  obtain ⟨cs, _, hr, _⟩ := h.row
  obtain ⟨f, _, _, hf⟩ := h.map
  unfold Dk.now
  cases hl : K.loose i with
  | none =>
    obtain ⟨v, _, A, c, _, _, _, _, h5⟩ := hr i hi
    exact h5
  | some b =>
    obtain ⟨v, _, A, c, _, _, _, _, h5⟩ := hf i b hl
    exact h5
theorem InvR.zbound {K : Dk} {first half N : Nat} {T : List UInt8} (h : InvR K first half N T) : ZK K first half ((N + 1) % 2) ≤ N := by
  rcases h with ⟨rfl, _, _, h1⟩ | ⟨_, _, h3⟩
  · show ZK K first half 1 ≤ 0
    omega
  · omega
/-- the number at the end of the half that is not written next -/
theorem InvR.zother {K : Dk} {first half N : Nat} {T : List UInt8} (h : InvR K first half N T) (hf : Full K) (hin : first + 2 * half ≤ K.sure.length) (hh : 2 ≤ half) : ZK K first half (N % 2) = N := by
  rcases h with ⟨rfl, _, h0, _⟩ | ⟨h1, h2, _⟩
  · exact h0
  · exact (st_end (by omega) (hf _ (by have := half_in (g := N % 2) (by omega) hin hh; omega)) h2).1
theorem half_apart {first half g g' i : Nat} (hg : g < 2) (hg' : g' < 2) (hne : g ≠ g') (hi : i < half) : ¬ (first + g * half ≤ first + g' * half + i ∧ first + g' * half + i < first + g * half + half) := by
  rcases (by omega : (g = 0 ∧ g' = 1) ∨ (g = 1 ∧ g' = 0)) with ⟨rfl, rfl⟩ | ⟨rfl, rfl⟩ <;> omega
/-- the new text is found -/
theorem inv_new {K K2 : Dk} {first half N : Nat} {T0 T : List UInt8} (h : DG K first half N T0) (hlen : K2.sure.length = K.sure.length) (hf2 : Full K2) (hT : T.length ≤ 64 * (half - 1)) (hTm : T.length < 9223372036854775808) (hN : N < 255)
    (hnow : ∀ j, j < K.sure.length → K2.now j = if j = first + (N + 1) % 2 * half then hdL (N + 1) T else if first + (N + 1) % 2 * half + 1 ≤ j ∧ j < first + (N + 1) % 2 * half + 1 + chunksN T then pad64 (chunk T (j - (first + (N + 1) % 2 * half) - 1)) else K.now j) :
    InvR K2 first half (N + 1) T := by
  have hat := half_in (g := (N + 1) % 2) (by omega) h.inn h.two
  have htwo := h.two
  have hch : chunksN T ≤ half - 1 := by unfold chunksN; omega
  refine .inr ⟨by omega, ?_, ?_⟩
  · unfold stK
    obtain ⟨m, hm⟩ : ∃ m, half = m + 1 := ⟨half - 1, by omega⟩
    generalize first + (N + 1) % 2 * half = a at hnow hat ⊢
    rw [show allL K2 a half = K2.now a ++ allL K2 (a + 1) m from by rw [hm]; exact allL_cons K2 a m]
    rw [hnow a (by omega), if_pos rfl]
    have htk : (allL K2 (a + 1) m).take T.length = T := by
      refine chunks_take K2 (a + 1) T m (by omega) (fun i hi => hf2 _ (by omega)) (fun i hi => ?_)
      rw [hnow _ (by omega), if_neg (by omega), if_pos (by omega)]
      congr 2; omega
    exact stands_new (N + 1) T _ (by omega) (by omega) hTm (by rw [allL_len K2 _ _ (fun i hi => hf2 _ (by omega))]; omega) htk
  · right
    have hz := h.inv.zother h.full h.inn h.two
    have hap := half_apart (first := first) (half := half) (g := (N + 1) % 2) (g' := N % 2) (i := 0) (by omega) (by omega) (by omega) (by omega)
    have hat2 := half_in (g := N % 2) (by omega) h.inn h.two
    have : ZK K2 first half ((N + 1 + 1) % 2) = ZK K first half (N % 2) := by
      rw [show (N + 1 + 1) % 2 = N % 2 from by omega]
      unfold ZK
      rw [hnow _ (by omega), if_neg (by omega), if_neg (by omega)]
    rw [this, hz]
    omega
/-- the old text is found -/
theorem inv_old {K K2 : Dk} {first half N : Nat} {T0 T : List UInt8} (h : DG K first half N T0) (hT : T.length ≤ 64 * (half - 1))
    (hsame : ∀ j, j < K.sure.length → ¬ (first + (N + 1) % 2 * half ≤ j ∧ j < first + (N + 1) % 2 * half + half) → K2.now j = K.now j) (hz : ZK K2 first half ((N + 1) % 2) = ZK K first half ((N + 1) % 2)) :
    InvR K2 first half N T0 := by
  have htwo := h.two
  have hat2 := half_in (g := N % 2) (by omega) h.inn h.two
  have hap := fun i hi => half_apart (first := first) (half := half) (g := (N + 1) % 2) (g' := N % 2) (i := i) (by omega) (by omega) (by omega) hi
  have hz2 : ZK K2 first half (N % 2) = ZK K first half (N % 2) := by
    unfold ZK
    rw [hsame _ (by omega) (by have := hap 0 (by omega); simpa using this)]
  rcases h.inv with ⟨rfl, rfl, h0, h1⟩ | ⟨h1, h2, h3⟩
  · exact .inl ⟨rfl, rfl, by rw [show (0 : Nat) = 0 % 2 from rfl, hz2]; exact h0, by rw [show (1 : Nat) = (0 + 1) % 2 from rfl, hz]; exact h1⟩
  · refine .inr ⟨h1, ?_, by rw [hz]; exact h3⟩
    rw [← h2]
    unfold stK
    congr 1
    exact allL_congr (fun i hi => hsame _ (by omega) (hap i hi))
theorem crashed_now (K : Dk) (sure : List (List UInt8)) (i : Nat) : (K.crashed sure).now i = sure.getD i [] := rfl
/-- behind a crash within a commit: the old text, or the new one -/
theorem crash_torn {K : Dk} {first half N : Nat} {T0 T : List UInt8} (h : DG K first half N T0) (hb : K.bytes ≤ 64) (hT : T.length ≤ 64 * (half - 1)) (hTm : T.length < 9223372036854775808) (hN : N < 255) (sure : List (List UInt8))
    (hlen : sure.length = (commitK K (first + (N + 1) % 2 * half) (N + 1) T).sure.length) (htook : ∀ i, i < (commitK K (first + (N + 1) % 2 * half) (N + 1) T).sure.length → Took (commitK K (first + (N + 1) % 2 * half) (N + 1) T) i (sure.getD i []))
    (hf2 : Full ((commitK K (first + (N + 1) % 2 * half) (N + 1) T).crashed sure)) :
    ((commitK K (first + (N + 1) % 2 * half) (N + 1) T).off = false → DG ((commitK K (first + (N + 1) % 2 * half) (N + 1) T).crashed sure) first half (N + 1) T) ∧
    ((commitK K (first + (N + 1) % 2 * half) (N + 1) T).off = true → DG ((commitK K (first + (N + 1) % 2 * half) (N + 1) T).crashed sure) first half N T0 ∨ DG ((commitK K (first + (N + 1) % 2 * half) (N + 1) T).crashed sure) first half (N + 1) T) := by
  have htwo := h.two
  have hch : chunksN T ≤ half - 1 := by unfold chunksN; omega
  have hclen := commit_len K (first + (N + 1) % 2 * half) (N + 1) T
  have hat := half_in (g := (N + 1) % 2) (by omega) h.inn h.two
  have hnew : InvR ((commitK K (first + (N + 1) % 2 * half) (N + 1) T).crashed sure) first half (N + 1) T → DG ((commitK K (first + (N + 1) % 2 * half) (N + 1) T).crashed sure) first half (N + 1) T := fun hi =>
    ⟨rfl, fun _ => rfl, hf2, hi, by show first + 2 * half ≤ sure.length; rw [hlen, hclen]; exact h.inn, h.two⟩
  have hold : InvR ((commitK K (first + (N + 1) % 2 * half) (N + 1) T).crashed sure) first half N T0 → DG ((commitK K (first + (N + 1) % 2 * half) (N + 1) T).crashed sure) first half N T0 := fun hi =>
    ⟨rfl, fun _ => rfl, hf2, hi, by show first + 2 * half ≤ sure.length; rw [hlen, hclen]; exact h.inn, h.two⟩
  have hKn : ∀ j, K.now j = K.sure.getD j [] := fun j => by unfold Dk.now; rw [h.loo]; rfl
  constructor
  · intro hoff
    refine hnew (inv_new h (by show sure.length = _; rw [hlen, hclen]) hf2 hT hTm hN (fun j hj => ?_))
    have hl := commit_loose K _ _ T hoff
    have hc := commit_now K _ (N + 1) T hoff hj
    rw [← hc, crashed_now]
    unfold Dk.now
    rw [hl]
    rcases htook j (by rw [hclen]; exact hj) with e | ⟨l, n, e, _⟩
    · exact e
    · rw [hl] at e; cases e
  · intro hoff
    have h64 : (K.now (first + (N + 1) % 2 * half)).length = 64 := h.full _ (by omega)
    rcases commit_torn K _ (N + 1) T h.loo hb (by omega) h64 hoff with ⟨t1, t2⟩ | ⟨t1, t2, t3, b, t4, t5⟩
    · left
      have hs : ∀ j, j < K.sure.length → ¬ (first + (N + 1) % 2 * half + 1 ≤ j ∧ j < first + (N + 1) % 2 * half + 1 + chunksN T) → ((commitK K (first + (N + 1) % 2 * half) (N + 1) T).crashed sure).now j = K.now j := fun j hj hn => by
        rw [crashed_now, hKn, ← t1]
        rcases htook j (by rw [hclen]; exact hj) with e | ⟨l, n, e, _⟩
        · exact e
        · exact absurd (t2 j (by rw [e]; simp)) hn
      refine hold (inv_old (T := T) h hT (fun j hj hn => hs j hj (by omega)) ?_)
      unfold ZK
      rw [hs _ (by omega) (by omega)]
    · have hs : ∀ j, j < K.sure.length → j ≠ first + (N + 1) % 2 * half → ((commitK K (first + (N + 1) % 2 * half) (N + 1) T).crashed sure).now j = if first + (N + 1) % 2 * half + 1 ≤ j ∧ j < first + (N + 1) % 2 * half + 1 + chunksN T then pad64 (chunk T (j - (first + (N + 1) % 2 * half) - 1)) else K.now j := fun j hj hn => by
        rw [crashed_now, ← t2 j hj]
        rcases htook j (by rw [hclen]; exact hj) with e | ⟨l, n, e, _⟩
        · exact e
        · rw [t3 j hn] at e; cases e
      have hda : ∃ q, q ≤ 64 ∧ ((commitK K (first + (N + 1) % 2 * half) (N + 1) T).crashed sure).now (first + (N + 1) % 2 * half) = (hdL (N + 1) T).take q ++ (K.now (first + (N + 1) % 2 * half)).drop q := by
        rw [crashed_now]
        have ho : (commitK K (first + (N + 1) % 2 * half) (N + 1) T).sure.getD (first + (N + 1) % 2 * half) [] = K.now (first + (N + 1) % 2 * half) := by rw [t2 _ (by omega), if_neg (by omega)]
        rcases htook (first + (N + 1) % 2 * half) (by rw [hclen]; omega) with e | ⟨l, n, e, hn, e2⟩
        · exact ⟨0, by omega, by rw [e, ho]; simp⟩
        · rw [t5] at e
          cases e
          rw [e2, ho]
          exact torn_twice _ _ b n (hdL_len _ _) h64 t4 hn
      obtain ⟨q, hq, hda⟩ := hda
      rcases (by omega : q = 64 ∨ q < 64) with rfl | hlt
      · right
        refine hnew (inv_new h (by show sure.length = _; rw [hlen, hclen]) hf2 hT hTm hN (fun j hj => ?_))
        by_cases e : j = first + (N + 1) % 2 * half
        · rw [if_pos e, e, hda, List.take_of_length_le (by rw [hdL_len]; exact Nat.le_refl _), List.drop_eq_nil_of_le (by omega), List.append_nil]
        · rw [if_neg e]
          exact hs j hj e
      · left
        refine hold (inv_old (T := T) h hT (fun j hj hn => ?_) ?_)
        · rw [hs j hj (by omega), if_neg (by omega)]
        · have hzb := h.inv.zbound
          unfold ZK at hzb ⊢
          rw [hda]
          exact endN_torn (N + 1) T _ q hlt (by omega) h64 (by omega)
end Go.Proofs.YtgpcinfhcamgpaaGreatDoor

namespace Go.Proofs.YtgpcinfhcamgpaaGreatDoor
open Go.RowKit
set_option linter.unusedVariables false

structure RecD (w : World) (d s M first half N : Nat) (T : List UInt8) (K : Dk) : Prop where
  disk : DiskAt w d s M 0 K
  left : K.left < 0
  dg : DG K first half N T
theorem RecD.fr {S : Nat → Prop} {w w' : World} {d s M first half N : Nat} {T : List UInt8} {K : Dk} (h : RecD w d s M first half N T K) (hf : Fr S w w') (hS : ∀ k, DS d s M k → ¬ S k) (hN : ∀ g, S g → g < w.heap.size → NoBy w g) : RecD w' d s M first half N T K :=
  ⟨h.disk.fr hf hS hN, h.left, h.dg⟩
theorem RecD.below {w w' : World} {d s M first half N : Nat} {T : List UInt8} {K : Dk} (h : RecD w d s M first half N T K) (hb : Below w.heap.size w w') : RecD w' d s M first half N T K :=
  ⟨h.disk.below hb, h.left, h.dg⟩
theorem zero_dg {n first half : Nat} (hin : first + 2 * half ≤ n) (hh : 2 ≤ half) : DG (Dk.zero n) first half 0 [] :=
  ⟨rfl, fun _ => rfl, zero_full n, .inl ⟨rfl, rfl, by unfold ZK; rw [zero_now n _ (by omega)]; decide, by unfold ZK; rw [zero_now n _ (by omega)]; decide⟩, by simpa [Dk.zero] using hin, hh⟩
theorem open_dg {d s M n first half N : Nat} {T : List UInt8} {K : Dk} (count : Nat) (w : World) (h : DiskAt w d s M n K) (hg : DG K first half N T) (htab : TabK w) (hc : count = 2 * half) :
    Calls Tryz.prog 54 #[.pointer (some ⟨d, 0, none⟩), .int .i64 (first : Int), .int .i64 (count : Int)] w fun e w' => ∃ r, e = .returned (.tuple #[.pointer (some ⟨r, 0, none⟩), .int .i64 0]) ∧ w.heap.size ≤ r ∧ RecAt w' r d first half N T false ∧ Below w.heap.size w w' := by
  have := open_ok first count half w htab h hg.on hc hg.two (by have := hg.inn; omega) hg.full
  rw [(hg.inv.rec_ hg.full hg.inn hg.two).open_] at this
  exact this
def DgPost (d s M r first half N : Nat) (T : List UInt8) (K : Dk) (w : World) (e : Ending) (w' : World) : Prop :=
  e = .returned (.int .i64 0) ∧ (∃ K', RecD w' d s M first half (N + 1) T K' ∧ K'.sure.length = K.sure.length) ∧ RecAt w' r d first half (N + 1) T false ∧ Fr (fun k => DS d s M k ∨ k = r) w w'
theorem rcommit_dg {d s M r first half num : Nat} {T0 : List UInt8} {K : Dk} (A : Option Addr) (n c : Nat) (T : List UInt8) (w : World) (h : RecD w d s M first half num T0 K) (htab : TabK w) (hR : RecAt w r d first half num T0 false)
    (hT : RB w A T) (hTn : T.length = n) (hc : n ≤ c) (hcm : c ≤ 9223372036854775807) (hn : n ≤ 64 * (half - 1)) (hnum : num < 255) :
    Calls Tryz.prog 57 #[.pointer (some ⟨r, 0, none⟩), .slice A n c] w fun e w' => DgPost d s M r first half num T K w e w' := by
  obtain ⟨h1, h2, h3⟩ := commit_left K (first + (num + 1) % 2 * half) (num + 1) T h.left h.dg.on
  have hlen := commit_len K (first + (num + 1) % 2 * half) (num + 1) T
  refine (rcommit_any A n c T w h.disk htab hR h.dg.on h.dg.two h.dg.inn hT hTn hc hcm hn (by omega) (by omega)).mono ?_
  rintro e w' ⟨rfl, ⟨n', hn', hD⟩, hRA, hf⟩
  rw [h2, if_neg (by simp)] at hRA
  have e0 := hn' h2
  subst e0
  have hl := commit_loose K _ _ T h2
  have hinv := inv_new h.dg hlen hD.full (by omega) (by omega) hnum (fun j hj => commit_now K _ (num + 1) T h2 hj)
  exact ⟨by unfold offE; rw [h2]; rfl, ⟨_, ⟨hD, by rw [h1]; exact h.left, ⟨h2, fun i => by rw [hl], hD.full, hinv, by rw [hlen]; exact h.dg.inn, h.dg.two⟩⟩, hlen⟩, hRA, hf⟩
theorem stop_sure (K : Dk) (n b : Int) : (K.stop n b).sure = K.sure ∧ (K.stop n b).loose = K.loose ∧ (K.stop n b).off = K.off := by
  unfold Dk.stop
  split
  · exact ⟨rfl, rfl, rfl⟩
  · split <;> exact ⟨rfl, rfl, rfl⟩
theorem DG.stop {K : Dk} {first half N : Nat} {T : List UInt8} (h : DG K first half N T) (n b : Int) : DG (K.stop n b) first half N T := by
  obtain ⟨e1, e2, e3⟩ := stop_sure K n b
  have hnow : ∀ i, (K.stop n b).now i = K.now i := fun i => by unfold Dk.now; rw [e1, e2]
  have hall : ∀ f n', allL (K.stop n b) f n' = allL K f n' := fun f n' => allL_congr (fun i _ => hnow _)
  have hst : ∀ g, stK (K.stop n b) first half g = stK K first half g := fun g => by unfold stK; rw [hall]
  have hz : ∀ g, ZK (K.stop n b) first half g = ZK K first half g := fun g => by unfold ZK; rw [hnow]
  refine ⟨by rw [e3]; exact h.on, fun i => by rw [e2]; exact h.loo i, fun i hi => by rw [hnow]; exact h.full i (by rw [e1] at hi; exact hi), ?_, by rw [e1]; exact h.inn, h.two⟩
  have hi := h.inv
  unfold InvR at hi ⊢
  simp only [hst, hz]
  exact hi
/-- a crash of a disk on which nothing is loose keeps all -/
theorem DG.crash {K : Dk} {first half N : Nat} {T : List UInt8} (h : DG K first half N T) (sure : List (List UInt8)) (hlen : sure.length = K.sure.length) (htook : ∀ i, i < K.sure.length → Took K i (sure.getD i [])) (hf2 : Full (K.crashed sure)) : DG (K.crashed sure) first half N T := by
  have hKn : ∀ j, K.now j = K.sure.getD j [] := fun j => by unfold Dk.now; rw [h.loo]; rfl
  have hnow : ∀ i, i < K.sure.length → (K.crashed sure).now i = K.now i := fun i hi => by
    rw [crashed_now, hKn]
    rcases htook i hi with e | ⟨l, n, e, _⟩
    · exact e
    · rw [h.loo] at e; cases e
  have htwo := h.two
  have hst : ∀ g, g < 2 → stK (K.crashed sure) first half g = stK K first half g := fun g hg => by
    unfold stK
    rw [allL_congr (fun i hi => hnow _ (by have := half_in hg h.inn h.two; omega))]
  have hz : ∀ g, g < 2 → ZK (K.crashed sure) first half g = ZK K first half g := fun g hg => by
    unfold ZK
    rw [hnow _ (by have := half_in hg h.inn h.two; omega)]
  refine ⟨rfl, fun _ => rfl, hf2, ?_, by show first + 2 * half ≤ sure.length; rw [hlen]; exact h.inn, h.two⟩
  have hi := h.inv
  unfold InvR at hi ⊢
  rw [hst _ (by omega), hz 0 (by omega), hz 1 (by omega), hz _ (by omega)]
  exact hi
/-- what is behind a commit that may be cut: what is found behind whatever crash -/
def KPost (d s M r first half N : Nat) (T0 T : List UInt8) (K : Dk) (w : World) (e : Ending) (w' : World) : Prop :=
  ∃ (gv : Int) (K8 : Dk) (n8 : Nat), e = .returned (.int .i64 gv) ∧ DiskAt w' d s M n8 K8 ∧ Fr (fun k => DS d s M k ∨ k = r) w w' ∧
    ∀ sure : List (List UInt8), sure.length = K8.sure.length → (∀ i, i < K8.sure.length → Took K8 i (sure.getD i [])) → Full (K8.crashed sure) →
      ∃ N' T', DG (K8.crashed sure) first half N' T' ∧ ((gv = 0 ∧ T' = T ∧ N' = N + 1) ∨ (gv ≠ 0 ∧ T' = T0 ∧ N' = N) ∨ (gv = 210 ∧ T' = T ∧ N' = N + 1)) ∧ T'.length ≤ 64 * (half - 1)
theorem rcommit_k {d s M n0 r first half num : Nat} {T0 : List UInt8} {K : Dk} (A : Option Addr) (n c : Nat) (T : List UInt8) (w : World) (h : DiskAt w d s M n0 K) (hg : DG K first half num T0) (htab : TabK w) (hR : RecAt w r d first half num T0 false)
    (hT : RB w A T) (hTn : T.length = n) (hc : n ≤ c) (hcm : c ≤ 9223372036854775807) (hnum : num < 255) (hn0 : n0 + 80000 < 1000000) (hhb : half ≤ 16384) (hT0 : T0.length ≤ 64 * (half - 1)) :
    Calls Tryz.prog 57 #[.pointer (some ⟨r, 0, none⟩), .slice A n c] w fun e w' => KPost d s M r first half num T0 T K w e w' := by
  rcases Nat.lt_or_ge (64 * (half - 1)) n with hl | hl
  · refine (rcommit_long A n c w hR hg.two hhb hl (by omega)).mono ?_
    rintro e w' ⟨rfl, hb⟩
    exact ⟨3, K, n0, rfl, h.below hb, Fr.of_below hb, fun sure h1 h2 h3 => ⟨num, T0, hg.crash sure h1 h2 h3, .inr (.inl ⟨by omega, rfl, rfl⟩), hT0⟩⟩
  · refine (rcommit_any A n c T w h htab hR hg.on hg.two hg.inn hT hTn hc hcm hl (by omega) hn0).mono ?_
    rintro e w' ⟨rfl, ⟨n', _, hD⟩, _, hf⟩
    refine ⟨_, _, n', rfl, hD, hf, fun sure h1 h2 h3 => ?_⟩
    obtain ⟨t1, t2⟩ := crash_torn hg h.byt (T := T) (by omega) (by omega) hnum sure h1 h2 h3
    cases ho : (commitK K (first + (num + 1) % 2 * half) (num + 1) T).off with
    | false => exact ⟨num + 1, T, t1 ho, .inl ⟨by unfold offE; rw [ho]; rfl, rfl, rfl⟩, by omega⟩
    | true =>
      rcases t2 ho with h | h
      · exact ⟨num, T0, h, .inr (.inl ⟨by unfold offE; rw [ho]; decide, rfl, rfl⟩), hT0⟩
      · exact ⟨num + 1, T, h, .inr (.inr ⟨by unfold offE; rw [ho]; rfl, rfl, rfl⟩), by omega⟩
theorem wf_le {x : Int} (h : (Lit.int .i64 x).wf = true) : x ≤ 9223372036854775807 := by
  simp only [Lit.wf, IntKind.min, IntKind.max, IntKind.signed, IntKind.bits, Bool.and_eq_true, decide_eq_true_eq, if_true] at h
  omega
end Go.Proofs.YtgpcinfhcamgpaaGreatDoor
