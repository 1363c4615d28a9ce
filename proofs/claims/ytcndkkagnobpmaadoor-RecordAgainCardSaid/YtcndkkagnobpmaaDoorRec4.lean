/-
  record: Open, Text, Number, Dead, Room.
-/
import Derived.Test.YtcndkkagnobpmaaDoorRec3
namespace Go.Proofs.YtcndkkagnobpmaaDoor
open Go.RowKit
attribute [local go_sem ↓] Go.wp_at_zero Go.wp_at_succ
set_option linter.unusedVariables false

/-- a record in memory -/
def RecAt (w : World) (r d first half N : Nat) (T : List UInt8) (dead : Bool) : Prop :=
  ∃ A c, Blk w r 55 (recV d first half (.slice A T.length c) N dead) ∧ T.length ≤ c ∧ c ≤ 9223372036854775807 ∧ RB w A T
theorem recV_noBy (d first half : Nat) (A : Option Addr) (n c N : Nat) (dead : Bool) (k : Nat) (x : Int) : (recV d first half (.slice A n c) N dead)[k]? ≠ some (.int .u8 x) := by
  unfold recV
  rcases (by omega : k = 0 ∨ k = 1 ∨ k = 2 ∨ k = 3 ∨ k = 4 ∨ k = 5 ∨ 6 ≤ k) with rfl | rfl | rfl | rfl | rfl | rfl | h
  all_goals first | (intro h; cases h) | (rw [Array.getElem?_eq_none (by simpa using h)]; intro h; cases h)
theorem RecAt.noBy {w : World} {r d first half N : Nat} {T : List UInt8} {dead : Bool} (h : RecAt w r d first half N T dead) : NoBy w r := by
  obtain ⟨A, c, hb, _⟩ := h
  exact NoBy.of_blk hb (recV_noBy _ _ _ _ _ _ _ _)
theorem RecAt.lt {w : World} {r d first half N : Nat} {T : List UInt8} {dead : Bool} (h : RecAt w r d first half N T dead) : r < w.heap.size := by
  obtain ⟨A, c, hb, _⟩ := h
  exact hb.lt
theorem RecAt.fr {S : Nat → Prop} {w w' : World} {r d first half N : Nat} {T : List UInt8} {dead : Bool} (h : RecAt w r d first half N T dead) (hf : Fr S w w') (hr : ¬ S r) (hN : ∀ g, S g → g < w.heap.size → NoBy w g) : RecAt w' r d first half N T dead := by
  obtain ⟨A, c, hb, h1, h2, h3⟩ := h
  exact ⟨A, c, hb.fr hf hr, h1, h2, h3.fr2 hf hN⟩
theorem RecAt.below {w w' : World} {r d first half N : Nat} {T : List UInt8} {dead : Bool} (h : RecAt w r d first half N T dead) (hb : Below w.heap.size w w') : RecAt w' r d first half N T dead :=
  h.fr (S := fun _ => False) (Fr.of_below hb) (fun x => x) (fun _ x => x.elim)
/-- another text, and another number -/
theorem RecAt.set {w : World} {r d first half N : Nat} {T : List UInt8} {dead : Bool} (h : RecAt w r d first half N T dead) {N' : Nat} {T' : List UInt8} {A : Option Addr} {c : Nat} (hc : T'.length ≤ c) (hcm : c ≤ 9223372036854775807) (hR : RB w A T') :
    RecAt ((w.setCell ⟨r, 4, none⟩ (.int .i64 (N' : Int))).setCell ⟨r, 3, none⟩ (.slice A T'.length c)) r d first half N' T' dead ∧ Fr (· = r) w ((w.setCell ⟨r, 4, none⟩ (.int .i64 (N' : Int))).setCell ⟨r, 3, none⟩ (.slice A T'.length c)) := by
  have hnb := h.noBy
  obtain ⟨A0, c0, hb, _⟩ := h
  have hf : Fr (· = r) w ((w.setCell ⟨r, 4, none⟩ (.int .i64 (N' : Int))).setCell ⟨r, 3, none⟩ (.slice A T'.length c)) := ((Fr.refl (fun x => x = r) w).setCell (p := ⟨r, 4, none⟩) (fun _ => rfl) _).setCell (p := ⟨r, 3, none⟩) (fun _ => rfl) _
  refine ⟨⟨A, c, ?_, hc, hcm, hR.fr2 hf (fun g e _ => e ▸ hnb)⟩, hf⟩
  have h2 := (hb.set_ 4 (.int .i64 (N' : Int))).set_ 3 (.slice A T'.length c)
  exact h2
theorem RecAt.set' {w : World} {r d first half N : Nat} {T : List UInt8} {dead : Bool} (h : RecAt w r d first half N T dead) {N' : Nat} {T' : List UInt8} {A : Option Addr} {c : Nat} (hc : T'.length ≤ c) (hcm : c ≤ 9223372036854775807) (hR : RB w A T') :
    RecAt ((w.setCell ⟨r, 3, none⟩ (.slice A T'.length c)).setCell ⟨r, 4, none⟩ (.int .i64 (N' : Int))) r d first half N' T' dead ∧ Fr (· = r) w ((w.setCell ⟨r, 3, none⟩ (.slice A T'.length c)).setCell ⟨r, 4, none⟩ (.int .i64 (N' : Int))) := by
  have hnb := h.noBy
  obtain ⟨A0, c0, hb, _⟩ := h
  have hf : Fr (· = r) w ((w.setCell ⟨r, 3, none⟩ (.slice A T'.length c)).setCell ⟨r, 4, none⟩ (.int .i64 (N' : Int))) := ((Fr.refl (fun x => x = r) w).setCell (p := ⟨r, 3, none⟩) (fun _ => rfl) _).setCell (p := ⟨r, 4, none⟩) (fun _ => rfl) _
  refine ⟨⟨A, c, ?_, hc, hcm, hR.fr2 hf (fun g e _ => e ▸ hnb)⟩, hf⟩
  have h2 := (hb.set_ 3 (.slice A T'.length c)).set_ 4 (.int .i64 (N' : Int))
  exact h2
set_option maxRecDepth 100000 in
set_option maxHeartbeats 1000000 in
theorem open_nil (first count : Int) (w : World) : Calls Tryd.prog 9 #[.pointer none, .int .i64 first, .int .i64 count] w fun e w' => e = .returned (.tuple #[.pointer none, .int .i64 1]) ∧ w' = w := by
  go_enter Tryd.func9, Tryd.ntmps9
  go_wp2
  go_ret2
  exact ⟨rfl, rfl⟩
/-- too few blocks behind the first -/
theorem open_few {d s M n : Nat} {K : Dk} (first count half : Nat) (w : World) (h : DiskAt w d s M n K) (hc : count = 2 * half) (hh : 2 ≤ half) (hf : first ≤ K.sure.length) (hb : K.sure.length < first + count) (hcb : count ≤ 1000000) :
    Calls Tryd.prog 9 #[.pointer (some ⟨d, 0, none⟩), .int .i64 (first : Int), .int .i64 (count : Int)] w fun e w' => e = .returned (.tuple #[.pointer none, .int .i64 1]) ∧ w' = w := by
  have HL := Lib.hid (dlen_any w h)
  have hlb := h.few.2
  obtain ⟨L, hL⟩ : ∃ L, L = K.sure.length := ⟨_, rfl⟩
  rw [← hL] at HL hf hb hlb
  have d1 : decide ((count : Int) < 4) = false := by rw [decide_eq_false_iff_not]; omega
  have d2 : (count : Int) % 2 = 0 := by omega
  have d3 : decide ((L : Int) < (first : Int)) = false := by rw [decide_eq_false_iff_not]; omega
  have d3' : decide (L < first) = false := by rw [decide_eq_false_iff_not]; omega
  have d4 : decide ((L : Int) - (first : Int) < (count : Int)) = true := by rw [decide_eq_true_iff]; omega
  have hfb : first ≤ 1000000 := by omega
  clear h hc hL hb hf
  go_enter Tryd.func9, Tryd.ntmps9
  go_wp2_with (first | (go_at_call 28; refine HL.out.mono ?_; rintro e w ⟨rfl, rfl⟩))
  go_ret2
  exact ⟨rfl, rfl⟩
/-- what is found behind so many halves -/
def openK (K : Dk) (first half : Nat) : Nat → Nat × List UInt8
  | 0 => (0, [])
  | k + 1 => best (openK K first half k) (stK K first half k)
theorem openK_two (K : Dk) (first half : Nat) : openK K first half 2 = openL K first half := rfl
theorem st_bound {K : Dk} {first half g : Nat} {x : Nat × List UInt8} (h : stK K first half g = some x) : 1 ≤ x.1 ∧ x.1 ≤ 1152921504606846976 := by
  unfold stK standsL at h
  split at h
  · rename_i hs
    cases h
    exact ⟨hs.1, hs.2.1⟩
  · cases h
theorem openK_bound (K : Dk) (first half k : Nat) : (openK K first half k).1 ≤ 1152921504606846976 := by
  induction k with
  | zero => simp [openK]
  | succ k ih =>
    unfold openK best
    split
    · rename_i x hx
      have := (st_bound hx).2
      split <;> omega
    · exact ih
set_option maxRecDepth 100000 in
set_option maxHeartbeats 4000000 in
theorem open_ok {d s M n : Nat} {K : Dk} (first count half : Nat) (w : World) (hK : TabK w) (h : DiskAt w d s M n K) (ho : K.off = false) (hc : count = 2 * half) (hh : 2 ≤ half) (hin : first + count ≤ K.sure.length) (hF : Full K) :
    Calls Tryd.prog 9 #[.pointer (some ⟨d, 0, none⟩), .int .i64 (first : Int), .int .i64 (count : Int)] w fun e w' => ∃ r, e = .returned (.tuple #[.pointer (some ⟨r, 0, none⟩), .int .i64 0]) ∧ w.heap.size ≤ r ∧ RecAt w' r d first half (openL K first half).1 (openL K first half).2 false ∧ Below w.heap.size w w' := by
  have HL := Lib.hid (dlen_any w h)
  have hlb := h.few.2
  have HIN : Hid (first + 2 * half ≤ K.sure.length) := by show _ ≤ _; omega
  obtain ⟨L, hL⟩ : ∃ L, L = K.sure.length := ⟨_, rfl⟩
  rw [← hL] at HL hin hlb
  have d1 : decide ((count : Int) < 4) = false := by rw [decide_eq_false_iff_not]; omega
  have d2 : (count : Int) % 2 = 0 := by omega
  have d2' : (count : Int) / 2 = (half : Int) := by omega
  have d3 : decide ((L : Int) < (first : Int)) = false := by rw [decide_eq_false_iff_not]; omega
  have d3' : decide (L < first) = false := by rw [decide_eq_false_iff_not]; omega
  have d4 : decide ((L : Int) - (first : Int) < (count : Int)) = false := by rw [decide_eq_false_iff_not]; omega
  have hfb : first ≤ 1000000 := by omega
  have hcb : count ≤ 1000000 := by omega
  have HC : Hid (count = 2 * half) := hc
  have HD := Lib.hid h
  have HTK := Lib.hid hK
  have HO := Lib.hid ho
  have HFU := Lib.hid hF
  clear h hL hc hin hK ho hF
  go_enter Tryd.func9, Tryd.ntmps9
  go_wp2_with (first | (go_at_call 28; refine HL.out.mono ?_; rintro e w ⟨rfl, rfl⟩))
  have HR0 : Hid (RecAt (w.alloc (.cells #[.pointer (some ⟨d, 0, none⟩), .int .i64 (first : Int), .int .i64 (half : Int), .slice none 0 0, .int .i64 0, .bool false] 55)) w.heap.size d first half 0 [] false) := Lib.hid ⟨none, 0, Blk.new _ _ _, by simp, by omega, RB.nil _⟩
  have HB0 : Hid (Below w.heap.size w (w.alloc (.cells #[.pointer (some ⟨d, 0, none⟩), .int .i64 (first : Int), .int .i64 (half : Int), .slice none 0 0, .int .i64 0, .bool false] 55))) := Lib.hid ((Below.refl _ _).alloc (Nat.le_refl _) _)
  have HSZ : Hid (w.heap.size < (w.alloc (.cells #[.pointer (some ⟨d, 0, none⟩), .int .i64 (first : Int), .int .i64 (half : Int), .slice none 0 0, .int .i64 0, .bool false] 55)).heap.size) := by show _ < _; simp
  generalize w.alloc (.cells #[.pointer (some ⟨d, 0, none⟩), .int .i64 (first : Int), .int .i64 (half : Int), .slice none 0 0, .int .i64 0, .bool false] 55) = w1 at HR0 HB0 HSZ ⊢
  go_loopw [48] (fun i wr => ∃ k : Nat, k ≤ 2 ∧ i = .int .i64 (k : Int) ∧ Hid (RecAt wr w.heap.size d first half (openK K first half k).1 (openK K first half k).2 false) ∧ Hid (Below w.heap.size w wr)) (fun i _ => 2 - (intOf i).toNat)
  case atStart => exact ⟨0, by omega, rfl, HR0, HB0⟩
  case round =>
    obtain ⟨k, hk, rfl, HR, HB⟩ := hrel
    clear HR0 HB0
    rcases (by omega : k < 2 ∨ k = 2) with hlt | heq
    · have hki : decide ((k : Int) < 2) = true := by rw [decide_eq_true_iff]; omega
      have hkn : decide (k < 2) = true := by rw [decide_eq_true_iff]; omega
      have hdw := HD.out.below HB.out
      have HST : Hid (∃ A c, Blk wr w.heap.size 55 (recV d first half (.slice A (openK K first half k).2.length c) (openK K first half k).1 false)) := by
        obtain ⟨A, c, hb, _⟩ := HR.out
        exact Lib.hid ⟨A, c, hb⟩
      obtain ⟨A0, c0, hblk⟩ := HST.out
      have HSN := Lib.hid (stands_any k wr (TabK.below HTK.out HB.out) hdw hblk HO.out hlt hh (by
        have := HIN.out
        rcases (by omega : k = 0 ∨ k = 1) with rfl | rfl <;> omega) HFU.out)
      have HNB := openK_bound K first half k
      clear hdw hblk HST
      go_wp2_with fail
      refine HSN.out.mono ?_
      rintro e w2 ⟨he, hb2⟩
      have HR2 := Lib.hid (HR.out.below hb2)
      have HB2 := Lib.hid (HB.out.trans (hb2.mono HB.out.size))
      have HK1 : Hid (openK K first half (k + 1) = best (openK K first half k) (stK K first half k)) := rfl
      obtain ⟨A1, c1, hb1, _⟩ := HR2.out
      have n4 := hb1.cell 4
      have n3 := hb1.cell 3
      have f4 := hb1.frozen 4
      have f3 := hb1.frozen 3
      simp only [recV, List.getElem?_toArray, List.getElem?_cons_succ, List.getElem?_cons_zero] at n4 n3
      obtain ⟨N0, hN0⟩ : ∃ N0, N0 = (openK K first half k).1 := ⟨_, rfl⟩
      rw [← hN0] at n4 HNB
      cases hst : stK K first half k with
      | none =>
        rw [hst] at he
        simp only [StPost] at he
        subst he
        have HKE : Hid (openK K first half (k + 1) = openK K first half k) := by show _ = _; rw [HK1.out, hst]; rfl
        have t1 : decide ((N0 : Int) < 0) = false := by rw [decide_eq_false_iff_not]; omega
        clear hst hN0 hb1 hb2 HSN
        go_wp2
        go_roundw
        case rel => exact ⟨k + 1, by omega, by go_num, by rw [HKE.out]; exact HR2, HB2⟩
        case measure => simp [intOf]; omega
      | some x =>
        rw [hst] at he
        obtain ⟨A, c, rfl, x1, x2, hRx⟩ := he
        have hxb := st_bound hst
        have HX := Lib.hid hRx
        have HKE : Hid (openK K first half (k + 1) = if (openK K first half k).1 < x.1 then x else openK K first half k) := by show _ = _; rw [HK1.out, hst]; rfl
        obtain ⟨X, TX⟩ := x
        simp only at x1 x2 HX HKE hxb ⊢
        by_cases hgt : N0 < X
        · have t1 : decide ((N0 : Int) < (X : Int)) = true := by rw [decide_eq_true_iff]; omega
          have t1' : decide (N0 < X) = true := by rw [decide_eq_true_iff]; exact hgt
          have HKT : Hid (openK K first half (k + 1) = (X, TX)) := by show _ = _; rw [HKE.out, if_pos (by rw [← hN0]; exact hgt)]
          have hset := HR2.out.set (N' := X) x1 x2 HX.out
          have HS1 := Lib.hid hset.1
          have HS2 := Lib.hid hset.2
          clear hst hN0 hb1 hb2 HSN hgt hset hRx
          go_wp2
          go_roundw
          case rel => exact ⟨k + 1, by omega, by go_num, by rw [HKT.out]; exact HS1, Lib.hid (Fr.below_trans HB2.out HS2.out HB2.out.size (fun j e => by rw [e]; exact Nat.le_refl _))⟩
          case measure => simp [intOf]; omega
        · have t1 : decide ((N0 : Int) < (X : Int)) = false := by rw [decide_eq_false_iff_not]; omega
          have t1' : decide (N0 < X) = false := by rw [decide_eq_false_iff_not]; exact hgt
          have HKT : Hid (openK K first half (k + 1) = openK K first half k) := by show _ = _; rw [HKE.out, if_neg (by rw [← hN0]; exact hgt)]
          clear hst hN0 hb1 hb2 HSN hgt hRx
          go_wp2
          go_roundw
          case rel => exact ⟨k + 1, by omega, by go_num, by rw [HKT.out]; exact HR2, HB2⟩
          case measure => simp [intOf]; omega
    · have hki : decide ((k : Int) < 2) = false := by rw [decide_eq_false_iff_not]; omega
      have hkn : decide (k < 2) = false := by rw [decide_eq_false_iff_not]; omega
      have HR2 : Hid (RecAt wr w.heap.size d first half (openL K first half).1 (openL K first half).2 false) := by rw [← openK_two, ← heq]; exact HR
      clear heq
      go_wp2
      go_ret2
      exact ⟨_, rfl, Nat.le_refl _, HR2.out, HB.out⟩
set_option maxRecDepth 100000 in
set_option maxHeartbeats 1000000 in
theorem rtext_nil (w : World) : Calls Tryd.prog 11 #[.pointer none] w fun e w' => e = .returned (.slice none 0 0) ∧ w' = w := by
  go_enter Tryd.func11, Tryd.ntmps11
  go_wp2
  go_ret
  exact ⟨rfl, rfl⟩
set_option maxRecDepth 100000 in
set_option maxHeartbeats 1000000 in
theorem rtext_any {r d first half N : Nat} {T : List UInt8} {dead : Bool} (w : World) (h : RecAt w r d first half N T dead) (hT : T.length ≤ 140737488355328) : Calls Tryd.prog 11 #[.pointer (some ⟨r, 0, none⟩)] w fun e w' => ∃ v, e = .returned v ∧ OB w' w.heap.size v T ∧ Below w.heap.size w w' := by
  obtain ⟨A, c, hb, h1, h2, h3⟩ := h
  have n3 := hb.cell 3
  simp only [recV, List.getElem?_toArray, List.getElem?_cons_succ, List.getElem?_cons_zero] at n3
  have HC := Lib.hid (clone_any A c T w hT h3)
  clear h3 hb
  go_enter Tryd.func11, Tryd.ntmps11
  go_wp2_with fail
  refine HC.out.mono ?_
  rintro e w1 ⟨v, rfl, hv, hb⟩
  have HV := Lib.hid hv
  have HB := Lib.hid hb
  clear hv hb
  go_wp2
  go_ret
  exact ⟨_, rfl, HV.out, HB.out⟩
set_option maxRecDepth 100000 in
set_option maxHeartbeats 1000000 in
theorem rnumber_nil (w : World) : Calls Tryd.prog 12 #[.pointer none] w fun e w' => e = .returned (.int .i64 0) ∧ w' = w := by
  go_enter Tryd.func12, Tryd.ntmps12
  go_wp2
  go_ret
  exact ⟨rfl, rfl⟩
set_option maxRecDepth 100000 in
set_option maxHeartbeats 1000000 in
theorem rnumber_any {r d first half N : Nat} {T : List UInt8} {dead : Bool} (w : World) (h : RecAt w r d first half N T dead) : Calls Tryd.prog 12 #[.pointer (some ⟨r, 0, none⟩)] w fun e w' => e = .returned (.int .i64 (N : Int)) ∧ w' = w := by
  obtain ⟨A, c, hb, h1, h2, h3⟩ := h
  have n4 := hb.cell 4
  simp only [recV, List.getElem?_toArray, List.getElem?_cons_succ, List.getElem?_cons_zero] at n4
  clear h3 hb
  go_enter Tryd.func12, Tryd.ntmps12
  go_wp2
  go_ret
  exact ⟨rfl, rfl⟩
set_option maxRecDepth 100000 in
set_option maxHeartbeats 1000000 in
theorem rdead_nil (w : World) : Calls Tryd.prog 15 #[.pointer none] w fun e w' => e = .returned (.bool false) ∧ w' = w := by
  go_enter Tryd.func15, Tryd.ntmps15
  go_wp2
  go_ret
  exact ⟨rfl, rfl⟩
set_option maxRecDepth 100000 in
set_option maxHeartbeats 1000000 in
theorem rdead_any {r d first half N : Nat} {T : List UInt8} {dead : Bool} (w : World) (h : RecAt w r d first half N T dead) : Calls Tryd.prog 15 #[.pointer (some ⟨r, 0, none⟩)] w fun e w' => e = .returned (.bool dead) ∧ w' = w := by
  obtain ⟨A, c, hb, h1, h2, h3⟩ := h
  have n5 := hb.cell 5
  simp only [recV, List.getElem?_toArray, List.getElem?_cons_succ, List.getElem?_cons_zero] at n5
  clear h3 hb
  go_enter Tryd.func15, Tryd.ntmps15
  go_wp2
  go_ret
  exact ⟨rfl, rfl⟩
set_option maxRecDepth 100000 in
set_option maxHeartbeats 1000000 in
theorem rroom_nil (w : World) : Calls Tryd.prog 13 #[.pointer none] w fun e w' => e = .returned (.int .i64 0) ∧ w' = w := by
  go_enter Tryd.func13, Tryd.ntmps13
  go_wp2
  go_ret
  exact ⟨rfl, rfl⟩
set_option maxRecDepth 100000 in
set_option maxHeartbeats 1000000 in
theorem rroom_any {r d first half N : Nat} {T : List UInt8} {dead : Bool} (w : World) (h : RecAt w r d first half N T dead) (hh : 1 ≤ half) (hb : half ≤ 16384) : Calls Tryd.prog 13 #[.pointer (some ⟨r, 0, none⟩)] w fun e w' => e = .returned (.int .i64 (64 * ((half : Int) - 1))) ∧ w' = w := by
  obtain ⟨A, c, hb, h1, h2, h3⟩ := h
  have n2 := hb.cell 2
  simp only [recV, List.getElem?_toArray, List.getElem?_cons_succ, List.getElem?_cons_zero] at n2
  clear h3 hb
  go_enter Tryd.func13, Tryd.ntmps13
  go_wp2
  go_ret
  exact ⟨rfl, rfl⟩
end Go.Proofs.YtcndkkagnobpmaaDoor
