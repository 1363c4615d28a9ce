/-
  record: the head of a text.
-/
import Derived.Test.YtcndkkagnobpmaaDoorRecPlain
import Derived.Test.YtcndkkagnobpmaaDoorSha7
namespace Go.Proofs.YtcndkkagnobpmaaDoor
open Go.RowKit
attribute [local go_sem ↓] Go.wp_at_zero Go.wp_at_succ
set_option linter.unusedVariables false

theorem concat3 (g : Nat) (A B C : Option Addr) (n m q c d f : Nat) (x y z : List UInt8) (W : World) (hB : Blk W g 22 #[.slice A n c, .slice B m d, .slice C q f]) (hx : RB W A x) (hy : RB W B y) (hz : RB W C z) (hxn : x.length = n) (hym : y.length = m) (hzq : z.length = q) (r : Nat) (hr : n + m + q = r) (hrm : r ≤ 140737488355328) :
    Calls Tryd.prog 38 #[.slice (some ⟨g, 0, none⟩) 3 3] W fun e w' => ∃ A5 c5, e = .returned (.slice A5 r c5) ∧ r ≤ c5 ∧ c5 ≤ 9223372036854775807 ∧ RB w' A5 (x ++ y ++ z) ∧ (x ++ y ++ z).length = r ∧ OB w' W.heap.size (.slice A5 r c5) (x ++ y ++ z) ∧ Below W.heap.size W w' := by
  have hps : Pts W (some ⟨g, 0, none⟩) [⟨A, c, x⟩, ⟨B, d, y⟩, ⟨C, f, z⟩] := by
    refine Pts.of_block (t := 22) ?_ ?_
    · simpa [Pt.v, hxn, hym, hzq] using hB
    · intro p hp
      simp only [List.mem_cons, List.not_mem_nil, or_false] at hp
      rcases hp with rfl | rfl | rfl
      · exact hx
      · exact hy
      · exact hz
  have hcat : catP [⟨A, c, x⟩, ⟨B, d, y⟩, ⟨C, f, z⟩] = x ++ y ++ z := by simp [catP]
  have hl : (x ++ y ++ z).length = r := by simp only [List.length_append]; omega
  refine (concat_any _ 3 3 _ _ hps rfl (by omega) (by rw [hcat]; omega)).mono ?_
  rintro e w' ⟨v, rfl, hv, hb⟩
  rw [hcat] at hv
  obtain ⟨A5, c5, rfl, k1, k2, k3, _⟩ := hv.shape
  rw [hl] at k1 hv
  exact ⟨A5, c5, by rw [hl], k1, by unfold maxLen at k2; omega, k3, hl, hv, hb⟩
set_option maxRecDepth 100000 in
set_option maxHeartbeats 2000000 in
theorem head_any (N : Nat) (A : Option Addr) (n c : Nat) (T : List UInt8) (w : World) (hK : TabK w) (hN : N < 9223372036854775808) (hT : RB w A T) (hn : T.length = n) (hnb : n ≤ 35184372088832) (hc : n ≤ c) (hcm : c ≤ 9223372036854775807) :
    Calls Tryd.prog 34 #[.int .i64 (N : Int), .slice A n c] w fun e w' => ∃ v, e = .returned v ∧ OB w' w.heap.size v (hdL N T) ∧ Below w.heap.size w w' := by
  have HP1 := Lib.hid (put_ok N 8 w (by omega) (by omega) (by omega))
  have HNB := Lib.hid hnb
  go_enter Tryd.func34, Tryd.ntmps34
  go_wp2_with fail
  refine HP1.out.mono ?_
  rintro e w1 ⟨v1, rfl, hv1, hb1⟩
  obtain ⟨A1, c1, rfl, p1, p2, p3, _⟩ := hv1.shape_n (beBytes_length N 8)
  have HR1 := Lib.hid p3
  have BW1 := Lib.hid hb1
  clear hv1 hb1 p3 HP1
  have HP2 := Lib.hid (put_ok n 8 w1 (by omega) (by omega) (by omega))
  go_wp2_with fail
  refine HP2.out.mono ?_
  rintro e w2 ⟨v2, rfl, hv2, hb2⟩
  obtain ⟨A2, c2, rfl, r1, r2, r3, _⟩ := hv2.shape_n (beBytes_length n 8)
  have HR2 := Lib.hid r3
  have HR1 := Lib.hid (HR1.out.below hb2)
  have BW2 := Lib.hid (BW1.out.trans (hb2.mono BW1.out.size))
  have hT2 := hT.below BW2.out
  have hK2 := TabK.below hK BW2.out
  clear hv2 hb2 r3 HP2
  have hal : Below w2.heap.size w2 (w2.alloc (.cells #[.slice A n c] 22)) := (Below.refl _ _).alloc (Nat.le_refl _) _
  have HPS : Hid (Pts (w2.alloc (.cells #[.slice A n c] 22)) (some ⟨w2.heap.size, 0, none⟩) [⟨A, c, T⟩]) := by
    refine Pts.of_block (t := 22) ?_ ?_
    · have := Blk.new w2 22 #[.slice A n c]
      simpa [Pt.v, hn] using this
    · intro p hp
      rw [List.mem_singleton] at hp
      subst hp
      exact hT2.below hal
  have HOF := Lib.hid (of_any (some ⟨w2.heap.size, 0, none⟩) 1 1 [⟨A, c, T⟩] _ (TabK.below hK2 hal) HPS.out rfl (by omega) (by simp [catP, hn]; omega) (by intro p hp; rw [List.mem_singleton] at hp; subst hp; exact ⟨by rw [hn]; exact hc, by unfold maxLen; omega⟩))
  have hcat : catP [⟨A, c, T⟩] = T := by simp [catP]
  rw [hcat] at HOF
  have BW3 := Lib.hid (BW2.out.trans (hal.mono BW2.out.size))
  have HR1 := Lib.hid (HR1.out.below hal)
  have HR2 := Lib.hid (HR2.out.below hal)
  have HTN := Lib.hid hn
  clear hal HPS hcat hT2 hT hK2 hK hn
  go_wp2_with fail
  refine HOF.out.mono ?_
  rintro e w4 ⟨rfl, hb4⟩
  have BW4 := Lib.hid (BW3.out.trans (hb4.mono BW3.out.size))
  have HR1 := Lib.hid (HR1.out.below hb4)
  have HR2 := Lib.hid (HR2.out.below hb4)
  obtain ⟨D, hD⟩ : ∃ D, D = shaL T := ⟨_, rfl⟩
  have hDl : D.length = 32 := by rw [hD, shaL_len]
  obtain ⟨V, hV⟩ : ∃ V, V = (Lib.byteCells D).toArray := ⟨_, rfl⟩
  rw [← hD, ← hV]
  have HHD : Hid (hdL N T = beBytes N 8 ++ beBytes n 8 ++ D.take 16 ++ List.replicate 24 0 ++ beBytes N 8) := by show _ = _; rw [hD]; unfold hdL; rw [HTN.out]
  have hVs : V.size = 32 := by rw [hV]; simp [Lib.byteCells, hDl]
  obtain ⟨Z, hZ⟩ : ∃ Z : Array Value, Z = #[.int .u8 0, .int .u8 0, .int .u8 0, .int .u8 0, .int .u8 0, .int .u8 0, .int .u8 0, .int .u8 0, .int .u8 0, .int .u8 0, .int .u8 0, .int .u8 0, .int .u8 0, .int .u8 0, .int .u8 0, .int .u8 0, .int .u8 0, .int .u8 0, .int .u8 0, .int .u8 0, .int .u8 0, .int .u8 0, .int .u8 0, .int .u8 0, .int .u8 0, .int .u8 0, .int .u8 0, .int .u8 0, .int .u8 0, .int .u8 0, .int .u8 0, .int .u8 0] := ⟨_, rfl⟩
  have HIV : Hid ((Tryd.prog.info? 73).map (·.size) = some V.size) := by show _ = _; rw [hVs]; kernel_rfl
  have HOC : Hid (V.all (·.oneCell') = true) := by show _ = _; rw [hV]; simp [Lib.byteCells, Value.oneCell']
  have HS0 : Hid (Z.size = V.size) := by show _ = _; rw [hVs, hZ]; rfl
  have HZB := Lib.hid (Blk.new w4 73 Z)
  have ha4 : Below w4.heap.size w4 ((w4.alloc (.cells Z 73)).setRow w4.heap.size V) := below_setRow ((Below.refl _ _).alloc (Nat.le_refl _) _) (Nat.le_refl _)
  have BW5 := Lib.hid (BW4.out.trans (ha4.mono BW4.out.size))
  have HR1 := Lib.hid (HR1.out.below ha4)
  have HR2 := Lib.hid (HR2.out.below ha4)
  have HRB : Hid (RB ((w4.alloc (.cells Z 73)).setRow w4.heap.size V) (some ⟨w4.heap.size, 0, none⟩) D) := by
    have := setRow_at HZB.out V
    rw [hV] at this ⊢
    exact RB.of_blk this
  have HDL := Lib.hid hDl
  rw [hZ] at HZB BW5 HR1 HR2 HRB
  rw [hZ] at HS0
  clear hD hDl hV hVs BW3 HOF hb4 ha4 hZ
  go_wp2_with (refine wpList_store_row rfl 73 _ _ rfl w4.heap.size V rfl rfl 73 _ HZB.out HIV.out HS0.out HOC.out ?_)
  have hw5 : ((w4.alloc (.cells (#[.int .u8 0, .int .u8 0, .int .u8 0, .int .u8 0, .int .u8 0, .int .u8 0, .int .u8 0, .int .u8 0, .int .u8 0, .int .u8 0, .int .u8 0, .int .u8 0, .int .u8 0, .int .u8 0, .int .u8 0, .int .u8 0, .int .u8 0, .int .u8 0, .int .u8 0, .int .u8 0, .int .u8 0, .int .u8 0, .int .u8 0, .int .u8 0, .int .u8 0, .int .u8 0, .int .u8 0, .int .u8 0, .int .u8 0, .int .u8 0, .int .u8 0, .int .u8 0] : Array Value) 73)).setRow w4.heap.size V).heap.size = w4.heap.size + 1 := by simp
  generalize ((w4.alloc (.cells (#[.int .u8 0, .int .u8 0, .int .u8 0, .int .u8 0, .int .u8 0, .int .u8 0, .int .u8 0, .int .u8 0, .int .u8 0, .int .u8 0, .int .u8 0, .int .u8 0, .int .u8 0, .int .u8 0, .int .u8 0, .int .u8 0, .int .u8 0, .int .u8 0, .int .u8 0, .int .u8 0, .int .u8 0, .int .u8 0, .int .u8 0, .int .u8 0, .int .u8 0, .int .u8 0, .int .u8 0, .int .u8 0, .int .u8 0, .int .u8 0, .int .u8 0, .int .u8 0] : Array Value) 73)).setRow w4.heap.size V) = w5 at BW5 HR1 HR2 HRB hw5 ⊢
  have HC1 := Lib.hid (concat3 (w4.heap.size + 1) A1 A2 (some ⟨w4.heap.size, 0, none⟩) 8 8 16 c1 c2 32 (beBytes N 8) (beBytes n 8) (D.take 16) (w5.alloc (.cells #[.slice A1 8 c1, .slice A2 8 c2, .slice (some ⟨w4.heap.size, 0, none⟩) 16 32] 22)) (by rw [← hw5]; exact Blk.new _ _ _)
    (HR1.out.below ((Below.refl _ _).alloc (Nat.le_refl _) _)) (HR2.out.below ((Below.refl _ _).alloc (Nat.le_refl _) _)) ((HRB.out.take (by rw [HDL.out]; omega)).below ((Below.refl _ _).alloc (Nat.le_refl _) _)) (beBytes_length _ _) (beBytes_length _ _) (by rw [List.length_take, HDL.out]; rfl) 32 rfl (by omega))
  have HR1 := Lib.hid (HR1.out.below ((Below.refl _ _).alloc (Nat.le_refl _) (.cells #[.slice A1 8 c1, .slice A2 8 c2, .slice (some ⟨w4.heap.size, 0, none⟩) 16 32] 22)))
  have BW6 := Lib.hid (BW5.out.alloc BW5.out.size (.cells #[.slice A1 8 c1, .slice A2 8 c2, .slice (some ⟨w4.heap.size, 0, none⟩) 16 32] 22))
  go_wp2_with fail
  refine HC1.out.mono ?_
  rintro e w7 ⟨A5, c5, rfl, k1, k2, k3, k4, _, k6⟩
  have HR1 := Lib.hid (HR1.out.below k6)
  have BW7 := Lib.hid (BW6.out.trans (k6.mono BW6.out.size))
  have HR5 := Lib.hid k3
  have HL5 := Lib.hid k4
  clear k3 k4 k6
  obtain ⟨Q, hQ⟩ : ∃ Q, Q = (Lib.byteCells (List.replicate 24 0)).toArray := ⟨_, rfl⟩
  have RM : ∀ w, (Instr.makeSlice 22 (.int .i64 24) (.int .i64 24)).run Tryd.prog w = .ok (.slice (some ⟨w.heap.size, 0, none⟩) 24 24) (w.alloc (.cells Q 5)) := fun w => by
    have := run_make_bytes 24 (by omega) w
    rw [made_zeros] at this
    rw [hQ]
    exact this
  have HQ : Hid (RB (w7.alloc (.cells Q 5)) (some ⟨w7.heap.size, 0, none⟩) (List.replicate 24 0)) := Lib.hid (RB.of_blk (t := 5) (by rw [hQ]; exact Blk.new _ _ _))
  have ha7 : Below w7.heap.size w7 (w7.alloc (.cells Q 5)) := (Below.refl _ _).alloc (Nat.le_refl _) _
  have HR1 := Lib.hid (HR1.out.below ha7)
  have HR5 := Lib.hid (HR5.out.below ha7)
  have BW8 := Lib.hid (BW7.out.trans (ha7.mono BW7.out.size))
  clear hQ ha7
  have hw8 : (w7.alloc (.cells Q 5)).heap.size = w7.heap.size + 1 := by simp
  have ha8 : ∀ o, Below (w7.alloc (.cells Q 5)).heap.size (w7.alloc (.cells Q 5)) ((w7.alloc (.cells Q 5)).alloc o) := fun o => (Below.refl _ _).alloc (Nat.le_refl _) o
  have HC2 := Lib.hid (concat3 (w7.heap.size + 1) A5 (some ⟨w7.heap.size, 0, none⟩) A1 32 24 8 c5 24 c1 (beBytes N 8 ++ beBytes n 8 ++ D.take 16) (List.replicate 24 0) (beBytes N 8) ((w7.alloc (.cells Q 5)).alloc (.cells #[.slice A5 32 c5, .slice (some ⟨w7.heap.size, 0, none⟩) 24 24, .slice A1 8 c1] 22)) (by rw [← hw8]; exact Blk.new _ _ _)
    (HR5.out.below (ha8 _)) (HQ.out.below (ha8 _)) (HR1.out.below (ha8 _)) HL5.out (by simp) (beBytes_length _ _) 64 rfl (by omega))
  have BW9 := Lib.hid (BW8.out.alloc BW8.out.size (.cells #[.slice A5 32 c5, .slice (some ⟨w7.heap.size, 0, none⟩) 24 24, .slice A1 8 c1] 22))
  have HSZ : Hid (w.heap.size ≤ ((w7.alloc (.cells Q 5)).alloc (.cells #[.slice A5 32 c5, .slice (some ⟨w7.heap.size, 0, none⟩) 24 24, .slice A1 8 c1] 22)).heap.size) := BW9.out.size
  clear hw8 ha8
  go_wp2_with fail
  refine HC2.out.mono ?_
  rintro e w10 ⟨A9, c9, rfl, k1, k2, k3, k4, k5, k6⟩
  have BW10 := Lib.hid (BW9.out.trans (k6.mono BW9.out.size))
  have HO := Lib.hid (k5.mono HSZ.out)
  clear k3 k4 k5 k6
  go_wp2
  go_ret
  exact ⟨_, rfl, by rw [HHD.out]; exact HO.out, BW10.out⟩
end Go.Proofs.YtcndkkagnobpmaaDoor
