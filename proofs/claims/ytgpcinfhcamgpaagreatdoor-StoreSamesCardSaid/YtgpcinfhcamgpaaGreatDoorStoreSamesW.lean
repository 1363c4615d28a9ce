/-
  The walk of the law StoreSames.
-/
import Derived.Test.YtgpcinfhcamgpaaGreatDoorStL3
import Derived.Deep.RegionHeld3
import Derived.Deep.DrawnRows
import Derived.Handy
namespace Go.Proofs.YtgpcinfhcamgpaaGreatDoor
open Go.RowKit Glob
attribute [local go_sem ↓] Go.wp_at_zero Go.wp_at_succ
set_option linter.unusedVariables false
set_option linter.unusedSimpArgs false

set_option maxRecDepth 100000 in
set_option maxHeartbeats 8000000 in
theorem storeSames_walk (x y : SV) (W : World) (hK : TabK W) (hT : Tab W) (hx : SAt W x) (hxb : SBd x) (hy : SAt W y) (hyb : SBd y) :
    Calls Tryz.prog 4 #[x.v, y.v] W fun e w' => e = .returned (.bool true) ∧ Below W.heap.size W w' := by
  have HK := Lib.hid hK
  have HT := Lib.hid hT
  have HX := Lib.hid hx
  have HY := Lib.hid hy
  have HLX := Lib.hid (fun V (hV : Below W.heap.size W V) => large_any x V (hx.below hV) hxb)
  have HLY := Lib.hid (fun V (hV : Below W.heap.size W V) => large_any y V (hy.below hV) hyb)
  unfold LgPost at HLX HLY
  obtain ⟨a0, an0, ac0, a1, an1, ac1, a2, an2, ac2, a3, an3, ac3, a4, an4, ac4, hxv, -⟩ := x.five
  obtain ⟨b0, bn0, bc0, b1, bn1, bc1, b2, bn2, bc2, b3, bn3, bc3, b4, bn4, bc4, hyv, -⟩ := y.five
  have HXV := Lib.hid hxv
  have HYV := Lib.hid hyv
  rw [hxv] at HLX
  rw [hyv] at HLY
  rw [hxv, hyv]
  clear hK hT hx hxb hy hyb hxv hyv
  have e1 : (W.alloc (.cells #[.slice a0 an0 ac0, .slice a1 an1 ac1, .slice a2 an2 ac2, .slice a3 an3 ac3, .slice a4 an4 ac4] 25)).heap.size = W.heap.size + 1 := by simp
  have HA : Hid (Below W.heap.size W ((W.alloc (.cells #[.slice a0 an0 ac0, .slice a1 an1 ac1, .slice a2 an2 ac2, .slice a3 an3 ac3, .slice a4 an4 ac4] 25)).alloc (.cells #[.slice b0 bn0 bc0, .slice b1 bn1 bc1, .slice b2 bn2 bc2, .slice b3 bn3 bc3, .slice b4 bn4 bc4] 25))) := Lib.hid (((Below.refl _ _).alloc (Nat.le_refl _) _).alloc (by simp) _)
  have HBX : Hid (Blk ((W.alloc (.cells #[.slice a0 an0 ac0, .slice a1 an1 ac1, .slice a2 an2 ac2, .slice a3 an3 ac3, .slice a4 an4 ac4] 25)).alloc (.cells #[.slice b0 bn0 bc0, .slice b1 bn1 bc1, .slice b2 bn2 bc2, .slice b3 bn3 bc3, .slice b4 bn4 bc4] 25)) W.heap.size 25 #[.slice a0 an0 ac0, .slice a1 an1 ac1, .slice a2 an2 ac2, .slice a3 an3 ac3, .slice a4 an4 ac4]) := Lib.hid ((Blk.new _ _ _).alloc _)
  have HBY : Hid (Blk ((W.alloc (.cells #[.slice a0 an0 ac0, .slice a1 an1 ac1, .slice a2 an2 ac2, .slice a3 an3 ac3, .slice a4 an4 ac4] 25)).alloc (.cells #[.slice b0 bn0 bc0, .slice b1 bn1 bc1, .slice b2 bn2 bc2, .slice b3 bn3 bc3, .slice b4 bn4 bc4] 25)) (W.heap.size + 1) 25 #[.slice b0 bn0 bc0, .slice b1 bn1 bc1, .slice b2 bn2 bc2, .slice b3 bn3 bc3, .slice b4 bn4 bc4]) := Lib.hid (by
    have h := Blk.new (W.alloc (.cells #[.slice a0 an0 ac0, .slice a1 an1 ac1, .slice a2 an2 ac2, .slice a3 an3 ac3, .slice a4 an4 ac4] 25)) 25 #[.slice b0 bn0 bc0, .slice b1 bn1 bc1, .slice b2 bn2 bc2, .slice b3 bn3 bc3, .slice b4 bn4 bc4]
    rw [e1] at h
    exact h)
  clear e1
  go_enter Tryz.func4, Tryz.ntmps4
  go_wp2_with fail
  refine (HLX.out _ HA.out).mono ?_
  rintro e w2 ⟨bx, rfl, hb2, hsx⟩
  have HB2 : Hid (Below W.heap.size W w2) := Lib.hid (HA.out.trans (hb2.mono HA.out.size))
  have HBX2 := Lib.hid (HBX.out.below hb2 HBX.out.lt)
  have HBY2 := Lib.hid (HBY.out.below hb2 HBY.out.lt)
  have HSX := Lib.hid hsx
  clear hb2 hsx HA HBX HBY
  cases bx with
  | true =>
    go_wp2_with fail
    refine (slives_any _ (TabK.below HK.out HB2.out) (Tab.below HT.out HB2.out)).mono ?_
    rintro e w9 ⟨rfl, hb9⟩
    have HB9 : Hid (Below W.heap.size W w9) := Lib.hid (HB2.out.trans (hb9.mono HB2.out.size))
    clear hb9
    go_wp2
    go_ret
    exact ⟨rfl, HB9.out⟩
  | false =>
    have HSX2 := Lib.hid (HSX.out rfl)
    have t0 := HBY2.out.cell 0
    have t1 := HBY2.out.cell 1
    have t2 := HBY2.out.cell 2
    have t3 := HBY2.out.cell 3
    have t4 := HBY2.out.cell 4
    simp only [List.getElem?_toArray, List.getElem?_cons_zero, List.getElem?_cons_succ] at t0 t1 t2 t3 t4
    go_wp2_with fail
    refine (HLY.out _ HB2.out).mono ?_
    rintro e w3 ⟨by_, rfl, hb3, hsy⟩
    have HB3 : Hid (Below W.heap.size W w3) := Lib.hid (HB2.out.trans (hb3.mono HB2.out.size))
    have HBX3 := Lib.hid (HBX2.out.below hb3 HBX2.out.lt)
    have HBY3 := Lib.hid (HBY2.out.below hb3 HBY2.out.lt)
    have HSY := Lib.hid hsy
    clear hb3 hsy t0 t1 t2 t3 t4 HBX2 HBY2
    cases by_ with
    | true =>
      go_wp2_with fail
      refine (slives_any _ (TabK.below HK.out HB3.out) (Tab.below HT.out HB3.out)).mono ?_
      rintro e w9 ⟨rfl, hb9⟩
      have HB9 : Hid (Below W.heap.size W w9) := Lib.hid (HB3.out.trans (hb9.mono HB3.out.size))
      clear hb9
      go_wp2
      go_ret
      exact ⟨rfl, HB9.out⟩
    | false =>
      have HSY2 := Lib.hid (HSY.out rfl)
      have HCX : Hid (∀ (i : Nat) V, Below w3.heap.size w3 V → V.cell? ⟨W.heap.size, i, none⟩ = (#[.slice a0 an0 ac0, .slice a1 an1 ac1, .slice a2 an2 ac2, .slice a3 an3 ac3, .slice a4 an4 ac4] : Array Value)[i]?) := Lib.hid (fun i V hV => (HBX3.out.below hV HBX3.out.lt).cell i)
      have HCY : Hid (∀ (i : Nat) V, Below w3.heap.size w3 V → V.cell? ⟨W.heap.size + 1, i, none⟩ = (#[.slice b0 bn0 bc0, .slice b1 bn1 bc1, .slice b2 bn2 bc2, .slice b3 bn3 bc3, .slice b4 bn4 bc4] : Array Value)[i]?) := Lib.hid (fun i V hV => (HBY3.out.below hV HBY3.out.lt).cell i)
      have HX3 := Lib.hid (HX.out.below HB3.out)
      have HY3 := Lib.hid (HY.out.below HB3.out)
      go_wp2
      obtain ⟨Q, hQ⟩ : ∃ Q, Q = decide (x.sta = y.sta) := ⟨_, rfl⟩
      have HQ : Hid (decide (x.sta = y.sta) = Q) := Lib.hid hQ.symm
      have HQQ : (Q == Q) = true := by cases Q <;> rfl
      clear hQ
      refine wp_region_held_drew (S := fun V => Below w3.heap.size w3 V) (by kernel_rfl) ((Below.refl _ _).drew) (fun hS1 => ?_)
      refine wpAnyH_ready (rs := [0]) (by kernel_rfl) (by simp) ?_
      refine AllReadyH.cons rfl (fun K' hK => ?_) AllReadyH.nil
      go_simp
      refine (slives_any _ (TabK.below HK.out (HB3.out.trans ((hS1).mono HB3.out.size))) (Tab.below HT.out (HB3.out.trans ((hS1).mono HB3.out.size)))).mono ?_
      rintro e v1 ⟨rfl, hb1⟩
      go_simp
      refine hK.out _ _ ((hS1).trans (hb1.mono (hS1).size)) (fun hS2 => ?_)
      clear hK K' hS1
      refine wpAnyH_take (i := 1) (oi := ⟨some 13, _, _, _, _, _⟩) (v := .bool true) rfl (by kernel_rfl) (by kernel_rfl) (by kernel_rfl) (fun _ _ _ h => h) (.inl ⟨by kernel_rfl, fun V hS => by go_simp⟩) hS2 ?_
      simp only [Act.put, List.setIfInBounds_toArray, List.set_cons_zero, List.set_cons_succ]
      refine wpAnyH_take (i := 2) (oi := ⟨some 14, _, _, _, _, _⟩) (v := .agg #[.slice a0 an0 ac0, .slice a1 an1 ac1, .slice a2 an2 ac2, .slice a3 an3 ac3, .slice a4 an4 ac4]) rfl (by kernel_rfl) (by kernel_rfl) (by kernel_rfl) (fun _ _ _ h => h) (.inl ⟨by kernel_rfl, fun V hS => by have h0 := HCX.out 0 V hS; have h1 := HCX.out 1 V hS; have h2 := HCX.out 2 V hS; have h3 := HCX.out 3 V hS; have h4 := HCX.out 4 V hS; simp only [List.getElem?_toArray, List.getElem?_cons_zero, List.getElem?_cons_succ] at h0 h1 h2 h3 h4; go_simp⟩) hS2 ?_
      simp only [Act.put, List.setIfInBounds_toArray, List.set_cons_zero, List.set_cons_succ]
      refine wpAnyH_take (i := 3) (oi := ⟨some 15, _, _, _, _, _⟩) (v := .agg #[.slice b0 bn0 bc0, .slice b1 bn1 bc1, .slice b2 bn2 bc2, .slice b3 bn3 bc3, .slice b4 bn4 bc4]) rfl (by kernel_rfl) (by kernel_rfl) (by kernel_rfl) (fun _ _ _ h => h) (.inl ⟨by kernel_rfl, fun V hS => by have h0 := HCY.out 0 V hS; have h1 := HCY.out 1 V hS; have h2 := HCY.out 2 V hS; have h3 := HCY.out 3 V hS; have h4 := HCY.out 4 V hS; simp only [List.getElem?_toArray, List.getElem?_cons_zero, List.getElem?_cons_succ] at h0 h1 h2 h3 h4; go_simp⟩) hS2 ?_
      simp only [Act.put, List.setIfInBounds_toArray, List.set_cons_zero, List.set_cons_succ]
      refine wpAnyH_take (i := 5) (oi := ⟨some 17, _, _, _, _, _⟩) (v := .agg #[.slice a0 an0 ac0, .slice a1 an1 ac1, .slice a2 an2 ac2, .slice a3 an3 ac3, .slice a4 an4 ac4]) rfl (by kernel_rfl) (by kernel_rfl) (by kernel_rfl) (fun _ _ _ h => h) (.inl ⟨by kernel_rfl, fun V hS => by have h0 := HCX.out 0 V hS; have h1 := HCX.out 1 V hS; have h2 := HCX.out 2 V hS; have h3 := HCX.out 3 V hS; have h4 := HCX.out 4 V hS; simp only [List.getElem?_toArray, List.getElem?_cons_zero, List.getElem?_cons_succ] at h0 h1 h2 h3 h4; go_simp⟩) hS2 ?_
      simp only [Act.put, List.setIfInBounds_toArray, List.set_cons_zero, List.set_cons_succ]
      refine wpAnyH_take (i := 6) (oi := ⟨some 18, _, _, _, _, _⟩) (v := .agg #[.slice b0 bn0 bc0, .slice b1 bn1 bc1, .slice b2 bn2 bc2, .slice b3 bn3 bc3, .slice b4 bn4 bc4]) rfl (by kernel_rfl) (by kernel_rfl) (by kernel_rfl) (fun _ _ _ h => h) (.inl ⟨by kernel_rfl, fun V hS => by have h0 := HCY.out 0 V hS; have h1 := HCY.out 1 V hS; have h2 := HCY.out 2 V hS; have h3 := HCY.out 3 V hS; have h4 := HCY.out 4 V hS; simp only [List.getElem?_toArray, List.getElem?_cons_zero, List.getElem?_cons_succ] at h0 h1 h2 h3 h4; go_simp⟩) hS2 ?_
      simp only [Act.put, List.setIfInBounds_toArray, List.set_cons_zero, List.set_cons_succ]
      refine wpAnyH_ready (rs := [4]) (by kernel_rfl) (by simp) ?_
      refine AllReadyH.cons rfl (fun K' hK => ?_) AllReadyH.nil
      go_simp
      have hs := same_any x y v1 (HX3.out.below hS2) (HY3.out.below hS2) HSX2.out.m HSY2.out.m
      rw [HQ.out, HXV.out, HYV.out] at hs
      refine hs.mono ?_
      rintro e v2 ⟨rfl, hbv2⟩
      clear hs
      go_simp
      refine hK.out _ _ ((hS2).trans (hbv2.mono (hS2).size)) (fun hS3 => ?_)
      clear hK K' hS2
      refine wpAnyH_ready (rs := [7]) (by kernel_rfl) (by simp) ?_
      refine AllReadyH.cons rfl (fun K' hK => ?_) AllReadyH.nil
      go_simp
      have hs := rsame_any x y v2 (HX3.out.below hS3) (HY3.out.below hS3) HSX2.out.m HSY2.out.m
      rw [HQ.out, HXV.out, HYV.out] at hs
      refine hs.mono ?_
      rintro e v3 ⟨rfl, hbv3⟩
      clear hs
      go_simp
      refine hK.out _ _ ((hS3).trans (hbv3.mono (hS3).size)) (fun hS4 => ?_)
      clear hK K' hS3
      refine wpAnyH_take (i := 8) (oi := ⟨some 20, _, _, _, _, _⟩) (v := .bool true) rfl (by kernel_rfl) (by kernel_rfl) (by kernel_rfl) (fun _ _ _ h => h) (.inl ⟨by kernel_rfl, fun V hS => by go_simp⟩) hS4 ?_
      simp only [Act.put, List.setIfInBounds_toArray, List.set_cons_zero, List.set_cons_succ]
      refine wpAnyH_take (i := 9) (oi := ⟨some 21, _, _, _, _, _⟩) (v := .bool true) rfl (by kernel_rfl) (by kernel_rfl) (by kernel_rfl) (fun _ _ _ h => h) (.inl ⟨by kernel_rfl, fun V hS => by go_simp⟩) hS4 ?_
      simp only [Act.put, List.setIfInBounds_toArray, List.set_cons_zero, List.set_cons_succ]
      refine wpAnyH_take (i := 10) (oi := ⟨some 22, _, _, _, _, _⟩) (v := .bool true) rfl (by kernel_rfl) (by kernel_rfl) (by kernel_rfl) (fun _ _ _ h => h) (.inl ⟨by kernel_rfl, fun V hS => by go_simp⟩) hS4 ?_
      simp only [Act.put, List.setIfInBounds_toArray, List.set_cons_zero, List.set_cons_succ]
      refine wpAnyH_take (i := 11) (oi := ⟨some 23, _, _, _, _, _⟩) (v := .agg #[.slice a0 an0 ac0, .slice a1 an1 ac1, .slice a2 an2 ac2, .slice a3 an3 ac3, .slice a4 an4 ac4]) rfl (by kernel_rfl) (by kernel_rfl) (by kernel_rfl) (fun _ _ _ h => h) (.inl ⟨by kernel_rfl, fun V hS => by have h0 := HCX.out 0 V hS; have h1 := HCX.out 1 V hS; have h2 := HCX.out 2 V hS; have h3 := HCX.out 3 V hS; have h4 := HCX.out 4 V hS; simp only [List.getElem?_toArray, List.getElem?_cons_zero, List.getElem?_cons_succ] at h0 h1 h2 h3 h4; go_simp⟩) hS4 ?_
      simp only [Act.put, List.setIfInBounds_toArray, List.set_cons_zero, List.set_cons_succ]
      refine wpAnyH_take (i := 12) (oi := ⟨some 24, _, _, _, _, _⟩) (v := .agg #[.slice a0 an0 ac0, .slice a1 an1 ac1, .slice a2 an2 ac2, .slice a3 an3 ac3, .slice a4 an4 ac4]) rfl (by kernel_rfl) (by kernel_rfl) (by kernel_rfl) (fun _ _ _ h => h) (.inl ⟨by kernel_rfl, fun V hS => by have h0 := HCX.out 0 V hS; have h1 := HCX.out 1 V hS; have h2 := HCX.out 2 V hS; have h3 := HCX.out 3 V hS; have h4 := HCX.out 4 V hS; simp only [List.getElem?_toArray, List.getElem?_cons_zero, List.getElem?_cons_succ] at h0 h1 h2 h3 h4; go_simp⟩) hS4 ?_
      simp only [Act.put, List.setIfInBounds_toArray, List.set_cons_zero, List.set_cons_succ]
      refine wpAnyH_ready (rs := [13]) (by kernel_rfl) (by simp) ?_
      refine AllReadyH.cons rfl (fun K' hK => ?_) AllReadyH.nil
      go_simp
      have hs := same_any x x v3 (HX3.out.below hS4) (HX3.out.below hS4) HSX2.out.m HSX2.out.m
      rw [decide_eq_true rfl, HXV.out] at hs
      refine hs.mono ?_
      rintro e v4 ⟨rfl, hbv4⟩
      clear hs
      go_simp
      refine hK.out _ _ ((hS4).trans (hbv4.mono (hS4).size)) (fun hS5 => ?_)
      clear hK K' hS4
      refine wpAnyH_take (i := 14) (oi := ⟨some 26, _, _, _, _, _⟩) (v := .bool true) rfl (by kernel_rfl) (by kernel_rfl) (by kernel_rfl) (fun _ _ _ h => h) (.inl ⟨by kernel_rfl, fun V hS => by go_simp⟩) hS5 ?_
      simp only [Act.put, List.setIfInBounds_toArray, List.set_cons_zero, List.set_cons_succ]
      refine wpAnyH_take (i := 15) (oi := ⟨some 4, _, _, _, _, _⟩) (v := .bool true) rfl (by kernel_rfl) (by kernel_rfl) (by kernel_rfl) (fun _ _ _ h => h) (.inl ⟨by kernel_rfl, fun V hS => by go_simp⟩) hS5 ?_
      simp only [Act.put, List.setIfInBounds_toArray, List.set_cons_zero, List.set_cons_succ]
      refine wpAnyH_done (by kernel_rfl) ?_ _
      go_wp2
      go_ret
      exact ⟨rfl, HB3.out.trans (hS5.mono HB3.out.size)⟩
end Go.Proofs.YtgpcinfhcamgpaaGreatDoor
