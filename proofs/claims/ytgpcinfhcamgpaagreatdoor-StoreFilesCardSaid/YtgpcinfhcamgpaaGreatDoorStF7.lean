/-
  The document's Put.
-/
import Derived.Test.YtgpcinfhcamgpaaGreatDoorStF6
import Derived.Deep.RegionHeld3
import Derived.Deep.DrawnRows
namespace Go.Proofs.YtgpcinfhcamgpaaGreatDoor
open Go.RowKit
attribute [local go_sem ↓] Go.wp_at_zero Go.wp_at_succ
set_option linter.unusedVariables false
set_option linter.unusedSimpArgs false

theorem put_defers (a : Act) (d : Option Tmp) (v : Value) : (a.put d v).defers = a.defers := by cases d <;> rfl
noncomputable def rputC : Code := Tryz.f32.body.getD .skip
def rAct (u : Nat → Value) : Act := ⟨#[u 0, u 1, u 2, u 3, u 4, u 5, u 6, u 7, u 8, u 9, u 10, u 11, u 12, u 13, u 14, u 15, u 16, u 17, u 18, u 19, u 20, u 21, u 22, u 23, u 24, u 25, u 26, u 27, u 28, u 29, u 30, u 31, u 32, u 33, u 34, u 35, u 36, u 37, u 38, u 39, u 40, u 41, u 42, u 43, u 44, u 45, u 46, u 47, u 48, u 49, u 50, u 51, u 52, u 53, u 54, u 55, u 56, u 57, u 58, u 59, u 60, u 61, u 62, u 63, u 64, u 65], []⟩
theorem ract_lit (a : Act) (hs : a.tmps.size = 66) (hd : a.defers = []) : ∃ u : Nat → Value, (∀ k, a.tmps.getD k undef = u k) ∧ a = rAct u := by
  refine ⟨fun k => a.tmps.getD k undef, fun _ => rfl, ?_⟩
  obtain ⟨t, d⟩ := a
  simp only at hs hd
  subst hd
  have h : t = ((List.range 66).map fun k => t.getD k undef).toArray := by
    apply Array.ext
    · simp [hs]
    · intro j h1 h2
      simp [Array.getD, h1]
  unfold rAct
  congr 1
/-- a part of a code, loops too -/
def partG : List Nat → Code → Code
  | [], c => c
  | 0 :: r, .seq a _ => partG r a
  | 1 :: r, .seq _ b => partG r b
  | 2 :: r, .block _ c => partG r c
  | 3 :: r, .loop c => partG r c
  | 4 :: r, .cond _ a _ => partG r a
  | 5 :: r, .cond _ _ b => partG r b
  | _, _ => .skip
set_option maxRecDepth 100000 in
set_option maxHeartbeats 16000000 in
theorem rput_six (B : Nat) (A : Option Addr) (n c : Nat) (fs : List FV) (s : ByteArray) (A2 : Option Addr) (nb c2 : Nat) (bl : List UInt8) (i q : Nat) (u : Nat → Value) (w2 : World) (P : Ending → World → Prop) (Q : Exit → Act → World → Prop) (hQP : ∀ (c : List PanicEntry) (a a' : Act) (w : World), a.defers = a'.defers → Q (.panic c) a w → Q (.panic c) a' w) (hret : ∀ a w, bodyPost Tryz.prog Tryz.f32 (PF P) .ret a w → Q .ret a w) (hu0 : u 0 = .slice A n c) (hu7 : u 7 = .pointer (some ⟨q, 0, none⟩)) (hu8 : u 8 = .int .i64 (i : Int)) (hl : Fls w2 A fs) (hn : fs.length = n) (hbig : n ≤ 1000000000000) (hnc : n ≤ c) (hc : c ≤ maxLen) (hv : ∀ f ∈ fs, FVs w2 B f) (hB : B ≤ w2.heap.size) (hq : Blk w2 q 55 #[.string s, .slice A2 nb c2]) (hnb : bl.length = nb) (hf : FVs w2 B ⟨s, A2, c2, bl⟩) (hi : i < n)
    (hend : ∀ v' w', OFs B w' w2.heap.size v' ((([] ++ fs.take i) ++ [⟨s, A2, c2, bl⟩]) ++ fs.drop (i + 1)) → Below w2.heap.size w2 w' → PF P (.returned v') w') :
    Code.wp Tryz.prog (partG [1, 1, 0, 1, 2, 3, 1, 0, 2, 1, 4] rputC) Q (rAct u) w2 := by
  have HL2 := Lib.hid (fun V (hV : Below w2.heap.size w2 V) => (hl.below hV).take i)
  have HTL : Hid ((fs.take i).length = i) := Lib.hid (by rw [List.length_take, hn]; omega)
  have HVT := Lib.hid (fun V (hV : Below w2.heap.size w2 V) => fun f (hf : f ∈ fs.take i) => (hv f (List.mem_of_mem_take hf)).below hV)
  have HLE0 : Hid (([] : List FV).length + i ≤ 3000000000000) := Lib.hid (by simp; omega)
  have HLE1 : Hid (([] ++ fs.take i).length + 1 ≤ 3000000000000) := Lib.hid (by simp; omega)
  have HLE2 : Hid ((([] ++ fs.take i) ++ [(⟨s, A2, c2, bl⟩ : FV)]).length + (n - (i + 1)) ≤ 3000000000000) := Lib.hid (by simp; omega)
  obtain ⟨A9, HCS, hl9⟩ : ∃ A9, Hid ((c = i + 1 ∧ A9 = A) ∨ (¬ c = i + 1 ∧ A9 = A.map fun x => x.add ((i + 1) * 2))) ∧ Fls w2 A9 (fs.drop (i + 1)) := by
    by_cases h : c = i + 1
    · refine ⟨A, Lib.hid (.inl ⟨h, rfl⟩), ?_⟩
      rw [List.drop_of_length_le (by omega)]
      exact Fls.nil _ _
    · exact ⟨_, Lib.hid (.inr ⟨h, rfl⟩), hl.drop (i + 1)⟩
  have HL3 := Lib.hid (fun V (hV : Below w2.heap.size w2 V) => hl9.below hV)
  have HDL : Hid ((fs.drop (i + 1)).length = n - (i + 1)) := Lib.hid (by rw [List.length_drop, hn])
  have HVD := Lib.hid (fun V (hV : Below w2.heap.size w2 V) => fun f (hf : f ∈ fs.drop (i + 1)) => (hv f (List.mem_of_mem_drop hf)).below hV)
  have HFV := Lib.hid (fun V (hV : Below w2.heap.size w2 V) => hf.below hV)
  have HF1 : Hid (∀ V, Below w2.heap.size w2 V → ∀ f ∈ [(⟨s, A2, c2, bl⟩ : FV)], FVs V B f) := Lib.hid (fun V hV f h => by rw [List.mem_singleton] at h; subst h; exact hf.below hV)
  have HQ2 : Hid (∀ V, Below w2.heap.size w2 V → V.cell? ⟨q, 0, none⟩ = some (.string s) ∧ V.cell? ⟨q, 1, none⟩ = some (.slice A2 nb c2)) := Lib.hid (fun V hV => ⟨(hq.below hV hq.lt).cell 0, (hq.below hV hq.lt).cell 1⟩)
  have HBB := Lib.hid hB
  have HCF : Hid ((FV.cells ⟨s, A2, c2, bl⟩).toArray = #[.string s, .slice A2 nb c2]) := Lib.hid (by simp only [FV.cells, hnb])
  have HEND := Lib.hid hend
  have HQP := Lib.hid hQP
  have HRET := Lib.hid hret
  have hii : (i : Int) < (n : Int) := by omega
  have hi0 : (0 : Int) ≤ (i : Int) := by omega
  have hi1 : (i : Int) + 1 ≤ (n : Int) := by omega
  have hi2 : (0 : Int) ≤ (i : Int) + 1 := by omega
  have hti : ((i : Int) + 1).toNat = i + 1 := by omega
  have hwi : IntKind.i64.wrap ((i : Int) + 1) = (i : Int) + 1 := IntWalk.i64_in _ (by omega)
  have hin : i ≤ n := by omega
  have hic : i ≤ c := by omega
  have hi1c : i + 1 ≤ n := by omega
  unfold maxLen at hc
  clear hl hn hv hB hq hnb hf hend hl9 hQP hret
  conv => arg 2; whnf
  unfold rAct
  rw [hu0, hu7, hu8]
  clear hu0 hu7 hu8
  go_wp2_with fail
  refine wp_region_held_drew (S := fun V => Below w2.heap.size w2 V) (by kernel_rfl) ((Below.refl _ _).drew) (fun hS1 => ?_)
  generalize w2.drew = W0 at hS1 ⊢
  refine wpAnyH_take (i := 1) (oi := ⟨some 27, _, _, _, _, _⟩) (v := .slice A n c) rfl (by kernel_rfl) (by kernel_rfl) (by kernel_rfl) (fun x a w h => HQP.out x _ a w (put_defers a _ _) h) (.inl ⟨by kernel_rfl, fun V hS => by go_simp⟩) hS1 ?_
  simp only [Act.put, List.setIfInBounds_toArray, List.set_cons_zero, List.set_cons_succ]
  refine wpAnyH_take (i := 2) (oi := ⟨some 28, _, _, _, _, _⟩) (v := .int .i64 (i : Int)) rfl (by kernel_rfl) (by kernel_rfl) (by kernel_rfl) (fun x a w h => HQP.out x _ a w (put_defers a _ _) h) (.inl ⟨by kernel_rfl, fun V hS => by go_simp⟩) hS1 ?_
  simp only [Act.put, List.setIfInBounds_toArray, List.set_cons_zero, List.set_cons_succ]
  refine wpAnyH_take (i := 3) (oi := ⟨some 29, _, _, _, _, _⟩) (v := .slice A i c) rfl (by kernel_rfl) (by kernel_rfl) (by kernel_rfl) (fun x a w h => HQP.out x _ a w (put_defers a _ _) h) (.inl ⟨by kernel_rfl, fun V hS => by go_simp⟩) hS1 ?_
  simp only [Act.put, List.setIfInBounds_toArray, List.set_cons_zero, List.set_cons_succ]
  refine wpAnyH_take (i := 5) (oi := ⟨some 31, _, _, _, _, _⟩) (v := .agg #[.string s, .slice A2 nb c2]) rfl (by kernel_rfl) (by kernel_rfl) (by kernel_rfl) (fun x a w h => HQP.out x _ a w (put_defers a _ _) h) (.inl ⟨by kernel_rfl, fun V hS => by obtain ⟨h0, h1⟩ := HQ2.out V hS; go_simp⟩) hS1 ?_
  simp only [Act.put, List.setIfInBounds_toArray, List.set_cons_zero, List.set_cons_succ]
  refine wpAnyH_take (i := 8) (oi := ⟨some 34, _, _, _, _, _⟩) (v := .slice A n c) rfl (by kernel_rfl) (by kernel_rfl) (by kernel_rfl) (fun x a w h => HQP.out x _ a w (put_defers a _ _) h) (.inl ⟨by kernel_rfl, fun V hS => by go_simp⟩) hS1 ?_
  simp only [Act.put, List.setIfInBounds_toArray, List.set_cons_zero, List.set_cons_succ]
  refine wpAnyH_take (i := 9) (oi := ⟨some 35, _, _, _, _, _⟩) (v := .int .i64 (i : Int)) rfl (by kernel_rfl) (by kernel_rfl) (by kernel_rfl) (fun x a w h => HQP.out x _ a w (put_defers a _ _) h) (.inl ⟨by kernel_rfl, fun V hS => by go_simp⟩) hS1 ?_
  simp only [Act.put, List.setIfInBounds_toArray, List.set_cons_zero, List.set_cons_succ]
  refine wpAnyH_take (i := 10) (oi := ⟨some 36, _, _, _, _, _⟩) (v := .int .i64 ((i : Int) + 1)) rfl (by kernel_rfl) (by kernel_rfl) (by kernel_rfl) (fun x a w h => HQP.out x _ a w (put_defers a _ _) h) (.inl ⟨by kernel_rfl, fun V hS => by go_simp⟩) hS1 ?_
  simp only [Act.put, List.setIfInBounds_toArray, List.set_cons_zero, List.set_cons_succ]
  refine wpAnyH_take (i := 11) (oi := ⟨some 37, _, _, _, _, _⟩) (v := .slice A9 (n - (i + 1)) (c - (i + 1))) rfl (by kernel_rfl) (by kernel_rfl) (by kernel_rfl) (fun x a w h => HQP.out x _ a w (put_defers a _ _) h) (.inl ⟨by kernel_rfl, fun V hS => by rcases HCS.out with ⟨e1, e2⟩ | ⟨e1, e2⟩ <;> (rw [e2]; go_simp)⟩) hS1 ?_
  simp only [Act.put, List.setIfInBounds_toArray, List.set_cons_zero, List.set_cons_succ]
  refine wpAnyH_ready (rs := [0, 6]) (by kernel_rfl) (by simp) ?_
  refine AllReadyH.cons rfl (fun K' hK => ?_) (AllReadyH.cons rfl (fun K' hK => ?_) AllReadyH.nil)
  · go_simp
    have HO := Lib.hid (emptyFiles W0 B w2.heap.size hS1.size)
    refine hK.out _ _ (hS1.alloc hS1.size _) (fun hS2 => ?_)
    clear hK K' hS1
    generalize W0.alloc (.cells #[] 55) = W1 at HO hS2 ⊢
    refine wpAnyH_ready (rs := [4, 6]) (by kernel_rfl) (by simp) ?_
    refine AllReadyH.cons rfl (fun K' hK => ?_) (AllReadyH.cons rfl (fun K' hK => ?_) AllReadyH.nil)
    · refine step_app_files W1 rfl (some 30) rfl _ _ rfl B w2.heap.size HBB.out (.slice (some ⟨W0.heap.size, 0, none⟩) 0 0) ([]) rfl HO.out A i c (fs.take (i)) rfl (HL2.out _ hS2) HTL.out (HVT.out _ hS2) HLE0.out hS2.size ?_
      intro v2 W2 ho hg
      have hs := hS2.grown hg hS2.size (fun k e => HO.out.ge k e)
      refine hK.out _ _ hs (fun hS3 => ?_)
      clear hK K' hs hS2
      have HO := Lib.hid ho
      clear ho hg
      simp only [Act.put, List.setIfInBounds_toArray, List.set_cons_zero, List.set_cons_succ]
      refine wpAnyH_ready (rs := [6]) (by kernel_rfl) (by simp) ?_
      refine AllReadyH.cons rfl (fun K' hK => ?_) AllReadyH.nil
      go_simp
      have HF : Hid (Blk (W2.alloc (.cells #[.string s, .slice A2 nb c2] 55)) W2.heap.size 55 #[.string s, .slice A2 nb c2]) := Lib.hid (Blk.new _ _ _)
      have HO := Lib.hid (HO.out.below ((Below.refl W2.heap.size W2).alloc (Nat.le_refl _) (.cells #[.string s, .slice A2 nb c2] 55)))
      refine hK.out _ _ (hS3.alloc hS3.size _) (fun hS4 => ?_)
      clear hK K' hS3
      generalize W2.alloc (.cells #[.string s, .slice A2 nb c2] 55) = W3 at HF HO hS4 ⊢
      refine wpAnyH_ready (rs := [7]) (by kernel_rfl) (by simp) ?_
      refine AllReadyH.cons rfl (fun K' hK => ?_) AllReadyH.nil
      refine step_app_files W3 rfl (some 33) rfl _ _ rfl B w2.heap.size HBB.out (v2) ([] ++ fs.take (i)) rfl HO.out (some ⟨W2.heap.size, 0, none⟩) 1 1 ([⟨s, A2, c2, bl⟩]) rfl (Fls.one (by rw [HCF.out]; exact HF.out) (HFV.out _ hS4)) rfl (HF1.out _ hS4) HLE1.out hS4.size ?_
      intro v4 W4 ho hg
      have hs := hS4.grown hg hS4.size (fun k e => HO.out.ge k e)
      refine hK.out _ _ hs (fun hS5 => ?_)
      clear hK K' hs hS4
      have HO := Lib.hid ho
      clear ho hg
      simp only [Act.put, List.setIfInBounds_toArray, List.set_cons_zero, List.set_cons_succ]
      refine wpAnyH_ready (rs := [12]) (by kernel_rfl) (by simp) ?_
      refine AllReadyH.cons rfl (fun K' hK => ?_) AllReadyH.nil
      refine step_app_files W4 rfl (some 38) rfl _ _ rfl B w2.heap.size HBB.out (v4) (([] ++ fs.take (i)) ++ [⟨s, A2, c2, bl⟩]) rfl HO.out A9 (n - (i + 1)) (c - (i + 1)) (fs.drop ((i + 1))) rfl (HL3.out _ hS5) HDL.out (HVD.out _ hS5) HLE2.out hS5.size ?_
      intro v5 W5 ho hg
      have hs := hS5.grown hg hS5.size (fun k e => HO.out.ge k e)
      refine hK.out _ _ hs (fun hS6 => ?_)
      clear hK K' hs hS5
      have HO := Lib.hid ho
      clear ho hg
      simp only [Act.put, List.setIfInBounds_toArray, List.set_cons_zero, List.set_cons_succ]
      refine wpAnyH_take (i := 13) (oi := ⟨some 6, _, _, _, _, _⟩) (v := v5) rfl (by kernel_rfl) (by kernel_rfl) (by kernel_rfl) (fun x a w h => HQP.out x _ a w (put_defers a _ _) h) (.inl ⟨by kernel_rfl, fun V hS => by go_simp⟩) hS6 ?_
      simp only [Act.put, List.setIfInBounds_toArray, List.set_cons_zero, List.set_cons_succ]
      refine wpAnyH_done (by kernel_rfl) ?_ _
      have HR := Lib.hid (HEND.out _ _ HO.out hS6)
      clear hS6
      go_wp2
      refine HRET.out _ _ ?_
      go_ret
      exact HR.out
    · go_simp
      have HF : Hid (Blk (W1.alloc (.cells #[.string s, .slice A2 nb c2] 55)) W1.heap.size 55 #[.string s, .slice A2 nb c2]) := Lib.hid (Blk.new _ _ _)
      have HNE : Hid (¬ W1.heap.size = W0.heap.size) := Lib.hid (Nat.ne_of_gt (HO.out.lt _ rfl))
      have HO := Lib.hid (HO.out.below ((Below.refl W1.heap.size W1).alloc (Nat.le_refl _) (.cells #[.string s, .slice A2 nb c2] 55)))
      refine hK.out _ _ (hS2.alloc hS2.size _) (fun hS3 => ?_)
      clear hK K' hS2
      generalize W1.alloc (.cells #[.string s, .slice A2 nb c2] 55) = W2 at HF HO hS3 ⊢
      refine wpAnyH_ready (rs := [4]) (by kernel_rfl) (by simp) ?_
      refine AllReadyH.cons rfl (fun K' hK => ?_) AllReadyH.nil
      refine step_app_files W2 rfl (some 30) rfl _ _ rfl B w2.heap.size HBB.out (.slice (some ⟨W0.heap.size, 0, none⟩) 0 0) ([]) rfl HO.out A i c (fs.take (i)) rfl (HL2.out _ hS3) HTL.out (HVT.out _ hS3) HLE0.out hS3.size ?_
      intro v3 W3 ho hg
      have hs := hS3.grown hg hS3.size (fun k e => HO.out.ge k e)
      have HF := Lib.hid (HF.out.grown hg (fun e => HNE.out (by injection e)))
      refine hK.out _ _ hs (fun hS4 => ?_)
      clear hK K' hs hS3
      have HO := Lib.hid ho
      clear ho hg
      simp only [Act.put, List.setIfInBounds_toArray, List.set_cons_zero, List.set_cons_succ]
      refine wpAnyH_ready (rs := [7]) (by kernel_rfl) (by simp) ?_
      refine AllReadyH.cons rfl (fun K' hK => ?_) AllReadyH.nil
      refine step_app_files W3 rfl (some 33) rfl _ _ rfl B w2.heap.size HBB.out (v3) ([] ++ fs.take (i)) rfl HO.out (some ⟨W1.heap.size, 0, none⟩) 1 1 ([⟨s, A2, c2, bl⟩]) rfl (Fls.one (by rw [HCF.out]; exact HF.out) (HFV.out _ hS4)) rfl (HF1.out _ hS4) HLE1.out hS4.size ?_
      intro v4 W4 ho hg
      have hs := hS4.grown hg hS4.size (fun k e => HO.out.ge k e)
      refine hK.out _ _ hs (fun hS5 => ?_)
      clear hK K' hs hS4
      have HO := Lib.hid ho
      clear ho hg
      simp only [Act.put, List.setIfInBounds_toArray, List.set_cons_zero, List.set_cons_succ]
      refine wpAnyH_ready (rs := [12]) (by kernel_rfl) (by simp) ?_
      refine AllReadyH.cons rfl (fun K' hK => ?_) AllReadyH.nil
      refine step_app_files W4 rfl (some 38) rfl _ _ rfl B w2.heap.size HBB.out (v4) (([] ++ fs.take (i)) ++ [⟨s, A2, c2, bl⟩]) rfl HO.out A9 (n - (i + 1)) (c - (i + 1)) (fs.drop ((i + 1))) rfl (HL3.out _ hS5) HDL.out (HVD.out _ hS5) HLE2.out hS5.size ?_
      intro v5 W5 ho hg
      have hs := hS5.grown hg hS5.size (fun k e => HO.out.ge k e)
      refine hK.out _ _ hs (fun hS6 => ?_)
      clear hK K' hs hS5
      have HO := Lib.hid ho
      clear ho hg
      simp only [Act.put, List.setIfInBounds_toArray, List.set_cons_zero, List.set_cons_succ]
      refine wpAnyH_take (i := 13) (oi := ⟨some 6, _, _, _, _, _⟩) (v := v5) rfl (by kernel_rfl) (by kernel_rfl) (by kernel_rfl) (fun x a w h => HQP.out x _ a w (put_defers a _ _) h) (.inl ⟨by kernel_rfl, fun V hS => by go_simp⟩) hS6 ?_
      simp only [Act.put, List.setIfInBounds_toArray, List.set_cons_zero, List.set_cons_succ]
      refine wpAnyH_done (by kernel_rfl) ?_ _
      have HR := Lib.hid (HEND.out _ _ HO.out hS6)
      clear hS6
      go_wp2
      refine HRET.out _ _ ?_
      go_ret
      exact HR.out
  · go_simp
    have HF : Hid (Blk (W0.alloc (.cells #[.string s, .slice A2 nb c2] 55)) W0.heap.size 55 #[.string s, .slice A2 nb c2]) := Lib.hid (Blk.new _ _ _)
    refine hK.out _ _ (hS1.alloc hS1.size _) (fun hS2 => ?_)
    clear hK K' hS1
    generalize W0.alloc (.cells #[.string s, .slice A2 nb c2] 55) = W1 at HF hS2 ⊢
    refine wpAnyH_ready (rs := [0]) (by kernel_rfl) (by simp) ?_
    refine AllReadyH.cons rfl (fun K' hK => ?_) AllReadyH.nil
    go_simp
    have HO := Lib.hid (emptyFiles W1 B w2.heap.size hS2.size)
    have HNE : Hid (¬ W0.heap.size = W1.heap.size) := Lib.hid (Nat.ne_of_lt HF.out.lt)
    have HF := Lib.hid (HF.out.below ((Below.refl W1.heap.size W1).alloc (Nat.le_refl _) (.cells #[] 55)) HF.out.lt)
    refine hK.out _ _ (hS2.alloc hS2.size _) (fun hS3 => ?_)
    clear hK K' hS2
    generalize W1.alloc (.cells #[] 55) = W2 at HO HF hS3 ⊢
    refine wpAnyH_ready (rs := [4]) (by kernel_rfl) (by simp) ?_
    refine AllReadyH.cons rfl (fun K' hK => ?_) AllReadyH.nil
    refine step_app_files W2 rfl (some 30) rfl _ _ rfl B w2.heap.size HBB.out (.slice (some ⟨W1.heap.size, 0, none⟩) 0 0) ([]) rfl HO.out A i c (fs.take (i)) rfl (HL2.out _ hS3) HTL.out (HVT.out _ hS3) HLE0.out hS3.size ?_
    intro v3 W3 ho hg
    have hs := hS3.grown hg hS3.size (fun k e => HO.out.ge k e)
    have HF := Lib.hid (HF.out.grown hg (fun e => HNE.out (by injection e)))
    refine hK.out _ _ hs (fun hS4 => ?_)
    clear hK K' hs hS3
    have HO := Lib.hid ho
    clear ho hg
    simp only [Act.put, List.setIfInBounds_toArray, List.set_cons_zero, List.set_cons_succ]
    refine wpAnyH_ready (rs := [7]) (by kernel_rfl) (by simp) ?_
    refine AllReadyH.cons rfl (fun K' hK => ?_) AllReadyH.nil
    refine step_app_files W3 rfl (some 33) rfl _ _ rfl B w2.heap.size HBB.out (v3) ([] ++ fs.take (i)) rfl HO.out (some ⟨W0.heap.size, 0, none⟩) 1 1 ([⟨s, A2, c2, bl⟩]) rfl (Fls.one (by rw [HCF.out]; exact HF.out) (HFV.out _ hS4)) rfl (HF1.out _ hS4) HLE1.out hS4.size ?_
    intro v4 W4 ho hg
    have hs := hS4.grown hg hS4.size (fun k e => HO.out.ge k e)
    refine hK.out _ _ hs (fun hS5 => ?_)
    clear hK K' hs hS4
    have HO := Lib.hid ho
    clear ho hg
    simp only [Act.put, List.setIfInBounds_toArray, List.set_cons_zero, List.set_cons_succ]
    refine wpAnyH_ready (rs := [12]) (by kernel_rfl) (by simp) ?_
    refine AllReadyH.cons rfl (fun K' hK => ?_) AllReadyH.nil
    refine step_app_files W4 rfl (some 38) rfl _ _ rfl B w2.heap.size HBB.out (v4) (([] ++ fs.take (i)) ++ [⟨s, A2, c2, bl⟩]) rfl HO.out A9 (n - (i + 1)) (c - (i + 1)) (fs.drop ((i + 1))) rfl (HL3.out _ hS5) HDL.out (HVD.out _ hS5) HLE2.out hS5.size ?_
    intro v5 W5 ho hg
    have hs := hS5.grown hg hS5.size (fun k e => HO.out.ge k e)
    refine hK.out _ _ hs (fun hS6 => ?_)
    clear hK K' hs hS5
    have HO := Lib.hid ho
    clear ho hg
    simp only [Act.put, List.setIfInBounds_toArray, List.set_cons_zero, List.set_cons_succ]
    refine wpAnyH_take (i := 13) (oi := ⟨some 6, _, _, _, _, _⟩) (v := v5) rfl (by kernel_rfl) (by kernel_rfl) (by kernel_rfl) (fun x a w h => HQP.out x _ a w (put_defers a _ _) h) (.inl ⟨by kernel_rfl, fun V hS => by go_simp⟩) hS6 ?_
    simp only [Act.put, List.setIfInBounds_toArray, List.set_cons_zero, List.set_cons_succ]
    refine wpAnyH_done (by kernel_rfl) ?_ _
    have HR := Lib.hid (HEND.out _ _ HO.out hS6)
    clear hS6
    go_wp2
    refine HRET.out _ _ ?_
    go_ret
    exact HR.out
set_option maxRecDepth 100000 in
set_option maxHeartbeats 16000000 in
theorem rput_ten (B : Nat) (A : Option Addr) (n c : Nat) (fs : List FV) (s : ByteArray) (A2 : Option Addr) (nb c2 : Nat) (bl : List UInt8) (i q : Nat) (u : Nat → Value) (w2 : World) (P : Ending → World → Prop) (Q : Exit → Act → World → Prop) (hQP : ∀ (c : List PanicEntry) (a a' : Act) (w : World), a.defers = a'.defers → Q (.panic c) a w → Q (.panic c) a' w) (hret : ∀ a w, bodyPost Tryz.prog Tryz.f32 (PF P) .ret a w → Q .ret a w) (hu0 : u 0 = .slice A n c) (hu7 : u 7 = .pointer (some ⟨q, 0, none⟩)) (hu9 : u 9 = .int .i64 (i : Int)) (hl : Fls w2 A fs) (hn : fs.length = n) (hbig : n ≤ 1000000000000) (hnc : n ≤ c) (hc : c ≤ maxLen) (hv : ∀ f ∈ fs, FVs w2 B f) (hB : B ≤ w2.heap.size) (hq : Blk w2 q 55 #[.string s, .slice A2 nb c2]) (hnb : bl.length = nb) (hf : FVs w2 B ⟨s, A2, c2, bl⟩) (hi : i ≤ n)
    (hend : ∀ v' w', OFs B w' w2.heap.size v' ((([] ++ fs.take i) ++ [⟨s, A2, c2, bl⟩]) ++ fs.drop i) → Below w2.heap.size w2 w' → PF P (.returned v') w') :
    Code.wp Tryz.prog (partG [1, 1, 1, 1, 1] rputC) Q (rAct u) w2 := by
  have HL2 := Lib.hid (fun V (hV : Below w2.heap.size w2 V) => (hl.below hV).take i)
  have HTL : Hid ((fs.take i).length = i) := Lib.hid (by rw [List.length_take, hn]; omega)
  have HVT := Lib.hid (fun V (hV : Below w2.heap.size w2 V) => fun f (hf : f ∈ fs.take i) => (hv f (List.mem_of_mem_take hf)).below hV)
  have HLE0 : Hid (([] : List FV).length + i ≤ 3000000000000) := Lib.hid (by simp; omega)
  have HLE1 : Hid (([] ++ fs.take i).length + 1 ≤ 3000000000000) := Lib.hid (by simp; omega)
  have HLE2 : Hid ((([] ++ fs.take i) ++ [(⟨s, A2, c2, bl⟩ : FV)]).length + (n - i) ≤ 3000000000000) := Lib.hid (by simp; omega)
  obtain ⟨A9, HCS, hl9⟩ : ∃ A9, Hid ((c = i ∧ A9 = A) ∨ (¬ c = i ∧ A9 = A.map fun x => x.add (i * 2))) ∧ Fls w2 A9 (fs.drop i) := by
    by_cases h : c = i
    · refine ⟨A, Lib.hid (.inl ⟨h, rfl⟩), ?_⟩
      rw [List.drop_of_length_le (by omega)]
      exact Fls.nil _ _
    · exact ⟨_, Lib.hid (.inr ⟨h, rfl⟩), hl.drop i⟩
  have HL3 := Lib.hid (fun V (hV : Below w2.heap.size w2 V) => hl9.below hV)
  have HDL : Hid ((fs.drop i).length = n - i) := Lib.hid (by rw [List.length_drop, hn])
  have HVD := Lib.hid (fun V (hV : Below w2.heap.size w2 V) => fun f (hf : f ∈ fs.drop i) => (hv f (List.mem_of_mem_drop hf)).below hV)
  have HFV := Lib.hid (fun V (hV : Below w2.heap.size w2 V) => hf.below hV)
  have HF1 : Hid (∀ V, Below w2.heap.size w2 V → ∀ f ∈ [(⟨s, A2, c2, bl⟩ : FV)], FVs V B f) := Lib.hid (fun V hV f h => by rw [List.mem_singleton] at h; subst h; exact hf.below hV)
  have HQ2 : Hid (∀ V, Below w2.heap.size w2 V → V.cell? ⟨q, 0, none⟩ = some (.string s) ∧ V.cell? ⟨q, 1, none⟩ = some (.slice A2 nb c2)) := Lib.hid (fun V hV => ⟨(hq.below hV hq.lt).cell 0, (hq.below hV hq.lt).cell 1⟩)
  have HBB := Lib.hid hB
  have HCF : Hid ((FV.cells ⟨s, A2, c2, bl⟩).toArray = #[.string s, .slice A2 nb c2]) := Lib.hid (by simp only [FV.cells, hnb])
  have HEND := Lib.hid hend
  have HQP := Lib.hid hQP
  have HRET := Lib.hid hret
  have hii : (i : Int) ≤ (n : Int) := by omega
  have hi0 : (0 : Int) ≤ (i : Int) := by omega
  have hin : i ≤ n := by omega
  have hic : i ≤ c := by omega
  unfold maxLen at hc
  clear hl hn hv hB hq hnb hf hend hl9 hQP hret
  conv => arg 2; whnf
  unfold rAct
  rw [hu0, hu7, hu9]
  clear hu0 hu7 hu9
  go_wp2_with fail
  refine wp_region_held_drew (S := fun V => Below w2.heap.size w2 V) (by kernel_rfl) ((Below.refl _ _).drew) (fun hS1 => ?_)
  generalize w2.drew = W0 at hS1 ⊢
  refine wpAnyH_take (i := 1) (oi := ⟨some 55, _, _, _, _, _⟩) (v := .slice A n c) rfl (by kernel_rfl) (by kernel_rfl) (by kernel_rfl) (fun x a w h => HQP.out x _ a w (put_defers a _ _) h) (.inl ⟨by kernel_rfl, fun V hS => by go_simp⟩) hS1 ?_
  simp only [Act.put, List.setIfInBounds_toArray, List.set_cons_zero, List.set_cons_succ]
  refine wpAnyH_take (i := 2) (oi := ⟨some 56, _, _, _, _, _⟩) (v := .int .i64 (i : Int)) rfl (by kernel_rfl) (by kernel_rfl) (by kernel_rfl) (fun x a w h => HQP.out x _ a w (put_defers a _ _) h) (.inl ⟨by kernel_rfl, fun V hS => by go_simp⟩) hS1 ?_
  simp only [Act.put, List.setIfInBounds_toArray, List.set_cons_zero, List.set_cons_succ]
  refine wpAnyH_take (i := 3) (oi := ⟨some 57, _, _, _, _, _⟩) (v := .slice A i c) rfl (by kernel_rfl) (by kernel_rfl) (by kernel_rfl) (fun x a w h => HQP.out x _ a w (put_defers a _ _) h) (.inl ⟨by kernel_rfl, fun V hS => by go_simp⟩) hS1 ?_
  simp only [Act.put, List.setIfInBounds_toArray, List.set_cons_zero, List.set_cons_succ]
  refine wpAnyH_take (i := 5) (oi := ⟨some 59, _, _, _, _, _⟩) (v := .agg #[.string s, .slice A2 nb c2]) rfl (by kernel_rfl) (by kernel_rfl) (by kernel_rfl) (fun x a w h => HQP.out x _ a w (put_defers a _ _) h) (.inl ⟨by kernel_rfl, fun V hS => by obtain ⟨h0, h1⟩ := HQ2.out V hS; go_simp⟩) hS1 ?_
  simp only [Act.put, List.setIfInBounds_toArray, List.set_cons_zero, List.set_cons_succ]
  refine wpAnyH_take (i := 8) (oi := ⟨some 62, _, _, _, _, _⟩) (v := .slice A n c) rfl (by kernel_rfl) (by kernel_rfl) (by kernel_rfl) (fun x a w h => HQP.out x _ a w (put_defers a _ _) h) (.inl ⟨by kernel_rfl, fun V hS => by go_simp⟩) hS1 ?_
  simp only [Act.put, List.setIfInBounds_toArray, List.set_cons_zero, List.set_cons_succ]
  refine wpAnyH_take (i := 9) (oi := ⟨some 63, _, _, _, _, _⟩) (v := .int .i64 (i : Int)) rfl (by kernel_rfl) (by kernel_rfl) (by kernel_rfl) (fun x a w h => HQP.out x _ a w (put_defers a _ _) h) (.inl ⟨by kernel_rfl, fun V hS => by go_simp⟩) hS1 ?_
  simp only [Act.put, List.setIfInBounds_toArray, List.set_cons_zero, List.set_cons_succ]
  refine wpAnyH_take (i := 10) (oi := ⟨some 64, _, _, _, _, _⟩) (v := .slice A9 (n - i) (c - i)) rfl (by kernel_rfl) (by kernel_rfl) (by kernel_rfl) (fun x a w h => HQP.out x _ a w (put_defers a _ _) h) (.inl ⟨by kernel_rfl, fun V hS => by rcases HCS.out with ⟨e1, e2⟩ | ⟨e1, e2⟩ <;> (rw [e2]; go_simp)⟩) hS1 ?_
  simp only [Act.put, List.setIfInBounds_toArray, List.set_cons_zero, List.set_cons_succ]
  refine wpAnyH_ready (rs := [0, 6]) (by kernel_rfl) (by simp) ?_
  refine AllReadyH.cons rfl (fun K' hK => ?_) (AllReadyH.cons rfl (fun K' hK => ?_) AllReadyH.nil)
  · go_simp
    have HO := Lib.hid (emptyFiles W0 B w2.heap.size hS1.size)
    refine hK.out _ _ (hS1.alloc hS1.size _) (fun hS2 => ?_)
    clear hK K' hS1
    generalize W0.alloc (.cells #[] 55) = W1 at HO hS2 ⊢
    refine wpAnyH_ready (rs := [4, 6]) (by kernel_rfl) (by simp) ?_
    refine AllReadyH.cons rfl (fun K' hK => ?_) (AllReadyH.cons rfl (fun K' hK => ?_) AllReadyH.nil)
    · refine step_app_files W1 rfl (some 58) rfl _ _ rfl B w2.heap.size HBB.out (.slice (some ⟨W0.heap.size, 0, none⟩) 0 0) ([]) rfl HO.out A i c (fs.take (i)) rfl (HL2.out _ hS2) HTL.out (HVT.out _ hS2) HLE0.out hS2.size ?_
      intro v2 W2 ho hg
      have hs := hS2.grown hg hS2.size (fun k e => HO.out.ge k e)
      refine hK.out _ _ hs (fun hS3 => ?_)
      clear hK K' hs hS2
      have HO := Lib.hid ho
      clear ho hg
      simp only [Act.put, List.setIfInBounds_toArray, List.set_cons_zero, List.set_cons_succ]
      refine wpAnyH_ready (rs := [6]) (by kernel_rfl) (by simp) ?_
      refine AllReadyH.cons rfl (fun K' hK => ?_) AllReadyH.nil
      go_simp
      have HF : Hid (Blk (W2.alloc (.cells #[.string s, .slice A2 nb c2] 55)) W2.heap.size 55 #[.string s, .slice A2 nb c2]) := Lib.hid (Blk.new _ _ _)
      have HO := Lib.hid (HO.out.below ((Below.refl W2.heap.size W2).alloc (Nat.le_refl _) (.cells #[.string s, .slice A2 nb c2] 55)))
      refine hK.out _ _ (hS3.alloc hS3.size _) (fun hS4 => ?_)
      clear hK K' hS3
      generalize W2.alloc (.cells #[.string s, .slice A2 nb c2] 55) = W3 at HF HO hS4 ⊢
      refine wpAnyH_ready (rs := [7]) (by kernel_rfl) (by simp) ?_
      refine AllReadyH.cons rfl (fun K' hK => ?_) AllReadyH.nil
      refine step_app_files W3 rfl (some 61) rfl _ _ rfl B w2.heap.size HBB.out (v2) ([] ++ fs.take (i)) rfl HO.out (some ⟨W2.heap.size, 0, none⟩) 1 1 ([⟨s, A2, c2, bl⟩]) rfl (Fls.one (by rw [HCF.out]; exact HF.out) (HFV.out _ hS4)) rfl (HF1.out _ hS4) HLE1.out hS4.size ?_
      intro v4 W4 ho hg
      have hs := hS4.grown hg hS4.size (fun k e => HO.out.ge k e)
      refine hK.out _ _ hs (fun hS5 => ?_)
      clear hK K' hs hS4
      have HO := Lib.hid ho
      clear ho hg
      simp only [Act.put, List.setIfInBounds_toArray, List.set_cons_zero, List.set_cons_succ]
      refine wpAnyH_ready (rs := [11]) (by kernel_rfl) (by simp) ?_
      refine AllReadyH.cons rfl (fun K' hK => ?_) AllReadyH.nil
      refine step_app_files W4 rfl (some 65) rfl _ _ rfl B w2.heap.size HBB.out (v4) (([] ++ fs.take (i)) ++ [⟨s, A2, c2, bl⟩]) rfl HO.out A9 (n - i) (c - i) (fs.drop (i)) rfl (HL3.out _ hS5) HDL.out (HVD.out _ hS5) HLE2.out hS5.size ?_
      intro v5 W5 ho hg
      have hs := hS5.grown hg hS5.size (fun k e => HO.out.ge k e)
      refine hK.out _ _ hs (fun hS6 => ?_)
      clear hK K' hs hS5
      have HO := Lib.hid ho
      clear ho hg
      simp only [Act.put, List.setIfInBounds_toArray, List.set_cons_zero, List.set_cons_succ]
      refine wpAnyH_take (i := 12) (oi := ⟨some 6, _, _, _, _, _⟩) (v := v5) rfl (by kernel_rfl) (by kernel_rfl) (by kernel_rfl) (fun x a w h => HQP.out x _ a w (put_defers a _ _) h) (.inl ⟨by kernel_rfl, fun V hS => by go_simp⟩) hS6 ?_
      simp only [Act.put, List.setIfInBounds_toArray, List.set_cons_zero, List.set_cons_succ]
      refine wpAnyH_done (by kernel_rfl) ?_ _
      have HR := Lib.hid (HEND.out _ _ HO.out hS6)
      clear hS6
      go_wp2
      refine HRET.out _ _ ?_
      go_ret
      exact HR.out
    · go_simp
      have HF : Hid (Blk (W1.alloc (.cells #[.string s, .slice A2 nb c2] 55)) W1.heap.size 55 #[.string s, .slice A2 nb c2]) := Lib.hid (Blk.new _ _ _)
      have HNE : Hid (¬ W1.heap.size = W0.heap.size) := Lib.hid (Nat.ne_of_gt (HO.out.lt _ rfl))
      have HO := Lib.hid (HO.out.below ((Below.refl W1.heap.size W1).alloc (Nat.le_refl _) (.cells #[.string s, .slice A2 nb c2] 55)))
      refine hK.out _ _ (hS2.alloc hS2.size _) (fun hS3 => ?_)
      clear hK K' hS2
      generalize W1.alloc (.cells #[.string s, .slice A2 nb c2] 55) = W2 at HF HO hS3 ⊢
      refine wpAnyH_ready (rs := [4]) (by kernel_rfl) (by simp) ?_
      refine AllReadyH.cons rfl (fun K' hK => ?_) AllReadyH.nil
      refine step_app_files W2 rfl (some 58) rfl _ _ rfl B w2.heap.size HBB.out (.slice (some ⟨W0.heap.size, 0, none⟩) 0 0) ([]) rfl HO.out A i c (fs.take (i)) rfl (HL2.out _ hS3) HTL.out (HVT.out _ hS3) HLE0.out hS3.size ?_
      intro v3 W3 ho hg
      have hs := hS3.grown hg hS3.size (fun k e => HO.out.ge k e)
      have HF := Lib.hid (HF.out.grown hg (fun e => HNE.out (by injection e)))
      refine hK.out _ _ hs (fun hS4 => ?_)
      clear hK K' hs hS3
      have HO := Lib.hid ho
      clear ho hg
      simp only [Act.put, List.setIfInBounds_toArray, List.set_cons_zero, List.set_cons_succ]
      refine wpAnyH_ready (rs := [7]) (by kernel_rfl) (by simp) ?_
      refine AllReadyH.cons rfl (fun K' hK => ?_) AllReadyH.nil
      refine step_app_files W3 rfl (some 61) rfl _ _ rfl B w2.heap.size HBB.out (v3) ([] ++ fs.take (i)) rfl HO.out (some ⟨W1.heap.size, 0, none⟩) 1 1 ([⟨s, A2, c2, bl⟩]) rfl (Fls.one (by rw [HCF.out]; exact HF.out) (HFV.out _ hS4)) rfl (HF1.out _ hS4) HLE1.out hS4.size ?_
      intro v4 W4 ho hg
      have hs := hS4.grown hg hS4.size (fun k e => HO.out.ge k e)
      refine hK.out _ _ hs (fun hS5 => ?_)
      clear hK K' hs hS4
      have HO := Lib.hid ho
      clear ho hg
      simp only [Act.put, List.setIfInBounds_toArray, List.set_cons_zero, List.set_cons_succ]
      refine wpAnyH_ready (rs := [11]) (by kernel_rfl) (by simp) ?_
      refine AllReadyH.cons rfl (fun K' hK => ?_) AllReadyH.nil
      refine step_app_files W4 rfl (some 65) rfl _ _ rfl B w2.heap.size HBB.out (v4) (([] ++ fs.take (i)) ++ [⟨s, A2, c2, bl⟩]) rfl HO.out A9 (n - i) (c - i) (fs.drop (i)) rfl (HL3.out _ hS5) HDL.out (HVD.out _ hS5) HLE2.out hS5.size ?_
      intro v5 W5 ho hg
      have hs := hS5.grown hg hS5.size (fun k e => HO.out.ge k e)
      refine hK.out _ _ hs (fun hS6 => ?_)
      clear hK K' hs hS5
      have HO := Lib.hid ho
      clear ho hg
      simp only [Act.put, List.setIfInBounds_toArray, List.set_cons_zero, List.set_cons_succ]
      refine wpAnyH_take (i := 12) (oi := ⟨some 6, _, _, _, _, _⟩) (v := v5) rfl (by kernel_rfl) (by kernel_rfl) (by kernel_rfl) (fun x a w h => HQP.out x _ a w (put_defers a _ _) h) (.inl ⟨by kernel_rfl, fun V hS => by go_simp⟩) hS6 ?_
      simp only [Act.put, List.setIfInBounds_toArray, List.set_cons_zero, List.set_cons_succ]
      refine wpAnyH_done (by kernel_rfl) ?_ _
      have HR := Lib.hid (HEND.out _ _ HO.out hS6)
      clear hS6
      go_wp2
      refine HRET.out _ _ ?_
      go_ret
      exact HR.out
  · go_simp
    have HF : Hid (Blk (W0.alloc (.cells #[.string s, .slice A2 nb c2] 55)) W0.heap.size 55 #[.string s, .slice A2 nb c2]) := Lib.hid (Blk.new _ _ _)
    refine hK.out _ _ (hS1.alloc hS1.size _) (fun hS2 => ?_)
    clear hK K' hS1
    generalize W0.alloc (.cells #[.string s, .slice A2 nb c2] 55) = W1 at HF hS2 ⊢
    refine wpAnyH_ready (rs := [0]) (by kernel_rfl) (by simp) ?_
    refine AllReadyH.cons rfl (fun K' hK => ?_) AllReadyH.nil
    go_simp
    have HO := Lib.hid (emptyFiles W1 B w2.heap.size hS2.size)
    have HNE : Hid (¬ W0.heap.size = W1.heap.size) := Lib.hid (Nat.ne_of_lt HF.out.lt)
    have HF := Lib.hid (HF.out.below ((Below.refl W1.heap.size W1).alloc (Nat.le_refl _) (.cells #[] 55)) HF.out.lt)
    refine hK.out _ _ (hS2.alloc hS2.size _) (fun hS3 => ?_)
    clear hK K' hS2
    generalize W1.alloc (.cells #[] 55) = W2 at HO HF hS3 ⊢
    refine wpAnyH_ready (rs := [4]) (by kernel_rfl) (by simp) ?_
    refine AllReadyH.cons rfl (fun K' hK => ?_) AllReadyH.nil
    refine step_app_files W2 rfl (some 58) rfl _ _ rfl B w2.heap.size HBB.out (.slice (some ⟨W1.heap.size, 0, none⟩) 0 0) ([]) rfl HO.out A i c (fs.take (i)) rfl (HL2.out _ hS3) HTL.out (HVT.out _ hS3) HLE0.out hS3.size ?_
    intro v3 W3 ho hg
    have hs := hS3.grown hg hS3.size (fun k e => HO.out.ge k e)
    have HF := Lib.hid (HF.out.grown hg (fun e => HNE.out (by injection e)))
    refine hK.out _ _ hs (fun hS4 => ?_)
    clear hK K' hs hS3
    have HO := Lib.hid ho
    clear ho hg
    simp only [Act.put, List.setIfInBounds_toArray, List.set_cons_zero, List.set_cons_succ]
    refine wpAnyH_ready (rs := [7]) (by kernel_rfl) (by simp) ?_
    refine AllReadyH.cons rfl (fun K' hK => ?_) AllReadyH.nil
    refine step_app_files W3 rfl (some 61) rfl _ _ rfl B w2.heap.size HBB.out (v3) ([] ++ fs.take (i)) rfl HO.out (some ⟨W0.heap.size, 0, none⟩) 1 1 ([⟨s, A2, c2, bl⟩]) rfl (Fls.one (by rw [HCF.out]; exact HF.out) (HFV.out _ hS4)) rfl (HF1.out _ hS4) HLE1.out hS4.size ?_
    intro v4 W4 ho hg
    have hs := hS4.grown hg hS4.size (fun k e => HO.out.ge k e)
    refine hK.out _ _ hs (fun hS5 => ?_)
    clear hK K' hs hS4
    have HO := Lib.hid ho
    clear ho hg
    simp only [Act.put, List.setIfInBounds_toArray, List.set_cons_zero, List.set_cons_succ]
    refine wpAnyH_ready (rs := [11]) (by kernel_rfl) (by simp) ?_
    refine AllReadyH.cons rfl (fun K' hK => ?_) AllReadyH.nil
    refine step_app_files W4 rfl (some 65) rfl _ _ rfl B w2.heap.size HBB.out (v4) (([] ++ fs.take (i)) ++ [⟨s, A2, c2, bl⟩]) rfl HO.out A9 (n - i) (c - i) (fs.drop (i)) rfl (HL3.out _ hS5) HDL.out (HVD.out _ hS5) HLE2.out hS5.size ?_
    intro v5 W5 ho hg
    have hs := hS5.grown hg hS5.size (fun k e => HO.out.ge k e)
    refine hK.out _ _ hs (fun hS6 => ?_)
    clear hK K' hs hS5
    have HO := Lib.hid ho
    clear ho hg
    simp only [Act.put, List.setIfInBounds_toArray, List.set_cons_zero, List.set_cons_succ]
    refine wpAnyH_take (i := 12) (oi := ⟨some 6, _, _, _, _, _⟩) (v := v5) rfl (by kernel_rfl) (by kernel_rfl) (by kernel_rfl) (fun x a w h => HQP.out x _ a w (put_defers a _ _) h) (.inl ⟨by kernel_rfl, fun V hS => by go_simp⟩) hS6 ?_
    simp only [Act.put, List.setIfInBounds_toArray, List.set_cons_zero, List.set_cons_succ]
    refine wpAnyH_done (by kernel_rfl) ?_ _
    have HR := Lib.hid (HEND.out _ _ HO.out hS6)
    clear hS6
    go_wp2
    refine HRET.out _ _ ?_
    go_ret
    exact HR.out
end Go.Proofs.YtgpcinfhcamgpaaGreatDoor
