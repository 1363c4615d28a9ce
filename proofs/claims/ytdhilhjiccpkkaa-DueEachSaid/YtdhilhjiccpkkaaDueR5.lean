/-
  The document's queue: the end of Set: the new list is laid.
-/
import Derived.Test.YtdhilhjiccpkkaaDueR3
import Derived.Test.YtdhilhjiccpkkaaLastOp
namespace Go.Proofs.Ytdhilhjiccpkkaa
open Go.RowKit
set_option linter.unusedVariables false
set_option linter.unusedSimpArgs false

def rightN : Nat → Code → Code
  | 0, c => c
  | n + 1, .seq _ b => rightN n b
  | _ + 1, c => c
noncomputable def tail22 : Code := rightN 6 (Try.f22.body.getD .skip)
theorem arr_eq (xs : Array Value) (n : Nat) (h : xs.size = n) : xs = ((List.range n).map fun k => xs.getD k undef).toArray := by
  apply Array.ext
  · simp [h]
  · intro j h1 h2
    simp [Array.getD, h1]
set_option maxRecDepth 100000 in
theorem act_lit (a : Act) (hs : a.tmps.size = 107) (hd : a.defers = []) : ∃ u : Nat → Value, (∀ k, a.tmps.getD k undef = u k) ∧ a = ⟨#[u 0, u 1, u 2, u 3, u 4, u 5, u 6, u 7, u 8, u 9, u 10, u 11, u 12, u 13, u 14, u 15, u 16, u 17, u 18, u 19, u 20, u 21, u 22, u 23, u 24, u 25, u 26, u 27, u 28, u 29, u 30, u 31, u 32, u 33, u 34, u 35, u 36, u 37, u 38, u 39, u 40, u 41, u 42, u 43, u 44, u 45, u 46, u 47, u 48, u 49, u 50, u 51, u 52, u 53, u 54, u 55, u 56, u 57, u 58, u 59, u 60, u 61, u 62, u 63, u 64, u 65, u 66, u 67, u 68, u 69, u 70, u 71, u 72, u 73, u 74, u 75, u 76, u 77, u 78, u 79, u 80, u 81, u 82, u 83, u 84, u 85, u 86, u 87, u 88, u 89, u 90, u 91, u 92, u 93, u 94, u 95, u 96, u 97, u 98, u 99, u 100, u 101, u 102, u 103, u 104, u 105, u 106], []⟩ := by
  refine ⟨fun k => a.tmps.getD k undef, fun k => rfl, ?_⟩
  obtain ⟨t, d⟩ := a
  simp only at hs hd
  subst hd
  have h := arr_eq t 107 hs
  rw [Act.mk.injEq]
  refine ⟨h.trans ?_, rfl⟩
  simp only [List.range, List.range.loop, List.map]
theorem lastQ_normal {P : Program} {ops : Array Oper} {Q : Exit → Act → World → Prop} {st : Nat} {a : Act} {w : World} (h : wpOp P ops Q st (fun a w => Q .normal a w) a w) : lastQ P ops Q st .normal a w := h
theorem XNew.empty {w w0 : World} {x : Nat} (hf : Fr (fun _ => False) w w0) : XNew w (w0.alloc (.cells #[] 44)) x (.slice (some ⟨w0.heap.size, 0, none⟩) 0 0) 0 [] :=
  ⟨own_empty _ _ _ (heap_alloc_new w0 _) hf.size, hf.alloc _⟩
theorem XNew.alloc {w w1 : World} {x n : Nat} {v : Value} {L : List Du} (h : XNew w w1 x v n L) (o : Obj) : XNew w (w1.alloc o) x v n L :=
  ⟨h.own.alloc o, h.fr.alloc o⟩
theorem RL.one (w : World) (s : ByteArray) (a : Int) : RL (w.alloc (.cells #[.string s, .int .i64 a] 44)) (some ⟨w.heap.size, 0, none⟩) [(s, a)] := by
  have hB := Blk.new w 44 #[.string s, .int .i64 a]
  refine .inr ⟨_, _, rfl, hB.lt, fun k hk => ?_⟩
  obtain rfl : k = 0 := by simp at hk; omega
  exact ⟨by rw [hB.cell]; rfl, by rw [hB.cell]; rfl⟩
theorem XNew.keep {w w1 w2 : World} {x n : Nat} {v : Value} {L M : List Du} {A : Option Addr} (h : XNew w w1 x v n L) (hr : RL w1 A M) (hA : ∀ ad, A = some ad → v.ownBlock ≠ some ad.block) (hg : w1.grownBy w2 v.ownBlock) : RL w2 A M :=
  hr.fr (Fr.of_grown (S := fun g => v.ownBlock = some g) hg (fun g e => e)) (fun ad e1 e2 => hA ad e1 e2)

set_option maxRecDepth 100000 in
set_option maxHeartbeats 8000000 in
theorem set_tail_none (act : Act) (x n k c : Nat) (A : Option Addr) (Y : List Du) (s : ByteArray) (a : Int) (w : World) (h : XAt w x A c Y) (hn : n = Y.length) (hk : k ≤ n) (hf : n ≤ 256) (hA : A = none) (hc : c = 0)
    (hsz : act.tmps.size = 107) (hdf : act.defers = []) (g0 : act.tmps.getD 0 undef = .pointer (some ⟨x, 0, none⟩)) (g1 : act.tmps.getD 1 undef = .string s) (g2 : act.tmps.getD 2 undef = .int .i64 a) (g7 : act.tmps.getD 7 undef = .int .i64 (k : Int))
    (POST : Ending → World → Prop) (hP : ∀ e w', XPost w x A (.returned (.int .i64 0)) (Y.take k ++ [(s, a)] ++ Y.drop k) e w' → POST e w') :
    Code.wp Try.prog tail22 (bodyPost Try.prog Try.f22 POST) act w := by
  obtain ⟨u, hu, rfl⟩ := act_lit act hsz hdf
  rw [hu] at g0 g1 g2 g7
  rw [g0, g1, g2, g7]
  clear hsz hdf hu g0 g1 g2 g7
  have c0 := h.blk.cell 0
  have f0 := h.blk.frozen 0
  simp only [List.getElem?_toArray, List.getElem?_cons_zero] at c0 f0
  rw [← hn] at c0
  have hle := h.le
  rw [← hn] at hle
  have hcm := h.cm
  unfold maxLen at hcm
  have HP := Lib.hid hP
  have HN := Lib.hid hn
  have HB := Lib.hid h.blk
  have HR1 : Hid (RL w A (Y.take k)) := Lib.hid (h.rl.take (by omega))
  have HL1 : Hid ((Y.take k).length = k) := Lib.hid (by rw [List.length_take]; omega)
  have HL2 : Hid ((Y.drop k).length = n - k) := Lib.hid (by rw [List.length_drop]; omega)
  subst hA
  subst hc
  obtain rfl : n = 0 := by omega
  obtain rfl : k = 0 := by omega
  have HR2 : Hid (RL w none (Y.drop 0)) := Lib.hid (.inl (List.eq_nil_of_length_eq_zero HL2.out))
  obtain ⟨T1, hT1⟩ : ∃ T1, T1 = Y.take 0 := ⟨_, rfl⟩
  obtain ⟨T2, hT2⟩ : ∃ T2, T2 = Y.drop 0 := ⟨_, rfl⟩
  rw [← hT1, ← hT2] at HP
  rw [← hT1] at HR1 HL1
  rw [← hT2] at HR2 HL2
  clear h hP hn hT1 hT2 hk hle hcm
  rw [show ((0 : Nat) : Int) = 0 from rfl] at *
  obtain ⟨i0, hi0, hz0, hz1, hz2⟩ := info_parts infoDue
  have t0 : 0 < 2 := by omega
  have D1 := Lib.hid (dcells_one T1)
  have D2 := Lib.hid (dcells_one T2)
  have DM := Lib.hid (dcells_one [(s, a)])
  have hS0 : w.drew.cell? ⟨x, 0, none⟩ = some (.slice none 0 0) := c0
  have HF0 : Hid (Fr (fun _ => False) w w.drew) := Lib.hid (Fr.drew (Fr.refl _ _))
  clear c0
  conv => arg 2; whnf
  go_wp2
  refine wp_region_last (S := (fun V : World => V.cell? ⟨x, 0, none⟩ = some (.slice none 0 0))) (st := 23) (n := 23) (by kernel_rfl) rfl (by kernel_rfl) rfl hS0 (fun hS1 => ?_)
  clear hS0
  refine wpAnyH_take (i := 0) (v := .pointer (some ⟨x, 0, none⟩)) rfl (by kernel_rfl) (by kernel_rfl) (by kernel_rfl) (fun _ _ _ h => h) (.inl ⟨by kernel_rfl, fun V hV => by go_simp⟩) hS1 ?_
  simp only [Act.put, List.setIfInBounds_toArray, List.set_cons_zero, List.set_cons_succ]
  refine wpAnyH_take (i := 2) (v := .pointer (some ⟨x, 0, none⟩)) rfl (by kernel_rfl) (by kernel_rfl) (by kernel_rfl) (fun _ _ _ h => h) (.inl ⟨by kernel_rfl, fun V hV => by go_simp⟩) hS1 ?_
  simp only [Act.put, List.setIfInBounds_toArray, List.set_cons_zero, List.set_cons_succ]
  refine wpAnyH_take (i := 3) (v := .pointer (some ⟨x, 0, none⟩)) rfl (by kernel_rfl) (by kernel_rfl) (by kernel_rfl) (fun _ _ _ h => h) (.inl ⟨by kernel_rfl, fun V hV => by go_simp⟩) hS1 ?_
  simp only [Act.put, List.setIfInBounds_toArray, List.set_cons_zero, List.set_cons_succ]
  refine wpAnyH_take (i := 4) (v := .pointer (some ⟨x, 0, none⟩)) rfl (by kernel_rfl) (by kernel_rfl) (by kernel_rfl) (fun _ _ _ h => h) (.inl ⟨by kernel_rfl, fun V hV => by go_simp⟩) hS1 ?_
  simp only [Act.put, List.setIfInBounds_toArray, List.set_cons_zero, List.set_cons_succ]
  refine wpAnyH_take (i := 5) (v := .slice none 0 0) rfl (by kernel_rfl) (by kernel_rfl) (by kernel_rfl) (fun _ _ _ h => h) (.inl ⟨by kernel_rfl, fun V hV => by go_simp⟩) hS1 ?_
  simp only [Act.put, List.setIfInBounds_toArray, List.set_cons_zero, List.set_cons_succ]
  refine wpAnyH_take (i := 6) (v := .int .i64 0) rfl (by kernel_rfl) (by kernel_rfl) (by kernel_rfl) (fun _ _ _ h => h) (.inl ⟨by kernel_rfl, fun V hV => by go_simp⟩) hS1 ?_
  simp only [Act.put, List.setIfInBounds_toArray, List.set_cons_zero, List.set_cons_succ]
  refine wpAnyH_take (i := 7) (v := .slice none 0 0) rfl (by kernel_rfl) (by kernel_rfl) (by kernel_rfl) (fun _ _ _ h => h) (.inl ⟨by kernel_rfl, fun V hV => by go_simp⟩) hS1 ?_
  simp only [Act.put, List.setIfInBounds_toArray, List.set_cons_zero, List.set_cons_succ]
  refine wpAnyH_take (i := 9) (v := .string s) rfl (by kernel_rfl) (by kernel_rfl) (by kernel_rfl) (fun _ _ _ h => h) (.inl ⟨by kernel_rfl, fun V hV => by go_simp⟩) hS1 ?_
  simp only [Act.put, List.setIfInBounds_toArray, List.set_cons_zero, List.set_cons_succ]
  refine wpAnyH_take (i := 10) (v := .int .i64 a) rfl (by kernel_rfl) (by kernel_rfl) (by kernel_rfl) (fun _ _ _ h => h) (.inl ⟨by kernel_rfl, fun V hV => by go_simp⟩) hS1 ?_
  simp only [Act.put, List.setIfInBounds_toArray, List.set_cons_zero, List.set_cons_succ]
  refine wpAnyH_take (i := 11) (v := .agg #[.string s, .int .i64 a]) rfl (by kernel_rfl) (by kernel_rfl) (by kernel_rfl) (fun _ _ _ h => h) (.inl ⟨by kernel_rfl, fun V hV => by go_simp⟩) hS1 ?_
  simp only [Act.put, List.setIfInBounds_toArray, List.set_cons_zero, List.set_cons_succ]
  refine wpAnyH_take (i := 14) (v := .pointer (some ⟨x, 0, none⟩)) rfl (by kernel_rfl) (by kernel_rfl) (by kernel_rfl) (fun _ _ _ h => h) (.inl ⟨by kernel_rfl, fun V hV => by go_simp⟩) hS1 ?_
  simp only [Act.put, List.setIfInBounds_toArray, List.set_cons_zero, List.set_cons_succ]
  refine wpAnyH_take (i := 15) (v := .pointer (some ⟨x, 0, none⟩)) rfl (by kernel_rfl) (by kernel_rfl) (by kernel_rfl) (fun _ _ _ h => h) (.inl ⟨by kernel_rfl, fun V hV => by go_simp⟩) hS1 ?_
  simp only [Act.put, List.setIfInBounds_toArray, List.set_cons_zero, List.set_cons_succ]
  refine wpAnyH_take (i := 16) (v := .pointer (some ⟨x, 0, none⟩)) rfl (by kernel_rfl) (by kernel_rfl) (by kernel_rfl) (fun _ _ _ h => h) (.inl ⟨by kernel_rfl, fun V hV => by go_simp⟩) hS1 ?_
  simp only [Act.put, List.setIfInBounds_toArray, List.set_cons_zero, List.set_cons_succ]
  refine wpAnyH_take (i := 17) (v := .slice none 0 0) rfl (by kernel_rfl) (by kernel_rfl) (by kernel_rfl) (fun _ _ _ h => h) (.inl ⟨by kernel_rfl, fun V hV => by go_simp⟩) hS1 ?_
  simp only [Act.put, List.setIfInBounds_toArray, List.set_cons_zero, List.set_cons_succ]
  refine wpAnyH_take (i := 18) (v := .int .i64 0) rfl (by kernel_rfl) (by kernel_rfl) (by kernel_rfl) (fun _ _ _ h => h) (.inl ⟨by kernel_rfl, fun V hV => by go_simp⟩) hS1 ?_
  simp only [Act.put, List.setIfInBounds_toArray, List.set_cons_zero, List.set_cons_succ]
  refine wpAnyH_take (i := 19) (v := .slice none 0 0) rfl (by kernel_rfl) (by kernel_rfl) (by kernel_rfl) (fun _ _ _ h => h) (.inl ⟨by kernel_rfl, fun V hV => by go_simp⟩) hS1 ?_
  simp only [Act.put, List.setIfInBounds_toArray, List.set_cons_zero, List.set_cons_succ]
  refine wpAnyH_ready (rs := [1, 12]) (by kernel_rfl) (by simp) ?_
  refine AllReadyH.cons rfl (fun K' hK => ?_) (AllReadyH.cons rfl (fun K' hK => ?_) AllReadyH.nil)
  · go_simp
    refine hK.out _ _ ((World.cell?_alloc_lt _ _ _ (Nat.lt_of_lt_of_le HB.out.lt HF0.out.size)).trans hS1) (fun hS9 => ?_)
    clear hK K' hS1
    have hS1 := hS9
    clear hS9
    try simp only [Act.put, List.setIfInBounds_toArray, List.set_cons_zero, List.set_cons_succ]
    have HX0 := XNew.empty (x := x) HF0.out
    have HX0 := Lib.hid HX0
    refine wpAnyH_ready (rs := [8, 12]) (by kernel_rfl) (by simp) ?_
    refine AllReadyH.cons rfl (fun K' hK => ?_) (AllReadyH.cons rfl (fun K' hK => ?_) AllReadyH.nil)
    · have HRD1 := Lib.hid ((HX0.out.rl HR1.out).reads (.inr trivial))
      rw [HL1.out] at HRD1
      refine step_append_any _ (by rfl) (.tmp 85) (.tmp 91) 26 (by rfl) w.heap.size 44 i0 (.agg #[.string ⟨#[]⟩, .int .i64 0]) 2 24 Try.underlying26 hi0 hz0 hz1 hz2 rfl t0 (.slice (some ⟨w.heap.size, 0, none⟩) 0 0) 0 (dcells []) (by rfl) HX0.out.own _ none 0 0 (dcells T1) (by rfl) HRD1.out D1.out (by unfold maxLen; omega) (by omega) HX0.out.fr.size ?_
      intro v1 w1 ho1 hg1 hat1
      have HX1 := Lib.hid (HX0.out.step (k := 0) (Nat.zero_add 0) ho1 hg1)
      have y0 := (HX1.out.blk HB.out).cell 0
      simp only [List.getElem?_toArray, List.getElem?_cons_zero, ← HN.out] at y0
      clear ho1 hg1 hat1
      refine hK.out _ _ (y0) (fun hS9 => ?_)
      clear hK K' hS1
      have hS1 := hS9
      clear hS9
      try simp only [Act.put, List.setIfInBounds_toArray, List.set_cons_zero, List.set_cons_succ]
      clear y0
      obtain ⟨A1, cc1, rfl⟩ := own_val HX1.out.own
      refine wpAnyH_ready (rs := [12]) (by kernel_rfl) (by simp) ?_
      refine AllReadyH.cons rfl (fun K' hK => ?_) AllReadyH.nil
      have HF1 := Lib.hid HX1.out.fr
      go_simp
      refine hK.out _ _ ((World.cell?_alloc_lt _ _ _ (Nat.lt_of_lt_of_le HB.out.lt HF1.out.size)).trans hS1) (fun hS9 => ?_)
      clear hK K' hS1
      have hS1 := hS9
      clear hS9
      try simp only [Act.put, List.setIfInBounds_toArray, List.set_cons_zero, List.set_cons_succ]
      have HM := RL.one w1 s a
      have HM := Lib.hid HM
      have HX1 := Lib.hid (HX1.out.alloc (.cells #[.string s, .int .i64 a] 44))
      refine wpAnyH_ready (rs := [13]) (by kernel_rfl) (by simp) ?_
      refine AllReadyH.cons rfl (fun K' hK => ?_) AllReadyH.nil
      have HMR := Lib.hid (HM.out.reads (.inr trivial))
      refine step_append_any _ (by rfl) (.tmp 92) (.tmp 96) 26 (by rfl) w.heap.size 44 i0 (.agg #[.string ⟨#[]⟩, .int .i64 0]) 2 24 Try.underlying26 hi0 hz0 hz1 hz2 rfl t0 (.slice A1 0 cc1) 0 (dcells ([] ++ T1)) (by rfl) HX1.out.own _ _ 1 1 (dcells [(s, a)]) (by rfl) HMR.out DM.out (by unfold maxLen; omega) (by omega) HX1.out.fr.size ?_
      intro v2 w2 ho2 hg2 hat2
      have HX2 := Lib.hid (HX1.out.step rfl ho2 hg2)
      clear HMR HM
      have y0 := (HX2.out.blk HB.out).cell 0
      simp only [List.getElem?_toArray, List.getElem?_cons_zero, ← HN.out] at y0
      refine hK.out _ _ (y0) (fun hS9 => ?_)
      clear hK K' hS1
      have hS1 := hS9
      clear hS9
      try simp only [Act.put, List.setIfInBounds_toArray, List.set_cons_zero, List.set_cons_succ]
      clear y0 ho2 hg2 hat2
      obtain ⟨A2, cc2, rfl⟩ := own_val HX2.out.own
      refine wpAnyH_ready (rs := [20]) (by kernel_rfl) (by simp) ?_
      refine AllReadyH.cons rfl (fun K' hK => ?_) AllReadyH.nil
      have HRD2 := Lib.hid ((HX2.out.rl HR2.out).reads (.inr trivial))
      rw [HL2.out] at HRD2
      refine step_append_any _ (by rfl) (.tmp 97) (.tmp 103) 26 (by rfl) w.heap.size 44 i0 (.agg #[.string ⟨#[]⟩, .int .i64 0]) 2 24 Try.underlying26 hi0 hz0 hz1 hz2 rfl t0 (.slice A2 (0 + 1) cc2) (0 + 1) (dcells ([] ++ T1 ++ [(s, a)])) (by rfl) HX2.out.own _ none 0 0 (dcells T2) (by rfl) HRD2.out D2.out (by unfold maxLen; omega) (by omega) HX2.out.fr.size ?_
      intro v3 w3 ho3 hg3 hat3
      have HX3 := Lib.hid (HX2.out.step rfl ho3 hg3)
      have y0 := (HX3.out.blk HB.out).cell 0
      simp only [List.getElem?_toArray, List.getElem?_cons_zero, ← HN.out] at y0
      have y2 := (HX3.out.blk HB.out).frozen 0
      refine hK.out _ _ (y0) (fun hS9 => ?_)
      clear hK K' hS1
      have hS1 := hS9
      clear hS9
      try simp only [Act.put, List.setIfInBounds_toArray, List.set_cons_zero, List.set_cons_succ]
      clear ho3 hg3 hat3
      obtain ⟨A3, cc3, rfl⟩ := own_val HX3.out.own
      refine wpAnyH_take (i := 21) (v := .pointer (some ⟨x, 0, none⟩)) rfl (by kernel_rfl) (by kernel_rfl) (by kernel_rfl) (fun _ _ _ h => h) (.inl ⟨by kernel_rfl, fun V hV => by go_simp⟩) hS1 ?_
      simp only [Act.put, List.setIfInBounds_toArray, List.set_cons_zero, List.set_cons_succ]
      refine wpAnyH_take (i := 22) (v := .pointer (some ⟨x, 0, none⟩)) rfl (by kernel_rfl) (by kernel_rfl) (by kernel_rfl) (fun _ _ _ h => h) (.inl ⟨by kernel_rfl, fun V hV => by go_simp⟩) hS1 ?_
      simp only [Act.put, List.setIfInBounds_toArray, List.set_cons_zero, List.set_cons_succ]
      refine wpAnyH_done (by kernel_rfl) ?_ _
      refine lastQ_normal (wpOp_step rfl (fun K' hK => ?_))
      have HE := Lib.hid (HX3.out.done (c := cc3) (by rw [List.length_append, List.length_append, List.length_append, HL1.out, HL2.out, List.length_nil, List.length_singleton, Nat.zero_add]) HB.out)
      go_simp
      clear hS1 y0 y2
      refine hK _ _ ?_
      clear hK K'
      go_wp2
      exact HP.out _ _ ⟨A3, cc3, rfl, HE.out.1, HE.out.2.1, fun ad e => .inr (HE.out.2.2 ad e)⟩
    · have HF1 := Lib.hid HX0.out.fr
      go_simp
      refine hK.out _ _ ((World.cell?_alloc_lt _ _ _ (Nat.lt_of_lt_of_le HB.out.lt HF1.out.size)).trans hS1) (fun hS9 => ?_)
      clear hK K' hS1
      have hS1 := hS9
      clear hS9
      try simp only [Act.put, List.setIfInBounds_toArray, List.set_cons_zero, List.set_cons_succ]
      have HM := RL.one (w.drew.alloc (.cells #[] 44)) s a
      rw [World.size_alloc] at HM
      have HM := Lib.hid HM
      have HX0 := Lib.hid (HX0.out.alloc (.cells #[.string s, .int .i64 a] 44))
      refine wpAnyH_ready (rs := [8]) (by kernel_rfl) (by simp) ?_
      refine AllReadyH.cons rfl (fun K' hK => ?_) AllReadyH.nil
      have HRD1 := Lib.hid ((HX0.out.rl HR1.out).reads (.inr trivial))
      rw [HL1.out] at HRD1
      refine step_append_any _ (by rfl) (.tmp 85) (.tmp 91) 26 (by rfl) w.heap.size 44 i0 (.agg #[.string ⟨#[]⟩, .int .i64 0]) 2 24 Try.underlying26 hi0 hz0 hz1 hz2 rfl t0 (.slice (some ⟨w.heap.size, 0, none⟩) 0 0) 0 (dcells []) (by rfl) HX0.out.own _ none 0 0 (dcells T1) (by rfl) HRD1.out D1.out (by unfold maxLen; omega) (by omega) HX0.out.fr.size ?_
      intro v1 w1 ho1 hg1 hat1
      have HX1 := Lib.hid (HX0.out.step (k := 0) (Nat.zero_add 0) ho1 hg1)
      have y0 := (HX1.out.blk HB.out).cell 0
      simp only [List.getElem?_toArray, List.getElem?_cons_zero, ← HN.out] at y0
      have HM := Lib.hid (HX0.out.keep HM.out (fun ad e e2 => by cases e; injection e2 with e3; simp at e3) hg1)
      clear ho1 hg1 hat1
      refine hK.out _ _ (y0) (fun hS9 => ?_)
      clear hK K' hS1
      have hS1 := hS9
      clear hS9
      try simp only [Act.put, List.setIfInBounds_toArray, List.set_cons_zero, List.set_cons_succ]
      clear y0
      obtain ⟨A1, cc1, rfl⟩ := own_val HX1.out.own
      refine wpAnyH_ready (rs := [13]) (by kernel_rfl) (by simp) ?_
      refine AllReadyH.cons rfl (fun K' hK => ?_) AllReadyH.nil
      have HMR := Lib.hid (HM.out.reads (.inr trivial))
      refine step_append_any _ (by rfl) (.tmp 92) (.tmp 96) 26 (by rfl) w.heap.size 44 i0 (.agg #[.string ⟨#[]⟩, .int .i64 0]) 2 24 Try.underlying26 hi0 hz0 hz1 hz2 rfl t0 (.slice A1 0 cc1) 0 (dcells ([] ++ T1)) (by rfl) HX1.out.own _ _ 1 1 (dcells [(s, a)]) (by rfl) HMR.out DM.out (by unfold maxLen; omega) (by omega) HX1.out.fr.size ?_
      intro v2 w2 ho2 hg2 hat2
      have HX2 := Lib.hid (HX1.out.step rfl ho2 hg2)
      clear HMR HM
      have y0 := (HX2.out.blk HB.out).cell 0
      simp only [List.getElem?_toArray, List.getElem?_cons_zero, ← HN.out] at y0
      refine hK.out _ _ (y0) (fun hS9 => ?_)
      clear hK K' hS1
      have hS1 := hS9
      clear hS9
      try simp only [Act.put, List.setIfInBounds_toArray, List.set_cons_zero, List.set_cons_succ]
      clear y0 ho2 hg2 hat2
      obtain ⟨A2, cc2, rfl⟩ := own_val HX2.out.own
      refine wpAnyH_ready (rs := [20]) (by kernel_rfl) (by simp) ?_
      refine AllReadyH.cons rfl (fun K' hK => ?_) AllReadyH.nil
      have HRD2 := Lib.hid ((HX2.out.rl HR2.out).reads (.inr trivial))
      rw [HL2.out] at HRD2
      refine step_append_any _ (by rfl) (.tmp 97) (.tmp 103) 26 (by rfl) w.heap.size 44 i0 (.agg #[.string ⟨#[]⟩, .int .i64 0]) 2 24 Try.underlying26 hi0 hz0 hz1 hz2 rfl t0 (.slice A2 (0 + 1) cc2) (0 + 1) (dcells ([] ++ T1 ++ [(s, a)])) (by rfl) HX2.out.own _ none 0 0 (dcells T2) (by rfl) HRD2.out D2.out (by unfold maxLen; omega) (by omega) HX2.out.fr.size ?_
      intro v3 w3 ho3 hg3 hat3
      have HX3 := Lib.hid (HX2.out.step rfl ho3 hg3)
      have y0 := (HX3.out.blk HB.out).cell 0
      simp only [List.getElem?_toArray, List.getElem?_cons_zero, ← HN.out] at y0
      have y2 := (HX3.out.blk HB.out).frozen 0
      refine hK.out _ _ (y0) (fun hS9 => ?_)
      clear hK K' hS1
      have hS1 := hS9
      clear hS9
      try simp only [Act.put, List.setIfInBounds_toArray, List.set_cons_zero, List.set_cons_succ]
      clear ho3 hg3 hat3
      obtain ⟨A3, cc3, rfl⟩ := own_val HX3.out.own
      refine wpAnyH_take (i := 21) (v := .pointer (some ⟨x, 0, none⟩)) rfl (by kernel_rfl) (by kernel_rfl) (by kernel_rfl) (fun _ _ _ h => h) (.inl ⟨by kernel_rfl, fun V hV => by go_simp⟩) hS1 ?_
      simp only [Act.put, List.setIfInBounds_toArray, List.set_cons_zero, List.set_cons_succ]
      refine wpAnyH_take (i := 22) (v := .pointer (some ⟨x, 0, none⟩)) rfl (by kernel_rfl) (by kernel_rfl) (by kernel_rfl) (fun _ _ _ h => h) (.inl ⟨by kernel_rfl, fun V hV => by go_simp⟩) hS1 ?_
      simp only [Act.put, List.setIfInBounds_toArray, List.set_cons_zero, List.set_cons_succ]
      refine wpAnyH_done (by kernel_rfl) ?_ _
      refine lastQ_normal (wpOp_step rfl (fun K' hK => ?_))
      have HE := Lib.hid (HX3.out.done (c := cc3) (by rw [List.length_append, List.length_append, List.length_append, HL1.out, HL2.out, List.length_nil, List.length_singleton, Nat.zero_add]) HB.out)
      go_simp
      clear hS1 y0 y2
      refine hK _ _ ?_
      clear hK K'
      go_wp2
      exact HP.out _ _ ⟨A3, cc3, rfl, HE.out.1, HE.out.2.1, fun ad e => .inr (HE.out.2.2 ad e)⟩
  · go_simp
    refine hK.out _ _ ((World.cell?_alloc_lt _ _ _ (Nat.lt_of_lt_of_le HB.out.lt HF0.out.size)).trans hS1) (fun hS9 => ?_)
    clear hK K' hS1
    have hS1 := hS9
    clear hS9
    try simp only [Act.put, List.setIfInBounds_toArray, List.set_cons_zero, List.set_cons_succ]
    have HM := RL.one w.drew s a
    have HM := Lib.hid HM
    refine wpAnyH_ready (rs := [1]) (by kernel_rfl) (by simp) ?_
    refine AllReadyH.cons rfl (fun K' hK => ?_) AllReadyH.nil
    have HF1 : Hid (Fr (fun _ => False) w (w.drew.alloc (.cells #[.string s, .int .i64 a] 44))) := Lib.hid (HF0.out.alloc _)
    go_simp
    refine hK.out _ _ ((World.cell?_alloc_lt _ _ _ (Nat.lt_of_lt_of_le HB.out.lt HF1.out.size)).trans hS1) (fun hS9 => ?_)
    clear hK K' hS1
    have hS1 := hS9
    clear hS9
    try simp only [Act.put, List.setIfInBounds_toArray, List.set_cons_zero, List.set_cons_succ]
    have HX0 := XNew.empty (x := x) HF1.out
    rw [World.size_alloc] at HX0
    have HX0 := Lib.hid HX0
    have HM := Lib.hid (HM.out.below ((Below.refl _ _).alloc (Nat.le_refl _) (.cells #[] 44)))
    refine wpAnyH_ready (rs := [8]) (by kernel_rfl) (by simp) ?_
    refine AllReadyH.cons rfl (fun K' hK => ?_) AllReadyH.nil
    have HRD1 := Lib.hid ((HX0.out.rl HR1.out).reads (.inr trivial))
    rw [HL1.out] at HRD1
    refine step_append_any _ (by rfl) (.tmp 85) (.tmp 91) 26 (by rfl) w.heap.size 44 i0 (.agg #[.string ⟨#[]⟩, .int .i64 0]) 2 24 Try.underlying26 hi0 hz0 hz1 hz2 rfl t0 (.slice (some ⟨(w.drew.heap.size + 1), 0, none⟩) 0 0) 0 (dcells []) (by rfl) HX0.out.own _ none 0 0 (dcells T1) (by rfl) HRD1.out D1.out (by unfold maxLen; omega) (by omega) HX0.out.fr.size ?_
    intro v1 w1 ho1 hg1 hat1
    have HX1 := Lib.hid (HX0.out.step (k := 0) (Nat.zero_add 0) ho1 hg1)
    have y0 := (HX1.out.blk HB.out).cell 0
    simp only [List.getElem?_toArray, List.getElem?_cons_zero, ← HN.out] at y0
    have HM := Lib.hid (HX0.out.keep HM.out (fun ad e e2 => by cases e; injection e2 with e3; simp at e3) hg1)
    clear ho1 hg1 hat1
    refine hK.out _ _ (y0) (fun hS9 => ?_)
    clear hK K' hS1
    have hS1 := hS9
    clear hS9
    try simp only [Act.put, List.setIfInBounds_toArray, List.set_cons_zero, List.set_cons_succ]
    clear y0
    obtain ⟨A1, cc1, rfl⟩ := own_val HX1.out.own
    refine wpAnyH_ready (rs := [13]) (by kernel_rfl) (by simp) ?_
    refine AllReadyH.cons rfl (fun K' hK => ?_) AllReadyH.nil
    have HMR := Lib.hid (HM.out.reads (.inr trivial))
    refine step_append_any _ (by rfl) (.tmp 92) (.tmp 96) 26 (by rfl) w.heap.size 44 i0 (.agg #[.string ⟨#[]⟩, .int .i64 0]) 2 24 Try.underlying26 hi0 hz0 hz1 hz2 rfl t0 (.slice A1 0 cc1) 0 (dcells ([] ++ T1)) (by rfl) HX1.out.own _ _ 1 1 (dcells [(s, a)]) (by rfl) HMR.out DM.out (by unfold maxLen; omega) (by omega) HX1.out.fr.size ?_
    intro v2 w2 ho2 hg2 hat2
    have HX2 := Lib.hid (HX1.out.step rfl ho2 hg2)
    clear HMR HM
    have y0 := (HX2.out.blk HB.out).cell 0
    simp only [List.getElem?_toArray, List.getElem?_cons_zero, ← HN.out] at y0
    refine hK.out _ _ (y0) (fun hS9 => ?_)
    clear hK K' hS1
    have hS1 := hS9
    clear hS9
    try simp only [Act.put, List.setIfInBounds_toArray, List.set_cons_zero, List.set_cons_succ]
    clear y0 ho2 hg2 hat2
    obtain ⟨A2, cc2, rfl⟩ := own_val HX2.out.own
    refine wpAnyH_ready (rs := [20]) (by kernel_rfl) (by simp) ?_
    refine AllReadyH.cons rfl (fun K' hK => ?_) AllReadyH.nil
    have HRD2 := Lib.hid ((HX2.out.rl HR2.out).reads (.inr trivial))
    rw [HL2.out] at HRD2
    refine step_append_any _ (by rfl) (.tmp 97) (.tmp 103) 26 (by rfl) w.heap.size 44 i0 (.agg #[.string ⟨#[]⟩, .int .i64 0]) 2 24 Try.underlying26 hi0 hz0 hz1 hz2 rfl t0 (.slice A2 (0 + 1) cc2) (0 + 1) (dcells ([] ++ T1 ++ [(s, a)])) (by rfl) HX2.out.own _ none 0 0 (dcells T2) (by rfl) HRD2.out D2.out (by unfold maxLen; omega) (by omega) HX2.out.fr.size ?_
    intro v3 w3 ho3 hg3 hat3
    have HX3 := Lib.hid (HX2.out.step rfl ho3 hg3)
    have y0 := (HX3.out.blk HB.out).cell 0
    simp only [List.getElem?_toArray, List.getElem?_cons_zero, ← HN.out] at y0
    have y2 := (HX3.out.blk HB.out).frozen 0
    refine hK.out _ _ (y0) (fun hS9 => ?_)
    clear hK K' hS1
    have hS1 := hS9
    clear hS9
    try simp only [Act.put, List.setIfInBounds_toArray, List.set_cons_zero, List.set_cons_succ]
    clear ho3 hg3 hat3
    obtain ⟨A3, cc3, rfl⟩ := own_val HX3.out.own
    refine wpAnyH_take (i := 21) (v := .pointer (some ⟨x, 0, none⟩)) rfl (by kernel_rfl) (by kernel_rfl) (by kernel_rfl) (fun _ _ _ h => h) (.inl ⟨by kernel_rfl, fun V hV => by go_simp⟩) hS1 ?_
    simp only [Act.put, List.setIfInBounds_toArray, List.set_cons_zero, List.set_cons_succ]
    refine wpAnyH_take (i := 22) (v := .pointer (some ⟨x, 0, none⟩)) rfl (by kernel_rfl) (by kernel_rfl) (by kernel_rfl) (fun _ _ _ h => h) (.inl ⟨by kernel_rfl, fun V hV => by go_simp⟩) hS1 ?_
    simp only [Act.put, List.setIfInBounds_toArray, List.set_cons_zero, List.set_cons_succ]
    refine wpAnyH_done (by kernel_rfl) ?_ _
    refine lastQ_normal (wpOp_step rfl (fun K' hK => ?_))
    have HE := Lib.hid (HX3.out.done (c := cc3) (by rw [List.length_append, List.length_append, List.length_append, HL1.out, HL2.out, List.length_nil, List.length_singleton, Nat.zero_add]) HB.out)
    go_simp
    clear hS1 y0 y2
    refine hK _ _ ?_
    clear hK K'
    go_wp2
    exact HP.out _ _ ⟨A3, cc3, rfl, HE.out.1, HE.out.2.1, fun ad e => .inr (HE.out.2.2 ad e)⟩

set_option maxRecDepth 100000 in
set_option maxHeartbeats 8000000 in
theorem set_tail_cap (act : Act) (x n k c : Nat) (A : Option Addr) (Y : List Du) (s : ByteArray) (a : Int) (w : World) (h : XAt w x A c Y) (hn : n = Y.length) (hk : k ≤ n) (hf : n ≤ 256) (b o : Nat) (hA : A = some ⟨b, o, none⟩) (hc : k = c)
    (hsz : act.tmps.size = 107) (hdf : act.defers = []) (g0 : act.tmps.getD 0 undef = .pointer (some ⟨x, 0, none⟩)) (g1 : act.tmps.getD 1 undef = .string s) (g2 : act.tmps.getD 2 undef = .int .i64 a) (g7 : act.tmps.getD 7 undef = .int .i64 (k : Int))
    (POST : Ending → World → Prop) (hP : ∀ e w', XPost w x A (.returned (.int .i64 0)) (Y.take k ++ [(s, a)] ++ Y.drop k) e w' → POST e w') :
    Code.wp Try.prog tail22 (bodyPost Try.prog Try.f22 POST) act w := by
  obtain ⟨u, hu, rfl⟩ := act_lit act hsz hdf
  rw [hu] at g0 g1 g2 g7
  rw [g0, g1, g2, g7]
  clear hsz hdf hu g0 g1 g2 g7
  have c0 := h.blk.cell 0
  have f0 := h.blk.frozen 0
  simp only [List.getElem?_toArray, List.getElem?_cons_zero] at c0 f0
  rw [← hn] at c0
  have hle := h.le
  rw [← hn] at hle
  have hcm := h.cm
  unfold maxLen at hcm
  have HP := Lib.hid hP
  have HN := Lib.hid hn
  have HB := Lib.hid h.blk
  have HR1 : Hid (RL w A (Y.take k)) := Lib.hid (h.rl.take (by omega))
  have HL1 : Hid ((Y.take k).length = k) := Lib.hid (by rw [List.length_take]; omega)
  have HL2 : Hid ((Y.drop k).length = n - k) := Lib.hid (by rw [List.length_drop]; omega)
  subst hA
  have HR2 : Hid (RL w (some ⟨b, o, none⟩) (Y.drop k)) := Lib.hid (.inl (List.eq_nil_of_length_eq_zero (by rw [HL2.out]; omega)))
  have HL3 : Hid ((Y.drop k).length = 0) := Lib.hid (by rw [HL2.out]; omega)
  clear HL2
  have HL2 := HL3
  clear HL3
  have e1 : c = k := hc.symm
  subst e1
  have e2 : c = n := by omega
  subst e2
  obtain ⟨T1, hT1⟩ : ∃ T1, T1 = Y.take c := ⟨_, rfl⟩
  obtain ⟨T2, hT2⟩ : ∃ T2, T2 = Y.drop c := ⟨_, rfl⟩
  rw [← hT1, ← hT2] at HP
  rw [← hT1] at HR1 HL1
  rw [← hT2] at HR2 HL2
  clear h hP hn hT1 hT2
  obtain ⟨i0, hi0, hz0, hz1, hz2⟩ := info_parts infoDue
  have t0 : 0 < 2 := by omega
  have D1 := Lib.hid (dcells_one T1)
  have D2 := Lib.hid (dcells_one T2)
  have DM := Lib.hid (dcells_one [(s, a)])
  have q1 : (0 : Int) ≤ (c : Int) := by omega
  have q2 : (c : Int) ≤ (c : Int) := by omega
  have q3 : (c : Int) ≤ (c : Int) := by omega
  have q4 : (c : Int) ≤ (c : Int) := by omega
  have hS0 : w.drew.cell? ⟨x, 0, none⟩ = some (.slice (some ⟨b, o, none⟩) c c) := c0
  have HF0 : Hid (Fr (fun _ => False) w w.drew) := Lib.hid (Fr.drew (Fr.refl _ _))
  clear c0
  conv => arg 2; whnf
  go_wp2
  refine wp_region_last (S := (fun V : World => V.cell? ⟨x, 0, none⟩ = some (.slice (some ⟨b, o, none⟩) c c))) (st := 23) (n := 23) (by kernel_rfl) rfl (by kernel_rfl) rfl hS0 (fun hS1 => ?_)
  clear hS0
  refine wpAnyH_take (i := 0) (v := .pointer (some ⟨x, 0, none⟩)) rfl (by kernel_rfl) (by kernel_rfl) (by kernel_rfl) (fun _ _ _ h => h) (.inl ⟨by kernel_rfl, fun V hV => by go_simp⟩) hS1 ?_
  simp only [Act.put, List.setIfInBounds_toArray, List.set_cons_zero, List.set_cons_succ]
  refine wpAnyH_take (i := 2) (v := .pointer (some ⟨x, 0, none⟩)) rfl (by kernel_rfl) (by kernel_rfl) (by kernel_rfl) (fun _ _ _ h => h) (.inl ⟨by kernel_rfl, fun V hV => by go_simp⟩) hS1 ?_
  simp only [Act.put, List.setIfInBounds_toArray, List.set_cons_zero, List.set_cons_succ]
  refine wpAnyH_take (i := 3) (v := .pointer (some ⟨x, 0, none⟩)) rfl (by kernel_rfl) (by kernel_rfl) (by kernel_rfl) (fun _ _ _ h => h) (.inl ⟨by kernel_rfl, fun V hV => by go_simp⟩) hS1 ?_
  simp only [Act.put, List.setIfInBounds_toArray, List.set_cons_zero, List.set_cons_succ]
  refine wpAnyH_take (i := 4) (v := .pointer (some ⟨x, 0, none⟩)) rfl (by kernel_rfl) (by kernel_rfl) (by kernel_rfl) (fun _ _ _ h => h) (.inl ⟨by kernel_rfl, fun V hV => by go_simp⟩) hS1 ?_
  simp only [Act.put, List.setIfInBounds_toArray, List.set_cons_zero, List.set_cons_succ]
  refine wpAnyH_take (i := 5) (v := .slice (some ⟨b, o, none⟩) c c) rfl (by kernel_rfl) (by kernel_rfl) (by kernel_rfl) (fun _ _ _ h => h) (.inl ⟨by kernel_rfl, fun V hV => by go_simp⟩) hS1 ?_
  simp only [Act.put, List.setIfInBounds_toArray, List.set_cons_zero, List.set_cons_succ]
  refine wpAnyH_take (i := 6) (v := .int .i64 (c : Int)) rfl (by kernel_rfl) (by kernel_rfl) (by kernel_rfl) (fun _ _ _ h => h) (.inl ⟨by kernel_rfl, fun V hV => by go_simp⟩) hS1 ?_
  simp only [Act.put, List.setIfInBounds_toArray, List.set_cons_zero, List.set_cons_succ]
  refine wpAnyH_take (i := 7) (v := .slice (some ⟨b, o, none⟩) c c) rfl (by kernel_rfl) (by kernel_rfl) (by kernel_rfl) (fun _ _ _ h => h) (.inl ⟨by kernel_rfl, fun V hV => by go_simp⟩) hS1 ?_
  simp only [Act.put, List.setIfInBounds_toArray, List.set_cons_zero, List.set_cons_succ]
  refine wpAnyH_take (i := 9) (v := .string s) rfl (by kernel_rfl) (by kernel_rfl) (by kernel_rfl) (fun _ _ _ h => h) (.inl ⟨by kernel_rfl, fun V hV => by go_simp⟩) hS1 ?_
  simp only [Act.put, List.setIfInBounds_toArray, List.set_cons_zero, List.set_cons_succ]
  refine wpAnyH_take (i := 10) (v := .int .i64 a) rfl (by kernel_rfl) (by kernel_rfl) (by kernel_rfl) (fun _ _ _ h => h) (.inl ⟨by kernel_rfl, fun V hV => by go_simp⟩) hS1 ?_
  simp only [Act.put, List.setIfInBounds_toArray, List.set_cons_zero, List.set_cons_succ]
  refine wpAnyH_take (i := 11) (v := .agg #[.string s, .int .i64 a]) rfl (by kernel_rfl) (by kernel_rfl) (by kernel_rfl) (fun _ _ _ h => h) (.inl ⟨by kernel_rfl, fun V hV => by go_simp⟩) hS1 ?_
  simp only [Act.put, List.setIfInBounds_toArray, List.set_cons_zero, List.set_cons_succ]
  refine wpAnyH_take (i := 14) (v := .pointer (some ⟨x, 0, none⟩)) rfl (by kernel_rfl) (by kernel_rfl) (by kernel_rfl) (fun _ _ _ h => h) (.inl ⟨by kernel_rfl, fun V hV => by go_simp⟩) hS1 ?_
  simp only [Act.put, List.setIfInBounds_toArray, List.set_cons_zero, List.set_cons_succ]
  refine wpAnyH_take (i := 15) (v := .pointer (some ⟨x, 0, none⟩)) rfl (by kernel_rfl) (by kernel_rfl) (by kernel_rfl) (fun _ _ _ h => h) (.inl ⟨by kernel_rfl, fun V hV => by go_simp⟩) hS1 ?_
  simp only [Act.put, List.setIfInBounds_toArray, List.set_cons_zero, List.set_cons_succ]
  refine wpAnyH_take (i := 16) (v := .pointer (some ⟨x, 0, none⟩)) rfl (by kernel_rfl) (by kernel_rfl) (by kernel_rfl) (fun _ _ _ h => h) (.inl ⟨by kernel_rfl, fun V hV => by go_simp⟩) hS1 ?_
  simp only [Act.put, List.setIfInBounds_toArray, List.set_cons_zero, List.set_cons_succ]
  refine wpAnyH_take (i := 17) (v := .slice (some ⟨b, o, none⟩) c c) rfl (by kernel_rfl) (by kernel_rfl) (by kernel_rfl) (fun _ _ _ h => h) (.inl ⟨by kernel_rfl, fun V hV => by go_simp⟩) hS1 ?_
  simp only [Act.put, List.setIfInBounds_toArray, List.set_cons_zero, List.set_cons_succ]
  refine wpAnyH_take (i := 18) (v := .int .i64 (c : Int)) rfl (by kernel_rfl) (by kernel_rfl) (by kernel_rfl) (fun _ _ _ h => h) (.inl ⟨by kernel_rfl, fun V hV => by go_simp⟩) hS1 ?_
  simp only [Act.put, List.setIfInBounds_toArray, List.set_cons_zero, List.set_cons_succ]
  refine wpAnyH_take (i := 19) (v := .slice (some ⟨b, o, none⟩) 0 0) rfl (by kernel_rfl) (by kernel_rfl) (by kernel_rfl) (fun _ _ _ h => h) (.inl ⟨by kernel_rfl, fun V hV => by go_simp⟩) hS1 ?_
  simp only [Act.put, List.setIfInBounds_toArray, List.set_cons_zero, List.set_cons_succ]
  refine wpAnyH_ready (rs := [1, 12]) (by kernel_rfl) (by simp) ?_
  refine AllReadyH.cons rfl (fun K' hK => ?_) (AllReadyH.cons rfl (fun K' hK => ?_) AllReadyH.nil)
  · go_simp
    refine hK.out _ _ ((World.cell?_alloc_lt _ _ _ (Nat.lt_of_lt_of_le HB.out.lt HF0.out.size)).trans hS1) (fun hS9 => ?_)
    clear hK K' hS1
    have hS1 := hS9
    clear hS9
    try simp only [Act.put, List.setIfInBounds_toArray, List.set_cons_zero, List.set_cons_succ]
    have HX0 := XNew.empty (x := x) HF0.out
    have HX0 := Lib.hid HX0
    refine wpAnyH_ready (rs := [8, 12]) (by kernel_rfl) (by simp) ?_
    refine AllReadyH.cons rfl (fun K' hK => ?_) (AllReadyH.cons rfl (fun K' hK => ?_) AllReadyH.nil)
    · have HRD1 := Lib.hid ((HX0.out.rl HR1.out).reads (.inr trivial))
      rw [HL1.out] at HRD1
      refine step_append_any _ (by rfl) (.tmp 85) (.tmp 91) 26 (by rfl) w.heap.size 44 i0 (.agg #[.string ⟨#[]⟩, .int .i64 0]) 2 24 Try.underlying26 hi0 hz0 hz1 hz2 rfl t0 (.slice (some ⟨w.heap.size, 0, none⟩) 0 0) 0 (dcells []) (by rfl) HX0.out.own _ (some ⟨b, o, none⟩) c c (dcells T1) (by rfl) HRD1.out D1.out (by unfold maxLen; omega) (by omega) HX0.out.fr.size ?_
      intro v1 w1 ho1 hg1 hat1
      have HX1 := Lib.hid (HX0.out.step (k := c) (Nat.zero_add c) ho1 hg1)
      have y0 := (HX1.out.blk HB.out).cell 0
      simp only [List.getElem?_toArray, List.getElem?_cons_zero, ← HN.out] at y0
      clear ho1 hg1 hat1
      refine hK.out _ _ (y0) (fun hS9 => ?_)
      clear hK K' hS1
      have hS1 := hS9
      clear hS9
      try simp only [Act.put, List.setIfInBounds_toArray, List.set_cons_zero, List.set_cons_succ]
      clear y0
      obtain ⟨A1, cc1, rfl⟩ := own_val HX1.out.own
      refine wpAnyH_ready (rs := [12]) (by kernel_rfl) (by simp) ?_
      refine AllReadyH.cons rfl (fun K' hK => ?_) AllReadyH.nil
      have HF1 := Lib.hid HX1.out.fr
      go_simp
      refine hK.out _ _ ((World.cell?_alloc_lt _ _ _ (Nat.lt_of_lt_of_le HB.out.lt HF1.out.size)).trans hS1) (fun hS9 => ?_)
      clear hK K' hS1
      have hS1 := hS9
      clear hS9
      try simp only [Act.put, List.setIfInBounds_toArray, List.set_cons_zero, List.set_cons_succ]
      have HM := RL.one w1 s a
      have HM := Lib.hid HM
      have HX1 := Lib.hid (HX1.out.alloc (.cells #[.string s, .int .i64 a] 44))
      refine wpAnyH_ready (rs := [13]) (by kernel_rfl) (by simp) ?_
      refine AllReadyH.cons rfl (fun K' hK => ?_) AllReadyH.nil
      have HMR := Lib.hid (HM.out.reads (.inr trivial))
      refine step_append_any _ (by rfl) (.tmp 92) (.tmp 96) 26 (by rfl) w.heap.size 44 i0 (.agg #[.string ⟨#[]⟩, .int .i64 0]) 2 24 Try.underlying26 hi0 hz0 hz1 hz2 rfl t0 (.slice A1 c cc1) c (dcells ([] ++ T1)) (by rfl) HX1.out.own _ _ 1 1 (dcells [(s, a)]) (by rfl) HMR.out DM.out (by unfold maxLen; omega) (by omega) HX1.out.fr.size ?_
      intro v2 w2 ho2 hg2 hat2
      have HX2 := Lib.hid (HX1.out.step rfl ho2 hg2)
      clear HMR HM
      have y0 := (HX2.out.blk HB.out).cell 0
      simp only [List.getElem?_toArray, List.getElem?_cons_zero, ← HN.out] at y0
      refine hK.out _ _ (y0) (fun hS9 => ?_)
      clear hK K' hS1
      have hS1 := hS9
      clear hS9
      try simp only [Act.put, List.setIfInBounds_toArray, List.set_cons_zero, List.set_cons_succ]
      clear y0 ho2 hg2 hat2
      obtain ⟨A2, cc2, rfl⟩ := own_val HX2.out.own
      refine wpAnyH_ready (rs := [20]) (by kernel_rfl) (by simp) ?_
      refine AllReadyH.cons rfl (fun K' hK => ?_) AllReadyH.nil
      have HRD2 := Lib.hid ((HX2.out.rl HR2.out).reads (.inr trivial))
      rw [HL2.out] at HRD2
      refine step_append_any _ (by rfl) (.tmp 97) (.tmp 103) 26 (by rfl) w.heap.size 44 i0 (.agg #[.string ⟨#[]⟩, .int .i64 0]) 2 24 Try.underlying26 hi0 hz0 hz1 hz2 rfl t0 (.slice A2 (c + 1) cc2) (c + 1) (dcells ([] ++ T1 ++ [(s, a)])) (by rfl) HX2.out.own _ (some ⟨b, o, none⟩) 0 0 (dcells T2) (by rfl) HRD2.out D2.out (by unfold maxLen; omega) (by omega) HX2.out.fr.size ?_
      intro v3 w3 ho3 hg3 hat3
      have HX3 := Lib.hid (HX2.out.step rfl ho3 hg3)
      have y0 := (HX3.out.blk HB.out).cell 0
      simp only [List.getElem?_toArray, List.getElem?_cons_zero, ← HN.out] at y0
      have y2 := (HX3.out.blk HB.out).frozen 0
      refine hK.out _ _ (y0) (fun hS9 => ?_)
      clear hK K' hS1
      have hS1 := hS9
      clear hS9
      try simp only [Act.put, List.setIfInBounds_toArray, List.set_cons_zero, List.set_cons_succ]
      clear ho3 hg3 hat3
      obtain ⟨A3, cc3, rfl⟩ := own_val HX3.out.own
      refine wpAnyH_take (i := 21) (v := .pointer (some ⟨x, 0, none⟩)) rfl (by kernel_rfl) (by kernel_rfl) (by kernel_rfl) (fun _ _ _ h => h) (.inl ⟨by kernel_rfl, fun V hV => by go_simp⟩) hS1 ?_
      simp only [Act.put, List.setIfInBounds_toArray, List.set_cons_zero, List.set_cons_succ]
      refine wpAnyH_take (i := 22) (v := .pointer (some ⟨x, 0, none⟩)) rfl (by kernel_rfl) (by kernel_rfl) (by kernel_rfl) (fun _ _ _ h => h) (.inl ⟨by kernel_rfl, fun V hV => by go_simp⟩) hS1 ?_
      simp only [Act.put, List.setIfInBounds_toArray, List.set_cons_zero, List.set_cons_succ]
      refine wpAnyH_done (by kernel_rfl) ?_ _
      refine lastQ_normal (wpOp_step rfl (fun K' hK => ?_))
      have HE := Lib.hid (HX3.out.done (c := cc3) (by rw [List.length_append, List.length_append, List.length_append, HL1.out, HL2.out, List.length_nil, List.length_singleton, Nat.zero_add]) HB.out)
      go_simp
      clear hS1 y0 y2
      refine hK _ _ ?_
      clear hK K'
      go_wp2
      exact HP.out _ _ ⟨A3, cc3, rfl, HE.out.1, HE.out.2.1, fun ad e => .inr (HE.out.2.2 ad e)⟩
    · have HF1 := Lib.hid HX0.out.fr
      go_simp
      refine hK.out _ _ ((World.cell?_alloc_lt _ _ _ (Nat.lt_of_lt_of_le HB.out.lt HF1.out.size)).trans hS1) (fun hS9 => ?_)
      clear hK K' hS1
      have hS1 := hS9
      clear hS9
      try simp only [Act.put, List.setIfInBounds_toArray, List.set_cons_zero, List.set_cons_succ]
      have HM := RL.one (w.drew.alloc (.cells #[] 44)) s a
      rw [World.size_alloc] at HM
      have HM := Lib.hid HM
      have HX0 := Lib.hid (HX0.out.alloc (.cells #[.string s, .int .i64 a] 44))
      refine wpAnyH_ready (rs := [8]) (by kernel_rfl) (by simp) ?_
      refine AllReadyH.cons rfl (fun K' hK => ?_) AllReadyH.nil
      have HRD1 := Lib.hid ((HX0.out.rl HR1.out).reads (.inr trivial))
      rw [HL1.out] at HRD1
      refine step_append_any _ (by rfl) (.tmp 85) (.tmp 91) 26 (by rfl) w.heap.size 44 i0 (.agg #[.string ⟨#[]⟩, .int .i64 0]) 2 24 Try.underlying26 hi0 hz0 hz1 hz2 rfl t0 (.slice (some ⟨w.heap.size, 0, none⟩) 0 0) 0 (dcells []) (by rfl) HX0.out.own _ (some ⟨b, o, none⟩) c c (dcells T1) (by rfl) HRD1.out D1.out (by unfold maxLen; omega) (by omega) HX0.out.fr.size ?_
      intro v1 w1 ho1 hg1 hat1
      have HX1 := Lib.hid (HX0.out.step (k := c) (Nat.zero_add c) ho1 hg1)
      have y0 := (HX1.out.blk HB.out).cell 0
      simp only [List.getElem?_toArray, List.getElem?_cons_zero, ← HN.out] at y0
      have HM := Lib.hid (HX0.out.keep HM.out (fun ad e e2 => by cases e; injection e2 with e3; simp at e3) hg1)
      clear ho1 hg1 hat1
      refine hK.out _ _ (y0) (fun hS9 => ?_)
      clear hK K' hS1
      have hS1 := hS9
      clear hS9
      try simp only [Act.put, List.setIfInBounds_toArray, List.set_cons_zero, List.set_cons_succ]
      clear y0
      obtain ⟨A1, cc1, rfl⟩ := own_val HX1.out.own
      refine wpAnyH_ready (rs := [13]) (by kernel_rfl) (by simp) ?_
      refine AllReadyH.cons rfl (fun K' hK => ?_) AllReadyH.nil
      have HMR := Lib.hid (HM.out.reads (.inr trivial))
      refine step_append_any _ (by rfl) (.tmp 92) (.tmp 96) 26 (by rfl) w.heap.size 44 i0 (.agg #[.string ⟨#[]⟩, .int .i64 0]) 2 24 Try.underlying26 hi0 hz0 hz1 hz2 rfl t0 (.slice A1 c cc1) c (dcells ([] ++ T1)) (by rfl) HX1.out.own _ _ 1 1 (dcells [(s, a)]) (by rfl) HMR.out DM.out (by unfold maxLen; omega) (by omega) HX1.out.fr.size ?_
      intro v2 w2 ho2 hg2 hat2
      have HX2 := Lib.hid (HX1.out.step rfl ho2 hg2)
      clear HMR HM
      have y0 := (HX2.out.blk HB.out).cell 0
      simp only [List.getElem?_toArray, List.getElem?_cons_zero, ← HN.out] at y0
      refine hK.out _ _ (y0) (fun hS9 => ?_)
      clear hK K' hS1
      have hS1 := hS9
      clear hS9
      try simp only [Act.put, List.setIfInBounds_toArray, List.set_cons_zero, List.set_cons_succ]
      clear y0 ho2 hg2 hat2
      obtain ⟨A2, cc2, rfl⟩ := own_val HX2.out.own
      refine wpAnyH_ready (rs := [20]) (by kernel_rfl) (by simp) ?_
      refine AllReadyH.cons rfl (fun K' hK => ?_) AllReadyH.nil
      have HRD2 := Lib.hid ((HX2.out.rl HR2.out).reads (.inr trivial))
      rw [HL2.out] at HRD2
      refine step_append_any _ (by rfl) (.tmp 97) (.tmp 103) 26 (by rfl) w.heap.size 44 i0 (.agg #[.string ⟨#[]⟩, .int .i64 0]) 2 24 Try.underlying26 hi0 hz0 hz1 hz2 rfl t0 (.slice A2 (c + 1) cc2) (c + 1) (dcells ([] ++ T1 ++ [(s, a)])) (by rfl) HX2.out.own _ (some ⟨b, o, none⟩) 0 0 (dcells T2) (by rfl) HRD2.out D2.out (by unfold maxLen; omega) (by omega) HX2.out.fr.size ?_
      intro v3 w3 ho3 hg3 hat3
      have HX3 := Lib.hid (HX2.out.step rfl ho3 hg3)
      have y0 := (HX3.out.blk HB.out).cell 0
      simp only [List.getElem?_toArray, List.getElem?_cons_zero, ← HN.out] at y0
      have y2 := (HX3.out.blk HB.out).frozen 0
      refine hK.out _ _ (y0) (fun hS9 => ?_)
      clear hK K' hS1
      have hS1 := hS9
      clear hS9
      try simp only [Act.put, List.setIfInBounds_toArray, List.set_cons_zero, List.set_cons_succ]
      clear ho3 hg3 hat3
      obtain ⟨A3, cc3, rfl⟩ := own_val HX3.out.own
      refine wpAnyH_take (i := 21) (v := .pointer (some ⟨x, 0, none⟩)) rfl (by kernel_rfl) (by kernel_rfl) (by kernel_rfl) (fun _ _ _ h => h) (.inl ⟨by kernel_rfl, fun V hV => by go_simp⟩) hS1 ?_
      simp only [Act.put, List.setIfInBounds_toArray, List.set_cons_zero, List.set_cons_succ]
      refine wpAnyH_take (i := 22) (v := .pointer (some ⟨x, 0, none⟩)) rfl (by kernel_rfl) (by kernel_rfl) (by kernel_rfl) (fun _ _ _ h => h) (.inl ⟨by kernel_rfl, fun V hV => by go_simp⟩) hS1 ?_
      simp only [Act.put, List.setIfInBounds_toArray, List.set_cons_zero, List.set_cons_succ]
      refine wpAnyH_done (by kernel_rfl) ?_ _
      refine lastQ_normal (wpOp_step rfl (fun K' hK => ?_))
      have HE := Lib.hid (HX3.out.done (c := cc3) (by rw [List.length_append, List.length_append, List.length_append, HL1.out, HL2.out, List.length_nil, List.length_singleton, Nat.zero_add]) HB.out)
      go_simp
      clear hS1 y0 y2
      refine hK _ _ ?_
      clear hK K'
      go_wp2
      exact HP.out _ _ ⟨A3, cc3, rfl, HE.out.1, HE.out.2.1, fun ad e => .inr (HE.out.2.2 ad e)⟩
  · go_simp
    refine hK.out _ _ ((World.cell?_alloc_lt _ _ _ (Nat.lt_of_lt_of_le HB.out.lt HF0.out.size)).trans hS1) (fun hS9 => ?_)
    clear hK K' hS1
    have hS1 := hS9
    clear hS9
    try simp only [Act.put, List.setIfInBounds_toArray, List.set_cons_zero, List.set_cons_succ]
    have HM := RL.one w.drew s a
    have HM := Lib.hid HM
    refine wpAnyH_ready (rs := [1]) (by kernel_rfl) (by simp) ?_
    refine AllReadyH.cons rfl (fun K' hK => ?_) AllReadyH.nil
    have HF1 : Hid (Fr (fun _ => False) w (w.drew.alloc (.cells #[.string s, .int .i64 a] 44))) := Lib.hid (HF0.out.alloc _)
    go_simp
    refine hK.out _ _ ((World.cell?_alloc_lt _ _ _ (Nat.lt_of_lt_of_le HB.out.lt HF1.out.size)).trans hS1) (fun hS9 => ?_)
    clear hK K' hS1
    have hS1 := hS9
    clear hS9
    try simp only [Act.put, List.setIfInBounds_toArray, List.set_cons_zero, List.set_cons_succ]
    have HX0 := XNew.empty (x := x) HF1.out
    rw [World.size_alloc] at HX0
    have HX0 := Lib.hid HX0
    have HM := Lib.hid (HM.out.below ((Below.refl _ _).alloc (Nat.le_refl _) (.cells #[] 44)))
    refine wpAnyH_ready (rs := [8]) (by kernel_rfl) (by simp) ?_
    refine AllReadyH.cons rfl (fun K' hK => ?_) AllReadyH.nil
    have HRD1 := Lib.hid ((HX0.out.rl HR1.out).reads (.inr trivial))
    rw [HL1.out] at HRD1
    refine step_append_any _ (by rfl) (.tmp 85) (.tmp 91) 26 (by rfl) w.heap.size 44 i0 (.agg #[.string ⟨#[]⟩, .int .i64 0]) 2 24 Try.underlying26 hi0 hz0 hz1 hz2 rfl t0 (.slice (some ⟨(w.drew.heap.size + 1), 0, none⟩) 0 0) 0 (dcells []) (by rfl) HX0.out.own _ (some ⟨b, o, none⟩) c c (dcells T1) (by rfl) HRD1.out D1.out (by unfold maxLen; omega) (by omega) HX0.out.fr.size ?_
    intro v1 w1 ho1 hg1 hat1
    have HX1 := Lib.hid (HX0.out.step (k := c) (Nat.zero_add c) ho1 hg1)
    have y0 := (HX1.out.blk HB.out).cell 0
    simp only [List.getElem?_toArray, List.getElem?_cons_zero, ← HN.out] at y0
    have HM := Lib.hid (HX0.out.keep HM.out (fun ad e e2 => by cases e; injection e2 with e3; simp at e3) hg1)
    clear ho1 hg1 hat1
    refine hK.out _ _ (y0) (fun hS9 => ?_)
    clear hK K' hS1
    have hS1 := hS9
    clear hS9
    try simp only [Act.put, List.setIfInBounds_toArray, List.set_cons_zero, List.set_cons_succ]
    clear y0
    obtain ⟨A1, cc1, rfl⟩ := own_val HX1.out.own
    refine wpAnyH_ready (rs := [13]) (by kernel_rfl) (by simp) ?_
    refine AllReadyH.cons rfl (fun K' hK => ?_) AllReadyH.nil
    have HMR := Lib.hid (HM.out.reads (.inr trivial))
    refine step_append_any _ (by rfl) (.tmp 92) (.tmp 96) 26 (by rfl) w.heap.size 44 i0 (.agg #[.string ⟨#[]⟩, .int .i64 0]) 2 24 Try.underlying26 hi0 hz0 hz1 hz2 rfl t0 (.slice A1 c cc1) c (dcells ([] ++ T1)) (by rfl) HX1.out.own _ _ 1 1 (dcells [(s, a)]) (by rfl) HMR.out DM.out (by unfold maxLen; omega) (by omega) HX1.out.fr.size ?_
    intro v2 w2 ho2 hg2 hat2
    have HX2 := Lib.hid (HX1.out.step rfl ho2 hg2)
    clear HMR HM
    have y0 := (HX2.out.blk HB.out).cell 0
    simp only [List.getElem?_toArray, List.getElem?_cons_zero, ← HN.out] at y0
    refine hK.out _ _ (y0) (fun hS9 => ?_)
    clear hK K' hS1
    have hS1 := hS9
    clear hS9
    try simp only [Act.put, List.setIfInBounds_toArray, List.set_cons_zero, List.set_cons_succ]
    clear y0 ho2 hg2 hat2
    obtain ⟨A2, cc2, rfl⟩ := own_val HX2.out.own
    refine wpAnyH_ready (rs := [20]) (by kernel_rfl) (by simp) ?_
    refine AllReadyH.cons rfl (fun K' hK => ?_) AllReadyH.nil
    have HRD2 := Lib.hid ((HX2.out.rl HR2.out).reads (.inr trivial))
    rw [HL2.out] at HRD2
    refine step_append_any _ (by rfl) (.tmp 97) (.tmp 103) 26 (by rfl) w.heap.size 44 i0 (.agg #[.string ⟨#[]⟩, .int .i64 0]) 2 24 Try.underlying26 hi0 hz0 hz1 hz2 rfl t0 (.slice A2 (c + 1) cc2) (c + 1) (dcells ([] ++ T1 ++ [(s, a)])) (by rfl) HX2.out.own _ (some ⟨b, o, none⟩) 0 0 (dcells T2) (by rfl) HRD2.out D2.out (by unfold maxLen; omega) (by omega) HX2.out.fr.size ?_
    intro v3 w3 ho3 hg3 hat3
    have HX3 := Lib.hid (HX2.out.step rfl ho3 hg3)
    have y0 := (HX3.out.blk HB.out).cell 0
    simp only [List.getElem?_toArray, List.getElem?_cons_zero, ← HN.out] at y0
    have y2 := (HX3.out.blk HB.out).frozen 0
    refine hK.out _ _ (y0) (fun hS9 => ?_)
    clear hK K' hS1
    have hS1 := hS9
    clear hS9
    try simp only [Act.put, List.setIfInBounds_toArray, List.set_cons_zero, List.set_cons_succ]
    clear ho3 hg3 hat3
    obtain ⟨A3, cc3, rfl⟩ := own_val HX3.out.own
    refine wpAnyH_take (i := 21) (v := .pointer (some ⟨x, 0, none⟩)) rfl (by kernel_rfl) (by kernel_rfl) (by kernel_rfl) (fun _ _ _ h => h) (.inl ⟨by kernel_rfl, fun V hV => by go_simp⟩) hS1 ?_
    simp only [Act.put, List.setIfInBounds_toArray, List.set_cons_zero, List.set_cons_succ]
    refine wpAnyH_take (i := 22) (v := .pointer (some ⟨x, 0, none⟩)) rfl (by kernel_rfl) (by kernel_rfl) (by kernel_rfl) (fun _ _ _ h => h) (.inl ⟨by kernel_rfl, fun V hV => by go_simp⟩) hS1 ?_
    simp only [Act.put, List.setIfInBounds_toArray, List.set_cons_zero, List.set_cons_succ]
    refine wpAnyH_done (by kernel_rfl) ?_ _
    refine lastQ_normal (wpOp_step rfl (fun K' hK => ?_))
    have HE := Lib.hid (HX3.out.done (c := cc3) (by rw [List.length_append, List.length_append, List.length_append, HL1.out, HL2.out, List.length_nil, List.length_singleton, Nat.zero_add]) HB.out)
    go_simp
    clear hS1 y0 y2
    refine hK _ _ ?_
    clear hK K'
    go_wp2
    exact HP.out _ _ ⟨A3, cc3, rfl, HE.out.1, HE.out.2.1, fun ad e => .inr (HE.out.2.2 ad e)⟩

set_option maxRecDepth 100000 in
set_option maxHeartbeats 8000000 in
theorem set_tail_below (act : Act) (x n k c : Nat) (A : Option Addr) (Y : List Du) (s : ByteArray) (a : Int) (w : World) (h : XAt w x A c Y) (hn : n = Y.length) (hk : k ≤ n) (hf : n ≤ 256) (b o : Nat) (hA : A = some ⟨b, o, none⟩) (hc : k < c)
    (hsz : act.tmps.size = 107) (hdf : act.defers = []) (g0 : act.tmps.getD 0 undef = .pointer (some ⟨x, 0, none⟩)) (g1 : act.tmps.getD 1 undef = .string s) (g2 : act.tmps.getD 2 undef = .int .i64 a) (g7 : act.tmps.getD 7 undef = .int .i64 (k : Int))
    (POST : Ending → World → Prop) (hP : ∀ e w', XPost w x A (.returned (.int .i64 0)) (Y.take k ++ [(s, a)] ++ Y.drop k) e w' → POST e w') :
    Code.wp Try.prog tail22 (bodyPost Try.prog Try.f22 POST) act w := by
  obtain ⟨u, hu, rfl⟩ := act_lit act hsz hdf
  rw [hu] at g0 g1 g2 g7
  rw [g0, g1, g2, g7]
  clear hsz hdf hu g0 g1 g2 g7
  have c0 := h.blk.cell 0
  have f0 := h.blk.frozen 0
  simp only [List.getElem?_toArray, List.getElem?_cons_zero] at c0 f0
  rw [← hn] at c0
  have hle := h.le
  rw [← hn] at hle
  have hcm := h.cm
  unfold maxLen at hcm
  have HP := Lib.hid hP
  have HN := Lib.hid hn
  have HB := Lib.hid h.blk
  have HR1 : Hid (RL w A (Y.take k)) := Lib.hid (h.rl.take (by omega))
  have HL1 : Hid ((Y.take k).length = k) := Lib.hid (by rw [List.length_take]; omega)
  have HL2 : Hid ((Y.drop k).length = n - k) := Lib.hid (by rw [List.length_drop]; omega)
  subst hA
  have HR2 : Hid (RL w (some ⟨b, o + k * 2, none⟩) (Y.drop k)) := Lib.hid (h.rl.drop k)
  obtain ⟨T1, hT1⟩ : ∃ T1, T1 = Y.take k := ⟨_, rfl⟩
  obtain ⟨T2, hT2⟩ : ∃ T2, T2 = Y.drop k := ⟨_, rfl⟩
  rw [← hT1, ← hT2] at HP
  rw [← hT1] at HR1 HL1
  rw [← hT2] at HR2 HL2
  clear h hP hn hT1 hT2
  obtain ⟨i0, hi0, hz0, hz1, hz2⟩ := info_parts infoDue
  have t0 : 0 < 2 := by omega
  have D1 := Lib.hid (dcells_one T1)
  have D2 := Lib.hid (dcells_one T2)
  have DM := Lib.hid (dcells_one [(s, a)])
  have q1 : (0 : Int) ≤ (k : Int) := by omega
  have q2 : (k : Int) ≤ (c : Int) := by omega
  have q3 : (k : Int) ≤ (n : Int) := by omega
  have q4 : (n : Int) ≤ (c : Int) := by omega
  have hkc : ¬ c = k := by omega
  have hS0 : w.drew.cell? ⟨x, 0, none⟩ = some (.slice (some ⟨b, o, none⟩) n c) := c0
  have HF0 : Hid (Fr (fun _ => False) w w.drew) := Lib.hid (Fr.drew (Fr.refl _ _))
  clear c0
  conv => arg 2; whnf
  go_wp2
  refine wp_region_last (S := (fun V : World => V.cell? ⟨x, 0, none⟩ = some (.slice (some ⟨b, o, none⟩) n c))) (st := 23) (n := 23) (by kernel_rfl) rfl (by kernel_rfl) rfl hS0 (fun hS1 => ?_)
  clear hS0
  refine wpAnyH_take (i := 0) (v := .pointer (some ⟨x, 0, none⟩)) rfl (by kernel_rfl) (by kernel_rfl) (by kernel_rfl) (fun _ _ _ h => h) (.inl ⟨by kernel_rfl, fun V hV => by go_simp⟩) hS1 ?_
  simp only [Act.put, List.setIfInBounds_toArray, List.set_cons_zero, List.set_cons_succ]
  refine wpAnyH_take (i := 2) (v := .pointer (some ⟨x, 0, none⟩)) rfl (by kernel_rfl) (by kernel_rfl) (by kernel_rfl) (fun _ _ _ h => h) (.inl ⟨by kernel_rfl, fun V hV => by go_simp⟩) hS1 ?_
  simp only [Act.put, List.setIfInBounds_toArray, List.set_cons_zero, List.set_cons_succ]
  refine wpAnyH_take (i := 3) (v := .pointer (some ⟨x, 0, none⟩)) rfl (by kernel_rfl) (by kernel_rfl) (by kernel_rfl) (fun _ _ _ h => h) (.inl ⟨by kernel_rfl, fun V hV => by go_simp⟩) hS1 ?_
  simp only [Act.put, List.setIfInBounds_toArray, List.set_cons_zero, List.set_cons_succ]
  refine wpAnyH_take (i := 4) (v := .pointer (some ⟨x, 0, none⟩)) rfl (by kernel_rfl) (by kernel_rfl) (by kernel_rfl) (fun _ _ _ h => h) (.inl ⟨by kernel_rfl, fun V hV => by go_simp⟩) hS1 ?_
  simp only [Act.put, List.setIfInBounds_toArray, List.set_cons_zero, List.set_cons_succ]
  refine wpAnyH_take (i := 5) (v := .slice (some ⟨b, o, none⟩) n c) rfl (by kernel_rfl) (by kernel_rfl) (by kernel_rfl) (fun _ _ _ h => h) (.inl ⟨by kernel_rfl, fun V hV => by go_simp⟩) hS1 ?_
  simp only [Act.put, List.setIfInBounds_toArray, List.set_cons_zero, List.set_cons_succ]
  refine wpAnyH_take (i := 6) (v := .int .i64 (k : Int)) rfl (by kernel_rfl) (by kernel_rfl) (by kernel_rfl) (fun _ _ _ h => h) (.inl ⟨by kernel_rfl, fun V hV => by go_simp⟩) hS1 ?_
  simp only [Act.put, List.setIfInBounds_toArray, List.set_cons_zero, List.set_cons_succ]
  refine wpAnyH_take (i := 7) (v := .slice (some ⟨b, o, none⟩) k c) rfl (by kernel_rfl) (by kernel_rfl) (by kernel_rfl) (fun _ _ _ h => h) (.inl ⟨by kernel_rfl, fun V hV => by go_simp⟩) hS1 ?_
  simp only [Act.put, List.setIfInBounds_toArray, List.set_cons_zero, List.set_cons_succ]
  refine wpAnyH_take (i := 9) (v := .string s) rfl (by kernel_rfl) (by kernel_rfl) (by kernel_rfl) (fun _ _ _ h => h) (.inl ⟨by kernel_rfl, fun V hV => by go_simp⟩) hS1 ?_
  simp only [Act.put, List.setIfInBounds_toArray, List.set_cons_zero, List.set_cons_succ]
  refine wpAnyH_take (i := 10) (v := .int .i64 a) rfl (by kernel_rfl) (by kernel_rfl) (by kernel_rfl) (fun _ _ _ h => h) (.inl ⟨by kernel_rfl, fun V hV => by go_simp⟩) hS1 ?_
  simp only [Act.put, List.setIfInBounds_toArray, List.set_cons_zero, List.set_cons_succ]
  refine wpAnyH_take (i := 11) (v := .agg #[.string s, .int .i64 a]) rfl (by kernel_rfl) (by kernel_rfl) (by kernel_rfl) (fun _ _ _ h => h) (.inl ⟨by kernel_rfl, fun V hV => by go_simp⟩) hS1 ?_
  simp only [Act.put, List.setIfInBounds_toArray, List.set_cons_zero, List.set_cons_succ]
  refine wpAnyH_take (i := 14) (v := .pointer (some ⟨x, 0, none⟩)) rfl (by kernel_rfl) (by kernel_rfl) (by kernel_rfl) (fun _ _ _ h => h) (.inl ⟨by kernel_rfl, fun V hV => by go_simp⟩) hS1 ?_
  simp only [Act.put, List.setIfInBounds_toArray, List.set_cons_zero, List.set_cons_succ]
  refine wpAnyH_take (i := 15) (v := .pointer (some ⟨x, 0, none⟩)) rfl (by kernel_rfl) (by kernel_rfl) (by kernel_rfl) (fun _ _ _ h => h) (.inl ⟨by kernel_rfl, fun V hV => by go_simp⟩) hS1 ?_
  simp only [Act.put, List.setIfInBounds_toArray, List.set_cons_zero, List.set_cons_succ]
  refine wpAnyH_take (i := 16) (v := .pointer (some ⟨x, 0, none⟩)) rfl (by kernel_rfl) (by kernel_rfl) (by kernel_rfl) (fun _ _ _ h => h) (.inl ⟨by kernel_rfl, fun V hV => by go_simp⟩) hS1 ?_
  simp only [Act.put, List.setIfInBounds_toArray, List.set_cons_zero, List.set_cons_succ]
  refine wpAnyH_take (i := 17) (v := .slice (some ⟨b, o, none⟩) n c) rfl (by kernel_rfl) (by kernel_rfl) (by kernel_rfl) (fun _ _ _ h => h) (.inl ⟨by kernel_rfl, fun V hV => by go_simp⟩) hS1 ?_
  simp only [Act.put, List.setIfInBounds_toArray, List.set_cons_zero, List.set_cons_succ]
  refine wpAnyH_take (i := 18) (v := .int .i64 (k : Int)) rfl (by kernel_rfl) (by kernel_rfl) (by kernel_rfl) (fun _ _ _ h => h) (.inl ⟨by kernel_rfl, fun V hV => by go_simp⟩) hS1 ?_
  simp only [Act.put, List.setIfInBounds_toArray, List.set_cons_zero, List.set_cons_succ]
  refine wpAnyH_take (i := 19) (v := .slice (some ⟨b, o + k * 2, none⟩) (n - k) (c - k)) rfl (by kernel_rfl) (by kernel_rfl) (by kernel_rfl) (fun _ _ _ h => h) (.inl ⟨by kernel_rfl, fun V hV => by go_simp⟩) hS1 ?_
  simp only [Act.put, List.setIfInBounds_toArray, List.set_cons_zero, List.set_cons_succ]
  refine wpAnyH_ready (rs := [1, 12]) (by kernel_rfl) (by simp) ?_
  refine AllReadyH.cons rfl (fun K' hK => ?_) (AllReadyH.cons rfl (fun K' hK => ?_) AllReadyH.nil)
  · go_simp
    refine hK.out _ _ ((World.cell?_alloc_lt _ _ _ (Nat.lt_of_lt_of_le HB.out.lt HF0.out.size)).trans hS1) (fun hS9 => ?_)
    clear hK K' hS1
    have hS1 := hS9
    clear hS9
    try simp only [Act.put, List.setIfInBounds_toArray, List.set_cons_zero, List.set_cons_succ]
    have HX0 := XNew.empty (x := x) HF0.out
    have HX0 := Lib.hid HX0
    refine wpAnyH_ready (rs := [8, 12]) (by kernel_rfl) (by simp) ?_
    refine AllReadyH.cons rfl (fun K' hK => ?_) (AllReadyH.cons rfl (fun K' hK => ?_) AllReadyH.nil)
    · have HRD1 := Lib.hid ((HX0.out.rl HR1.out).reads (.inr trivial))
      rw [HL1.out] at HRD1
      refine step_append_any _ (by rfl) (.tmp 85) (.tmp 91) 26 (by rfl) w.heap.size 44 i0 (.agg #[.string ⟨#[]⟩, .int .i64 0]) 2 24 Try.underlying26 hi0 hz0 hz1 hz2 rfl t0 (.slice (some ⟨w.heap.size, 0, none⟩) 0 0) 0 (dcells []) (by rfl) HX0.out.own _ (some ⟨b, o, none⟩) k c (dcells T1) (by rfl) HRD1.out D1.out (by unfold maxLen; omega) (by omega) HX0.out.fr.size ?_
      intro v1 w1 ho1 hg1 hat1
      have HX1 := Lib.hid (HX0.out.step (k := k) (Nat.zero_add k) ho1 hg1)
      have y0 := (HX1.out.blk HB.out).cell 0
      simp only [List.getElem?_toArray, List.getElem?_cons_zero, ← HN.out] at y0
      clear ho1 hg1 hat1
      refine hK.out _ _ (y0) (fun hS9 => ?_)
      clear hK K' hS1
      have hS1 := hS9
      clear hS9
      try simp only [Act.put, List.setIfInBounds_toArray, List.set_cons_zero, List.set_cons_succ]
      clear y0
      obtain ⟨A1, cc1, rfl⟩ := own_val HX1.out.own
      refine wpAnyH_ready (rs := [12]) (by kernel_rfl) (by simp) ?_
      refine AllReadyH.cons rfl (fun K' hK => ?_) AllReadyH.nil
      have HF1 := Lib.hid HX1.out.fr
      go_simp
      refine hK.out _ _ ((World.cell?_alloc_lt _ _ _ (Nat.lt_of_lt_of_le HB.out.lt HF1.out.size)).trans hS1) (fun hS9 => ?_)
      clear hK K' hS1
      have hS1 := hS9
      clear hS9
      try simp only [Act.put, List.setIfInBounds_toArray, List.set_cons_zero, List.set_cons_succ]
      have HM := RL.one w1 s a
      have HM := Lib.hid HM
      have HX1 := Lib.hid (HX1.out.alloc (.cells #[.string s, .int .i64 a] 44))
      refine wpAnyH_ready (rs := [13]) (by kernel_rfl) (by simp) ?_
      refine AllReadyH.cons rfl (fun K' hK => ?_) AllReadyH.nil
      have HMR := Lib.hid (HM.out.reads (.inr trivial))
      refine step_append_any _ (by rfl) (.tmp 92) (.tmp 96) 26 (by rfl) w.heap.size 44 i0 (.agg #[.string ⟨#[]⟩, .int .i64 0]) 2 24 Try.underlying26 hi0 hz0 hz1 hz2 rfl t0 (.slice A1 k cc1) k (dcells ([] ++ T1)) (by rfl) HX1.out.own _ _ 1 1 (dcells [(s, a)]) (by rfl) HMR.out DM.out (by unfold maxLen; omega) (by omega) HX1.out.fr.size ?_
      intro v2 w2 ho2 hg2 hat2
      have HX2 := Lib.hid (HX1.out.step rfl ho2 hg2)
      clear HMR HM
      have y0 := (HX2.out.blk HB.out).cell 0
      simp only [List.getElem?_toArray, List.getElem?_cons_zero, ← HN.out] at y0
      refine hK.out _ _ (y0) (fun hS9 => ?_)
      clear hK K' hS1
      have hS1 := hS9
      clear hS9
      try simp only [Act.put, List.setIfInBounds_toArray, List.set_cons_zero, List.set_cons_succ]
      clear y0 ho2 hg2 hat2
      obtain ⟨A2, cc2, rfl⟩ := own_val HX2.out.own
      refine wpAnyH_ready (rs := [20]) (by kernel_rfl) (by simp) ?_
      refine AllReadyH.cons rfl (fun K' hK => ?_) AllReadyH.nil
      have HRD2 := Lib.hid ((HX2.out.rl HR2.out).reads (.inr trivial))
      rw [HL2.out] at HRD2
      refine step_append_any _ (by rfl) (.tmp 97) (.tmp 103) 26 (by rfl) w.heap.size 44 i0 (.agg #[.string ⟨#[]⟩, .int .i64 0]) 2 24 Try.underlying26 hi0 hz0 hz1 hz2 rfl t0 (.slice A2 (k + 1) cc2) (k + 1) (dcells ([] ++ T1 ++ [(s, a)])) (by rfl) HX2.out.own _ (some ⟨b, o + k * 2, none⟩) (n - k) (c - k) (dcells T2) (by rfl) HRD2.out D2.out (by unfold maxLen; omega) (by omega) HX2.out.fr.size ?_
      intro v3 w3 ho3 hg3 hat3
      have HX3 := Lib.hid (HX2.out.step rfl ho3 hg3)
      have y0 := (HX3.out.blk HB.out).cell 0
      simp only [List.getElem?_toArray, List.getElem?_cons_zero, ← HN.out] at y0
      have y2 := (HX3.out.blk HB.out).frozen 0
      refine hK.out _ _ (y0) (fun hS9 => ?_)
      clear hK K' hS1
      have hS1 := hS9
      clear hS9
      try simp only [Act.put, List.setIfInBounds_toArray, List.set_cons_zero, List.set_cons_succ]
      clear ho3 hg3 hat3
      obtain ⟨A3, cc3, rfl⟩ := own_val HX3.out.own
      refine wpAnyH_take (i := 21) (v := .pointer (some ⟨x, 0, none⟩)) rfl (by kernel_rfl) (by kernel_rfl) (by kernel_rfl) (fun _ _ _ h => h) (.inl ⟨by kernel_rfl, fun V hV => by go_simp⟩) hS1 ?_
      simp only [Act.put, List.setIfInBounds_toArray, List.set_cons_zero, List.set_cons_succ]
      refine wpAnyH_take (i := 22) (v := .pointer (some ⟨x, 0, none⟩)) rfl (by kernel_rfl) (by kernel_rfl) (by kernel_rfl) (fun _ _ _ h => h) (.inl ⟨by kernel_rfl, fun V hV => by go_simp⟩) hS1 ?_
      simp only [Act.put, List.setIfInBounds_toArray, List.set_cons_zero, List.set_cons_succ]
      refine wpAnyH_done (by kernel_rfl) ?_ _
      refine lastQ_normal (wpOp_step rfl (fun K' hK => ?_))
      have HE := Lib.hid (HX3.out.done (c := cc3) (by rw [List.length_append, List.length_append, List.length_append, HL1.out, HL2.out, List.length_nil, List.length_singleton, Nat.zero_add]) HB.out)
      go_simp
      clear hS1 y0 y2
      refine hK _ _ ?_
      clear hK K'
      go_wp2
      exact HP.out _ _ ⟨A3, cc3, rfl, HE.out.1, HE.out.2.1, fun ad e => .inr (HE.out.2.2 ad e)⟩
    · have HF1 := Lib.hid HX0.out.fr
      go_simp
      refine hK.out _ _ ((World.cell?_alloc_lt _ _ _ (Nat.lt_of_lt_of_le HB.out.lt HF1.out.size)).trans hS1) (fun hS9 => ?_)
      clear hK K' hS1
      have hS1 := hS9
      clear hS9
      try simp only [Act.put, List.setIfInBounds_toArray, List.set_cons_zero, List.set_cons_succ]
      have HM := RL.one (w.drew.alloc (.cells #[] 44)) s a
      rw [World.size_alloc] at HM
      have HM := Lib.hid HM
      have HX0 := Lib.hid (HX0.out.alloc (.cells #[.string s, .int .i64 a] 44))
      refine wpAnyH_ready (rs := [8]) (by kernel_rfl) (by simp) ?_
      refine AllReadyH.cons rfl (fun K' hK => ?_) AllReadyH.nil
      have HRD1 := Lib.hid ((HX0.out.rl HR1.out).reads (.inr trivial))
      rw [HL1.out] at HRD1
      refine step_append_any _ (by rfl) (.tmp 85) (.tmp 91) 26 (by rfl) w.heap.size 44 i0 (.agg #[.string ⟨#[]⟩, .int .i64 0]) 2 24 Try.underlying26 hi0 hz0 hz1 hz2 rfl t0 (.slice (some ⟨w.heap.size, 0, none⟩) 0 0) 0 (dcells []) (by rfl) HX0.out.own _ (some ⟨b, o, none⟩) k c (dcells T1) (by rfl) HRD1.out D1.out (by unfold maxLen; omega) (by omega) HX0.out.fr.size ?_
      intro v1 w1 ho1 hg1 hat1
      have HX1 := Lib.hid (HX0.out.step (k := k) (Nat.zero_add k) ho1 hg1)
      have y0 := (HX1.out.blk HB.out).cell 0
      simp only [List.getElem?_toArray, List.getElem?_cons_zero, ← HN.out] at y0
      have HM := Lib.hid (HX0.out.keep HM.out (fun ad e e2 => by cases e; injection e2 with e3; simp at e3) hg1)
      clear ho1 hg1 hat1
      refine hK.out _ _ (y0) (fun hS9 => ?_)
      clear hK K' hS1
      have hS1 := hS9
      clear hS9
      try simp only [Act.put, List.setIfInBounds_toArray, List.set_cons_zero, List.set_cons_succ]
      clear y0
      obtain ⟨A1, cc1, rfl⟩ := own_val HX1.out.own
      refine wpAnyH_ready (rs := [13]) (by kernel_rfl) (by simp) ?_
      refine AllReadyH.cons rfl (fun K' hK => ?_) AllReadyH.nil
      have HMR := Lib.hid (HM.out.reads (.inr trivial))
      refine step_append_any _ (by rfl) (.tmp 92) (.tmp 96) 26 (by rfl) w.heap.size 44 i0 (.agg #[.string ⟨#[]⟩, .int .i64 0]) 2 24 Try.underlying26 hi0 hz0 hz1 hz2 rfl t0 (.slice A1 k cc1) k (dcells ([] ++ T1)) (by rfl) HX1.out.own _ _ 1 1 (dcells [(s, a)]) (by rfl) HMR.out DM.out (by unfold maxLen; omega) (by omega) HX1.out.fr.size ?_
      intro v2 w2 ho2 hg2 hat2
      have HX2 := Lib.hid (HX1.out.step rfl ho2 hg2)
      clear HMR HM
      have y0 := (HX2.out.blk HB.out).cell 0
      simp only [List.getElem?_toArray, List.getElem?_cons_zero, ← HN.out] at y0
      refine hK.out _ _ (y0) (fun hS9 => ?_)
      clear hK K' hS1
      have hS1 := hS9
      clear hS9
      try simp only [Act.put, List.setIfInBounds_toArray, List.set_cons_zero, List.set_cons_succ]
      clear y0 ho2 hg2 hat2
      obtain ⟨A2, cc2, rfl⟩ := own_val HX2.out.own
      refine wpAnyH_ready (rs := [20]) (by kernel_rfl) (by simp) ?_
      refine AllReadyH.cons rfl (fun K' hK => ?_) AllReadyH.nil
      have HRD2 := Lib.hid ((HX2.out.rl HR2.out).reads (.inr trivial))
      rw [HL2.out] at HRD2
      refine step_append_any _ (by rfl) (.tmp 97) (.tmp 103) 26 (by rfl) w.heap.size 44 i0 (.agg #[.string ⟨#[]⟩, .int .i64 0]) 2 24 Try.underlying26 hi0 hz0 hz1 hz2 rfl t0 (.slice A2 (k + 1) cc2) (k + 1) (dcells ([] ++ T1 ++ [(s, a)])) (by rfl) HX2.out.own _ (some ⟨b, o + k * 2, none⟩) (n - k) (c - k) (dcells T2) (by rfl) HRD2.out D2.out (by unfold maxLen; omega) (by omega) HX2.out.fr.size ?_
      intro v3 w3 ho3 hg3 hat3
      have HX3 := Lib.hid (HX2.out.step rfl ho3 hg3)
      have y0 := (HX3.out.blk HB.out).cell 0
      simp only [List.getElem?_toArray, List.getElem?_cons_zero, ← HN.out] at y0
      have y2 := (HX3.out.blk HB.out).frozen 0
      refine hK.out _ _ (y0) (fun hS9 => ?_)
      clear hK K' hS1
      have hS1 := hS9
      clear hS9
      try simp only [Act.put, List.setIfInBounds_toArray, List.set_cons_zero, List.set_cons_succ]
      clear ho3 hg3 hat3
      obtain ⟨A3, cc3, rfl⟩ := own_val HX3.out.own
      refine wpAnyH_take (i := 21) (v := .pointer (some ⟨x, 0, none⟩)) rfl (by kernel_rfl) (by kernel_rfl) (by kernel_rfl) (fun _ _ _ h => h) (.inl ⟨by kernel_rfl, fun V hV => by go_simp⟩) hS1 ?_
      simp only [Act.put, List.setIfInBounds_toArray, List.set_cons_zero, List.set_cons_succ]
      refine wpAnyH_take (i := 22) (v := .pointer (some ⟨x, 0, none⟩)) rfl (by kernel_rfl) (by kernel_rfl) (by kernel_rfl) (fun _ _ _ h => h) (.inl ⟨by kernel_rfl, fun V hV => by go_simp⟩) hS1 ?_
      simp only [Act.put, List.setIfInBounds_toArray, List.set_cons_zero, List.set_cons_succ]
      refine wpAnyH_done (by kernel_rfl) ?_ _
      refine lastQ_normal (wpOp_step rfl (fun K' hK => ?_))
      have HE := Lib.hid (HX3.out.done (c := cc3) (by rw [List.length_append, List.length_append, List.length_append, HL1.out, HL2.out, List.length_nil, List.length_singleton, Nat.zero_add]) HB.out)
      go_simp
      clear hS1 y0 y2
      refine hK _ _ ?_
      clear hK K'
      go_wp2
      exact HP.out _ _ ⟨A3, cc3, rfl, HE.out.1, HE.out.2.1, fun ad e => .inr (HE.out.2.2 ad e)⟩
  · go_simp
    refine hK.out _ _ ((World.cell?_alloc_lt _ _ _ (Nat.lt_of_lt_of_le HB.out.lt HF0.out.size)).trans hS1) (fun hS9 => ?_)
    clear hK K' hS1
    have hS1 := hS9
    clear hS9
    try simp only [Act.put, List.setIfInBounds_toArray, List.set_cons_zero, List.set_cons_succ]
    have HM := RL.one w.drew s a
    have HM := Lib.hid HM
    refine wpAnyH_ready (rs := [1]) (by kernel_rfl) (by simp) ?_
    refine AllReadyH.cons rfl (fun K' hK => ?_) AllReadyH.nil
    have HF1 : Hid (Fr (fun _ => False) w (w.drew.alloc (.cells #[.string s, .int .i64 a] 44))) := Lib.hid (HF0.out.alloc _)
    go_simp
    refine hK.out _ _ ((World.cell?_alloc_lt _ _ _ (Nat.lt_of_lt_of_le HB.out.lt HF1.out.size)).trans hS1) (fun hS9 => ?_)
    clear hK K' hS1
    have hS1 := hS9
    clear hS9
    try simp only [Act.put, List.setIfInBounds_toArray, List.set_cons_zero, List.set_cons_succ]
    have HX0 := XNew.empty (x := x) HF1.out
    rw [World.size_alloc] at HX0
    have HX0 := Lib.hid HX0
    have HM := Lib.hid (HM.out.below ((Below.refl _ _).alloc (Nat.le_refl _) (.cells #[] 44)))
    refine wpAnyH_ready (rs := [8]) (by kernel_rfl) (by simp) ?_
    refine AllReadyH.cons rfl (fun K' hK => ?_) AllReadyH.nil
    have HRD1 := Lib.hid ((HX0.out.rl HR1.out).reads (.inr trivial))
    rw [HL1.out] at HRD1
    refine step_append_any _ (by rfl) (.tmp 85) (.tmp 91) 26 (by rfl) w.heap.size 44 i0 (.agg #[.string ⟨#[]⟩, .int .i64 0]) 2 24 Try.underlying26 hi0 hz0 hz1 hz2 rfl t0 (.slice (some ⟨(w.drew.heap.size + 1), 0, none⟩) 0 0) 0 (dcells []) (by rfl) HX0.out.own _ (some ⟨b, o, none⟩) k c (dcells T1) (by rfl) HRD1.out D1.out (by unfold maxLen; omega) (by omega) HX0.out.fr.size ?_
    intro v1 w1 ho1 hg1 hat1
    have HX1 := Lib.hid (HX0.out.step (k := k) (Nat.zero_add k) ho1 hg1)
    have y0 := (HX1.out.blk HB.out).cell 0
    simp only [List.getElem?_toArray, List.getElem?_cons_zero, ← HN.out] at y0
    have HM := Lib.hid (HX0.out.keep HM.out (fun ad e e2 => by cases e; injection e2 with e3; simp at e3) hg1)
    clear ho1 hg1 hat1
    refine hK.out _ _ (y0) (fun hS9 => ?_)
    clear hK K' hS1
    have hS1 := hS9
    clear hS9
    try simp only [Act.put, List.setIfInBounds_toArray, List.set_cons_zero, List.set_cons_succ]
    clear y0
    obtain ⟨A1, cc1, rfl⟩ := own_val HX1.out.own
    refine wpAnyH_ready (rs := [13]) (by kernel_rfl) (by simp) ?_
    refine AllReadyH.cons rfl (fun K' hK => ?_) AllReadyH.nil
    have HMR := Lib.hid (HM.out.reads (.inr trivial))
    refine step_append_any _ (by rfl) (.tmp 92) (.tmp 96) 26 (by rfl) w.heap.size 44 i0 (.agg #[.string ⟨#[]⟩, .int .i64 0]) 2 24 Try.underlying26 hi0 hz0 hz1 hz2 rfl t0 (.slice A1 k cc1) k (dcells ([] ++ T1)) (by rfl) HX1.out.own _ _ 1 1 (dcells [(s, a)]) (by rfl) HMR.out DM.out (by unfold maxLen; omega) (by omega) HX1.out.fr.size ?_
    intro v2 w2 ho2 hg2 hat2
    have HX2 := Lib.hid (HX1.out.step rfl ho2 hg2)
    clear HMR HM
    have y0 := (HX2.out.blk HB.out).cell 0
    simp only [List.getElem?_toArray, List.getElem?_cons_zero, ← HN.out] at y0
    refine hK.out _ _ (y0) (fun hS9 => ?_)
    clear hK K' hS1
    have hS1 := hS9
    clear hS9
    try simp only [Act.put, List.setIfInBounds_toArray, List.set_cons_zero, List.set_cons_succ]
    clear y0 ho2 hg2 hat2
    obtain ⟨A2, cc2, rfl⟩ := own_val HX2.out.own
    refine wpAnyH_ready (rs := [20]) (by kernel_rfl) (by simp) ?_
    refine AllReadyH.cons rfl (fun K' hK => ?_) AllReadyH.nil
    have HRD2 := Lib.hid ((HX2.out.rl HR2.out).reads (.inr trivial))
    rw [HL2.out] at HRD2
    refine step_append_any _ (by rfl) (.tmp 97) (.tmp 103) 26 (by rfl) w.heap.size 44 i0 (.agg #[.string ⟨#[]⟩, .int .i64 0]) 2 24 Try.underlying26 hi0 hz0 hz1 hz2 rfl t0 (.slice A2 (k + 1) cc2) (k + 1) (dcells ([] ++ T1 ++ [(s, a)])) (by rfl) HX2.out.own _ (some ⟨b, o + k * 2, none⟩) (n - k) (c - k) (dcells T2) (by rfl) HRD2.out D2.out (by unfold maxLen; omega) (by omega) HX2.out.fr.size ?_
    intro v3 w3 ho3 hg3 hat3
    have HX3 := Lib.hid (HX2.out.step rfl ho3 hg3)
    have y0 := (HX3.out.blk HB.out).cell 0
    simp only [List.getElem?_toArray, List.getElem?_cons_zero, ← HN.out] at y0
    have y2 := (HX3.out.blk HB.out).frozen 0
    refine hK.out _ _ (y0) (fun hS9 => ?_)
    clear hK K' hS1
    have hS1 := hS9
    clear hS9
    try simp only [Act.put, List.setIfInBounds_toArray, List.set_cons_zero, List.set_cons_succ]
    clear ho3 hg3 hat3
    obtain ⟨A3, cc3, rfl⟩ := own_val HX3.out.own
    refine wpAnyH_take (i := 21) (v := .pointer (some ⟨x, 0, none⟩)) rfl (by kernel_rfl) (by kernel_rfl) (by kernel_rfl) (fun _ _ _ h => h) (.inl ⟨by kernel_rfl, fun V hV => by go_simp⟩) hS1 ?_
    simp only [Act.put, List.setIfInBounds_toArray, List.set_cons_zero, List.set_cons_succ]
    refine wpAnyH_take (i := 22) (v := .pointer (some ⟨x, 0, none⟩)) rfl (by kernel_rfl) (by kernel_rfl) (by kernel_rfl) (fun _ _ _ h => h) (.inl ⟨by kernel_rfl, fun V hV => by go_simp⟩) hS1 ?_
    simp only [Act.put, List.setIfInBounds_toArray, List.set_cons_zero, List.set_cons_succ]
    refine wpAnyH_done (by kernel_rfl) ?_ _
    refine lastQ_normal (wpOp_step rfl (fun K' hK => ?_))
    have HE := Lib.hid (HX3.out.done (c := cc3) (by rw [List.length_append, List.length_append, List.length_append, HL1.out, HL2.out, List.length_nil, List.length_singleton, Nat.zero_add]) HB.out)
    go_simp
    clear hS1 y0 y2
    refine hK _ _ ?_
    clear hK K'
    go_wp2
    exact HP.out _ _ ⟨A3, cc3, rfl, HE.out.1, HE.out.2.1, fun ad e => .inr (HE.out.2.2 ad e)⟩
end Go.Proofs.Ytdhilhjiccpkkaa
