/-
  search: the next one that was not visited.
-/
import Derived.Test.YthidjdjcjjbpbaaGreatDoorSeU2
import Derived.Test.YthidjdjcjjbpbaaGreatDoorSeC
namespace Go.Proofs.YthidjdjcjjbpbaaGreatDoor
open Go.RowKit Sea
set_option linter.unusedVariables false
set_option linter.unusedSimpArgs false

def restT (vis : List ByteArray) (s : List TE) : List TE := s.dropWhile (fun e => hasB vis e.d.name)
theorem restT_map (vis : List ByteArray) (s : List TE) : (restT vis s).map TE.todo = rest vis (s.map TE.todo) := by
  unfold restT rest
  rw [List.dropWhile_map]
  rfl
theorem restT_hit {vis : List ByteArray} {s : List TE} {k : Nat} {x : TE} (hk : k < s.length) (hx : x = s[k]) (h : hasB vis x.d.name = false) (hb : ∀ j (hj : j < s.length), j < k → hasB vis s[j].d.name = true) : restT vis s = x :: s.drop (k + 1) := by
  unfold restT
  induction s generalizing k with
  | nil => simp at hk
  | cons a s ih =>
    cases k with
    | zero =>
      simp at hx
      subst hx
      rw [List.dropWhile_cons_of_neg (by simp [h])]
      rfl
    | succ k =>
      have h0 := hb 0 (by simp) (by omega)
      rw [List.dropWhile_cons_of_pos (by simpa using h0)]
      exact ih (by simpa using hk) (by simpa using hx) (fun j hj hjk => hb (j + 1) (by simpa using hj) (by omega))
theorem restT_miss {vis : List ByteArray} {s : List TE} (hb : ∀ j (hj : j < s.length), hasB vis s[j].d.name = true) : restT vis s = [] := by
  unfold restT
  induction s with
  | nil => rfl
  | cons a s ih =>
    have h0 := hb 0 (by simp)
    rw [List.dropWhile_cons_of_pos (by simpa using h0)]
    exact ih (fun j hj => hb (j + 1) (by simpa using hj))
def PopP (w : World) (m base : Nat) (vis : List ByteArray) (s : List TE) (e : Ending) (w' : World) : Prop :=
  ∃ x b, e = .returned (.tuple #[.agg x, .bool b]) ∧ Fr (· = m) w w' ∧ SameV m w w' ∧ ((b = false ∧ x = #[.string ⟨#[]⟩, .slice none 0 0, .int .i64 0, .bool false, .slice none 0 0, .slice none 0 0, .slice none 0 0] ∧ restT vis s = [] ∧ StkAt w' m base vis []) ∨ (b = true ∧ ∃ y r, restT vis s = y :: r ∧ x = y.cs.toArray ∧ StkAt w' m base vis r ∧ TOk w' base y))
/-- what is left of the stack -/
theorem StkAt.cut {w w' : World} {m base : Nat} {vis : List ByteArray} {s : List TE} {vA A' : Option Addr} {k b o c vc c' n' : Nat} {x : TE} (h : StkAt w m base vis s) (hk : k < s.length) (hx : x = s[k]) (hm : Blk w m 67 #[.slice (some ⟨b, o, none⟩) s.length c, .slice vA vis.length vc]) (hf : Fr (fun g => g = m ∨ w.heap.size ≤ g) w w') (hA' : A' = some ⟨b, o + (k + 1) * 7, none⟩ ∨ (A' = some ⟨b, o, none⟩ ∧ s.length = k + 1)) (hn' : n' = s.length - (k + 1)) (hc1 : n' ≤ c') (hc2 : c' ≤ maxLen) (hm' : Blk w' m 67 #[.slice A' n' c', .slice vA vis.length vc]) : StkAt w' m base vis (s.drop (k + 1)) ∧ TOk w' base x ∧ Fr (· = m) w w' := by
  subst hx
  have hf' : Fr (· = m) w w' := hf.mono (fun j hj e => by rcases e with e | e; exact e; omega)
  have kk : ∀ t, t ≠ 67 → ∀ g cs, Blk w g t cs → ¬ g = m := fun t ht g cs hb e => by subst e; exact hb.ne_ hm ht rfl
  obtain ⟨A, c0, vv, h1, h2, h3, h4, h5, h6⟩ := h.blk
  have e1 : (#[.slice A s.length c0, vv] : Array Value) = #[.slice (some ⟨b, o, none⟩) s.length c, .slice vA vis.length vc] := by
    have q1 : w.heap[m]? = some (.cells #[.slice A s.length c0, vv] 67) := h1
    have q2 : w.heap[m]? = some (.cells #[.slice (some ⟨b, o, none⟩) s.length c, .slice vA vis.length vc] 67) := hm
    rw [q1] at q2
    injection q2 with q2
    injection q2 with q2
  simp only [Array.mk.injEq, List.cons.injEq, Value.slice.injEq, true_and, and_true] at e1
  obtain ⟨⟨rfl, rfl⟩, rfl⟩ := e1
  obtain ⟨g1, g2, cs, g3⟩ := h5 _ rfl
  have hrd := Reads.fr h4 hf' (Nat.le_refl _) (fun ad e => by cases e; exact kk _ (by decide) _ _ g3)
  refine ⟨⟨⟨A', c', _, by rw [List.length_drop, ← hn']; exact hm', by rw [List.length_drop, ← hn']; exact hc1, hc2, ?_, ?_, OG.frT h6 hf' (kk _ (by decide))⟩, fun e he => (h.ok e (List.mem_of_mem_drop he)).frT hf' (kk _ (by decide))⟩, (h.ok _ (List.getElem_mem hk)).frT hf' (kk _ (by decide)), hf'⟩
  · refine ⟨flat_len' TE.len _, fun h0 => ?_⟩
    rcases hA' with rfl | ⟨_, q⟩
    rotate_left
    · rw [List.length_drop] at h0; omega
    refine ⟨_, rfl, Nat.lt_of_lt_of_le g3.lt hf'.size, fun j u hu => ?_⟩
    obtain ⟨ad, e, _, hc⟩ := hrd.2 (by omega)
    cases e
    have := hc ((k + 1) * 7 + j) u ?_
    · rw [Addr.add_lit] at this ⊢
      rw [Nat.add_assoc]; exact this
    · have hsp : s.flatMap TE.cs = (s.take (k + 1)).flatMap TE.cs ++ (s.drop (k + 1)).flatMap TE.cs := by rw [← List.flatMap_append, List.take_append_drop]
      have hl : ((s.take (k + 1)).flatMap TE.cs).length = (k + 1) * 7 := by rw [flat_len' TE.len, List.length_take, Nat.min_eq_left (by omega)]
      rw [hsp, List.getElem?_append_right (by omega), hl, show (k + 1) * 7 + j - (k + 1) * 7 = j by omega]
      exact hu
  · intro ad e
    rcases hA' with rfl | ⟨rfl, _⟩
    · cases e; exact ⟨g1, rfl, cs, g3.fr hf' (kk _ (by decide) _ _ g3)⟩
    · cases e; exact ⟨g1, rfl, cs, g3.fr hf' (kk _ (by decide) _ _ g3)⟩
set_option maxRecDepth 100000 in
set_option maxHeartbeats 8000000 in
theorem pop_any (m base : Nat) (vis : List ByteArray) (s : List TE) (w : World) (hst : StkAt w m base vis s) (hsl : s.length ≤ 100000) (hvl : vis.length ≤ 1000) :
    Calls Tryz.prog 28 #[.pointer (some ⟨m, 0, none⟩)] w fun e w' => PF (PopP w m base vis s) e w' := by
  obtain ⟨A, c, vv, hm, hn, hc, hr, had, hv⟩ := hst.blk
  obtain ⟨vA, vc, rfl, hv1, hv2, hv3, hv4⟩ := OG.form hv
  obtain ⟨W1, hW1⟩ : ∃ W1, W1 = w.alloc (.cells #[.string ⟨#[]⟩, .slice none 0 0, .int .i64 0, .bool false, .slice none 0 0, .slice none 0 0, .slice none 0 0] 70) := ⟨_, rfl⟩
  have hb1 : Below w.heap.size w W1 := by rw [hW1]; exact (Below.refl _ _).alloc (Nat.le_refl _) _
  have hz1 : Blk W1 w.heap.size 70 #[.string ⟨#[]⟩, .slice none 0 0, .int .i64 0, .bool false, .slice none 0 0, .slice none 0 0, .slice none 0 0] := by rw [hW1]; exact Blk.new _ _ _
  have m0 : (w.alloc (.cells #[.string ⟨#[]⟩, .slice none 0 0, .int .i64 0, .bool false, .slice none 0 0, .slice none 0 0, .slice none 0 0] 70)).cell? ⟨m, 0, none⟩ = some (.slice A s.length c) := by rw [← hW1]; exact (hm.below hb1 hm.lt).cell 0
  have HST := Lib.hid hst
  have HM := Lib.hid hm
  have HN := Lib.hid hn
  have HC := Lib.hid hc
  have HR := Lib.hid hr
  have HAD := Lib.hid had
  have HVO := Lib.hid hv
  have HSV : Hid (StrV w vA vis) := Lib.hid ⟨⟨by rw [List.length_map]; omega, fun h0 => hv3.2 h0⟩, fun ad e => by obtain ⟨_, _, h3, h4, _⟩ := hv4 ad e; exact ⟨ad.block, ad.off, by cases ad; simp at h4; subst h4; rfl⟩⟩
  have HSL := Lib.hid hsl
  have HVL := Lib.hid hvl
  have HB1 := Lib.hid hb1
  have HZ1 := Lib.hid hz1
  have HW1 := Lib.hid hW1
  clear hst hm hn hc hr had hv hv1 hv2 hv3 hv4 hsl hvl hb1 hz1 hW1
  go_enter Tryz.func28, Tryz.ntmps28
  go_wp2
  rw [← HW1.out]
  clear m0
  go_loopw [4, 5, 11] (fun _ _ i wr => ∃ k : Nat, k ≤ s.length ∧ i = .int .i64 (k : Int) ∧ Hid (∀ j (hj : j < s.length), j < k → hasB vis s[j].d.name = true) ∧ Hid (Below W1.heap.size W1 wr)) (fun _ _ i _ => s.length - (intOf i).toNat)
  case atStart => exact ⟨0, Nat.zero_le _, rfl, Lib.hid (fun j hj h => by omega), Lib.hid (Below.refl _ _)⟩
  case round =>
    obtain ⟨k, hk, rfl, HB, HW⟩ := hrel
    have HBW : Hid (Below w.heap.size w wr) := Lib.hid (HB1.out.trans (HW.out.mono HB1.out.size))
    rcases (by omega : k < s.length ∨ k = s.length) with hlt | heq
    · have q5 : decide ((k : Int) < (s.length : Int)) = true := by rw [decide_eq_true_iff]; omega
      have q5' : decide (k < s.length) = true := by rw [decide_eq_true_iff]; omega
      obtain ⟨b, o, hA, hbl, hcs⟩ := reads_at TE.len HR.out (fun ad e => (HAD.out ad e).2.1) hlt
      have HLT := Lib.hid hlt
      obtain ⟨x, hx, hcs⟩ : ∃ x, x = s[k] ∧ ∀ j, j < 7 → w.cell? ⟨b, o + k * 7 + j, none⟩ = x.cs[j]? := ⟨_, rfl, hcs⟩
      have d0 : wr.cell? ⟨b, o + k * 7, none⟩ = some (.string x.d.name) := (HBW.out.cell hbl).trans (hcs 0 (by omega))
      obtain ⟨kA, kc, hkv, _⟩ := (HST.out.ok x (by rw [hx]; exact List.getElem_mem hlt)).form
      have d1 : wr.cell? ⟨b, o + k * 7 + 1, none⟩ = some (.slice x.a.kA x.d.rk.length x.a.kc) := (HBW.out.cell hbl).trans (hcs 1 (by omega))
      have d2 : wr.cell? ⟨b, o + k * 7 + 2, none⟩ = some (.int .i64 x.d.thr) := (HBW.out.cell hbl).trans (hcs 2 (by omega))
      have d3 : wr.cell? ⟨b, o + k * 7 + 3, none⟩ = some (.bool x.d.term) := (HBW.out.cell hbl).trans (hcs 3 (by omega))
      have d4 : wr.cell? ⟨b, o + k * 7 + 4, none⟩ = some (.slice x.a.pA x.d.paths.length x.a.pc) := (HBW.out.cell hbl).trans (hcs 4 (by omega))
      have d5 : wr.cell? ⟨b, o + k * 7 + 5, none⟩ = some (.slice x.a.xA x.d.prefs.length x.a.xc) := (HBW.out.cell hbl).trans (hcs 5 (by omega))
      have d6 : wr.cell? ⟨b, o + k * 7 + 6, none⟩ = some (.slice kA x.ks.length kc) := (HBW.out.cell hbl).trans ((hcs 6 (by omega)).trans (by simp [TE.cs, hkv]))
      have HKV := Lib.hid hkv
      have HX := Lib.hid hx
      have HA := Lib.hid hA
      have hki : (k : Int) < (s.length : Int) := by omega
      have hk0 : (0 : Int) ≤ (k : Int) := by omega
      have hk9 : (k : Int) + 1 ≤ 1000000 := by have := HSL.out; omega
      obtain ⟨W2, hW2⟩ : ∃ W2, W2 = wr.alloc (.cells #[.string x.d.name, .slice x.a.kA x.d.rk.length x.a.kc, .int .i64 x.d.thr, .bool x.d.term, .slice x.a.pA x.d.paths.length x.a.pc, .slice x.a.xA x.d.prefs.length x.a.xc, .slice kA x.ks.length kc] 70) := ⟨_, rfl⟩
      have hb2 : Below wr.heap.size wr W2 := by rw [hW2]; exact (Below.refl _ _).alloc (Nat.le_refl _) _
      have hq2 : Blk W2 wr.heap.size 70 #[.string x.d.name, .slice x.a.kA x.d.rk.length x.a.kc, .int .i64 x.d.thr, .bool x.d.term, .slice x.a.pA x.d.paths.length x.a.pc, .slice x.a.xA x.d.prefs.length x.a.xc, .slice kA x.ks.length kc] := by rw [hW2]; exact Blk.new _ _ _
      have HB2 : Hid (Below w.heap.size w W2) := Lib.hid (HBW.out.trans (hb2.mono HBW.out.size))
      have HK2 := Lib.hid (HM.out.below HB2.out HM.out.lt)
      have HZ2 := Lib.hid (((HZ1.out.below HW.out HZ1.out.lt)).below hb2 (Nat.lt_of_lt_of_le HZ1.out.lt HW.out.size))
      have HSK2 : Hid (W2.drew.cell? ⟨m, 1, none⟩ = some (.slice vA vis.length vc)) := Lib.hid (HK2.out.cell 1)
      have HNM2 : Hid (W2.drew.cell? ⟨wr.heap.size, 0, none⟩ = some (.string x.d.name)) := Lib.hid (hq2.cell 0)
      have HQ2 := Lib.hid hq2
      have HW2 := Lib.hid hW2
      have HNE : Hid (wr.heap.size ≠ m ∧ w.heap.size ≠ m ∧ wr.heap.size ≠ w.heap.size) := Lib.hid (by have := HM.out.lt; have := HBW.out.size; have := HZ1.out.lt; have := HW.out.size; omega)
      obtain ⟨cv, hcv⟩ : ∃ cv, cv = hasB vis x.d.name := ⟨_, rfl⟩
      have hcc := contains_any vA vis.length vc vis x.d.name W2.drew ⟨((HSV.out.1.below HB2.out.drew)), HSV.out.2⟩ rfl (by have := HVL.out; omega)
      rw [← hcv] at hcc
      have HCC := Lib.hid hcc
      have HCV := Lib.hid hcv.symm
      rw [hA]
      clear hA hbl hcs hx hkv hb2 hq2 hW2 hcc hcv
      go_wp2
      rw [← HW2.out]
      refine wp_region_held_drew (S := fun V => V = W2.drew) (by kernel_rfl) (rfl) (fun hS1 => ?_)
      refine wpAnyH_take (i := 0) (oi := ⟨some 16, _, _, _, _, _⟩) (v := .pointer (some ⟨m, 0, none⟩)) rfl (by kernel_rfl) (by kernel_rfl) (by kernel_rfl) (fun _ _ _ h => h) (.inl ⟨by kernel_rfl, fun V hS => by go_simp⟩) hS1 ?_
      simp only [Act.put, List.setIfInBounds_toArray, List.set_cons_zero, List.set_cons_succ]
      refine wpAnyH_take (i := 1) (oi := ⟨some 17, _, _, _, _, _⟩) (v := .pointer (some ⟨m, 0, none⟩)) rfl (by kernel_rfl) (by kernel_rfl) (by kernel_rfl) (fun _ _ _ h => h) (.inl ⟨by kernel_rfl, fun V hS => by go_simp⟩) hS1 ?_
      simp only [Act.put, List.setIfInBounds_toArray, List.set_cons_zero, List.set_cons_succ]
      refine wpAnyH_take (i := 2) (oi := ⟨some 18, _, _, _, _, _⟩) (v := .pointer (some ⟨m, 1, none⟩)) rfl (by kernel_rfl) (by kernel_rfl) (by kernel_rfl) (fun _ _ _ h => h) (.inl ⟨by kernel_rfl, fun V hS => by go_simp⟩) hS1 ?_
      simp only [Act.put, List.setIfInBounds_toArray, List.set_cons_zero, List.set_cons_succ]
      refine wpAnyH_take (i := 3) (oi := ⟨some 19, _, _, _, _, _⟩) (v := .slice vA vis.length vc) rfl (by kernel_rfl) (by kernel_rfl) (by kernel_rfl) (fun _ _ _ h => h) (.inl ⟨by kernel_rfl, fun V hS => by subst hS; have sc := HSK2.out; go_simp⟩) hS1 ?_
      simp only [Act.put, List.setIfInBounds_toArray, List.set_cons_zero, List.set_cons_succ]
      refine wpAnyH_take (i := 4) (oi := ⟨some 20, _, _, _, _, _⟩) (v := .pointer (some ⟨wr.heap.size, 0, none⟩)) rfl (by kernel_rfl) (by kernel_rfl) (by kernel_rfl) (fun _ _ _ h => h) (.inl ⟨by kernel_rfl, fun V hS => by go_simp⟩) hS1 ?_
      simp only [Act.put, List.setIfInBounds_toArray, List.set_cons_zero, List.set_cons_succ]
      refine wpAnyH_take (i := 5) (oi := ⟨some 21, _, _, _, _, _⟩) (v := .pointer (some ⟨wr.heap.size, 0, none⟩)) rfl (by kernel_rfl) (by kernel_rfl) (by kernel_rfl) (fun _ _ _ h => h) (.inl ⟨by kernel_rfl, fun V hS => by go_simp⟩) hS1 ?_
      simp only [Act.put, List.setIfInBounds_toArray, List.set_cons_zero, List.set_cons_succ]
      refine wpAnyH_take (i := 6) (oi := ⟨some 22, _, _, _, _, _⟩) (v := .string x.d.name) rfl (by kernel_rfl) (by kernel_rfl) (by kernel_rfl) (fun _ _ _ h => h) (.inl ⟨by kernel_rfl, fun V hS => by subst hS; have sc := HNM2.out; go_simp⟩) hS1 ?_
      simp only [Act.put, List.setIfInBounds_toArray, List.set_cons_zero, List.set_cons_succ]
      refine wpAnyH_ready (rs := [7]) (by kernel_rfl) (by simp) ?_
      refine AllReadyH.cons rfl (fun K' hK => ?_) AllReadyH.nil
      go_simp
      refine HCC.out.mono ?_
      rintro e w3 ⟨rfl, rfl⟩
      go_simp
      refine hK.out _ _ (rfl) (fun hS2 => ?_)
      clear hK K' hS1
      refine wpAnyH_take (i := 8) (oi := ⟨some 24, _, _, _, _, _⟩) (v := .bool (!cv)) rfl (by kernel_rfl) (by kernel_rfl) (by kernel_rfl) (fun _ _ _ h => h) (.inl ⟨by kernel_rfl, fun V hS => by go_simp⟩) hS2 ?_
      simp only [Act.put, List.setIfInBounds_toArray, List.set_cons_zero, List.set_cons_succ]
      refine wpAnyH_done (by kernel_rfl) ?_ _
      obtain ⟨V2, hV2⟩ : ∃ V2, V2 = W2.drew := ⟨_, rfl⟩
      have HBV2 : Hid (Below w.heap.size w V2) := Lib.hid (by rw [hV2]; exact HB2.out.drew)
      have HKV2 : Hid (Blk V2 m 67 #[.slice A s.length c, .slice vA vis.length vc]) := Lib.hid (by rw [hV2]; exact HK2.out)
      have HQV2 : Hid (Blk V2 wr.heap.size 70 #[.string x.d.name, .slice x.a.kA x.d.rk.length x.a.kc, .int .i64 x.d.thr, .bool x.d.term, .slice x.a.pA x.d.paths.length x.a.pc, .slice x.a.xA x.d.prefs.length x.a.xc, .slice kA x.ks.length kc]) := Lib.hid (by rw [hV2]; exact HQ2.out)
      have HZV2 : Hid (Blk V2 w.heap.size 70 #[.string ⟨#[]⟩, .slice none 0 0, .int .i64 0, .bool false, .slice none 0 0, .slice none 0 0, .slice none 0 0]) := Lib.hid (by rw [hV2]; exact HZ2.out)
      have HWV2 : Hid (Below W1.heap.size W1 V2) := Lib.hid (by rw [hV2, HW2.out]; exact (HW.out.alloc HW.out.size _).drew)
      have g0 : V2.cell? ⟨m, 0, none⟩ = some (.slice (some ⟨b, o, none⟩) s.length c) := (show V2.cell? ⟨m, 0, none⟩ = some (.slice A s.length c) from HKV2.out.cell 0).trans (by rw [HA.out])
      have g9 : V2.frozen? ⟨m, 0, none⟩ = false := HKV2.out.frozen 0
      rw [← hV2]
      clear hV2 hS2 HQ2 HZ2 HK2 HSK2 HNM2 HW2 HB2 HCC d0 d1 d2 d3 d4 d5 d6
      cases cv with
      | true =>
        clear g0 g9
        simp only [Bool.not_true]
        go_wp2
        go_roundw
        case rel => exact ⟨k + 1, by omega, by go_num, Lib.hid (fun j hj h => by
          rcases (by omega : j < k ∨ j = k) with h1 | h1
          · exact HB.out j hj h1
          · subst h1; have h0 := HX.out; have h9 := HCV.out; subst h0; exact h9), HWV2⟩
        case measure => simp [intOf]; omega
      | false =>
        have hsc : s.length ≤ c := HN.out
        obtain ⟨p, hp⟩ : ∃ p, p = k + 1 := ⟨_, rfl⟩
        have hkp : (k : Int) + 1 = (p : Int) := by omega
        have hp1 : (p : Int) ≤ (s.length : Int) := by omega
        have hp2 : (0 : Int) ≤ (p : Int) := by omega
        have hp3 : (p : Int) ≤ (c : Int) := by omega
        have hp4 : (p : Int) ≤ 9223372036854775807 := by omega
        have HPK := Lib.hid hp
        simp only [Bool.not_false]
        rcases (by omega : c = p ∨ c ≠ p) with hcp | hcp
        · have HCP : Hid (s.length = p) := Lib.hid (by omega)
          clear hp hk9 hki q5 q5' hsc
          have HK3 := Lib.hid (HKV2.out.set_ 0 (.slice (some ⟨b, o, none⟩) (s.length - p) 0))
          have hfm : Fr (fun g => g = m) V2 (V2.setCell ⟨m, 0, none⟩ (.slice (some ⟨b, o, none⟩) (s.length - p) 0)) := fr_at _ _ _ _
          have HQ3 := Lib.hid (HQV2.out.fr hfm HNE.out.1)
          have HZ3 := Lib.hid (HZV2.out.fr hfm HNE.out.2.1)
          obtain ⟨V3, hV3⟩ : ∃ V3, V3 = V2.setCell ⟨m, 0, none⟩ (.slice (some ⟨b, o, none⟩) (s.length - p) 0) := ⟨_, rfl⟩
          rw [← hV3] at HK3 hfm HQ3 HZ3
          have HFM := Lib.hid hfm
          have y0 : (V2.setCell ⟨m, 0, none⟩ (.slice (some ⟨b, o, none⟩) (s.length - p) 0)).cell? ⟨wr.heap.size, 0, none⟩ = some (.string x.d.name) := by rw [← hV3]; exact HQ3.out.cell 0
          have y1 : (V2.setCell ⟨m, 0, none⟩ (.slice (some ⟨b, o, none⟩) (s.length - p) 0)).cell? ⟨wr.heap.size, 1, none⟩ = some (.slice x.a.kA x.d.rk.length x.a.kc) := by rw [← hV3]; exact HQ3.out.cell 1
          have y2 : (V2.setCell ⟨m, 0, none⟩ (.slice (some ⟨b, o, none⟩) (s.length - p) 0)).cell? ⟨wr.heap.size, 2, none⟩ = some (.int .i64 x.d.thr) := by rw [← hV3]; exact HQ3.out.cell 2
          have y3 : (V2.setCell ⟨m, 0, none⟩ (.slice (some ⟨b, o, none⟩) (s.length - p) 0)).cell? ⟨wr.heap.size, 3, none⟩ = some (.bool x.d.term) := by rw [← hV3]; exact HQ3.out.cell 3
          have y4 : (V2.setCell ⟨m, 0, none⟩ (.slice (some ⟨b, o, none⟩) (s.length - p) 0)).cell? ⟨wr.heap.size, 4, none⟩ = some (.slice x.a.pA x.d.paths.length x.a.pc) := by rw [← hV3]; exact HQ3.out.cell 4
          have y5 : (V2.setCell ⟨m, 0, none⟩ (.slice (some ⟨b, o, none⟩) (s.length - p) 0)).cell? ⟨wr.heap.size, 5, none⟩ = some (.slice x.a.xA x.d.prefs.length x.a.xc) := by rw [← hV3]; exact HQ3.out.cell 5
          have y6 : (V2.setCell ⟨m, 0, none⟩ (.slice (some ⟨b, o, none⟩) (s.length - p) 0)).cell? ⟨wr.heap.size, 6, none⟩ = some (.slice kA x.ks.length kc) := by rw [← hV3]; exact HQ3.out.cell 6
          have z0 : (V2.setCell ⟨m, 0, none⟩ (.slice (some ⟨b, o, none⟩) (s.length - p) 0)).cell? ⟨w.heap.size, 0, none⟩ = some (.string ⟨#[]⟩) := by rw [← hV3]; exact HZ3.out.cell 0
          have f0 : (V2.setCell ⟨m, 0, none⟩ (.slice (some ⟨b, o, none⟩) (s.length - p) 0)).frozen? ⟨w.heap.size, 0, none⟩ = false := by rw [← hV3]; exact HZ3.out.frozen 0
          have z1 : (V2.setCell ⟨m, 0, none⟩ (.slice (some ⟨b, o, none⟩) (s.length - p) 0)).cell? ⟨w.heap.size, 1, none⟩ = some (.slice none 0 0) := by rw [← hV3]; exact HZ3.out.cell 1
          have f1 : (V2.setCell ⟨m, 0, none⟩ (.slice (some ⟨b, o, none⟩) (s.length - p) 0)).frozen? ⟨w.heap.size, 1, none⟩ = false := by rw [← hV3]; exact HZ3.out.frozen 1
          have z2 : (V2.setCell ⟨m, 0, none⟩ (.slice (some ⟨b, o, none⟩) (s.length - p) 0)).cell? ⟨w.heap.size, 2, none⟩ = some (.int .i64 0) := by rw [← hV3]; exact HZ3.out.cell 2
          have f2 : (V2.setCell ⟨m, 0, none⟩ (.slice (some ⟨b, o, none⟩) (s.length - p) 0)).frozen? ⟨w.heap.size, 2, none⟩ = false := by rw [← hV3]; exact HZ3.out.frozen 2
          have z3 : (V2.setCell ⟨m, 0, none⟩ (.slice (some ⟨b, o, none⟩) (s.length - p) 0)).cell? ⟨w.heap.size, 3, none⟩ = some (.bool false) := by rw [← hV3]; exact HZ3.out.cell 3
          have f3 : (V2.setCell ⟨m, 0, none⟩ (.slice (some ⟨b, o, none⟩) (s.length - p) 0)).frozen? ⟨w.heap.size, 3, none⟩ = false := by rw [← hV3]; exact HZ3.out.frozen 3
          have z4 : (V2.setCell ⟨m, 0, none⟩ (.slice (some ⟨b, o, none⟩) (s.length - p) 0)).cell? ⟨w.heap.size, 4, none⟩ = some (.slice none 0 0) := by rw [← hV3]; exact HZ3.out.cell 4
          have f4 : (V2.setCell ⟨m, 0, none⟩ (.slice (some ⟨b, o, none⟩) (s.length - p) 0)).frozen? ⟨w.heap.size, 4, none⟩ = false := by rw [← hV3]; exact HZ3.out.frozen 4
          have z5 : (V2.setCell ⟨m, 0, none⟩ (.slice (some ⟨b, o, none⟩) (s.length - p) 0)).cell? ⟨w.heap.size, 5, none⟩ = some (.slice none 0 0) := by rw [← hV3]; exact HZ3.out.cell 5
          have f5 : (V2.setCell ⟨m, 0, none⟩ (.slice (some ⟨b, o, none⟩) (s.length - p) 0)).frozen? ⟨w.heap.size, 5, none⟩ = false := by rw [← hV3]; exact HZ3.out.frozen 5
          have z6 : (V2.setCell ⟨m, 0, none⟩ (.slice (some ⟨b, o, none⟩) (s.length - p) 0)).cell? ⟨w.heap.size, 6, none⟩ = some (.slice none 0 0) := by rw [← hV3]; exact HZ3.out.cell 6
          have f6 : (V2.setCell ⟨m, 0, none⟩ (.slice (some ⟨b, o, none⟩) (s.length - p) 0)).frozen? ⟨w.heap.size, 6, none⟩ = false := by rw [← hV3]; exact HZ3.out.frozen 6
          have HV3 := Lib.hid hV3
          clear hV3 hfm
          go_wp2
          rw [← HV3.out]
          have HFIN := Lib.hid ((((((((HZ3.out.set_ 0 (.string x.d.name)).set_ 1 (.slice x.a.kA x.d.rk.length x.a.kc)).set_ 2 (.int .i64 x.d.thr)).set_ 3 (.bool x.d.term)).set_ 4 (.slice x.a.pA x.d.paths.length x.a.pc)).set_ 5 (.slice x.a.xA x.d.prefs.length x.a.xc)).set_ 6 (.slice kA x.ks.length kc)))
          have k0 := HFIN.out.cell 0
          have k1 := HFIN.out.cell 1
          have k2 := HFIN.out.cell 2
          have k3 := HFIN.out.cell 3
          have k4 := HFIN.out.cell 4
          have k5 := HFIN.out.cell 5
          have k6 := HFIN.out.cell 6
          simp at k0 k1 k2 k3 k4 k5 k6
          refine bodyPost_ret (v := .tuple #[.agg #[.string x.d.name, .slice x.a.kA x.d.rk.length x.a.kc, .int .i64 x.d.thr, .bool x.d.term, .slice x.a.pA x.d.paths.length x.a.pc, .slice x.a.xA x.d.prefs.length x.a.xc, .slice kA x.ks.length kc], .bool true]) (by simp [results, Tryz.results28, go_sem, k0, k1, k2, k3, k4, k5, k6]) rfl ?_
          have hfz : Fr (fun b => b = w.heap.size) V3 _ := (Fr.setCell (S := fun b => b = w.heap.size) (Fr.setCell (S := fun b => b = w.heap.size) (Fr.setCell (S := fun b => b = w.heap.size) (Fr.setCell (S := fun b => b = w.heap.size) (Fr.setCell (S := fun b => b = w.heap.size) (Fr.setCell (S := fun b => b = w.heap.size) (Fr.setCell (S := fun b => b = w.heap.size) (Fr.refl (fun b => b = w.heap.size) V3) (p := ⟨w.heap.size, 0, none⟩) (fun _ => rfl) (.string x.d.name)) (p := ⟨w.heap.size, 1, none⟩) (fun _ => rfl) (.slice x.a.kA x.d.rk.length x.a.kc)) (p := ⟨w.heap.size, 2, none⟩) (fun _ => rfl) (.int .i64 x.d.thr)) (p := ⟨w.heap.size, 3, none⟩) (fun _ => rfl) (.bool x.d.term)) (p := ⟨w.heap.size, 4, none⟩) (fun _ => rfl) (.slice x.a.pA x.d.paths.length x.a.pc)) (p := ⟨w.heap.size, 5, none⟩) (fun _ => rfl) (.slice x.a.xA x.d.prefs.length x.a.xc)) (p := ⟨w.heap.size, 6, none⟩) (fun _ => rfl) (.slice kA x.ks.length kc))
          have hm9 := HK3.out.fr hfz (Ne.symm HNE.out.2.1)
          have hall : Fr (fun g => g = m ∨ w.heap.size ≤ g) w _ := ((Fr.of_below HBV2.out).trans (HFM.out.mono (fun k _ e => .inl e))).trans (hfz.mono (fun k _ e => .inr (by omega)))
          simp at hm9
          have hmm : Blk w m 67 #[.slice (some ⟨b, o, none⟩) s.length c, .slice vA vis.length vc] := by rw [← HA.out]; exact HM.out
          obtain ⟨r1, r2, r3⟩ := StkAt.cut (k := k) HST.out HLT.out HX.out hmm hall (.inr ⟨rfl, by rw [HCP.out, HPK.out]⟩) (by rw [HPK.out]) (by have := HCP.out; omega) (by simp [maxLen]) hm9
          refine ⟨_, true, rfl, r3, SameV.of HM.out hm9, .inr ⟨rfl, x, _, restT_hit HLT.out HX.out HCV.out HB.out, by unfold TE.cs; rw [HKV.out], r1, r2⟩⟩
        · clear hp hk9 hki q5 q5'
          have HK3 := Lib.hid (HKV2.out.set_ 0 (.slice (some ⟨b, o + p * 7, none⟩) (s.length - p) (c - p)))
          have hfm : Fr (fun g => g = m) V2 (V2.setCell ⟨m, 0, none⟩ (.slice (some ⟨b, o + p * 7, none⟩) (s.length - p) (c - p))) := fr_at _ _ _ _
          have HQ3 := Lib.hid (HQV2.out.fr hfm HNE.out.1)
          have HZ3 := Lib.hid (HZV2.out.fr hfm HNE.out.2.1)
          obtain ⟨V3, hV3⟩ : ∃ V3, V3 = V2.setCell ⟨m, 0, none⟩ (.slice (some ⟨b, o + p * 7, none⟩) (s.length - p) (c - p)) := ⟨_, rfl⟩
          rw [← hV3] at HK3 hfm HQ3 HZ3
          have HFM := Lib.hid hfm
          have y0 : (V2.setCell ⟨m, 0, none⟩ (.slice (some ⟨b, o + p * 7, none⟩) (s.length - p) (c - p))).cell? ⟨wr.heap.size, 0, none⟩ = some (.string x.d.name) := by rw [← hV3]; exact HQ3.out.cell 0
          have y1 : (V2.setCell ⟨m, 0, none⟩ (.slice (some ⟨b, o + p * 7, none⟩) (s.length - p) (c - p))).cell? ⟨wr.heap.size, 1, none⟩ = some (.slice x.a.kA x.d.rk.length x.a.kc) := by rw [← hV3]; exact HQ3.out.cell 1
          have y2 : (V2.setCell ⟨m, 0, none⟩ (.slice (some ⟨b, o + p * 7, none⟩) (s.length - p) (c - p))).cell? ⟨wr.heap.size, 2, none⟩ = some (.int .i64 x.d.thr) := by rw [← hV3]; exact HQ3.out.cell 2
          have y3 : (V2.setCell ⟨m, 0, none⟩ (.slice (some ⟨b, o + p * 7, none⟩) (s.length - p) (c - p))).cell? ⟨wr.heap.size, 3, none⟩ = some (.bool x.d.term) := by rw [← hV3]; exact HQ3.out.cell 3
          have y4 : (V2.setCell ⟨m, 0, none⟩ (.slice (some ⟨b, o + p * 7, none⟩) (s.length - p) (c - p))).cell? ⟨wr.heap.size, 4, none⟩ = some (.slice x.a.pA x.d.paths.length x.a.pc) := by rw [← hV3]; exact HQ3.out.cell 4
          have y5 : (V2.setCell ⟨m, 0, none⟩ (.slice (some ⟨b, o + p * 7, none⟩) (s.length - p) (c - p))).cell? ⟨wr.heap.size, 5, none⟩ = some (.slice x.a.xA x.d.prefs.length x.a.xc) := by rw [← hV3]; exact HQ3.out.cell 5
          have y6 : (V2.setCell ⟨m, 0, none⟩ (.slice (some ⟨b, o + p * 7, none⟩) (s.length - p) (c - p))).cell? ⟨wr.heap.size, 6, none⟩ = some (.slice kA x.ks.length kc) := by rw [← hV3]; exact HQ3.out.cell 6
          have z0 : (V2.setCell ⟨m, 0, none⟩ (.slice (some ⟨b, o + p * 7, none⟩) (s.length - p) (c - p))).cell? ⟨w.heap.size, 0, none⟩ = some (.string ⟨#[]⟩) := by rw [← hV3]; exact HZ3.out.cell 0
          have f0 : (V2.setCell ⟨m, 0, none⟩ (.slice (some ⟨b, o + p * 7, none⟩) (s.length - p) (c - p))).frozen? ⟨w.heap.size, 0, none⟩ = false := by rw [← hV3]; exact HZ3.out.frozen 0
          have z1 : (V2.setCell ⟨m, 0, none⟩ (.slice (some ⟨b, o + p * 7, none⟩) (s.length - p) (c - p))).cell? ⟨w.heap.size, 1, none⟩ = some (.slice none 0 0) := by rw [← hV3]; exact HZ3.out.cell 1
          have f1 : (V2.setCell ⟨m, 0, none⟩ (.slice (some ⟨b, o + p * 7, none⟩) (s.length - p) (c - p))).frozen? ⟨w.heap.size, 1, none⟩ = false := by rw [← hV3]; exact HZ3.out.frozen 1
          have z2 : (V2.setCell ⟨m, 0, none⟩ (.slice (some ⟨b, o + p * 7, none⟩) (s.length - p) (c - p))).cell? ⟨w.heap.size, 2, none⟩ = some (.int .i64 0) := by rw [← hV3]; exact HZ3.out.cell 2
          have f2 : (V2.setCell ⟨m, 0, none⟩ (.slice (some ⟨b, o + p * 7, none⟩) (s.length - p) (c - p))).frozen? ⟨w.heap.size, 2, none⟩ = false := by rw [← hV3]; exact HZ3.out.frozen 2
          have z3 : (V2.setCell ⟨m, 0, none⟩ (.slice (some ⟨b, o + p * 7, none⟩) (s.length - p) (c - p))).cell? ⟨w.heap.size, 3, none⟩ = some (.bool false) := by rw [← hV3]; exact HZ3.out.cell 3
          have f3 : (V2.setCell ⟨m, 0, none⟩ (.slice (some ⟨b, o + p * 7, none⟩) (s.length - p) (c - p))).frozen? ⟨w.heap.size, 3, none⟩ = false := by rw [← hV3]; exact HZ3.out.frozen 3
          have z4 : (V2.setCell ⟨m, 0, none⟩ (.slice (some ⟨b, o + p * 7, none⟩) (s.length - p) (c - p))).cell? ⟨w.heap.size, 4, none⟩ = some (.slice none 0 0) := by rw [← hV3]; exact HZ3.out.cell 4
          have f4 : (V2.setCell ⟨m, 0, none⟩ (.slice (some ⟨b, o + p * 7, none⟩) (s.length - p) (c - p))).frozen? ⟨w.heap.size, 4, none⟩ = false := by rw [← hV3]; exact HZ3.out.frozen 4
          have z5 : (V2.setCell ⟨m, 0, none⟩ (.slice (some ⟨b, o + p * 7, none⟩) (s.length - p) (c - p))).cell? ⟨w.heap.size, 5, none⟩ = some (.slice none 0 0) := by rw [← hV3]; exact HZ3.out.cell 5
          have f5 : (V2.setCell ⟨m, 0, none⟩ (.slice (some ⟨b, o + p * 7, none⟩) (s.length - p) (c - p))).frozen? ⟨w.heap.size, 5, none⟩ = false := by rw [← hV3]; exact HZ3.out.frozen 5
          have z6 : (V2.setCell ⟨m, 0, none⟩ (.slice (some ⟨b, o + p * 7, none⟩) (s.length - p) (c - p))).cell? ⟨w.heap.size, 6, none⟩ = some (.slice none 0 0) := by rw [← hV3]; exact HZ3.out.cell 6
          have f6 : (V2.setCell ⟨m, 0, none⟩ (.slice (some ⟨b, o + p * 7, none⟩) (s.length - p) (c - p))).frozen? ⟨w.heap.size, 6, none⟩ = false := by rw [← hV3]; exact HZ3.out.frozen 6
          have HV3 := Lib.hid hV3
          clear hV3 hfm
          go_wp2
          rw [← HV3.out]
          have HFIN := Lib.hid ((((((((HZ3.out.set_ 0 (.string x.d.name)).set_ 1 (.slice x.a.kA x.d.rk.length x.a.kc)).set_ 2 (.int .i64 x.d.thr)).set_ 3 (.bool x.d.term)).set_ 4 (.slice x.a.pA x.d.paths.length x.a.pc)).set_ 5 (.slice x.a.xA x.d.prefs.length x.a.xc)).set_ 6 (.slice kA x.ks.length kc)))
          have k0 := HFIN.out.cell 0
          have k1 := HFIN.out.cell 1
          have k2 := HFIN.out.cell 2
          have k3 := HFIN.out.cell 3
          have k4 := HFIN.out.cell 4
          have k5 := HFIN.out.cell 5
          have k6 := HFIN.out.cell 6
          simp at k0 k1 k2 k3 k4 k5 k6
          refine bodyPost_ret (v := .tuple #[.agg #[.string x.d.name, .slice x.a.kA x.d.rk.length x.a.kc, .int .i64 x.d.thr, .bool x.d.term, .slice x.a.pA x.d.paths.length x.a.pc, .slice x.a.xA x.d.prefs.length x.a.xc, .slice kA x.ks.length kc], .bool true]) (by simp [results, Tryz.results28, go_sem, k0, k1, k2, k3, k4, k5, k6]) rfl ?_
          have hfz : Fr (fun b => b = w.heap.size) V3 _ := (Fr.setCell (S := fun b => b = w.heap.size) (Fr.setCell (S := fun b => b = w.heap.size) (Fr.setCell (S := fun b => b = w.heap.size) (Fr.setCell (S := fun b => b = w.heap.size) (Fr.setCell (S := fun b => b = w.heap.size) (Fr.setCell (S := fun b => b = w.heap.size) (Fr.setCell (S := fun b => b = w.heap.size) (Fr.refl (fun b => b = w.heap.size) V3) (p := ⟨w.heap.size, 0, none⟩) (fun _ => rfl) (.string x.d.name)) (p := ⟨w.heap.size, 1, none⟩) (fun _ => rfl) (.slice x.a.kA x.d.rk.length x.a.kc)) (p := ⟨w.heap.size, 2, none⟩) (fun _ => rfl) (.int .i64 x.d.thr)) (p := ⟨w.heap.size, 3, none⟩) (fun _ => rfl) (.bool x.d.term)) (p := ⟨w.heap.size, 4, none⟩) (fun _ => rfl) (.slice x.a.pA x.d.paths.length x.a.pc)) (p := ⟨w.heap.size, 5, none⟩) (fun _ => rfl) (.slice x.a.xA x.d.prefs.length x.a.xc)) (p := ⟨w.heap.size, 6, none⟩) (fun _ => rfl) (.slice kA x.ks.length kc))
          have hm9 := HK3.out.fr hfz (Ne.symm HNE.out.2.1)
          have hall : Fr (fun g => g = m ∨ w.heap.size ≤ g) w _ := ((Fr.of_below HBV2.out).trans (HFM.out.mono (fun k _ e => .inl e))).trans (hfz.mono (fun k _ e => .inr (by omega)))
          simp at hm9
          have hmm : Blk w m 67 #[.slice (some ⟨b, o, none⟩) s.length c, .slice vA vis.length vc] := by rw [← HA.out]; exact HM.out
          obtain ⟨r1, r2, r3⟩ := StkAt.cut (k := k) HST.out HLT.out HX.out hmm hall (.inl (by rw [HPK.out])) (by rw [HPK.out]) (by omega) (by have := HC.out; omega) hm9
          refine ⟨_, true, rfl, r3, SameV.of HM.out hm9, .inr ⟨rfl, x, _, restT_hit HLT.out HX.out HCV.out HB.out, by unfold TE.cs; rw [HKV.out], r1, r2⟩⟩
    · have q5 : decide ((k : Int) < (s.length : Int)) = false := by rw [decide_eq_false_iff_not]; omega
      have q5' : decide (k < s.length) = false := by rw [decide_eq_false_iff_not]; omega
      have HI : Hid (restT vis s = []) := Lib.hid (restT_miss (fun j hj => HB.out j hj (by omega)))
      have HKr := Lib.hid (HM.out.below HBW.out HM.out.lt)
      have HZr := Lib.hid (HZ1.out.below HW.out HZ1.out.lt)
      have HNE : Hid (w.heap.size ≠ m) := Lib.hid (by have := HM.out.lt; omega)
      have g0 : wr.cell? ⟨m, 0, none⟩ = some (.slice A s.length c) := HKr.out.cell 0
      have g9 : wr.frozen? ⟨m, 0, none⟩ = false := HKr.out.frozen 0
      have HK3 := Lib.hid (HKr.out.set_ 0 (.slice none 0 0))
      have hfm : Fr (fun g => g = m) wr (wr.setCell ⟨m, 0, none⟩ (.slice none 0 0)) := fr_at _ _ _ _
      have HZ3 := Lib.hid (HZr.out.fr hfm HNE.out)
      obtain ⟨V3, hV3⟩ : ∃ V3, V3 = wr.setCell ⟨m, 0, none⟩ (.slice none 0 0) := ⟨_, rfl⟩
      rw [← hV3] at HK3 hfm HZ3
      have HFM := Lib.hid hfm
      have z0 : (wr.setCell ⟨m, 0, none⟩ (.slice none 0 0)).cell? ⟨w.heap.size, 0, none⟩ = some (.string ⟨#[]⟩) := by rw [← hV3]; exact HZ3.out.cell 0
      have f0 : (wr.setCell ⟨m, 0, none⟩ (.slice none 0 0)).frozen? ⟨w.heap.size, 0, none⟩ = false := by rw [← hV3]; exact HZ3.out.frozen 0
      have z1 : (wr.setCell ⟨m, 0, none⟩ (.slice none 0 0)).cell? ⟨w.heap.size, 1, none⟩ = some (.slice none 0 0) := by rw [← hV3]; exact HZ3.out.cell 1
      have f1 : (wr.setCell ⟨m, 0, none⟩ (.slice none 0 0)).frozen? ⟨w.heap.size, 1, none⟩ = false := by rw [← hV3]; exact HZ3.out.frozen 1
      have z2 : (wr.setCell ⟨m, 0, none⟩ (.slice none 0 0)).cell? ⟨w.heap.size, 2, none⟩ = some (.int .i64 0) := by rw [← hV3]; exact HZ3.out.cell 2
      have f2 : (wr.setCell ⟨m, 0, none⟩ (.slice none 0 0)).frozen? ⟨w.heap.size, 2, none⟩ = false := by rw [← hV3]; exact HZ3.out.frozen 2
      have z3 : (wr.setCell ⟨m, 0, none⟩ (.slice none 0 0)).cell? ⟨w.heap.size, 3, none⟩ = some (.bool false) := by rw [← hV3]; exact HZ3.out.cell 3
      have f3 : (wr.setCell ⟨m, 0, none⟩ (.slice none 0 0)).frozen? ⟨w.heap.size, 3, none⟩ = false := by rw [← hV3]; exact HZ3.out.frozen 3
      have z4 : (wr.setCell ⟨m, 0, none⟩ (.slice none 0 0)).cell? ⟨w.heap.size, 4, none⟩ = some (.slice none 0 0) := by rw [← hV3]; exact HZ3.out.cell 4
      have f4 : (wr.setCell ⟨m, 0, none⟩ (.slice none 0 0)).frozen? ⟨w.heap.size, 4, none⟩ = false := by rw [← hV3]; exact HZ3.out.frozen 4
      have z5 : (wr.setCell ⟨m, 0, none⟩ (.slice none 0 0)).cell? ⟨w.heap.size, 5, none⟩ = some (.slice none 0 0) := by rw [← hV3]; exact HZ3.out.cell 5
      have f5 : (wr.setCell ⟨m, 0, none⟩ (.slice none 0 0)).frozen? ⟨w.heap.size, 5, none⟩ = false := by rw [← hV3]; exact HZ3.out.frozen 5
      have z6 : (wr.setCell ⟨m, 0, none⟩ (.slice none 0 0)).cell? ⟨w.heap.size, 6, none⟩ = some (.slice none 0 0) := by rw [← hV3]; exact HZ3.out.cell 6
      have f6 : (wr.setCell ⟨m, 0, none⟩ (.slice none 0 0)).frozen? ⟨w.heap.size, 6, none⟩ = false := by rw [← hV3]; exact HZ3.out.frozen 6
      have HV3 := Lib.hid hV3
      clear hV3 hfm heq
      go_wp2
      rw [← HV3.out]
      have HFIN := Lib.hid ((((((((HZ3.out.set_ 0 (.string ⟨#[]⟩)).set_ 1 (.slice none 0 0)).set_ 2 (.int .i64 0)).set_ 3 (.bool false)).set_ 4 (.slice none 0 0)).set_ 5 (.slice none 0 0)).set_ 6 (.slice none 0 0)))
      have k0 := HFIN.out.cell 0
      have k1 := HFIN.out.cell 1
      have k2 := HFIN.out.cell 2
      have k3 := HFIN.out.cell 3
      have k4 := HFIN.out.cell 4
      have k5 := HFIN.out.cell 5
      have k6 := HFIN.out.cell 6
      simp at k0 k1 k2 k3 k4 k5 k6
      refine bodyPost_ret (v := .tuple #[.agg #[.string ⟨#[]⟩, .slice none 0 0, .int .i64 0, .bool false, .slice none 0 0, .slice none 0 0, .slice none 0 0], .bool false]) (by simp [results, Tryz.results28, go_sem, k0, k1, k2, k3, k4, k5, k6]) rfl ?_
      have hfz : Fr (fun b => b = w.heap.size) V3 _ := (Fr.setCell (S := fun b => b = w.heap.size) (Fr.setCell (S := fun b => b = w.heap.size) (Fr.setCell (S := fun b => b = w.heap.size) (Fr.setCell (S := fun b => b = w.heap.size) (Fr.setCell (S := fun b => b = w.heap.size) (Fr.setCell (S := fun b => b = w.heap.size) (Fr.setCell (S := fun b => b = w.heap.size) (Fr.refl (fun b => b = w.heap.size) V3) (p := ⟨w.heap.size, 0, none⟩) (fun _ => rfl) (.string ⟨#[]⟩)) (p := ⟨w.heap.size, 1, none⟩) (fun _ => rfl) (.slice none 0 0)) (p := ⟨w.heap.size, 2, none⟩) (fun _ => rfl) (.int .i64 0)) (p := ⟨w.heap.size, 3, none⟩) (fun _ => rfl) (.bool false)) (p := ⟨w.heap.size, 4, none⟩) (fun _ => rfl) (.slice none 0 0)) (p := ⟨w.heap.size, 5, none⟩) (fun _ => rfl) (.slice none 0 0)) (p := ⟨w.heap.size, 6, none⟩) (fun _ => rfl) (.slice none 0 0))
      have hm9 := HK3.out.fr hfz (Ne.symm HNE.out)
      have hall : Fr (fun g => g = m ∨ w.heap.size ≤ g) w _ := ((Fr.of_below HBW.out).trans (HFM.out.mono (fun k _ e => .inl e))).trans (hfz.mono (fun k _ e => .inr (by omega)))
      simp at hm9
      have hf' : Fr (· = m) w _ := hall.mono (fun j hj e => by rcases e with e | e; exact e; omega)
      refine ⟨_, false, rfl, hf', SameV.of HM.out hm9, .inl ⟨rfl, rfl, HI.out, ⟨⟨none, 0, _, hm9, Nat.le_refl _, by simp [maxLen], Reads.none_, fun ad e => (by cases e), OG.frT HVO.out hf' (fun g cs hb e => by subst e; exact hb.ne_ HM.out (by decide) rfl)⟩, fun e he => by cases he⟩⟩⟩
end Go.Proofs.YthidjdjcjjbpbaaGreatDoor
