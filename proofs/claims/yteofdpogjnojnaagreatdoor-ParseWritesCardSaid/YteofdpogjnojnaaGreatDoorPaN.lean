/-
  parse: blanks, digits, literals.
-/
import Derived.Test.YteofdpogjnojnaaGreatDoorPaM
import Derived.Test.YteofdpogjnojnaaGreatDoorPaU2
import Derived.Test.YteofdpogjnojnaaGreatDoorGPc
namespace Go.Proofs.YteofdpogjnojnaaGreatDoor
open Go.RowKit Utf Pa
set_option linter.unusedVariables false
set_option linter.unusedSimpArgs false

theorem drop_run {q : UInt8 → Bool} (l : List UInt8) : l.dropWhile q = l.drop (l.takeWhile q).length := by
  induction l with
  | nil => rfl
  | cons c l ih =>
    cases h : q c with
    | true => rw [List.dropWhile_cons_of_pos h, List.takeWhile_cons_of_pos h, ih]; rfl
    | false => rw [List.dropWhile_cons_of_neg (by simp [h]), List.takeWhile_cons_of_neg (by simp [h])]; rfl
theorem run_le {q : UInt8 → Bool} (l : List UInt8) : (l.takeWhile q).length ≤ l.length := (List.takeWhile_prefix q).length_le
/-- what is cut off -/
theorem trim_size (p : St) (cs : List UInt8) (q : UInt8 → Bool) (hq : ∀ c, cs.contains c = q c) : (ByteArray.mk (Lib.trimLeftS (rs p).data.toList cs).toArray).size = p.r.length - (p.r.takeWhile q).length := by
  have e : Lib.trimLeftS (rs p).data.toList cs = p.r.drop (p.r.takeWhile q).length := by
    unfold Lib.trimLeftS
    rw [rs_list, ← drop_run]
    congr 1
    funext c
    exact hq c
  rw [e]
  simp [ByteArray.size]
theorem trim_bl (s : ByteArray) (w : World) : Calls Tryz.prog 34 #[.string s, .string { data := #[32, 9, 10, 13] }] w fun e w' => e = .returned (.string ⟨(Lib.trimLeftS s.data.toList [32, 9, 10, 13]).toArray⟩) ∧ Below w.heap.size w w' :=
  Any.strings_TrimLeft_laid Tryz.lays161 (by kernel_rfl) s { data := #[32, 9, 10, 13] } w (by decide) (ascii_of_all (by decide))
theorem trim_dg (s : ByteArray) (w : World) : Calls Tryz.prog 34 #[.string s, .string { data := #[48, 49, 50, 51, 52, 53, 54, 55, 56, 57] }] w fun e w' => e = .returned (.string ⟨(Lib.trimLeftS s.data.toList [48, 49, 50, 51, 52, 53, 54, 55, 56, 57]).toArray⟩) ∧ Below w.heap.size w w' :=
  Any.strings_TrimLeft_laid Tryz.lays161 (by kernel_rfl) s { data := #[48, 49, 50, 51, 52, 53, 54, 55, 56, 57] } w (by decide) (ascii_of_all (by decide))
set_option maxRecDepth 100000 in
theorem bl_has (c : UInt8) : ([32, 9, 10, 13] : List UInt8).contains c = isBl c := by
  have : ∀ n : Fin 256, ([32, 9, 10, 13] : List UInt8).contains (UInt8.ofNat n.1) = isBl (UInt8.ofNat n.1) := by decide
  exact all_u8 (p := fun c => ([32, 9, 10, 13] : List UInt8).contains c = isBl c) this c
set_option maxRecDepth 100000 in
theorem dg_has (c : UInt8) : ([48, 49, 50, 51, 52, 53, 54, 55, 56, 57] : List UInt8).contains c = isDig c := by
  have : ∀ n : Fin 256, ([48, 49, 50, 51, 52, 53, 54, 55, 56, 57] : List UInt8).contains (UInt8.ofNat n.1) = isDig (UInt8.ofNat n.1) := by decide
  exact all_u8 (p := fun c => ([48, 49, 50, 51, 52, 53, 54, 55, 56, 57] : List UInt8).contains c = isDig c) this c
set_option maxRecDepth 100000 in
set_option maxHeartbeats 4000000 in
theorem skip_any {W w : World} {B : Nat} {s : ByteArray} {p : St} (h : PSt W B s w p) (hs : s.size ≤ 1000000) : Calls Tryz.prog 26 #[.pointer (some ⟨B, 0, none⟩)] w fun e w' => PF (StpP W B s (.tuple #[]) p.skip w) e w' := by
  obtain ⟨k, hk⟩ : ∃ k, k = (p.r.takeWhile isBl).length := ⟨_, rfl⟩
  obtain ⟨tl, htl⟩ : ∃ tl, tl = ByteArray.mk (Lib.trimLeftS (rs p).data.toList [32, 9, 10, 13]).toArray := ⟨_, rfl⟩
  have hts : tl.size = p.r.length - k := by rw [htl, hk]; exact trim_size p _ _ bl_has
  have hkl : k ≤ p.r.length := by rw [hk]; exact run_le _
  have hrs := rs_size p
  have hpl := h.len
  have hpi := h.pi
  have hT := fun w => trim_bl (rs p) w
  rw [← htl] at hT
  have HT := Lib.hid hT
  have HR : Hid (∀ V, Below w.heap.size w V → Calls Tryz.prog 18 #[.pointer (some ⟨B, 0, none⟩)] V fun e w' => PF (RstP p V) e w') := Lib.hid (fun V hV => rest_any (h.below hV) hs)
  have HBL := Lib.hid h.blk
  have HS0 : Hid ((fun V => Blk V B 45 #[.string s, .int .i64 p.i, .int .i64 p.c, .int .i64 p.e]) w.drew) := Lib.hid h.blk
  have hsum : p.i + k ≤ s.size := by
    by_cases he : p.e = 0
    · have : p.r.length = s.size - p.i := by rw [h.ok he, List.length_drop]; rfl
      omega
    · have := h.no he
      rw [this] at hkl
      simp at hkl
      omega
  have HP : Hid (∀ w', Below w.heap.size w w' → PSt W B s (w'.setCell ⟨B, 1, none⟩ (.int .i64 ((p.i : Int) + k))) p.skip) := Lib.hid (fun w' hw => by
    have hq := h.below hw
    have hsk : p.skip = p.adv k := by rw [hk]; rfl
    rw [hsk]
    refine hq.set (p' := p.adv k) ?_ frB (fun q => ?_) (fun q => ?_) hsum h.pc h.pe
    · have := hq.blk.set_ 1 (.int .i64 ((p.i : Int) + k))
      simpa [St.adv] using this
    · show p.r.drop k = []
      rw [h.no q]; simp
    · show p.r.drop k = s.data.toList.drop (p.i + k)
      rw [h.ok q, List.drop_drop])
  have hw1 : IntKind.i64.wrap (((rs p).size : Int) - (tl.size : Int)) = (k : Int) := by rw [IntWalk.i64_in _ (by omega)]; omega
  have hw2 : IntKind.i64.wrap ((p.i : Int) + k) = (p.i : Int) + k := IntWalk.i64_in _ (by omega)
  clear hk htl hts hkl hrs hpl hpi hT hsum h
  go_enter Tryz.func26, Tryz.ntmps26
  go_wp2_with fail
  refine wp_region_heldT (S := fun V => Blk V B 45 #[.string s, .int .i64 p.i, .int .i64 p.c, .int .i64 p.e]) 15 (by kernel_rfl) (HS0.out) (fun hS1 => ?_)
  obtain ⟨WD, hWD⟩ : ∃ WD, WD = w.drew := ⟨_, rfl⟩
  rw [← hWD] at hS1 ⊢
  have HBD : Hid (Below w.heap.size w WD) := Lib.hid (by rw [hWD]; exact (Below.refl _ _).drew)
  clear hWD
  refine wpAnyT_pure (i := 0) (oi := ⟨some 2, _, _, _, _, _⟩) (v := .pointer (some ⟨B, 0, none⟩)) rfl (by kernel_rfl) (by kernel_rfl) (by kernel_rfl) (by decide) (fun _ _ _ h => h) (.inl ⟨by kernel_rfl, fun V hS => by go_simp⟩) hS1 ?_
  simp only [Act.put, List.setIfInBounds_toArray, List.set_cons_zero, List.set_cons_succ]
  refine wpAnyT_pure (i := 1) (oi := ⟨some 3, _, _, _, _, _⟩) (v := .pointer (some ⟨B, 0, none⟩)) rfl (by kernel_rfl) (by kernel_rfl) (by kernel_rfl) (by decide) (fun _ _ _ h => h) (.inl ⟨by kernel_rfl, fun V hS => by go_simp⟩) hS1 ?_
  simp only [Act.put, List.setIfInBounds_toArray, List.set_cons_zero, List.set_cons_succ]
  refine wpAnyT_pure (i := 2) (oi := ⟨some 4, _, _, _, _, _⟩) (v := .pointer (some ⟨B, 1, none⟩)) rfl (by kernel_rfl) (by kernel_rfl) (by kernel_rfl) (by decide) (fun _ _ _ h => h) (.inl ⟨by kernel_rfl, fun V hS => by go_simp⟩) hS1 ?_
  simp only [Act.put, List.setIfInBounds_toArray, List.set_cons_zero, List.set_cons_succ]
  refine wpAnyT_take (i := 3) (oi := ⟨some 5, _, _, _, _, _⟩) (v := .int .i64 p.i) rfl (by kernel_rfl) (by kernel_rfl) (by kernel_rfl) (by kernel_rfl) (by kernel_rfl) (fun _ _ _ h => h) (.inl ⟨by kernel_rfl, fun V hS => by have sc := hS.cell 1; simp at sc; go_simp⟩) hS1 ?_
  simp only [Act.put, List.setIfInBounds_toArray, List.set_cons_zero, List.set_cons_succ]
  refine wpAnyT_pure (i := 4) (oi := ⟨some 6, _, _, _, _, _⟩) (v := .pointer (some ⟨B, 0, none⟩)) rfl (by kernel_rfl) (by kernel_rfl) (by kernel_rfl) (by decide) (fun _ _ _ h => h) (.inl ⟨by kernel_rfl, fun V hS => by go_simp⟩) hS1 ?_
  simp only [Act.put, List.setIfInBounds_toArray, List.set_cons_zero, List.set_cons_succ]
  refine wpAnyT_pure (i := 7) (oi := ⟨some 9, _, _, _, _, _⟩) (v := .pointer (some ⟨B, 0, none⟩)) rfl (by kernel_rfl) (by kernel_rfl) (by kernel_rfl) (by decide) (fun _ _ _ h => h) (.inl ⟨by kernel_rfl, fun V hS => by go_simp⟩) hS1 ?_
  simp only [Act.put, List.setIfInBounds_toArray, List.set_cons_zero, List.set_cons_succ]
  refine wpAnyT_ready (rs := [5]) (by kernel_rfl) (by simp) ?_
  refine AllReadyT.cons rfl (fun K' hK => ?_) AllReadyT.nil
  go_simp
  refine (HR.out WD HBD.out).mono ?_
  rintro e w1 ⟨rfl, hb1⟩
  have HB1 := Lib.hid (HBD.out.trans (hb1.mono HBD.out.size))
  refine hK.out _ _ ((hS1).below hb1 (hS1).lt) (fun hS2 => ?_)
  clear hK K' hS1
  refine wpAnyT_pure (i := 6) (oi := ⟨some 8, _, _, _, _, _⟩) (v := .int .i64 ((rs p).size : Int)) rfl (by kernel_rfl) (by kernel_rfl) (by kernel_rfl) (by decide) (fun _ _ _ h => h) (.inl ⟨by kernel_rfl, fun V hS => by go_simp⟩) hS2 ?_
  simp only [Act.put, List.setIfInBounds_toArray, List.set_cons_zero, List.set_cons_succ]
  refine wpAnyT_ready (rs := [8]) (by kernel_rfl) (by simp) ?_
  refine AllReadyT.cons rfl (fun K' hK => ?_) AllReadyT.nil
  go_simp
  refine (HR.out w1 HB1.out).mono ?_
  rintro e w2 ⟨rfl, hb2⟩
  have HB2 := Lib.hid (HB1.out.trans (hb2.mono HB1.out.size))
  refine hK.out _ _ ((hS2).below hb2 (hS2).lt) (fun hS3 => ?_)
  clear hK K' hS2
  refine wpAnyT_ready (rs := [9]) (by kernel_rfl) (by simp) ?_
  refine AllReadyT.cons rfl (fun K' hK => ?_) AllReadyT.nil
  go_simp
  refine (HT.out w2).mono ?_
  rintro e w3 ⟨rfl, hb3⟩
  have HB3 := Lib.hid (HB2.out.trans (hb3.mono HB2.out.size))
  refine hK.out _ _ ((hS3).below hb3 (hS3).lt) (fun hS4 => ?_)
  clear hK K' hS3
  refine wpAnyT_pure (i := 10) (oi := ⟨some 12, _, _, _, _, _⟩) (v := .int .i64 (tl.size : Int)) rfl (by kernel_rfl) (by kernel_rfl) (by kernel_rfl) (by decide) (fun _ _ _ h => h) (.inl ⟨by kernel_rfl, fun V hS => by go_simp⟩) hS4 ?_
  simp only [Act.put, List.setIfInBounds_toArray, List.set_cons_zero, List.set_cons_succ]
  refine wpAnyT_pure (i := 11) (oi := ⟨some 13, _, _, _, _, _⟩) (v := .int .i64 (k : Int)) rfl (by kernel_rfl) (by kernel_rfl) (by kernel_rfl) (by decide) (fun _ _ _ h => h) (.inl ⟨by kernel_rfl, fun V hS => by go_simp⟩) hS4 ?_
  simp only [Act.put, List.setIfInBounds_toArray, List.set_cons_zero, List.set_cons_succ]
  refine wpAnyT_pure (i := 12) (oi := ⟨some 14, _, _, _, _, _⟩) (v := .int .i64 ((p.i : Int) + k)) rfl (by kernel_rfl) (by kernel_rfl) (by kernel_rfl) (by decide) (fun _ _ _ h => h) (.inl ⟨by kernel_rfl, fun V hS => by go_simp⟩) hS4 ?_
  simp only [Act.put, List.setIfInBounds_toArray, List.set_cons_zero, List.set_cons_succ]
  refine wpAnyT_pure (i := 13) (oi := ⟨some 15, _, _, _, _, _⟩) (v := .pointer (some ⟨B, 0, none⟩)) rfl (by kernel_rfl) (by kernel_rfl) (by kernel_rfl) (by decide) (fun _ _ _ h => h) (.inl ⟨by kernel_rfl, fun V hS => by go_simp⟩) hS4 ?_
  simp only [Act.put, List.setIfInBounds_toArray, List.set_cons_zero, List.set_cons_succ]
  refine wpAnyT_pure (i := 14) (oi := ⟨some 16, _, _, _, _, _⟩) (v := .pointer (some ⟨B, 1, none⟩)) rfl (by kernel_rfl) (by kernel_rfl) (by kernel_rfl) (by decide) (fun _ _ _ h => h) (.inl ⟨by kernel_rfl, fun V hS => by go_simp⟩) hS4 ?_
  simp only [Act.put, List.setIfInBounds_toArray, List.set_cons_zero, List.set_cons_succ]
  refine wpAnyT_T (by kernel_rfl) rfl (by kernel_rfl) (fun K' hK => ?_)
  have f1 : w3.frozen? ⟨B, 1, none⟩ = false := (HBL.out.below HB3.out HBL.out.lt).frozen 1
  have d1 : w3.cell? ⟨B, 1, none⟩ = some (.int .i64 p.i) := (HBL.out.below HB3.out HBL.out.lt).cell 1
  go_simp
  clear f1 d1
  refine hK.out _ _ ?_
  clear hK K' hS4
  refine wpAnyH_done (by kernel_rfl) ?_ _
  clear hw1 hw2
  go_wp2
  go_end0
  exact ⟨rfl, HP.out w3 HB3.out, (Fr.of_below HB3.out).trans frB⟩
/-- what run answers -/
def RunP (n : Nat) (w : World) (e : Ending) (w' : World) : Prop := e = .returned (.int .i64 n) ∧ Below w.heap.size w w'
set_option maxRecDepth 100000 in
set_option maxHeartbeats 4000000 in
theorem run_any {W w : World} {B : Nat} {s : ByteArray} {p : St} (h : PSt W B s w p) (hs : s.size ≤ 1000000) : Calls Tryz.prog 66 #[.pointer (some ⟨B, 0, none⟩)] w fun e w' => PF (RunP (p.r.takeWhile isDig).length w) e w' := by
  obtain ⟨k, hk⟩ : ∃ k, k = (p.r.takeWhile isDig).length := ⟨_, rfl⟩
  rw [← hk]
  obtain ⟨tl, htl⟩ : ∃ tl, tl = ByteArray.mk (Lib.trimLeftS (rs p).data.toList [48, 49, 50, 51, 52, 53, 54, 55, 56, 57]).toArray := ⟨_, rfl⟩
  have hts : tl.size = p.r.length - k := by rw [htl, hk]; exact trim_size p _ _ dg_has
  have hkl : k ≤ p.r.length := by rw [hk]; exact run_le _
  have hrs := rs_size p
  have hpl := h.len
  have hT := fun w => trim_dg (rs p) w
  rw [← htl] at hT
  have HT := Lib.hid hT
  have HR : Hid (∀ V, Below w.heap.size w V → Calls Tryz.prog 18 #[.pointer (some ⟨B, 0, none⟩)] V fun e w' => PF (RstP p V) e w') := Lib.hid (fun V hV => rest_any (h.below hV) hs)
  have hw1 : IntKind.i64.wrap (((rs p).size : Int) - (tl.size : Int)) = (k : Int) := by rw [IntWalk.i64_in _ (by omega)]; omega
  clear hk htl hts hkl hrs hpl hT h
  go_enter Tryz.func66, Tryz.ntmps66
  go_wp2_with fail
  refine (HR.out w (Below.refl _ _)).mono ?_
  rintro e w1 ⟨rfl, hb1⟩
  have HB1 := Lib.hid hb1
  clear hb1
  go_wp2_with fail
  refine (HR.out w1 HB1.out).mono ?_
  rintro e w2 ⟨rfl, hb2⟩
  have HB2 := Lib.hid (HB1.out.trans (hb2.mono HB1.out.size))
  clear hb2
  go_wp2_with fail
  refine (HT.out w2).mono ?_
  rintro e w3 ⟨rfl, hb3⟩
  have HB3 := Lib.hid (HB2.out.trans (hb3.mono HB2.out.size))
  clear hb3
  go_wp2
  go_ret
  exact ⟨rfl, HB3.out⟩
/-- what literal answers -/
def LitP (W : World) (B : Nat) (s : ByteArray) (p : St) (w : World) (e : Ending) (w' : World) : Prop := e = .returned (.string p.lit.1) ∧ PSt W B s w' p.lit.2 ∧ Fr (· = B) w w'
theorem unqG_bd : ∀ (f : Nat) (l : List UInt8) (n : Nat) (acc : List UInt8), l.length ≤ f → (unqG f l n acc).2.1 ≤ n + l.length
  | 0, l, n, acc, h => by simp [unqG]
  | f + 1, l, n, acc, h => by
    unfold unqG
    split
    · rename_i hh
      cases l with
      | nil => cases hh
      | cons c l => simp
    · split
      · simp
      · rename_i he
        obtain ⟨p1, p2, _, _⟩ := part_ok (Classical.not_not.1 he)
        have := unqG_bd f (l.drop (partP l).2.1) (n + (partP l).2.1) (acc ++ encU (partP l).1) (by rw [List.length_drop]; omega)
        rw [List.length_drop] at this
        omega
theorem unq_bd (l : List UInt8) : (unq l).2.1 ≤ l.length ∧ 0 ≤ (unq l).2.2 ∧ (unq l).2.2 ≤ 31 := by
  have her : ∀ (f : Nat) (l : List UInt8) (n : Nat) (acc : List UInt8), 0 ≤ (unqG f l n acc).2.2 ∧ (unqG f l n acc).2.2 ≤ 31 := fun f => by
    induction f with
    | zero => intro l n acc; simp [unqG]
    | succ f ih =>
      intro l n acc
      unfold unqG
      split
      · simp
      · split
        · rcases part_er l with h | h | h <;> simp [h]
        · exact ih _ _ _
  unfold unq
  split
  · rename_i hh
    cases l with
    | nil => cases hh
    | cons c l =>
      have := unqG_bd (c :: l).length l 1 [] (by simp)
      simp only [List.drop_succ_cons, List.drop_zero, List.length_cons] at this ⊢
      exact ⟨by omega, her _ _ _ _⟩
  · simp
set_option maxRecDepth 100000 in
set_option maxHeartbeats 4000000 in
theorem literal_any {W w : World} {B : Nat} {s : ByteArray} {p : St} (h : PSt W B s w p) (hs : s.size ≤ 1000000) (hF : FourOk s) (hT : tabV W) : Calls Tryz.prog 39 #[.pointer (some ⟨B, 0, none⟩)] w fun e w' => PF (LitP W B s p w) e w' := by
  have c3 : w.cell? ⟨B, 3, none⟩ = some (.int .i64 p.e) := h.blk.cell 3
  by_cases h0 : p.e = 0
  · have q0 : (p.e != 0) = false := by rw [h0]; rfl
    have HR := Lib.hid (rest_any h hs)
    have hrs := h.rs_eq h0
    have hub := unq_bd p.r
    have hun : ∀ V, Below W.heap.size W V → Calls Tryz.prog 61 #[.string (rs p)] V fun e w' => e = .returned (.tuple #[.string ⟨(unq p.r).1.toArray⟩, .int .i64 ((unq p.r).2.1 : Nat), .int .i64 (unq p.r).2.2]) ∧ Below V.heap.size V w' := fun V hV => by
      have h1 := unquote_gen (rs p) V (hT.below hV) (by rw [rs_size]; have := h.len; omega) (by rw [← hrs]; exact hF.ext _)
      rwa [rs_list] at h1
    obtain ⟨ut, hut⟩ : ∃ ut, ut = (unq p.r).1 := ⟨_, rfl⟩
    obtain ⟨un, hun1⟩ : ∃ un, un = (unq p.r).2.1 := ⟨_, rfl⟩
    obtain ⟨ue, hue⟩ : ∃ ue, ue = (unq p.r).2.2 := ⟨_, rfl⟩
    rw [← hut, ← hun1, ← hue] at hun
    rw [← hun1, ← hue] at hub
    have HU := Lib.hid hun
    have HV := Lib.hid h
    have hpi := h.pi
    have hsum : p.i + un ≤ s.size := by
      have : p.r.length = s.size - p.i := by rw [h.ok h0, List.length_drop]; rfl
      omega
    have hw2 : IntKind.i64.wrap ((p.i : Int) + un) = (p.i : Int) + un := IntWalk.i64_in _ (by omega)
    by_cases hz : ue = 0
    · have q1 : (ue != 0) = false := by rw [hz]; rfl
      have HL : Hid (p.lit = (⟨ut.toArray⟩, p.adv un)) := Lib.hid (by rw [lit_ok h0 (by rw [← hue]; exact hz), hut, hun1])
      have HP : Hid (∀ w', Below w.heap.size w w' → PSt W B s (w'.setCell ⟨B, 1, none⟩ (.int .i64 ((p.i : Int) + un))) (p.adv un)) := Lib.hid (fun w' hw => (h.below hw).adv_ (w' := w) hub.1 h0)
      clear hut hun1 hue hun hub hz h h0 hrs hpi hsum
      go_enter Tryz.func39, Tryz.ntmps39
      go_wp2_with fail
      refine HR.out.mono ?_
      rintro e w1 ⟨rfl, hb1⟩
      have HB1 := Lib.hid hb1
      clear hb1
      go_wp2_with fail
      refine (HU.out w1 (HV.out.bel.trans (HB1.out.mono HV.out.bel.size))).mono ?_
      rintro e w2 ⟨rfl, hb2⟩
      have HB2 := Lib.hid (HB1.out.trans (hb2.mono HB1.out.size))
      have d1 : w2.cell? ⟨B, 1, none⟩ = some (.int .i64 p.i) := (HV.out.below HB2.out).blk.cell 1
      have f1 : w2.frozen? ⟨B, 1, none⟩ = false := (HV.out.below HB2.out).blk.frozen 1
      clear hb2
      go_wp2
      go_ret
      exact ⟨by rw [HL.out]; rfl, by rw [HL.out]; exact HP.out w2 HB2.out, (Fr.of_below HB2.out).trans frB⟩
    · have q1 : (ue != 0) = true := by rw [bne_iff_ne]; exact hz
      have HL : Hid (p.lit = (⟨#[]⟩, p.fail (p.i + un) ue)) := Lib.hid (by rw [lit_no h0 (by rw [← hue]; exact hz), hun1, hue])
      have HFL : Hid (∀ V, Below w.heap.size w V → Calls Tryz.prog 19 #[.pointer (some ⟨B, 0, none⟩), .int .i64 ((p.i : Int) + un), .int .i64 ue] V fun e w' => PF (StpP W B s (.bool false) (p.fail (p.i + un) ue) V) e w') := Lib.hid (fun V hV => fail_any (h.below hV) (p.i + un) ue hsum (by omega))
      clear hut hun1 hue hun hub hz h h0 hrs hpi hsum
      go_enter Tryz.func39, Tryz.ntmps39
      go_wp2_with fail
      refine HR.out.mono ?_
      rintro e w1 ⟨rfl, hb1⟩
      have HB1 := Lib.hid hb1
      clear hb1
      go_wp2_with fail
      refine (HU.out w1 (HV.out.bel.trans (HB1.out.mono HV.out.bel.size))).mono ?_
      rintro e w2 ⟨rfl, hb2⟩
      have HB2 := Lib.hid (HB1.out.trans (hb2.mono HB1.out.size))
      have d1 : w2.cell? ⟨B, 1, none⟩ = some (.int .i64 p.i) := (HV.out.below HB2.out).blk.cell 1
      clear hb2
      go_wp2_with fail
      refine (HFL.out w2 HB2.out).mono ?_
      rintro e w3 ⟨rfl, hp3, hf3⟩
      have HP3 := Lib.hid hp3
      have HF3 := Lib.hid ((Fr.of_below HB2.out).trans hf3)
      clear hp3 hf3
      go_wp2
      go_ret
      exact ⟨by rw [HL.out]; rfl, by rw [HL.out]; exact HP3.out, HF3.out⟩
  · have q0 : (p.e != 0) = true := by rw [bne_iff_ne]; exact h0
    have HL : Hid (p.lit = (⟨#[]⟩, p)) := Lib.hid (lit_of h0)
    have HS := Lib.hid h
    clear h0 h
    go_enter Tryz.func39, Tryz.ntmps39
    go_wp2
    go_ret
    exact ⟨by rw [HL.out]; rfl, by rw [HL.out]; exact HS.out, Fr.refl _ _⟩
end Go.Proofs.YteofdpogjnojnaaGreatDoor
