/-
 listing.readFile of a file's value.
-/
import Derived.Test.YtefkpphahimkgaaGreatDoorTk
import Derived.Test.YtefkpphahimkgaaGreatDoorLiR3
import Derived.Test.YtefkpphahimkgaaGreatDoorHeldT
namespace Go.Proofs.YtefkpphahimkgaaGreatDoor
open Go.RowKit
attribute [local go_sem ↓] Go.wp_at_zero Go.wp_at_succ
set_option linter.unusedVariables false
set_option linter.unusedSimpArgs false
theorem look_fve (m : ME) : (fileP m).look veK = some (inV m.ver) := by
 rw [file_form]
 split <;> split <;> rfl
theorem look_fln (m : ME) : (fileP m).look lnK = if 0 ≤ m.len then some (inV m.len) else none := by
 rw [file_form]
 split <;> split <;> rfl
theorem look_fha (m : ME) : (fileP m).look haK = if m.hash = ⟨#[]⟩ then none else some (mpV [shK] [txV m.hash]) := by
 rw [file_form]
 split <;> split <;> rfl
theorem look_sh (s : ByteArray) : (mpV [shK] [txV s]).look shK = some (txV s) := rfl
theorem look_kd (m : ME) : (fileP m).kd = 6 := by
 rw [file_form]
 split <;> split <;> rfl
theorem four_cells {w : World} {g : Nat} {t : TypeId} {a b c d : Value} (h : Blk w g t #[a, b, c, d]) : w.cell? ⟨g, 0, none⟩ = some a ∧ w.cell? ⟨g, 1, none⟩ = some b ∧ w.cell? ⟨g, 2, none⟩ = some c ∧ w.cell? ⟨g, 3, none⟩ = some d := ⟨h.cell 0, h.cell 1, h.cell 2, h.cell 3⟩
theorem four_fr {w : World} {g : Nat} {t : TypeId} {a b c d : Value} (h : Blk w g t #[a, b, c, d]) : w.frozen? ⟨g, 0, none⟩ = false ∧ w.frozen? ⟨g, 1, none⟩ = false ∧ w.frozen? ⟨g, 2, none⟩ = false ∧ w.frozen? ⟨g, 3, none⟩ = false := ⟨h.frozen 0, h.frozen 1, h.frozen 2, h.frozen 3⟩
theorem fr_4m {w : World} {g : Nat} {a b c d : Value} : Fr (· = g) w ((((w.setCell ⟨g, 0, none⟩ a).setCell ⟨g, 1, none⟩ b).setCell ⟨g, 2, none⟩ c).setCell ⟨g, 3, none⟩ d) :=
 ((((Fr.refl (· = g) w).setCell (p := ⟨g, 0, none⟩) (fun _ => rfl) _).setCell (p := ⟨g, 1, none⟩) (fun _ => rfl) _).setCell (p := ⟨g, 2, none⟩) (fun _ => rfl) _).setCell (p := ⟨g, 3, none⟩) (fun _ => rfl) _
theorem blk_4m {w : World} {g : Nat} {t : TypeId} {a b c d v0 v1 v2 v3 : Value} (h : Blk w g t #[v0, v1, v2, v3]) : Blk ((((w.setCell ⟨g, 0, none⟩ a).setCell ⟨g, 1, none⟩ b).setCell ⟨g, 2, none⟩ c).setCell ⟨g, 3, none⟩ d) g t #[a, b, c, d] := by
 have h1 := (((h.set_ 0 a).set_ 1 b).set_ 2 c).set_ 3 d
 simpa using h1
structure RfS (w : World) (F M : Nat) (v : MV) (m : ME) (V : World) : Prop where
 bel : Below w.heap.size w V
 fat : FAt V F v false
 res : Blk V (w.heap.size + 1) 44 #[.string ⟨#[]⟩, .int .i64 0, .int .i64 0, .string ⟨#[]⟩]
 blk : Blk V M 44 #[.string m.name, .int .i64 m.ver, .int .i64 m.len, .string m.hash]
 hF : w.heap.size + 2 ≤ F
 hM : F < M
 at0 : VAt w v
section
variable {w V V' : World} {F M : Nat} {v : MV} {m : ME}
theorem RfS.below (h : RfS w F M v m V) (hb : Below V.heap.size V V') : RfS w F M v m V' :=
 ⟨h.bel.trans (hb.mono h.bel.size), h.fat.bel hb, h.res.below hb h.res.lt, h.blk.below hb h.blk.lt, h.hF, h.hM, h.at0⟩
theorem RfS.set_ (h : RfS w F M v m V) {m' : ME} (hf : Fr (· = M) V V') (hm : Blk V' M 44 #[.string m'.name, .int .i64 m'.ver, .int .i64 m'.len, .string m'.hash]) : RfS w F M v m' V' := by
 have h1 := h.hF
 have h2 := h.hM
 have hb : Below w.heap.size w V' := Fr.below_trans h.bel hf h.bel.size (fun b e => by have e' : b = M := e; omega)
 exact ⟨hb, ⟨h.fat.blk.fr hf (fun e => by have e' : F = M := e; omega), h.at0.bel hb⟩, h.res.fr hf (fun e => by have e' : w.heap.size + 1 = M := e; omega), hm, h1, h2, h.at0⟩
theorem RfS.setl (h : RfS w F M v m V) (x : Int) : RfS w F M v ⟨m.name, m.ver, x, m.hash⟩ (V.setCell ⟨M, 2, none⟩ (.int .i64 x)) :=
 h.set_ ((Fr.refl (· = M) V).setCell (p := ⟨M, 2, none⟩) (fun _ => rfl) _) (by have := h.blk.set_ 2 (.int .i64 x); simpa using this)
theorem RfS.seth (h : RfS w F M v m V) (x : ByteArray) : RfS w F M v ⟨m.name, m.ver, m.len, x⟩ (V.setCell ⟨M, 3, none⟩ (.string x)) :=
 h.set_ ((Fr.refl (· = M) V).setCell (p := ⟨M, 3, none⟩) (fun _ => rfl) _) (by have := h.blk.set_ 3 (.string x); simpa using this)
theorem RfS.fin (h : RfS w F M v m V) : Blk ((((V.setCell ⟨w.heap.size + 1, 0, none⟩ (.string m.name)).setCell ⟨w.heap.size + 1, 1, none⟩ (.int .i64 m.ver)).setCell ⟨w.heap.size + 1, 2, none⟩ (.int .i64 m.len)).setCell ⟨w.heap.size + 1, 3, none⟩ (.string m.hash)) (w.heap.size + 1) 44 #[.string m.name, .int .i64 m.ver, .int .i64 m.len, .string m.hash] ∧ Below w.heap.size w ((((V.setCell ⟨w.heap.size + 1, 0, none⟩ (.string m.name)).setCell ⟨w.heap.size + 1, 1, none⟩ (.int .i64 m.ver)).setCell ⟨w.heap.size + 1, 2, none⟩ (.int .i64 m.len)).setCell ⟨w.heap.size + 1, 3, none⟩ (.string m.hash)) :=
 ⟨blk_4m h.res, Fr.below_trans h.bel fr_4m h.bel.size (fun b e => by have e' : b = w.heap.size + 1 := e; omega)⟩
end
theorem fokc_any {w : World} {F : Nat} {b : Bool} (t5 : w.cell? ⟨F, 5, none⟩ = some (.bool b)) : Calls Tryz.prog 92 #[.pointer (some ⟨F, 0, none⟩)] w fun e w' => e = .returned (.bool (!b)) ∧ Below w.heap.size w w' := by
 go_enter Tryz.func92, Tryz.ntmps92
 go_wp2
 refine bodyPost_ret (v := .bool (!b)) (by simp [results, Tryz.results92, go_sem]) rfl ?_
 exact ⟨rfl, Below.refl _ _⟩
theorem fdonec_any {w : World} {F : Nat} (t5 : w.cell? ⟨F, 5, none⟩ = some (.bool false)) : Calls Tryz.prog 48 #[.pointer (some ⟨F, 0, none⟩)] w fun e w' => e = .returned (.int .i64 0) ∧ Below w.heap.size w w' := by
 have HF := Ld (fokc_any t5)
 clear t5
 go_enter Tryz.func48, Tryz.ntmps48
 go_wp2_with fail
 refine HF.out.mono ?_
 rintro e w1 ⟨rfl, hb1⟩
 have HB1 := Ld hb1
 clear hb1
 go_wp2
 refine bodyPost_ret (v := .int .i64 0) (by simp [results, Tryz.results48, go_sem]) rfl ?_
 exact ⟨rfl, HB1.out⟩
def RfP (m : ME) (w : World) (e : Ending) (w' : World) : Prop := e = .returned (.tuple #[m.val, .bool true]) ∧ Below w.heap.size w w'
set_option maxRecDepth 100000 in
set_option maxHeartbeats 8000000 in
theorem readFile_any {v : MV} {w : World} (h : VAt w v) (m : ME) (hpv : v.pv = fileP m) (hok : m.ok = true) : Calls Tryz.prog 44 #[.string m.name, v.val] w fun e w' => PF (RfP m w) e w' := by
 obtain ⟨W2, hW2⟩ : ∃ W2, W2 = (w.alloc (.cells #[.int .i64 v.k, .int .i64 v.n, .string v.s, .slice v.lA v.l.length v.lc, .slice v.mA v.m.length v.mc] 30)).alloc (.cells #[.string ⟨#[]⟩, .int .i64 0, .int .i64 0, .string ⟨#[]⟩] 44) := ⟨_, rfl⟩
 obtain ⟨hb2, hk1, hk2, hs2⟩ := new2_ w _ _ _ _ W2 hW2
 obtain ⟨t0, t1, t2, t3, t4⟩ := five_cells hk1
 have hof := fof_any (h.bel hb2)
 unfold MV.val at hof
 have hk : (v.k != 6) = false := by rw [← pv_kd, hpv, look_kd]; rfl
 have hfit : FitV v := fit_cnt (by rw [hpv]; exact Nat.le_trans (cnt_file m) (by decide))
 have hp := hok
 unfold ME.ok at hp
 simp only [Bool.and_eq_true, Bool.or_eq_true, decide_eq_true_eq] at hp
 obtain ⟨_, p1, p2, p3, p4, p5⟩ := hp
 have HP := Ld (And.intro p1 (And.intro p2 (And.intro p3 (And.intro p4 p5))))
 have HOF := Ld hof
 have HA0 := Ld h
 have HW2 := Ld hW2
 have HB2 := Ld hb2
 have HK2 := Ld hk2
 have HKK := Ld hk
 have HFI := Ld hfit
 have HPV := Ld hpv
 clear hW2 hb2 hk1 hk2 hk hfit hof h hpv hok p1 p2 p3 p4 p5
 have HS2 := Ld hs2
 clear hs2
 unfold MV.val
 go_enter Tryz.func44, Tryz.ntmps44
 go_upto_region 1 with (fail)
 rw [← HW2.out]
 go_wp2_with fail
 refine HOF.out.mono ?_
 rintro r w3 ⟨F, rfl, hF, hfa, hb3⟩
 rw [HKK.out] at hfa
 have HFA := Ld hfa
 have HF2 : Hid (w.heap.size + 2 ≤ F) := Ld (by rw [← HS2.out]; exact hF)
 have HB3 := Ld (HB2.out.trans (hb3.mono HB2.out.size))
 have HK3 := Ld (HK2.out.below hb3 HK2.out.lt)
 clear hb3 hfa hF t0 t1 t2 t3 t4
 go_wp2_with fail
 refine (fint_any HFA.out HFI.out veK m.ver 1 1099511627776 (by rw [HPV.out]; exact look_fve m) HP.out.1 HP.out.2.1).mono ?_
 rintro r w4 ⟨rfl, hb4⟩
 obtain ⟨W5, hW5⟩ : ∃ W5, W5 = w4.alloc (.cells #[.string m.name, .int .i64 m.ver, .int .i64 (-1), .string ⟨#[]⟩] 44) := ⟨_, rfl⟩
 obtain ⟨M, hM⟩ : ∃ M, M = w4.heap.size := ⟨_, rfl⟩
 have HS5 : Hid (RfS w F M v ⟨m.name, m.ver, -1, ⟨#[]⟩⟩ W5) := Ld (by
  have h1 : Below w4.heap.size w4 W5 := by rw [hW5]; exact below_new _ _
  have h2 := HB3.out.trans (hb4.mono HB3.out.size)
  have h3 := HFA.out.bel hb4
  have h4 := HK3.out.below hb4 HK3.out.lt
  refine ⟨h2.trans (h1.mono h2.size), h3.bel h1, h4.below h1 h4.lt, ?_, HF2.out, by rw [hM]; exact h3.blk.lt, HA0.out⟩
  rw [hW5, hM]
  exact Blk.new _ _ _)
 have HW5 := Ld hW5
 have HM := Ld hM
 clear hb4 hW5 hM HFA HB3 HK3
 go_upto_region 3 with (fail)
 rw [← HM.out]
 rw [← HW5.out]
 go_wp2_with fail
 refine (fhas_any HS5.out.fat HFI.out lnK).mono ?_
 rintro r w6 ⟨rfl, hb6⟩
 rw [HPV.out, look_fln]
 have HS6 := Ld (HS5.out.below hb6)
 clear hb6
 by_cases hl : 0 ≤ m.len
 ·rw [if_pos hl]
  have HLL : Hid (v.pv.look lnK = some (inV m.len)) := Ld (by rw [HPV.out, look_fln, if_pos hl])
  have HL0 := Ld hl
  clear hl
  simp only [Option.isSome_some]
  go_wp2_with fail
  refine (fint_any HS6.out.fat HFI.out lnK m.len 0 1048576 HLL.out HL0.out HP.out.2.2.2.1).mono ?_
  rintro r w7 ⟨rfl, hb7⟩
  have HS7 := Ld (HS6.out.below hb7)
  clear hb7
  obtain ⟨z0, z1, z2, z3⟩ := four_cells HS7.out.blk
  obtain ⟨y0, y1, y2, y3⟩ := four_fr HS7.out.blk
  obtain ⟨W8, hW8⟩ : ∃ W8, W8 = w7.setCell ⟨M, 2, none⟩ (.int .i64 m.len) := ⟨_, rfl⟩
  have HS8 : Hid (RfS w F M v ⟨m.name, m.ver, m.len, ⟨#[]⟩⟩ W8) := Ld (by rw [hW8]; exact HS7.out.setl m.len)
  have HW8 := Ld hW8
  clear hW8
  go_upto_region 5 with (fail)
  rw [← HW8.out]
  clear z0 z1 z2 z3 y0 y1 y2 y3
  go_wp2_with fail
  refine (fhas_any HS8.out.fat HFI.out haK).mono ?_
  rintro r w6 ⟨rfl, hb6⟩
  rw [HPV.out, look_fha]
  have HS6 := Ld (HS8.out.below hb6)
  clear hb6
  by_cases he : m.hash = ⟨#[]⟩
  ·rw [if_pos he]
   have HS7 : Hid (RfS w F M v m w6) := Ld (by rw [show m = ⟨m.name, m.ver, m.len, ⟨#[]⟩⟩ from by rw [← he]]; exact HS6.out)
   clear he
   simp only [Option.isSome_none]
   go_wp2
   refine wp_region_heldT (S := fun V => RfS w F M v m V) 4 (by kernel_rfl) (HS7.out.below ((Below.refl _ _).drew)) (fun hS1 => ?_)
   refine wpAnyT_take (i := 0) (oi := ⟨some 41, _, _, _, _, _⟩) (v := .agg #[.string m.name, .int .i64 m.ver, .int .i64 m.len, .string m.hash]) rfl (by kernel_rfl) (by kernel_rfl) (by kernel_rfl) (by kernel_rfl) (by kernel_rfl) (fun _ _ _ h => h) (.inl ⟨by kernel_rfl, fun V hS => by obtain ⟨h0, h1, h2, h3⟩ := four_cells hS.blk; go_simp⟩) hS1 ?_
   simp only [nf]
   refine wpAnyT_pure (i := 1) (oi := ⟨some 42, _, _, _, _, _⟩) (v := .pointer (some ⟨F, 0, none⟩)) rfl (by kernel_rfl) (by kernel_rfl) (by kernel_rfl) (by decide) (fun _ _ _ h => h) (.inl ⟨by kernel_rfl, fun V hS => by go_simp⟩) hS1 ?_
   simp only [nf]
   refine wpAnyT_ready (rs := [2]) (by kernel_rfl) (by simp) ?_
   refine AllReadyT.cons rfl (fun K' hK => ?_) AllReadyT.nil
   go_simp
   refine (fdone_any (hS1).fat).mono ?_
   rintro r w9 ⟨rfl, hb9⟩
   have H9 := Ld ((hS1).below hb9)
   clear hb9
   go_simp
   refine hK.out _ _ (H9.out) (fun hS2 => ?_)
   clear hK K' hS1
   refine wpAnyT_pure (i := 3) (oi := ⟨some 44, _, _, _, _, _⟩) (v := .bool true) rfl (by kernel_rfl) (by kernel_rfl) (by kernel_rfl) (by decide) (fun _ _ _ h => h) (.inl ⟨by kernel_rfl, fun V hS => by go_simp⟩) hS2 ?_
   simp only [nf]
   refine wpAnyT_T (by kernel_rfl) rfl (by kernel_rfl) (fun K' hK => ?_)
   obtain ⟨z0, z1, z2, z3⟩ := four_cells H9.out.res
   obtain ⟨y0, y1, y2, y3⟩ := four_fr H9.out.res
   go_simp
   clear z0 z1 z2 z3 y0 y1 y2 y3
   refine hK.out _ _ ?_
   clear hK K' hS2
   refine tk 5 (some 5) (.bool true) rfl (fun V hS => by go_simp) trivial ?_
   simp only [nf]
   refine wpAnyH_done (by kernel_rfl) ?_ _
   have HF9 := Ld H9.out.fin
   go_wp2
   obtain ⟨k0, k1, k2, k3⟩ := four_cells HF9.out.1
   refine bodyPost_ret (v := .tuple #[m.val, .bool true]) (by simp [results, Tryz.results44, go_sem, k0, k1, k2, k3, ME.val]) rfl ?_
   exact ⟨rfl, HF9.out.2⟩
  ·rw [if_neg he]
   have HH : Hid (idL m.hash.data.toList = true) := Ld (by rcases HP.out.2.2.2.2 with h9 | h9; exact absurd h9 he; exact h9)
   have HHA : Hid (v.pv.look haK = some (mpV [shK] [txV m.hash])) := Ld (by rw [HPV.out, look_fha, if_neg he])
   have HHS : Hid (m.hash.size = 64) := Ld (by have h9 := HH.out; unfold idL at h9; rw [Bool.and_eq_true, decide_eq_true_eq] at h9; exact h9.2)
   clear he
   simp only [Option.isSome_some]
   go_wp2_with fail
   refine (fmap_any HS6.out.fat HFI.out haK _ HHA.out rfl).mono ?_
   rintro r w7 ⟨x, rfl, hpx, hox, hb7⟩
   have HS7 := Ld (HS6.out.below hb7)
   have HX := Ld (And.intro hpx hox.at_)
   have HXK : Hid ((x.k != 6) = false) := Ld (by rw [← pv_kd, hpx]; rfl)
   have HXF : Hid (FitV x) := Ld (fit_cnt (by rw [hpx]; simp [mpV, txV, PV.cnt, PV.cntL]))
   clear hpx hox hb7
   go_wp2_with fail
   refine (fof_any HX.out.2).mono ?_
   rintro r w8 ⟨G, rfl, hG, hga, hb8⟩
   rw [HXK.out] at hga
   have HS8 := Ld (HS7.out.below hb8)
   have HGM : Hid (M < G) := Ld (Nat.lt_of_lt_of_le HS7.out.blk.lt hG)
   have HGA := Ld hga
   clear hG hga hb8
   go_wp2_with fail
   refine (fhas_any HGA.out HXF.out shK).mono ?_
   rintro r w9 ⟨rfl, hb9⟩
   rw [HX.out.1, look_sh]
   have HS9 := Ld (HS8.out.below hb9)
   have HGA9 := Ld (HGA.out.bel hb9)
   clear hb9
   simp only [Option.isSome_some]
   go_wp2_with fail
   refine (ftext_any HGA9.out HXF.out shK m.hash 64 (by rw [HX.out.1]; exact look_sh _) (by rw [HHS.out]; decide)).mono ?_
   rintro r wA ⟨rfl, hbA⟩
   have HSA := Ld (HS9.out.below hbA)
   have HGA10 := Ld (HGA9.out.bel hbA)
   clear hbA
   obtain ⟨z0, z1, z2, z3⟩ := four_cells HSA.out.blk
   obtain ⟨y0, y1, y2, y3⟩ := four_fr HSA.out.blk
   obtain ⟨WB, hWB⟩ : ∃ WB, WB = wA.setCell ⟨M, 3, none⟩ (.string m.hash) := ⟨_, rfl⟩
   have HSB : Hid (RfS w F M v m WB) := Ld (by rw [hWB]; exact HSA.out.seth m.hash)
   have HGB : Hid (Blk WB G 119 _) := Ld (by rw [hWB]; exact HGA10.out.blk.far (by have := HGM.out; show G ≠ M; omega) _)
   have HWB := Ld hWB
   clear hWB
   obtain ⟨h0, h1, h2, h3⟩ := four_cells HSB.out.blk
   go_upto_region 9 with (fail)
   rw [← HWB.out]
   clear z0 z1 z2 z3 y0 y1 y2 y3
   go_wp2_with fail
   refine (isHash_any m.hash WB (by rw [HHS.out]; decide)).mono ?_
   rintro r wC ⟨rfl, hbC⟩
   rw [HH.out]
   have HSC := Ld (HSB.out.below hbC)
   have HGC := Ld (HGB.out.below hbC HGB.out.lt)
   clear hbC h0 h1 h2 h3
   go_wp2_with fail
   refine (fdonec_any (HGC.out.cell 5)).mono ?_
   rintro r wD ⟨rfl, hbD⟩
   have HSD := Ld (HSC.out.below hbD)
   clear hbD
   go_wp2
   refine wp_region_heldT (S := fun V => RfS w F M v m V) 4 (by kernel_rfl) (HSD.out.below ((Below.refl _ _).drew)) (fun hS1 => ?_)
   refine wpAnyT_take (i := 0) (oi := ⟨some 41, _, _, _, _, _⟩) (v := .agg #[.string m.name, .int .i64 m.ver, .int .i64 m.len, .string m.hash]) rfl (by kernel_rfl) (by kernel_rfl) (by kernel_rfl) (by kernel_rfl) (by kernel_rfl) (fun _ _ _ h => h) (.inl ⟨by kernel_rfl, fun V hS => by obtain ⟨h0, h1, h2, h3⟩ := four_cells hS.blk; go_simp⟩) hS1 ?_
   simp only [nf]
   refine wpAnyT_pure (i := 1) (oi := ⟨some 42, _, _, _, _, _⟩) (v := .pointer (some ⟨F, 0, none⟩)) rfl (by kernel_rfl) (by kernel_rfl) (by kernel_rfl) (by decide) (fun _ _ _ h => h) (.inl ⟨by kernel_rfl, fun V hS => by go_simp⟩) hS1 ?_
   simp only [nf]
   refine wpAnyT_ready (rs := [2]) (by kernel_rfl) (by simp) ?_
   refine AllReadyT.cons rfl (fun K' hK => ?_) AllReadyT.nil
   go_simp
   refine (fdone_any (hS1).fat).mono ?_
   rintro r w9 ⟨rfl, hb9⟩
   have H9 := Ld ((hS1).below hb9)
   clear hb9
   go_simp
   refine hK.out _ _ (H9.out) (fun hS2 => ?_)
   clear hK K' hS1
   refine wpAnyT_pure (i := 3) (oi := ⟨some 44, _, _, _, _, _⟩) (v := .bool true) rfl (by kernel_rfl) (by kernel_rfl) (by kernel_rfl) (by decide) (fun _ _ _ h => h) (.inl ⟨by kernel_rfl, fun V hS => by go_simp⟩) hS2 ?_
   simp only [nf]
   refine wpAnyT_T (by kernel_rfl) rfl (by kernel_rfl) (fun K' hK => ?_)
   obtain ⟨z0, z1, z2, z3⟩ := four_cells H9.out.res
   obtain ⟨y0, y1, y2, y3⟩ := four_fr H9.out.res
   go_simp
   clear z0 z1 z2 z3 y0 y1 y2 y3
   refine hK.out _ _ ?_
   clear hK K' hS2
   refine tk 5 (some 5) (.bool true) rfl (fun V hS => by go_simp) trivial ?_
   simp only [nf]
   refine wpAnyH_done (by kernel_rfl) ?_ _
   have HF9 := Ld H9.out.fin
   go_wp2
   obtain ⟨k0, k1, k2, k3⟩ := four_cells HF9.out.1
   refine bodyPost_ret (v := .tuple #[m.val, .bool true]) (by simp [results, Tryz.results44, go_sem, k0, k1, k2, k3, ME.val]) rfl ?_
   exact ⟨rfl, HF9.out.2⟩
 ·rw [if_neg hl]
  have HS7 : Hid (RfS w F M v ⟨m.name, m.ver, m.len, ⟨#[]⟩⟩ w6) := Ld (by
   rw [show m.len = -1 from by have := HP.out.2.2.1; omega]
   exact HS6.out)
  clear hl
  simp only [Option.isSome_none]
  go_wp2_with fail
  refine (fhas_any HS7.out.fat HFI.out haK).mono ?_
  rintro r w6 ⟨rfl, hb6⟩
  rw [HPV.out, look_fha]
  have HS6 := Ld (HS7.out.below hb6)
  clear hb6
  by_cases he : m.hash = ⟨#[]⟩
  ·rw [if_pos he]
   have HS7 : Hid (RfS w F M v m w6) := Ld (by rw [show m = ⟨m.name, m.ver, m.len, ⟨#[]⟩⟩ from by rw [← he]]; exact HS6.out)
   clear he
   simp only [Option.isSome_none]
   go_wp2
   refine wp_region_heldT (S := fun V => RfS w F M v m V) 4 (by kernel_rfl) (HS7.out.below ((Below.refl _ _).drew)) (fun hS1 => ?_)
   refine wpAnyT_take (i := 0) (oi := ⟨some 41, _, _, _, _, _⟩) (v := .agg #[.string m.name, .int .i64 m.ver, .int .i64 m.len, .string m.hash]) rfl (by kernel_rfl) (by kernel_rfl) (by kernel_rfl) (by kernel_rfl) (by kernel_rfl) (fun _ _ _ h => h) (.inl ⟨by kernel_rfl, fun V hS => by obtain ⟨h0, h1, h2, h3⟩ := four_cells hS.blk; go_simp⟩) hS1 ?_
   simp only [nf]
   refine wpAnyT_pure (i := 1) (oi := ⟨some 42, _, _, _, _, _⟩) (v := .pointer (some ⟨F, 0, none⟩)) rfl (by kernel_rfl) (by kernel_rfl) (by kernel_rfl) (by decide) (fun _ _ _ h => h) (.inl ⟨by kernel_rfl, fun V hS => by go_simp⟩) hS1 ?_
   simp only [nf]
   refine wpAnyT_ready (rs := [2]) (by kernel_rfl) (by simp) ?_
   refine AllReadyT.cons rfl (fun K' hK => ?_) AllReadyT.nil
   go_simp
   refine (fdone_any (hS1).fat).mono ?_
   rintro r w9 ⟨rfl, hb9⟩
   have H9 := Ld ((hS1).below hb9)
   clear hb9
   go_simp
   refine hK.out _ _ (H9.out) (fun hS2 => ?_)
   clear hK K' hS1
   refine wpAnyT_pure (i := 3) (oi := ⟨some 44, _, _, _, _, _⟩) (v := .bool true) rfl (by kernel_rfl) (by kernel_rfl) (by kernel_rfl) (by decide) (fun _ _ _ h => h) (.inl ⟨by kernel_rfl, fun V hS => by go_simp⟩) hS2 ?_
   simp only [nf]
   refine wpAnyT_T (by kernel_rfl) rfl (by kernel_rfl) (fun K' hK => ?_)
   obtain ⟨z0, z1, z2, z3⟩ := four_cells H9.out.res
   obtain ⟨y0, y1, y2, y3⟩ := four_fr H9.out.res
   go_simp
   clear z0 z1 z2 z3 y0 y1 y2 y3
   refine hK.out _ _ ?_
   clear hK K' hS2
   refine tk 5 (some 5) (.bool true) rfl (fun V hS => by go_simp) trivial ?_
   simp only [nf]
   refine wpAnyH_done (by kernel_rfl) ?_ _
   have HF9 := Ld H9.out.fin
   go_wp2
   obtain ⟨k0, k1, k2, k3⟩ := four_cells HF9.out.1
   refine bodyPost_ret (v := .tuple #[m.val, .bool true]) (by simp [results, Tryz.results44, go_sem, k0, k1, k2, k3, ME.val]) rfl ?_
   exact ⟨rfl, HF9.out.2⟩
  ·rw [if_neg he]
   have HH : Hid (idL m.hash.data.toList = true) := Ld (by rcases HP.out.2.2.2.2 with h9 | h9; exact absurd h9 he; exact h9)
   have HHA : Hid (v.pv.look haK = some (mpV [shK] [txV m.hash])) := Ld (by rw [HPV.out, look_fha, if_neg he])
   have HHS : Hid (m.hash.size = 64) := Ld (by have h9 := HH.out; unfold idL at h9; rw [Bool.and_eq_true, decide_eq_true_eq] at h9; exact h9.2)
   clear he
   simp only [Option.isSome_some]
   go_wp2_with fail
   refine (fmap_any HS6.out.fat HFI.out haK _ HHA.out rfl).mono ?_
   rintro r w7 ⟨x, rfl, hpx, hox, hb7⟩
   have HS7 := Ld (HS6.out.below hb7)
   have HX := Ld (And.intro hpx hox.at_)
   have HXK : Hid ((x.k != 6) = false) := Ld (by rw [← pv_kd, hpx]; rfl)
   have HXF : Hid (FitV x) := Ld (fit_cnt (by rw [hpx]; simp [mpV, txV, PV.cnt, PV.cntL]))
   clear hpx hox hb7
   go_wp2_with fail
   refine (fof_any HX.out.2).mono ?_
   rintro r w8 ⟨G, rfl, hG, hga, hb8⟩
   rw [HXK.out] at hga
   have HS8 := Ld (HS7.out.below hb8)
   have HGM : Hid (M < G) := Ld (Nat.lt_of_lt_of_le HS7.out.blk.lt hG)
   have HGA := Ld hga
   clear hG hga hb8
   go_wp2_with fail
   refine (fhas_any HGA.out HXF.out shK).mono ?_
   rintro r w9 ⟨rfl, hb9⟩
   rw [HX.out.1, look_sh]
   have HS9 := Ld (HS8.out.below hb9)
   have HGA9 := Ld (HGA.out.bel hb9)
   clear hb9
   simp only [Option.isSome_some]
   go_wp2_with fail
   refine (ftext_any HGA9.out HXF.out shK m.hash 64 (by rw [HX.out.1]; exact look_sh _) (by rw [HHS.out]; decide)).mono ?_
   rintro r wA ⟨rfl, hbA⟩
   have HSA := Ld (HS9.out.below hbA)
   have HGA10 := Ld (HGA9.out.bel hbA)
   clear hbA
   obtain ⟨z0, z1, z2, z3⟩ := four_cells HSA.out.blk
   obtain ⟨y0, y1, y2, y3⟩ := four_fr HSA.out.blk
   obtain ⟨WB, hWB⟩ : ∃ WB, WB = wA.setCell ⟨M, 3, none⟩ (.string m.hash) := ⟨_, rfl⟩
   have HSB : Hid (RfS w F M v m WB) := Ld (by rw [hWB]; exact HSA.out.seth m.hash)
   have HGB : Hid (Blk WB G 119 _) := Ld (by rw [hWB]; exact HGA10.out.blk.far (by have := HGM.out; show G ≠ M; omega) _)
   have HWB := Ld hWB
   clear hWB
   obtain ⟨h0, h1, h2, h3⟩ := four_cells HSB.out.blk
   go_upto_region 9 with (fail)
   rw [← HWB.out]
   clear z0 z1 z2 z3 y0 y1 y2 y3
   go_wp2_with fail
   refine (isHash_any m.hash WB (by rw [HHS.out]; decide)).mono ?_
   rintro r wC ⟨rfl, hbC⟩
   rw [HH.out]
   have HSC := Ld (HSB.out.below hbC)
   have HGC := Ld (HGB.out.below hbC HGB.out.lt)
   clear hbC h0 h1 h2 h3
   go_wp2_with fail
   refine (fdonec_any (HGC.out.cell 5)).mono ?_
   rintro r wD ⟨rfl, hbD⟩
   have HSD := Ld (HSC.out.below hbD)
   clear hbD
   go_wp2
   refine wp_region_heldT (S := fun V => RfS w F M v m V) 4 (by kernel_rfl) (HSD.out.below ((Below.refl _ _).drew)) (fun hS1 => ?_)
   refine wpAnyT_take (i := 0) (oi := ⟨some 41, _, _, _, _, _⟩) (v := .agg #[.string m.name, .int .i64 m.ver, .int .i64 m.len, .string m.hash]) rfl (by kernel_rfl) (by kernel_rfl) (by kernel_rfl) (by kernel_rfl) (by kernel_rfl) (fun _ _ _ h => h) (.inl ⟨by kernel_rfl, fun V hS => by obtain ⟨h0, h1, h2, h3⟩ := four_cells hS.blk; go_simp⟩) hS1 ?_
   simp only [nf]
   refine wpAnyT_pure (i := 1) (oi := ⟨some 42, _, _, _, _, _⟩) (v := .pointer (some ⟨F, 0, none⟩)) rfl (by kernel_rfl) (by kernel_rfl) (by kernel_rfl) (by decide) (fun _ _ _ h => h) (.inl ⟨by kernel_rfl, fun V hS => by go_simp⟩) hS1 ?_
   simp only [nf]
   refine wpAnyT_ready (rs := [2]) (by kernel_rfl) (by simp) ?_
   refine AllReadyT.cons rfl (fun K' hK => ?_) AllReadyT.nil
   go_simp
   refine (fdone_any (hS1).fat).mono ?_
   rintro r w9 ⟨rfl, hb9⟩
   have H9 := Ld ((hS1).below hb9)
   clear hb9
   go_simp
   refine hK.out _ _ (H9.out) (fun hS2 => ?_)
   clear hK K' hS1
   refine wpAnyT_pure (i := 3) (oi := ⟨some 44, _, _, _, _, _⟩) (v := .bool true) rfl (by kernel_rfl) (by kernel_rfl) (by kernel_rfl) (by decide) (fun _ _ _ h => h) (.inl ⟨by kernel_rfl, fun V hS => by go_simp⟩) hS2 ?_
   simp only [nf]
   refine wpAnyT_T (by kernel_rfl) rfl (by kernel_rfl) (fun K' hK => ?_)
   obtain ⟨z0, z1, z2, z3⟩ := four_cells H9.out.res
   obtain ⟨y0, y1, y2, y3⟩ := four_fr H9.out.res
   go_simp
   clear z0 z1 z2 z3 y0 y1 y2 y3
   refine hK.out _ _ ?_
   clear hK K' hS2
   refine tk 5 (some 5) (.bool true) rfl (fun V hS => by go_simp) trivial ?_
   simp only [nf]
   refine wpAnyH_done (by kernel_rfl) ?_ _
   have HF9 := Ld H9.out.fin
   go_wp2
   obtain ⟨k0, k1, k2, k3⟩ := four_cells HF9.out.1
   refine bodyPost_ret (v := .tuple #[m.val, .bool true]) (by simp [results, Tryz.results44, go_sem, k0, k1, k2, k3, ME.val]) rfl ?_
   exact ⟨rfl, HF9.out.2⟩
end Go.Proofs.YtefkpphahimkgaaGreatDoor
