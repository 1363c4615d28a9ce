/-
 The document's May.
-/
import Derived.Test.YtefkpphahimkgaaGreatDoorTk
import Derived.Test.YtefkpphahimkgaaGreatDoorLiW2
namespace Go.Proofs.YtefkpphahimkgaaGreatDoor
open Go.RowKit
attribute [local go_sem ↓] Go.wp_at_zero Go.wp_at_succ
set_option linter.unusedVariables false
set_option linter.unusedSimpArgs false
theorem suf_short {s : ByteArray} (h : s.size < 5) : sufJ s = false := by
 unfold sufJ Lib.hasSuffix
 rw [← Bool.not_eq_true, List.isSuffixOf_iff_suffix]
 intro h2
 have := h2.length_le
 have e : s.data.toList.length = s.size := rfl
 simp only [List.length_cons, List.length_nil] at this
 rw [e] at this
 omega
theorem suf_ext {s : ByteArray} (h : 5 ≤ s.size) : sufJ s = decide (s.extract (s.size - 5) s.size = ⟨#[46, 106, 115, 111, 110]⟩) := by
 have e : s.data.toList.length = s.size := rfl
 have hd : (s.extract (s.size - 5) s.size).data.toList = s.data.toList.drop (s.size - 5) := by
  rw [ByteArray.data_extract, Array.toList_extract]
  exact List.take_of_length_le (by rw [List.length_drop]; omega)
 have hiff : sufJ s = true ↔ s.data.toList.drop (s.size - 5) = [46, 106, 115, 111, 110] := by
  unfold sufJ Lib.hasSuffix
  rw [List.isSuffixOf_iff_suffix, List.suffix_iff_eq_drop]
  simp only [List.length_cons, List.length_nil]
  rw [e]
  exact eq_comm
 cases h1 : sufJ s with
 | true =>
  have h2 := hiff.1 h1
  rw [← hd] at h2
  exact (decide_eq_true (ByteArray.ext (Array.toList_inj.1 h2))).symm
 | false =>
  refine (decide_eq_false (fun h3 => ?_)).symm
  have : sufJ s = true := hiff.2 (by rw [← hd, h3])
  rw [h1] at this
  cases this
theorem may_of {kind : ByteArray} {v e : Int} {l : List ME} (h1 : 1 ≤ v) (h2 : v ≤ 1099511627776) (h3 : 0 ≤ e) (h4 : e ≤ 253402300799) : mayL kind v e l = (risB l && ((decide (kind = tsN) && (decide (l.length = 1) && l.all (fun m => decide (m.name = ssJ)))) || (decide (kind = ssN) && (l.any (fun m => decide (m.name = tgJ)) && l.all (fun m => sufJ m.name))))) := by
 unfold mayL
 rw [decide_eq_true h1, decide_eq_true h2, decide_eq_true h3, decide_eq_true h4]
 rfl
theorem ts_ne_ss : tsN ≠ ssN := by decide
theorem any_snoc {l : List ME} {k : Nat} (hk : k < l.length) (p : ME → Bool) : (l.take (k + 1)).any p = ((l.take k).any p || p l[k]) := by
 rw [List.take_succ_eq_append_getElem hk, List.any_append]
 simp
structure RM (l : List ME) (sn : Bool) (k : Nat) (tf : Bool) : Prop where
 st : ∀ i, i < k → stepB l i = true
 sf : sn = true → ∀ i (hi : i < l.length), i < k → sufJ (l[i]).name = true
 tg : tf = (l.take k).any (fun m => decide (m.name = tgJ))
set_option maxRecDepth 100000 in
set_option maxHeartbeats 16000000 in
theorem rmay_loop {w : World} (kind : ByteArray) (v e0 : Int) {A : Option Addr} {c : Nat} {l : List ME} (h : MAt w A c l) (sn : Bool) (hkt : decide (kind = tsN) = !sn) (hks : decide (kind = ssN) = sn) (h1 : 1 ≤ v) (h2 : v ≤ 1099511627776) (h3 : 0 ≤ e0) (h4 : e0 ≤ 253402300799) (hl : l.length ≤ 64) :
  Calls Tryz.prog 11 #[.string kind, .agg #[.int .i64 v, .int .i64 e0, .slice A l.length c]] w fun e w' => PFb (BoP (mayL kind v e0 l) w) e w' := by
 obtain ⟨r, hr⟩ : ∃ r, r = mayL kind v e0 l := ⟨_, rfl⟩
 rw [← hr]
 rw [may_of h1 h2 h3 h4, hkt, hks] at hr
 have HR := Ld hr
 have d1 : decide (v < 1) = false := decide_eq_false (by omega)
 have d2 : decide (v > 1099511627776) = false := decide_eq_false (by omega)
 have d2' : decide (1099511627776 < v) = false := decide_eq_false (by omega)
 have d3 : decide (e0 < 0) = false := decide_eq_false (by omega)
 have d4 : decide (e0 > 253402300799) = false := decide_eq_false (by omega)
 have d4' : decide (253402300799 < e0) = false := decide_eq_false (by omega)
 have HKT : Hid (sn = false → kind.toList = [116, 105, 109, 101, 115, 116, 97, 109, 112]) := Ld (fun e => by
  rw [e] at hkt
  have h9 : kind = tsN := of_decide_eq_true hkt
  rw [h9, ByteArray.toList_eq]
  rfl)
 have HKS : Hid (sn = true → kind.toList = [115, 110, 97, 112, 115, 104, 111, 116]) := Ld (fun e => by
  rw [e] at hks
  have h9 : kind = ssN := of_decide_eq_true hks
  rw [h9, ByteArray.toList_eq]
  rfl)
 obtain ⟨n, hn⟩ : ∃ n, n = l.length := ⟨_, rfl⟩
 rw [← hn] at hl ⊢
 have d5 : decide ((n : Int) > 64) = false := decide_eq_false (by omega)
 have d5' : decide ((64 : Int) < (n : Int)) = false := decide_eq_false (by omega)
 have d5n : decide (64 < n) = false := decide_eq_false (by omega)
 have HN : Hid (l.length = n) := Ld hn.symm
 have HF := Ld h
 obtain ⟨W1, hW1⟩ : ∃ W1, W1 = w.alloc (.cells #[.int .i64 v, .int .i64 e0, .slice A n c] 24) := ⟨_, rfl⟩
 have hb1 : Below w.heap.size w W1 := by rw [hW1]; exact (Below.refl _ _).alloc (Nat.le_refl _) _
 have hk1 : Blk W1 w.heap.size 24 #[.int .i64 v, .int .i64 e0, .slice A n c] := by rw [hW1]; exact Blk.new _ _ _
 rw [hW1] at hb1 hk1
 have HB1 := Ld hb1
 have HK1 := Ld hk1
 clear hr hn hb1 hk1 hW1 h hkt hks h1 h2 h3 h4
 cases sn
 case false =>
  have kp := HKT.out rfl
  clear HKT HKS
  go_enter Tryz.func11, Tryz.ntmps11
  go_wp2_with fail
  go_loopw [5, 6] (fun tv i wr => ∃ (k : Nat) (tf : Bool), k ≤ n ∧ tv = .bool tf ∧ i = .int .i64 (k : Int) ∧ Hid (RM l false k tf) ∧ Hid (Below (w.alloc (.cells #[.int .i64 v, .int .i64 e0, .slice A n c] 24)).heap.size (w.alloc (.cells #[.int .i64 v, .int .i64 e0, .slice A n c] 24)) wr)) (fun _ i _ => n - (intOf i).toNat)
  case atStart => exact ⟨0, false, Nat.zero_le _, rfl, rfl, Ld ⟨fun i hi => by omega, fun _ i _ hi => by omega, by simp⟩, Ld (Below.refl _ _)⟩
  case round =>
   obtain ⟨k, tf, hk, rfl, rfl, HK, HB0⟩ := hrel
   have HB : Hid (Below w.heap.size w wr) := Ld (HB1.out.trans (HB0.out.mono HB1.out.size))
   have hkr := HK1.out.below HB0.out HK1.out.lt
   have b2 := hkr.cell 2
   simp only [gz] at b2
   have HKR := Ld hkr
   clear hkr
   rcases (by omega : k < n ∨ k = n) with hlt | heq
   ·have q0 : decide ((k : Int) < (n : Int)) = true := by rw [decide_eq_true_iff]; omega
    have q0' : decide (k < n) = true := by rw [decide_eq_true_iff]; omega
    have hkl : k < l.length := by rw [HN.out]; exact hlt
    have hmr := HF.out.bel HB.out
    obtain ⟨b, o, hA, hb, hall⟩ := hmr.at_ (by omega)
    subst hA
    obtain ⟨x, hx⟩ : ∃ x, x = l[k] := ⟨_, rfl⟩
    obtain ⟨y, hy⟩ : ∃ y, y = l.getD (k - 1) ME.none_ := ⟨_, rfl⟩
    have hY : ∀ h0 : 0 < k, y = l[k - 1]'(by omega) := fun h0 => by rw [hy, List.getD_eq_getElem?_getD, List.getElem?_eq_getElem (by omega), Option.getD_some]
    have hst : stepB l k = (x.ok && (decide (k = 0) || bl y.name x.name)) := by
     rcases (by omega : k = 0 ∨ 0 < k) with h0 | h0
     ·subst h0
      rw [step_zero hkl, ← hx]
      simp
     ·obtain ⟨j, rfl⟩ : ∃ j, k = j + 1 := ⟨k - 1, by omega⟩
      have e := hY h0
      simp only [Nat.add_one_sub_one] at e
      rw [step_succ hkl, ← hx, ← e]
      simp
    have HST := Ld hst
    have c0 : wr.cell? ⟨b, o + k * 4, none⟩ = some (.string x.name) := by rw [hx]; exact hall k hkl 0 (by omega)
    have c1 : wr.cell? ⟨b, o + k * 4 + 1, none⟩ = some (.int .i64 x.ver) := by rw [hx]; exact hall k hkl 1 (by omega)
    have c2 : wr.cell? ⟨b, o + k * 4 + 2, none⟩ = some (.int .i64 x.len) := by rw [hx]; exact hall k hkl 2 (by omega)
    have c3 : wr.cell? ⟨b, o + k * 4 + 3, none⟩ = some (.string x.hash) := by rw [hx]; exact hall k hkl 3 (by omega)
    obtain ⟨WR, hWR⟩ : ∃ WR, WR = wr.alloc (.cells #[.string x.name, .int .i64 x.ver, .int .i64 x.len, .string x.hash] 44) := ⟨_, rfl⟩
    have hbr : Below wr.heap.size wr WR := by rw [hWR]; exact (Below.refl _ _).alloc (Nat.le_refl _) _
    have hkr : Blk WR wr.heap.size 44 #[.string x.name, .int .i64 x.ver, .int .i64 x.len, .string x.hash] := by rw [hWR]; exact Blk.new _ _ _
    have HZ : Hid (∀ V, Below WR.heap.size WR V → V.cell? ⟨wr.heap.size, 0, none⟩ = some (.string x.name) ∧ V.cell? ⟨wr.heap.size, 1, none⟩ = some (.int .i64 x.ver) ∧ V.cell? ⟨wr.heap.size, 2, none⟩ = some (.int .i64 x.len) ∧ V.cell? ⟨wr.heap.size, 3, none⟩ = some (.string x.hash)) := Ld (fun V hV => by
     have hk := hkr.below hV hkr.lt
     exact ⟨hk.cell 0, hk.cell 1, hk.cell 2, hk.cell 3⟩)
    have HPY' : Hid (∀ V, Below WR.heap.size WR V → 0 < k → V.cell? ⟨b, o + (k - 1) * 4, none⟩ = some (.string y.name)) := Ld (fun V hV h0 => by
     have hW : ∀ j, V.cell? ⟨b, j, none⟩ = wr.cell? ⟨b, j, none⟩ := fun j => (hbr.trans (hV.mono hbr.size)).cell (p := ⟨b, j, none⟩) hb
     rw [hY h0, hW]
     exact hall (k - 1) (by omega) 0 (by omega))
    have HKL2 : Hid (∀ V, Below WR.heap.size WR V → V.cell? ⟨w.heap.size, 2, none⟩ = some (.slice (some ⟨b, o, none⟩) n c)) := Ld (fun V hV => by
     have hk := HKR.out.below (hbr.trans (hV.mono hbr.size)) HKR.out.lt
     exact hk.cell 2)
    have hsz := HF.out.sz x (by rw [hx]; exact List.getElem_mem hkl)
    have hc0 := fun V => rfile_any x V hsz
    unfold ME.val at hc0
    obtain ⟨f, hf⟩ : ∃ f, f = x.ok := ⟨_, rfl⟩
    rw [← hf] at hc0
    have HC : Hid (∀ V, Below WR.heap.size WR V → Calls Tryz.prog 34 #[.agg #[.string x.name, .int .i64 x.ver, .int .i64 x.len, .string x.hash]] V fun e w' => BoP f V e w') := Ld (fun V _ => hc0 V)
    have HX := Ld hx
    have HKL := Ld hkl
    have HFX := Ld hf
    have HBI : Hid (∀ V, Below WR.heap.size WR V → Below (w.alloc (.cells #[.int .i64 v, .int .i64 e0, .slice (some ⟨b, o, none⟩) n c] 24)).heap.size (w.alloc (.cells #[.int .i64 v, .int .i64 e0, .slice (some ⟨b, o, none⟩) n c] 24)) V) := Ld (fun V hV => HB0.out.trans ((hbr.trans (hV.mono hbr.size)).mono HB0.out.size))
    have HWR := Ld hWR
    have hki : (k : Int) < (n : Int) := by omega
    have hk0 : (0 : Int) ≤ (k : Int) := by omega
    have hzz : (x.name.size : Int) ≤ 140737488351232 := by have := hsz.1; omega
    have HGO : Hid (f = true → (k = 0 ∨ bl y.name x.name = true) → stepB l k = true) := Ld (fun e1 e2 => by
     rw [hst, ← hf, e1]
     rcases e2 with e2 | e2 <;> simp [e2])
    have HNO : Hid (stepB l k = false → r = false) := Ld (fun e1 => by
     rw [HR.out]
     unfold risB
     rw [allB_no hkl e1]
     rfl)
    clear hmr hall hx hy hY hkr hbr hWR hc0 hf hsz hb hst
    go_wp2
    rw [← HWR.out]
    clear c0 c1 c2 c3
    cases f with
    | false =>
     refine wp_region_held_drew (S := fun V => Below WR.heap.size WR V) (by kernel_rfl) ((Below.refl _ _).drew) (fun hS1 => ?_)
     refine tk 0 (some 56) (.agg #[.string x.name, .int .i64 x.ver, .int .i64 x.len, .string x.hash]) rfl (fun V hS => by obtain ⟨h0, h1, h2, h3⟩ := HZ.out V hS; go_simp) hS1 ?_
     simp only [nf]
     refine rd1 1 rfl (fun K' hK => ?_)
     go_simp
     refine (HC.out _ hS1).mono ?_
     rintro e w6 ⟨rfl, hb6⟩
     go_simp
     refine hK.out _ _ (hS1.trans (hb6.mono hS1.size)) (fun hS2 => ?_)
     clear hK K' hS1
     refine tk 2 (some 58) (.bool true) rfl (fun V hS => by go_simp) hS2 ?_
     simp only [nf]
     refine tk 3 (some 59) (.bool true) rfl (fun V hS => by go_simp) hS2 ?_
     simp only [nf]
     refine tk0 4 (some 60) rfl hS2 ?_
     simp only [nf]
     refine tk0 5 (some 61) rfl hS2 ?_
     simp only [nf]
     refine tk0 6 (some 62) rfl hS2 ?_
     simp only [nf]
     refine tk0 7 (some 63) rfl hS2 ?_
     simp only [nf]
     refine tk0 8 (some 64) rfl hS2 ?_
     simp only [nf]
     refine tk0 9 (some 65) rfl hS2 ?_
     simp only [nf]
     refine tk0 10 (some 66) rfl hS2 ?_
     simp only [nf]
     refine tk0 11 (some 67) rfl hS2 ?_
     simp only [nf]
     refine tk0 12 (some 68) rfl hS2 ?_
     simp only [nf]
     refine tk0 13 (some 69) rfl hS2 ?_
     simp only [nf]
     refine tk0 14 (some 70) rfl hS2 ?_
     simp only [nf]
     refine tk0 15 (some 71) rfl hS2 ?_
     simp only [nf]
     refine tk0 16 (some 72) rfl hS2 ?_
     simp only [nf]
     refine tk0 17 (some 73) rfl hS2 ?_
     simp only [nf]
     refine tk 18 (some 74) (.bool true) rfl (fun V hS => by go_simp) hS2 ?_
     simp only [nf]
     refine tk 19 (some 75) (.bool true) rfl (fun V hS => by go_simp) hS2 ?_
     simp only [nf]
     refine tk0 20 (some 76) rfl hS2 ?_
     simp only [nf]
     refine tk0 21 (some 77) rfl hS2 ?_
     simp only [nf]
     refine tk0 22 (some 78) rfl hS2 ?_
     simp only [nf]
     refine tk0 23 (some 79) rfl hS2 ?_
     simp only [nf]
     refine tk0 24 (some 80) rfl hS2 ?_
     simp only [nf]
     refine tk0 25 (some 81) rfl hS2 ?_
     simp only [nf]
     refine tk0 26 (some 82) rfl hS2 ?_
     simp only [nf]
     refine tk0 27 (some 83) rfl hS2 ?_
     simp only [nf]
     refine tk0 28 (some 84) rfl hS2 ?_
     simp only [nf]
     refine tk0 29 (some 85) rfl hS2 ?_
     simp only [nf]
     refine tk0 30 (some 86) rfl hS2 ?_
     simp only [nf]
     refine tk0 31 (some 87) rfl hS2 ?_
     simp only [nf]
     refine tk0 32 (some 88) rfl hS2 ?_
     simp only [nf]
     refine tk0 33 (some 89) rfl hS2 ?_
     simp only [nf]
     refine tk 34 (some 90) (.bool true) rfl (fun V hS => by go_simp) hS2 ?_
     simp only [nf]
     refine wpAnyH_done (by kernel_rfl) ?_ _
     have HI : Hid (r = false) := Ld (HNO.out (by rw [HST.out, ← HFX.out]; rfl))
     go_wp2
     go_ret
     exact ⟨by rw [HI.out]; rfl, HB1.out.trans ((HBI.out _ hS2).mono HB1.out.size)⟩
    | true =>
     have HF1 : Hid (true = true) := Ld rfl
     rcases (by omega : k = 0 ∨ 0 < k) with hz | hz
     ·have e2 : decide ((0 : Int) < (k : Int)) = false := by rw [decide_eq_false_iff_not]; omega
      have e2n : decide (0 < k) = false := by rw [decide_eq_false_iff_not]; omega
      have e2g : decide ((k : Int) > 0) = false := by rw [decide_eq_false_iff_not]; omega
      have HKZ := Ld hz
      have HPY : Hid (True) := Ld trivial
      clear hz HPY'
      refine wp_region_held_drew (S := fun V => Below WR.heap.size WR V) (by kernel_rfl) ((Below.refl _ _).drew) (fun hS1 => ?_)
      refine tk 0 (some 56) (.agg #[.string x.name, .int .i64 x.ver, .int .i64 x.len, .string x.hash]) rfl (fun V hS => by obtain ⟨h0, h1, h2, h3⟩ := HZ.out V hS; go_simp) hS1 ?_
      simp only [nf]
      refine rd1 1 rfl (fun K' hK => ?_)
      go_simp
      refine (HC.out _ hS1).mono ?_
      rintro e w6 ⟨rfl, hb6⟩
      go_simp
      refine hK.out _ _ (hS1.trans (hb6.mono hS1.size)) (fun hS2 => ?_)
      clear hK K' hS1
      refine tk 2 (some 58) (.bool false) rfl (fun V hS => by go_simp) hS2 ?_
      simp only [nf]
      refine tk 3 (some 59) (.bool false) rfl (fun V hS => by go_simp) hS2 ?_
      simp only [nf]
      refine tk 4 (some 60) (.int .i64 (k : Int)) rfl (fun V hS => by go_simp) hS2 ?_
      simp only [nf]
      refine tk 5 (some 61) (.bool false) rfl (fun V hS => by go_simp) hS2 ?_
      simp only [nf]
      refine tk 6 (some 62) (.bool false) rfl (fun V hS => by go_simp) hS2 ?_
      simp only [nf]
      refine tk0 7 (some 63) rfl hS2 ?_
      simp only [nf]
      refine tk0 8 (some 64) rfl hS2 ?_
      simp only [nf]
      refine tk0 9 (some 65) rfl hS2 ?_
      simp only [nf]
      refine tk0 10 (some 66) rfl hS2 ?_
      simp only [nf]
      refine tk0 11 (some 67) rfl hS2 ?_
      simp only [nf]
      refine tk0 12 (some 68) rfl hS2 ?_
      simp only [nf]
      refine tk0 13 (some 69) rfl hS2 ?_
      simp only [nf]
      refine tk0 14 (some 70) rfl hS2 ?_
      simp only [nf]
      refine tk0 15 (some 71) rfl hS2 ?_
      simp only [nf]
      refine tk0 16 (some 72) rfl hS2 ?_
      simp only [nf]
      refine tk 17 (some 73) (.bool false) rfl (fun V hS => by go_simp) hS2 ?_
      simp only [nf]
      refine tk 18 (some 74) (.bool false) rfl (fun V hS => by go_simp) hS2 ?_
      simp only [nf]
      refine tk 19 (some 75) (.bool false) rfl (fun V hS => by go_simp) hS2 ?_
      simp only [nf]
      refine tk 20 (some 76) (.string kind) rfl (fun V hS => by go_simp) hS2 ?_
      simp only [nf]
      refine tk 21 (some 77) (.bool false) rfl (fun V hS => by go_simp) hS2 ?_
      simp only [nf]
      refine tk 22 (some 78) (.bool false) rfl (fun V hS => by go_simp) hS2 ?_
      simp only [nf]
      refine tk0 23 (some 79) rfl hS2 ?_
      simp only [nf]
      refine tk0 24 (some 80) rfl hS2 ?_
      simp only [nf]
      refine tk0 25 (some 81) rfl hS2 ?_
      simp only [nf]
      refine tk0 26 (some 82) rfl hS2 ?_
      simp only [nf]
      refine tk0 27 (some 83) rfl hS2 ?_
      simp only [nf]
      refine tk0 28 (some 84) rfl hS2 ?_
      simp only [nf]
      refine tk0 29 (some 85) rfl hS2 ?_
      simp only [nf]
      refine tk0 30 (some 86) rfl hS2 ?_
      simp only [nf]
      refine tk0 31 (some 87) rfl hS2 ?_
      simp only [nf]
      refine tk0 32 (some 88) rfl hS2 ?_
      simp only [nf]
      refine tk 33 (some 89) (.bool false) rfl (fun V hS => by go_simp) hS2 ?_
      simp only [nf]
      refine tk 34 (some 90) (.bool false) rfl (fun V hS => by go_simp) hS2 ?_
      simp only [nf]
      refine wpAnyH_done (by kernel_rfl) ?_ _
      have HST2 : Hid (stepB l k = true) := Ld (HGO.out HF1.out (.inl HKZ.out))
      have HN2 := Ld (HBI.out _ hS2)
      obtain ⟨z0, z1, z2, z3⟩ := HZ.out _ hS2
      clear hS2
      have HRA : Hid (∀ i, i < k + 1 → stepB l i = true) := Ld (fun i hi => by
       rcases (by omega : i < k ∨ i = k) with h1 | h1
       ·exact HK.out.st i h1
       ·rw [h1]; exact HST2.out)
      have HRB : Hid (false = true → ∀ i (hi : i < l.length), i < k + 1 → sufJ (l[i]).name = true) := Ld (fun e3 i hi1 hi => by
       rcases (by omega : i < k ∨ i = k) with h1 | h1
       ·exact HK.out.sf e3 i hi1 h1
       ·subst h1
        cases e3)
      have HRM : Hid (∀ tf2, tf2 = (tf || decide (x.name = tgJ)) → RM l false (k + 1) tf2) := Ld (fun tf2 e2 => ⟨HRA.out, HRB.out, (by rw [e2, any_snoc HKL.out, ← HX.out, ← HK.out.tg])⟩)
      clear HRA HRB
      cases tf with
      | true =>
       have HRM2 := Ld (HRM.out true rfl)
       clear HRM
       go_wp2
       go_roundw
       case rel => exact ⟨k + 1, true, by omega, rfl, by go_num, HRM2, HN2⟩
       case measure => simp [intOf]; omega
      | false =>
       have HRM2 := Ld (HRM.out (decide (x.name = tgJ)) rfl)
       have g9 := nm_beq x.name ⟨#[116, 97, 114, 103, 101, 116, 115, 46, 106, 115, 111, 110]⟩
       have g8 : (x.name.toList == [116, 97, 114, 103, 101, 116, 115, 46, 106, 115, 111, 110]) = decide (x.name = tgJ) := by rw [← show ({ data := #[116, 97, 114, 103, 101, 116, 115, 46, 106, 115, 111, 110] } : ByteArray).toList = [116, 97, 114, 103, 101, 116, 115, 46, 106, 115, 111, 110] by rw [ByteArray.toList_eq]]; exact g9
       clear HRM g9
       obtain ⟨tg, htg⟩ : ∃ tg, tg = decide (x.name = tgJ) := ⟨_, rfl⟩
       rw [← htg] at g8 HRM2
       have g7 : decide (x.name.toList = [116, 97, 114, 103, 101, 116, 115, 46, 106, 115, 111, 110]) = tg := by rw [← g8]; exact (leq_dec _ _).symm
       clear htg
       go_wp2
       go_roundw
       case rel => exact ⟨k + 1, tg, by omega, rfl, by go_num, HRM2, HN2⟩
       case measure => simp [intOf]; omega
     ·have e2 : decide ((0 : Int) < (k : Int)) = true := by rw [decide_eq_true_iff]; omega
      have e2n : decide (0 < k) = true := by rw [decide_eq_true_iff]; omega
      have e2g : decide ((k : Int) > 0) = true := by rw [decide_eq_true_iff]; omega
      have HPY : Hid (∀ V, Below WR.heap.size WR V → V.cell? ⟨b, o + (k - 1) * 4, none⟩ = some (.string y.name)) := Ld (fun V hV => HPY'.out V hV hz)
      have hk1 : (1 : Int) ≤ (k : Int) := by omega
      have f1 : IntKind.i64.wrap ((k : Int) - 1) = (k : Int) - 1 := IntWalk.i64_in _ (by omega)
      have f2 : ¬ (n : Int) ≤ (k : Int) - 1 := by omega
      have f3 : ((k : Int) - 1).toNat = k - 1 := by omega
      have f4 : ¬ (k : Int) - 1 < 0 := by omega
      have HZK := Ld hz
      clear hz HPY'
      cases hbl : bl y.name x.name with
      | false =>
       have HBF := Ld hbl
       have hbl2 : Op.bytesLess y.name.toList x.name.toList = false := hbl
       clear hbl
       refine wp_region_held_drew (S := fun V => Below WR.heap.size WR V) (by kernel_rfl) ((Below.refl _ _).drew) (fun hS1 => ?_)
       refine tk 0 (some 56) (.agg #[.string x.name, .int .i64 x.ver, .int .i64 x.len, .string x.hash]) rfl (fun V hS => by obtain ⟨h0, h1, h2, h3⟩ := HZ.out V hS; go_simp) hS1 ?_
       simp only [nf]
       refine rd1 1 rfl (fun K' hK => ?_)
       go_simp
       refine (HC.out _ hS1).mono ?_
       rintro e w6 ⟨rfl, hb6⟩
       go_simp
       refine hK.out _ _ (hS1.trans (hb6.mono hS1.size)) (fun hS2 => ?_)
       clear hK K' hS1
       refine tk 2 (some 58) (.bool false) rfl (fun V hS => by go_simp) hS2 ?_
       simp only [nf]
       refine tk 3 (some 59) (.bool false) rfl (fun V hS => by go_simp) hS2 ?_
       simp only [nf]
       refine tk 4 (some 60) (.int .i64 (k : Int)) rfl (fun V hS => by go_simp) hS2 ?_
       simp only [nf]
       refine tk 5 (some 61) (.bool true) rfl (fun V hS => by go_simp) hS2 ?_
       simp only [nf]
       refine tk 6 (some 62) (.bool true) rfl (fun V hS => by go_simp) hS2 ?_
       simp only [nf]
       refine tk 7 (some 63) (.pointer (some ⟨w.heap.size, 2, none⟩)) rfl (fun V hS => by go_simp) hS2 ?_
       simp only [nf]
       refine tk 8 (some 64) (.slice (some ⟨b, o, none⟩) n c) rfl (fun V hS => by have h0 := HKL2.out V hS; go_simp) hS2 ?_
       simp only [nf]
       refine tk 9 (some 65) (.int .i64 (k : Int)) rfl (fun V hS => by go_simp) hS2 ?_
       simp only [nf]
       refine tk 10 (some 66) (.int .i64 ((k : Int) - 1)) rfl (fun V hS => by go_simp) hS2 ?_
       simp only [nf]
       refine tk 11 (some 67) (.pointer (some ⟨b, o + (k - 1) * 4, none⟩)) rfl (fun V hS => by go_simp) hS2 ?_
       simp only [nf]
       refine tk 12 (some 68) (.pointer (some ⟨b, o + (k - 1) * 4, none⟩)) rfl (fun V hS => by go_simp) hS2 ?_
       simp only [nf]
       refine tk 13 (some 69) (.string y.name) rfl (fun V hS => by have h0 := HPY.out V hS; go_simp) hS2 ?_
       simp only [nf]
       refine tk 14 (some 70) (.pointer (some ⟨wr.heap.size, 0, none⟩)) rfl (fun V hS => by go_simp) hS2 ?_
       simp only [nf]
       refine tk 15 (some 71) (.string x.name) rfl (fun V hS => by obtain ⟨h0, h1, h2, h3⟩ := HZ.out V hS; go_simp) hS2 ?_
       simp only [nf]
       refine tk 16 (some 72) (.bool true) rfl (fun V hS => by go_simp) hS2 ?_
       simp only [nf]
       refine tk 17 (some 73) (.bool true) rfl (fun V hS => by go_simp) hS2 ?_
       simp only [nf]
       refine tk 18 (some 74) (.bool true) rfl (fun V hS => by go_simp) hS2 ?_
       simp only [nf]
       refine tk 19 (some 75) (.bool true) rfl (fun V hS => by go_simp) hS2 ?_
       simp only [nf]
       refine tk0 20 (some 76) rfl hS2 ?_
       simp only [nf]
       refine tk0 21 (some 77) rfl hS2 ?_
       simp only [nf]
       refine tk0 22 (some 78) rfl hS2 ?_
       simp only [nf]
       refine tk0 23 (some 79) rfl hS2 ?_
       simp only [nf]
       refine tk0 24 (some 80) rfl hS2 ?_
       simp only [nf]
       refine tk0 25 (some 81) rfl hS2 ?_
       simp only [nf]
       refine tk0 26 (some 82) rfl hS2 ?_
       simp only [nf]
       refine tk0 27 (some 83) rfl hS2 ?_
       simp only [nf]
       refine tk0 28 (some 84) rfl hS2 ?_
       simp only [nf]
       refine tk0 29 (some 85) rfl hS2 ?_
       simp only [nf]
       refine tk0 30 (some 86) rfl hS2 ?_
       simp only [nf]
       refine tk0 31 (some 87) rfl hS2 ?_
       simp only [nf]
       refine tk0 32 (some 88) rfl hS2 ?_
       simp only [nf]
       refine tk0 33 (some 89) rfl hS2 ?_
       simp only [nf]
       refine tk 34 (some 90) (.bool true) rfl (fun V hS => by go_simp) hS2 ?_
       simp only [nf]
       refine wpAnyH_done (by kernel_rfl) ?_ _
       have HI : Hid (r = false) := Ld (HNO.out (by rw [HST.out, HBF.out]; have := HZK.out; simp; omega))
       go_wp2
       go_ret
       exact ⟨by rw [HI.out]; rfl, HB1.out.trans ((HBI.out _ hS2).mono HB1.out.size)⟩
      | true =>
       have HBF := Ld hbl
       have hbl2 : Op.bytesLess y.name.toList x.name.toList = true := hbl
       clear hbl
       refine wp_region_held_drew (S := fun V => Below WR.heap.size WR V) (by kernel_rfl) ((Below.refl _ _).drew) (fun hS1 => ?_)
       refine tk 0 (some 56) (.agg #[.string x.name, .int .i64 x.ver, .int .i64 x.len, .string x.hash]) rfl (fun V hS => by obtain ⟨h0, h1, h2, h3⟩ := HZ.out V hS; go_simp) hS1 ?_
       simp only [nf]
       refine rd1 1 rfl (fun K' hK => ?_)
       go_simp
       refine (HC.out _ hS1).mono ?_
       rintro e w6 ⟨rfl, hb6⟩
       go_simp
       refine hK.out _ _ (hS1.trans (hb6.mono hS1.size)) (fun hS2 => ?_)
       clear hK K' hS1
       refine tk 2 (some 58) (.bool false) rfl (fun V hS => by go_simp) hS2 ?_
       simp only [nf]
       refine tk 3 (some 59) (.bool false) rfl (fun V hS => by go_simp) hS2 ?_
       simp only [nf]
       refine tk 4 (some 60) (.int .i64 (k : Int)) rfl (fun V hS => by go_simp) hS2 ?_
       simp only [nf]
       refine tk 5 (some 61) (.bool true) rfl (fun V hS => by go_simp) hS2 ?_
       simp only [nf]
       refine tk 6 (some 62) (.bool true) rfl (fun V hS => by go_simp) hS2 ?_
       simp only [nf]
       refine tk 7 (some 63) (.pointer (some ⟨w.heap.size, 2, none⟩)) rfl (fun V hS => by go_simp) hS2 ?_
       simp only [nf]
       refine tk 8 (some 64) (.slice (some ⟨b, o, none⟩) n c) rfl (fun V hS => by have h0 := HKL2.out V hS; go_simp) hS2 ?_
       simp only [nf]
       refine tk 9 (some 65) (.int .i64 (k : Int)) rfl (fun V hS => by go_simp) hS2 ?_
       simp only [nf]
       refine tk 10 (some 66) (.int .i64 ((k : Int) - 1)) rfl (fun V hS => by go_simp) hS2 ?_
       simp only [nf]
       refine tk 11 (some 67) (.pointer (some ⟨b, o + (k - 1) * 4, none⟩)) rfl (fun V hS => by go_simp) hS2 ?_
       simp only [nf]
       refine tk 12 (some 68) (.pointer (some ⟨b, o + (k - 1) * 4, none⟩)) rfl (fun V hS => by go_simp) hS2 ?_
       simp only [nf]
       refine tk 13 (some 69) (.string y.name) rfl (fun V hS => by have h0 := HPY.out V hS; go_simp) hS2 ?_
       simp only [nf]
       refine tk 14 (some 70) (.pointer (some ⟨wr.heap.size, 0, none⟩)) rfl (fun V hS => by go_simp) hS2 ?_
       simp only [nf]
       refine tk 15 (some 71) (.string x.name) rfl (fun V hS => by obtain ⟨h0, h1, h2, h3⟩ := HZ.out V hS; go_simp) hS2 ?_
       simp only [nf]
       refine tk 16 (some 72) (.bool false) rfl (fun V hS => by go_simp) hS2 ?_
       simp only [nf]
       refine tk 17 (some 73) (.bool false) rfl (fun V hS => by go_simp) hS2 ?_
       simp only [nf]
       refine tk 18 (some 74) (.bool false) rfl (fun V hS => by go_simp) hS2 ?_
       simp only [nf]
       refine tk 19 (some 75) (.bool false) rfl (fun V hS => by go_simp) hS2 ?_
       simp only [nf]
       refine tk 20 (some 76) (.string kind) rfl (fun V hS => by go_simp) hS2 ?_
       simp only [nf]
       refine tk 21 (some 77) (.bool false) rfl (fun V hS => by go_simp) hS2 ?_
       simp only [nf]
       refine tk 22 (some 78) (.bool false) rfl (fun V hS => by go_simp) hS2 ?_
       simp only [nf]
       refine tk0 23 (some 79) rfl hS2 ?_
       simp only [nf]
       refine tk0 24 (some 80) rfl hS2 ?_
       simp only [nf]
       refine tk0 25 (some 81) rfl hS2 ?_
       simp only [nf]
       refine tk0 26 (some 82) rfl hS2 ?_
       simp only [nf]
       refine tk0 27 (some 83) rfl hS2 ?_
       simp only [nf]
       refine tk0 28 (some 84) rfl hS2 ?_
       simp only [nf]
       refine tk0 29 (some 85) rfl hS2 ?_
       simp only [nf]
       refine tk0 30 (some 86) rfl hS2 ?_
       simp only [nf]
       refine tk0 31 (some 87) rfl hS2 ?_
       simp only [nf]
       refine tk0 32 (some 88) rfl hS2 ?_
       simp only [nf]
       refine tk 33 (some 89) (.bool false) rfl (fun V hS => by go_simp) hS2 ?_
       simp only [nf]
       refine tk 34 (some 90) (.bool false) rfl (fun V hS => by go_simp) hS2 ?_
       simp only [nf]
       refine wpAnyH_done (by kernel_rfl) ?_ _
       have HST2 : Hid (stepB l k = true) := Ld (HGO.out HF1.out (.inr HBF.out))
       have HN2 := Ld (HBI.out _ hS2)
       obtain ⟨z0, z1, z2, z3⟩ := HZ.out _ hS2
       clear hS2
       have HRA : Hid (∀ i, i < k + 1 → stepB l i = true) := Ld (fun i hi => by
        rcases (by omega : i < k ∨ i = k) with h1 | h1
        ·exact HK.out.st i h1
        ·rw [h1]; exact HST2.out)
       have HRB : Hid (false = true → ∀ i (hi : i < l.length), i < k + 1 → sufJ (l[i]).name = true) := Ld (fun e3 i hi1 hi => by
        rcases (by omega : i < k ∨ i = k) with h1 | h1
        ·exact HK.out.sf e3 i hi1 h1
        ·subst h1
         cases e3)
       have HRM : Hid (∀ tf2, tf2 = (tf || decide (x.name = tgJ)) → RM l false (k + 1) tf2) := Ld (fun tf2 e2 => ⟨HRA.out, HRB.out, (by rw [e2, any_snoc HKL.out, ← HX.out, ← HK.out.tg])⟩)
       clear HRA HRB
       cases tf with
       | true =>
        have HRM2 := Ld (HRM.out true rfl)
        clear HRM
        go_wp2
        go_roundw
        case rel => exact ⟨k + 1, true, by omega, rfl, by go_num, HRM2, HN2⟩
        case measure => simp [intOf]; omega
       | false =>
        have HRM2 := Ld (HRM.out (decide (x.name = tgJ)) rfl)
        have g9 := nm_beq x.name ⟨#[116, 97, 114, 103, 101, 116, 115, 46, 106, 115, 111, 110]⟩
        have g8 : (x.name.toList == [116, 97, 114, 103, 101, 116, 115, 46, 106, 115, 111, 110]) = decide (x.name = tgJ) := by rw [← show ({ data := #[116, 97, 114, 103, 101, 116, 115, 46, 106, 115, 111, 110] } : ByteArray).toList = [116, 97, 114, 103, 101, 116, 115, 46, 106, 115, 111, 110] by rw [ByteArray.toList_eq]]; exact g9
        clear HRM g9
        obtain ⟨tg, htg⟩ : ∃ tg, tg = decide (x.name = tgJ) := ⟨_, rfl⟩
        rw [← htg] at g8 HRM2
        have g7 : decide (x.name.toList = [116, 97, 114, 103, 101, 116, 115, 46, 106, 115, 111, 110]) = tg := by rw [← g8]; exact (leq_dec _ _).symm
        clear htg
        go_wp2
        go_roundw
        case rel => exact ⟨k + 1, tg, by omega, rfl, by go_num, HRM2, HN2⟩
        case measure => simp [intOf]; omega
   ·have q0 : decide ((k : Int) < (n : Int)) = false := by rw [decide_eq_false_iff_not]; omega
    have q0' : decide (k < n) = false := by rw [decide_eq_false_iff_not]; omega
    have HRI : Hid (risB l = true) := Ld (by
     unfold risB
     rw [allB_iff.2 (by rw [HN.out, ← heq]; exact HK.out.st), HN.out, decide_eq_true hl]
     rfl)
    have HE : Hid (r = (decide (n = 1) && l.all (fun m => decide (m.name = ssJ)))) := Ld (by
     rw [HR.out, HRI.out, HN.out]
     simp)
    clear heq
    by_cases hn1 : n = 1
    ·have u1 : ((n : Int) == 1) = true := by rw [hn1]; rfl
     have u2 : (n == 1) = true := by rw [hn1]; rfl
     have HL1 : Hid (l.length = 1) := Ld (by rw [HN.out]; exact hn1)
     have hl1 : 0 < l.length := by rw [HN.out]; omega
     obtain ⟨b, o, hA, hb, c0, -, -, -⟩ := (HF.out.bel HB.out).four hl1
     subst hA
     obtain ⟨x, hx⟩ : ∃ x, x = l[0] := ⟨_, rfl⟩
     rw [← hx, Nat.zero_mul, Nat.add_zero] at c0
     have g8 := nm_beq x.name ⟨#[115, 110, 97, 112, 115, 104, 111, 116, 46, 106, 115, 111, 110]⟩
     have HE2 : Hid (r = decide (x.name = ⟨#[115, 110, 97, 112, 115, 104, 111, 116, 46, 106, 115, 111, 110]⟩)) := Ld (by
      rw [HE.out, hn1]
      have : l = [x] := by
       match hq : l, HL1.out with
       | [z], _ => rw [hx]; rfl
      rw [this]
      simp only [List.all_cons, List.all_nil, Bool.and_true, decide_true, Bool.true_and]
      rfl)
     obtain ⟨g, hg⟩ : ∃ g, g = decide (x.name = ⟨#[115, 110, 97, 112, 115, 104, 111, 116, 46, 106, 115, 111, 110]⟩) := ⟨_, rfl⟩
     rw [← hg] at g8 HE2
     rw [show ({ data := #[115, 110, 97, 112, 115, 104, 111, 116, 46, 106, 115, 111, 110] } : ByteArray).toList = [115, 110, 97, 112, 115, 104, 111, 116, 46, 106, 115, 111, 110] by rw [ByteArray.toList_eq]] at g8
     have g7 : decide (x.name.toList = [115, 110, 97, 112, 115, 104, 111, 116, 46, 106, 115, 111, 110]) = g := by rw [← g8]; exact (leq_dec _ _).symm
     have hn0 : (0 : Int) < (n : Int) := by omega
     clear hg hx hn1 hb
     go_wp2
     go_ret
     exact ⟨by rw [HE2.out]; rfl, HB.out⟩
    ·have u1 : ((n : Int) == 1) = false := by rw [beq_eq_false_iff_ne]; omega
     have u2 : (n == 1) = false := by rw [beq_eq_false_iff_ne]; omega
     have HE2 : Hid (r = false) := Ld (by rw [HE.out, decide_eq_false hn1]; rfl)
     clear hn1
     go_wp2
     go_ret
     exact ⟨by rw [HE2.out]; rfl, HB.out⟩
 case true =>
  have kp := HKS.out rfl
  clear HKT HKS
  go_enter Tryz.func11, Tryz.ntmps11
  go_wp2_with fail
  go_loopw [5, 6] (fun tv i wr => ∃ (k : Nat) (tf : Bool), k ≤ n ∧ tv = .bool tf ∧ i = .int .i64 (k : Int) ∧ Hid (RM l true k tf) ∧ Hid (Below (w.alloc (.cells #[.int .i64 v, .int .i64 e0, .slice A n c] 24)).heap.size (w.alloc (.cells #[.int .i64 v, .int .i64 e0, .slice A n c] 24)) wr)) (fun _ i _ => n - (intOf i).toNat)
  case atStart => exact ⟨0, false, Nat.zero_le _, rfl, rfl, Ld ⟨fun i hi => by omega, fun _ i _ hi => by omega, by simp⟩, Ld (Below.refl _ _)⟩
  case round =>
   obtain ⟨k, tf, hk, rfl, rfl, HK, HB0⟩ := hrel
   have HB : Hid (Below w.heap.size w wr) := Ld (HB1.out.trans (HB0.out.mono HB1.out.size))
   have hkr := HK1.out.below HB0.out HK1.out.lt
   have b2 := hkr.cell 2
   simp only [gz] at b2
   have HKR := Ld hkr
   clear hkr
   rcases (by omega : k < n ∨ k = n) with hlt | heq
   ·have q0 : decide ((k : Int) < (n : Int)) = true := by rw [decide_eq_true_iff]; omega
    have q0' : decide (k < n) = true := by rw [decide_eq_true_iff]; omega
    have hkl : k < l.length := by rw [HN.out]; exact hlt
    have hmr := HF.out.bel HB.out
    obtain ⟨b, o, hA, hb, hall⟩ := hmr.at_ (by omega)
    subst hA
    obtain ⟨x, hx⟩ : ∃ x, x = l[k] := ⟨_, rfl⟩
    obtain ⟨y, hy⟩ : ∃ y, y = l.getD (k - 1) ME.none_ := ⟨_, rfl⟩
    have hY : ∀ h0 : 0 < k, y = l[k - 1]'(by omega) := fun h0 => by rw [hy, List.getD_eq_getElem?_getD, List.getElem?_eq_getElem (by omega), Option.getD_some]
    have hst : stepB l k = (x.ok && (decide (k = 0) || bl y.name x.name)) := by
     rcases (by omega : k = 0 ∨ 0 < k) with h0 | h0
     ·subst h0
      rw [step_zero hkl, ← hx]
      simp
     ·obtain ⟨j, rfl⟩ : ∃ j, k = j + 1 := ⟨k - 1, by omega⟩
      have e := hY h0
      simp only [Nat.add_one_sub_one] at e
      rw [step_succ hkl, ← hx, ← e]
      simp
    have HST := Ld hst
    have c0 : wr.cell? ⟨b, o + k * 4, none⟩ = some (.string x.name) := by rw [hx]; exact hall k hkl 0 (by omega)
    have c1 : wr.cell? ⟨b, o + k * 4 + 1, none⟩ = some (.int .i64 x.ver) := by rw [hx]; exact hall k hkl 1 (by omega)
    have c2 : wr.cell? ⟨b, o + k * 4 + 2, none⟩ = some (.int .i64 x.len) := by rw [hx]; exact hall k hkl 2 (by omega)
    have c3 : wr.cell? ⟨b, o + k * 4 + 3, none⟩ = some (.string x.hash) := by rw [hx]; exact hall k hkl 3 (by omega)
    obtain ⟨WR, hWR⟩ : ∃ WR, WR = wr.alloc (.cells #[.string x.name, .int .i64 x.ver, .int .i64 x.len, .string x.hash] 44) := ⟨_, rfl⟩
    have hbr : Below wr.heap.size wr WR := by rw [hWR]; exact (Below.refl _ _).alloc (Nat.le_refl _) _
    have hkr : Blk WR wr.heap.size 44 #[.string x.name, .int .i64 x.ver, .int .i64 x.len, .string x.hash] := by rw [hWR]; exact Blk.new _ _ _
    have HZ : Hid (∀ V, Below WR.heap.size WR V → V.cell? ⟨wr.heap.size, 0, none⟩ = some (.string x.name) ∧ V.cell? ⟨wr.heap.size, 1, none⟩ = some (.int .i64 x.ver) ∧ V.cell? ⟨wr.heap.size, 2, none⟩ = some (.int .i64 x.len) ∧ V.cell? ⟨wr.heap.size, 3, none⟩ = some (.string x.hash)) := Ld (fun V hV => by
     have hk := hkr.below hV hkr.lt
     exact ⟨hk.cell 0, hk.cell 1, hk.cell 2, hk.cell 3⟩)
    have HPY' : Hid (∀ V, Below WR.heap.size WR V → 0 < k → V.cell? ⟨b, o + (k - 1) * 4, none⟩ = some (.string y.name)) := Ld (fun V hV h0 => by
     have hW : ∀ j, V.cell? ⟨b, j, none⟩ = wr.cell? ⟨b, j, none⟩ := fun j => (hbr.trans (hV.mono hbr.size)).cell (p := ⟨b, j, none⟩) hb
     rw [hY h0, hW]
     exact hall (k - 1) (by omega) 0 (by omega))
    have HKL2 : Hid (∀ V, Below WR.heap.size WR V → V.cell? ⟨w.heap.size, 2, none⟩ = some (.slice (some ⟨b, o, none⟩) n c)) := Ld (fun V hV => by
     have hk := HKR.out.below (hbr.trans (hV.mono hbr.size)) HKR.out.lt
     exact hk.cell 2)
    have hsz := HF.out.sz x (by rw [hx]; exact List.getElem_mem hkl)
    have hc0 := fun V => rfile_any x V hsz
    unfold ME.val at hc0
    obtain ⟨f, hf⟩ : ∃ f, f = x.ok := ⟨_, rfl⟩
    rw [← hf] at hc0
    have HC : Hid (∀ V, Below WR.heap.size WR V → Calls Tryz.prog 34 #[.agg #[.string x.name, .int .i64 x.ver, .int .i64 x.len, .string x.hash]] V fun e w' => BoP f V e w') := Ld (fun V _ => hc0 V)
    have HX := Ld hx
    have HKL := Ld hkl
    have HFX := Ld hf
    have HBI : Hid (∀ V, Below WR.heap.size WR V → Below (w.alloc (.cells #[.int .i64 v, .int .i64 e0, .slice (some ⟨b, o, none⟩) n c] 24)).heap.size (w.alloc (.cells #[.int .i64 v, .int .i64 e0, .slice (some ⟨b, o, none⟩) n c] 24)) V) := Ld (fun V hV => HB0.out.trans ((hbr.trans (hV.mono hbr.size)).mono HB0.out.size))
    have HWR := Ld hWR
    have hki : (k : Int) < (n : Int) := by omega
    have hk0 : (0 : Int) ≤ (k : Int) := by omega
    have hzz : (x.name.size : Int) ≤ 140737488351232 := by have := hsz.1; omega
    have HGO : Hid (f = true → (k = 0 ∨ bl y.name x.name = true) → stepB l k = true) := Ld (fun e1 e2 => by
     rw [hst, ← hf, e1]
     rcases e2 with e2 | e2 <;> simp [e2])
    have HNO : Hid (stepB l k = false → r = false) := Ld (fun e1 => by
     rw [HR.out]
     unfold risB
     rw [allB_no hkl e1]
     rfl)
    clear hmr hall hx hy hY hkr hbr hWR hc0 hf hsz hb hst
    go_wp2
    rw [← HWR.out]
    clear c0 c1 c2 c3
    cases f with
    | false =>
     refine wp_region_held_drew (S := fun V => Below WR.heap.size WR V) (by kernel_rfl) ((Below.refl _ _).drew) (fun hS1 => ?_)
     refine tk 0 (some 56) (.agg #[.string x.name, .int .i64 x.ver, .int .i64 x.len, .string x.hash]) rfl (fun V hS => by obtain ⟨h0, h1, h2, h3⟩ := HZ.out V hS; go_simp) hS1 ?_
     simp only [nf]
     refine rd1 1 rfl (fun K' hK => ?_)
     go_simp
     refine (HC.out _ hS1).mono ?_
     rintro e w6 ⟨rfl, hb6⟩
     go_simp
     refine hK.out _ _ (hS1.trans (hb6.mono hS1.size)) (fun hS2 => ?_)
     clear hK K' hS1
     refine tk 2 (some 58) (.bool true) rfl (fun V hS => by go_simp) hS2 ?_
     simp only [nf]
     refine tk 3 (some 59) (.bool true) rfl (fun V hS => by go_simp) hS2 ?_
     simp only [nf]
     refine tk0 4 (some 60) rfl hS2 ?_
     simp only [nf]
     refine tk0 5 (some 61) rfl hS2 ?_
     simp only [nf]
     refine tk0 6 (some 62) rfl hS2 ?_
     simp only [nf]
     refine tk0 7 (some 63) rfl hS2 ?_
     simp only [nf]
     refine tk0 8 (some 64) rfl hS2 ?_
     simp only [nf]
     refine tk0 9 (some 65) rfl hS2 ?_
     simp only [nf]
     refine tk0 10 (some 66) rfl hS2 ?_
     simp only [nf]
     refine tk0 11 (some 67) rfl hS2 ?_
     simp only [nf]
     refine tk0 12 (some 68) rfl hS2 ?_
     simp only [nf]
     refine tk0 13 (some 69) rfl hS2 ?_
     simp only [nf]
     refine tk0 14 (some 70) rfl hS2 ?_
     simp only [nf]
     refine tk0 15 (some 71) rfl hS2 ?_
     simp only [nf]
     refine tk0 16 (some 72) rfl hS2 ?_
     simp only [nf]
     refine tk0 17 (some 73) rfl hS2 ?_
     simp only [nf]
     refine tk 18 (some 74) (.bool true) rfl (fun V hS => by go_simp) hS2 ?_
     simp only [nf]
     refine tk 19 (some 75) (.bool true) rfl (fun V hS => by go_simp) hS2 ?_
     simp only [nf]
     refine tk0 20 (some 76) rfl hS2 ?_
     simp only [nf]
     refine tk0 21 (some 77) rfl hS2 ?_
     simp only [nf]
     refine tk0 22 (some 78) rfl hS2 ?_
     simp only [nf]
     refine tk0 23 (some 79) rfl hS2 ?_
     simp only [nf]
     refine tk0 24 (some 80) rfl hS2 ?_
     simp only [nf]
     refine tk0 25 (some 81) rfl hS2 ?_
     simp only [nf]
     refine tk0 26 (some 82) rfl hS2 ?_
     simp only [nf]
     refine tk0 27 (some 83) rfl hS2 ?_
     simp only [nf]
     refine tk0 28 (some 84) rfl hS2 ?_
     simp only [nf]
     refine tk0 29 (some 85) rfl hS2 ?_
     simp only [nf]
     refine tk0 30 (some 86) rfl hS2 ?_
     simp only [nf]
     refine tk0 31 (some 87) rfl hS2 ?_
     simp only [nf]
     refine tk0 32 (some 88) rfl hS2 ?_
     simp only [nf]
     refine tk0 33 (some 89) rfl hS2 ?_
     simp only [nf]
     refine tk 34 (some 90) (.bool true) rfl (fun V hS => by go_simp) hS2 ?_
     simp only [nf]
     refine wpAnyH_done (by kernel_rfl) ?_ _
     have HI : Hid (r = false) := Ld (HNO.out (by rw [HST.out, ← HFX.out]; rfl))
     go_wp2
     go_ret
     exact ⟨by rw [HI.out]; rfl, HB1.out.trans ((HBI.out _ hS2).mono HB1.out.size)⟩
    | true =>
     have HF1 : Hid (true = true) := Ld rfl
     rcases (by omega : k = 0 ∨ 0 < k) with hz | hz
     ·have e2 : decide ((0 : Int) < (k : Int)) = false := by rw [decide_eq_false_iff_not]; omega
      have e2n : decide (0 < k) = false := by rw [decide_eq_false_iff_not]; omega
      have e2g : decide ((k : Int) > 0) = false := by rw [decide_eq_false_iff_not]; omega
      have HKZ := Ld hz
      have HPY : Hid (True) := Ld trivial
      clear hz HPY'
      rcases (by omega : x.name.size < 5 ∨ 5 ≤ x.name.size) with h5 | h5
      ·have g1 : decide ((x.name.size : Int) < 5) = true := decide_eq_true (by omega)
       have g1n : decide (x.name.size < 5) = true := decide_eq_true (by omega)
       have HSF := Ld (suf_short h5)
       clear h5
       refine wp_region_held_drew (S := fun V => Below WR.heap.size WR V) (by kernel_rfl) ((Below.refl _ _).drew) (fun hS1 => ?_)
       refine tk 0 (some 56) (.agg #[.string x.name, .int .i64 x.ver, .int .i64 x.len, .string x.hash]) rfl (fun V hS => by obtain ⟨h0, h1, h2, h3⟩ := HZ.out V hS; go_simp) hS1 ?_
       simp only [nf]
       refine rd1 1 rfl (fun K' hK => ?_)
       go_simp
       refine (HC.out _ hS1).mono ?_
       rintro e w6 ⟨rfl, hb6⟩
       go_simp
       refine hK.out _ _ (hS1.trans (hb6.mono hS1.size)) (fun hS2 => ?_)
       clear hK K' hS1
       refine tk 2 (some 58) (.bool false) rfl (fun V hS => by go_simp) hS2 ?_
       simp only [nf]
       refine tk 3 (some 59) (.bool false) rfl (fun V hS => by go_simp) hS2 ?_
       simp only [nf]
       refine tk 4 (some 60) (.int .i64 (k : Int)) rfl (fun V hS => by go_simp) hS2 ?_
       simp only [nf]
       refine tk 5 (some 61) (.bool false) rfl (fun V hS => by go_simp) hS2 ?_
       simp only [nf]
       refine tk 6 (some 62) (.bool false) rfl (fun V hS => by go_simp) hS2 ?_
       simp only [nf]
       refine tk0 7 (some 63) rfl hS2 ?_
       simp only [nf]
       refine tk0 8 (some 64) rfl hS2 ?_
       simp only [nf]
       refine tk0 9 (some 65) rfl hS2 ?_
       simp only [nf]
       refine tk0 10 (some 66) rfl hS2 ?_
       simp only [nf]
       refine tk0 11 (some 67) rfl hS2 ?_
       simp only [nf]
       refine tk0 12 (some 68) rfl hS2 ?_
       simp only [nf]
       refine tk0 13 (some 69) rfl hS2 ?_
       simp only [nf]
       refine tk0 14 (some 70) rfl hS2 ?_
       simp only [nf]
       refine tk0 15 (some 71) rfl hS2 ?_
       simp only [nf]
       refine tk0 16 (some 72) rfl hS2 ?_
       simp only [nf]
       refine tk 17 (some 73) (.bool false) rfl (fun V hS => by go_simp) hS2 ?_
       simp only [nf]
       refine tk 18 (some 74) (.bool false) rfl (fun V hS => by go_simp) hS2 ?_
       simp only [nf]
       refine tk 19 (some 75) (.bool false) rfl (fun V hS => by go_simp) hS2 ?_
       simp only [nf]
       refine tk 20 (some 76) (.string kind) rfl (fun V hS => by go_simp) hS2 ?_
       simp only [nf]
       refine tk 21 (some 77) (.bool true) rfl (fun V hS => by go_simp) hS2 ?_
       simp only [nf]
       refine tk 22 (some 78) (.bool true) rfl (fun V hS => by go_simp) hS2 ?_
       simp only [nf]
       refine tk 23 (some 79) (.int .i64 (x.name.size : Int)) rfl (fun V hS => by go_simp) hS2 ?_
       simp only [nf]
       refine tk 24 (some 80) (.bool true) rfl (fun V hS => by go_simp) hS2 ?_
       simp only [nf]
       refine tk 25 (some 81) (.bool true) rfl (fun V hS => by go_simp) hS2 ?_
       simp only [nf]
       refine tk0 26 (some 82) rfl hS2 ?_
       simp only [nf]
       refine tk0 27 (some 83) rfl hS2 ?_
       simp only [nf]
       refine tk0 28 (some 84) rfl hS2 ?_
       simp only [nf]
       refine tk0 29 (some 85) rfl hS2 ?_
       simp only [nf]
       refine tk0 30 (some 86) rfl hS2 ?_
       simp only [nf]
       refine tk0 31 (some 87) rfl hS2 ?_
       simp only [nf]
       refine tk 32 (some 88) (.bool true) rfl (fun V hS => by go_simp) hS2 ?_
       simp only [nf]
       refine tk 33 (some 89) (.bool true) rfl (fun V hS => by go_simp) hS2 ?_
       simp only [nf]
       refine tk 34 (some 90) (.bool true) rfl (fun V hS => by go_simp) hS2 ?_
       simp only [nf]
       refine wpAnyH_done (by kernel_rfl) ?_ _
       have HI : Hid (r = false) := Ld (by
        rw [HR.out]
        have : l.all (fun m => sufJ m.name) = false := by
         rw [← Bool.not_eq_true, List.all_eq_true]
         intro h9
         have := h9 x (by rw [HX.out]; exact List.getElem_mem HKL.out)
         rw [HSF.out] at this
         cases this
        rw [this]
        simp)
       go_wp2
       go_ret
       exact ⟨by rw [HI.out]; rfl, HB1.out.trans ((HBI.out _ hS2).mono HB1.out.size)⟩
      ·have g1 : decide ((x.name.size : Int) < 5) = false := decide_eq_false (by omega)
       have g1n : decide (x.name.size < 5) = false := decide_eq_false (by omega)
       have HSF := Ld (suf_ext h5)
       have j1 : IntKind.i64.wrap ((x.name.size : Int) - 5) = (x.name.size : Int) - 5 := IntWalk.i64_in _ (by omega)
       have j2 : ((x.name.size : Int) - 5).toNat = x.name.size - 5 := by omega
       have j3 : (0 : Int) ≤ (x.name.size : Int) - 5 := by omega
       have j4 : (x.name.size : Int) - 5 ≤ (x.name.size : Int) := by omega
       have g2 := nm_beq (x.name.extract (x.name.size - 5) x.name.size) ⟨#[46, 106, 115, 111, 110]⟩
       rw [← HSF.out, show ({ data := #[46, 106, 115, 111, 110] } : ByteArray).toList = [46, 106, 115, 111, 110] by rw [ByteArray.toList_eq]] at g2
       have g3 : decide ((x.name.extract (x.name.size - 5) x.name.size).toList = [46, 106, 115, 111, 110]) = sufJ x.name := by rw [← g2]; exact (leq_dec _ _).symm
       have HT5 : Hid (x.name.extract (x.name.size - 5) x.name.size = x.name.extract (x.name.size - 5) x.name.size) := Ld rfl
       clear h5
       cases hsf : sufJ x.name with
       | false =>
        rw [hsf] at g2 g3
        have HSV := Ld hsf
        clear hsf
        refine wp_region_held_drew (S := fun V => Below WR.heap.size WR V) (by kernel_rfl) ((Below.refl _ _).drew) (fun hS1 => ?_)
        refine tk 0 (some 56) (.agg #[.string x.name, .int .i64 x.ver, .int .i64 x.len, .string x.hash]) rfl (fun V hS => by obtain ⟨h0, h1, h2, h3⟩ := HZ.out V hS; go_simp) hS1 ?_
        simp only [nf]
        refine rd1 1 rfl (fun K' hK => ?_)
        go_simp
        refine (HC.out _ hS1).mono ?_
        rintro e w6 ⟨rfl, hb6⟩
        go_simp
        refine hK.out _ _ (hS1.trans (hb6.mono hS1.size)) (fun hS2 => ?_)
        clear hK K' hS1
        refine tk 2 (some 58) (.bool false) rfl (fun V hS => by go_simp) hS2 ?_
        simp only [nf]
        refine tk 3 (some 59) (.bool false) rfl (fun V hS => by go_simp) hS2 ?_
        simp only [nf]
        refine tk 4 (some 60) (.int .i64 (k : Int)) rfl (fun V hS => by go_simp) hS2 ?_
        simp only [nf]
        refine tk 5 (some 61) (.bool false) rfl (fun V hS => by go_simp) hS2 ?_
        simp only [nf]
        refine tk 6 (some 62) (.bool false) rfl (fun V hS => by go_simp) hS2 ?_
        simp only [nf]
        refine tk0 7 (some 63) rfl hS2 ?_
        simp only [nf]
        refine tk0 8 (some 64) rfl hS2 ?_
        simp only [nf]
        refine tk0 9 (some 65) rfl hS2 ?_
        simp only [nf]
        refine tk0 10 (some 66) rfl hS2 ?_
        simp only [nf]
        refine tk0 11 (some 67) rfl hS2 ?_
        simp only [nf]
        refine tk0 12 (some 68) rfl hS2 ?_
        simp only [nf]
        refine tk0 13 (some 69) rfl hS2 ?_
        simp only [nf]
        refine tk0 14 (some 70) rfl hS2 ?_
        simp only [nf]
        refine tk0 15 (some 71) rfl hS2 ?_
        simp only [nf]
        refine tk0 16 (some 72) rfl hS2 ?_
        simp only [nf]
        refine tk 17 (some 73) (.bool false) rfl (fun V hS => by go_simp) hS2 ?_
        simp only [nf]
        refine tk 18 (some 74) (.bool false) rfl (fun V hS => by go_simp) hS2 ?_
        simp only [nf]
        refine tk 19 (some 75) (.bool false) rfl (fun V hS => by go_simp) hS2 ?_
        simp only [nf]
        refine tk 20 (some 76) (.string kind) rfl (fun V hS => by go_simp) hS2 ?_
        simp only [nf]
        refine tk 21 (some 77) (.bool true) rfl (fun V hS => by go_simp) hS2 ?_
        simp only [nf]
        refine tk 22 (some 78) (.bool true) rfl (fun V hS => by go_simp) hS2 ?_
        simp only [nf]
        refine tk 23 (some 79) (.int .i64 (x.name.size : Int)) rfl (fun V hS => by go_simp) hS2 ?_
        simp only [nf]
        refine tk 24 (some 80) (.bool false) rfl (fun V hS => by go_simp) hS2 ?_
        simp only [nf]
        refine tk 25 (some 81) (.bool false) rfl (fun V hS => by go_simp) hS2 ?_
        simp only [nf]
        refine tk 26 (some 82) (.pointer (some ⟨wr.heap.size, 0, none⟩)) rfl (fun V hS => by go_simp) hS2 ?_
        simp only [nf]
        refine tk 27 (some 83) (.string x.name) rfl (fun V hS => by obtain ⟨h0, h1, h2, h3⟩ := HZ.out V hS; go_simp) hS2 ?_
        simp only [nf]
        refine tk 28 (some 84) (.int .i64 (x.name.size : Int)) rfl (fun V hS => by go_simp) hS2 ?_
        simp only [nf]
        refine tk 29 (some 85) (.int .i64 ((x.name.size : Int) - 5)) rfl (fun V hS => by go_simp) hS2 ?_
        simp only [nf]
        refine tk 30 (some 86) (.string (x.name.extract (x.name.size - 5) x.name.size)) rfl (fun V hS => by go_simp <;> (intro h9; omega)) hS2 ?_
        simp only [nf]
        refine tk 31 (some 87) (.bool true) rfl (fun V hS => by go_simp) hS2 ?_
        simp only [nf]
        refine tk 32 (some 88) (.bool true) rfl (fun V hS => by go_simp) hS2 ?_
        simp only [nf]
        refine tk 33 (some 89) (.bool true) rfl (fun V hS => by go_simp) hS2 ?_
        simp only [nf]
        refine tk 34 (some 90) (.bool true) rfl (fun V hS => by go_simp) hS2 ?_
        simp only [nf]
        refine wpAnyH_done (by kernel_rfl) ?_ _
        have HI : Hid (r = false) := Ld (by
         rw [HR.out]
         have : l.all (fun m => sufJ m.name) = false := by
          rw [← Bool.not_eq_true, List.all_eq_true]
          intro h9
          have := h9 x (by rw [HX.out]; exact List.getElem_mem HKL.out)
          rw [HSV.out] at this
          cases this
         rw [this]
         simp)
        go_wp2
        go_ret
        exact ⟨by rw [HI.out]; rfl, HB1.out.trans ((HBI.out _ hS2).mono HB1.out.size)⟩
       | true =>
        rw [hsf] at g2 g3
        have HSV := Ld hsf
        clear hsf
        refine wp_region_held_drew (S := fun V => Below WR.heap.size WR V) (by kernel_rfl) ((Below.refl _ _).drew) (fun hS1 => ?_)
        refine tk 0 (some 56) (.agg #[.string x.name, .int .i64 x.ver, .int .i64 x.len, .string x.hash]) rfl (fun V hS => by obtain ⟨h0, h1, h2, h3⟩ := HZ.out V hS; go_simp) hS1 ?_
        simp only [nf]
        refine rd1 1 rfl (fun K' hK => ?_)
        go_simp
        refine (HC.out _ hS1).mono ?_
        rintro e w6 ⟨rfl, hb6⟩
        go_simp
        refine hK.out _ _ (hS1.trans (hb6.mono hS1.size)) (fun hS2 => ?_)
        clear hK K' hS1
        refine tk 2 (some 58) (.bool false) rfl (fun V hS => by go_simp) hS2 ?_
        simp only [nf]
        refine tk 3 (some 59) (.bool false) rfl (fun V hS => by go_simp) hS2 ?_
        simp only [nf]
        refine tk 4 (some 60) (.int .i64 (k : Int)) rfl (fun V hS => by go_simp) hS2 ?_
        simp only [nf]
        refine tk 5 (some 61) (.bool false) rfl (fun V hS => by go_simp) hS2 ?_
        simp only [nf]
        refine tk 6 (some 62) (.bool false) rfl (fun V hS => by go_simp) hS2 ?_
        simp only [nf]
        refine tk0 7 (some 63) rfl hS2 ?_
        simp only [nf]
        refine tk0 8 (some 64) rfl hS2 ?_
        simp only [nf]
        refine tk0 9 (some 65) rfl hS2 ?_
        simp only [nf]
        refine tk0 10 (some 66) rfl hS2 ?_
        simp only [nf]
        refine tk0 11 (some 67) rfl hS2 ?_
        simp only [nf]
        refine tk0 12 (some 68) rfl hS2 ?_
        simp only [nf]
        refine tk0 13 (some 69) rfl hS2 ?_
        simp only [nf]
        refine tk0 14 (some 70) rfl hS2 ?_
        simp only [nf]
        refine tk0 15 (some 71) rfl hS2 ?_
        simp only [nf]
        refine tk0 16 (some 72) rfl hS2 ?_
        simp only [nf]
        refine tk 17 (some 73) (.bool false) rfl (fun V hS => by go_simp) hS2 ?_
        simp only [nf]
        refine tk 18 (some 74) (.bool false) rfl (fun V hS => by go_simp) hS2 ?_
        simp only [nf]
        refine tk 19 (some 75) (.bool false) rfl (fun V hS => by go_simp) hS2 ?_
        simp only [nf]
        refine tk 20 (some 76) (.string kind) rfl (fun V hS => by go_simp) hS2 ?_
        simp only [nf]
        refine tk 21 (some 77) (.bool true) rfl (fun V hS => by go_simp) hS2 ?_
        simp only [nf]
        refine tk 22 (some 78) (.bool true) rfl (fun V hS => by go_simp) hS2 ?_
        simp only [nf]
        refine tk 23 (some 79) (.int .i64 (x.name.size : Int)) rfl (fun V hS => by go_simp) hS2 ?_
        simp only [nf]
        refine tk 24 (some 80) (.bool false) rfl (fun V hS => by go_simp) hS2 ?_
        simp only [nf]
        refine tk 25 (some 81) (.bool false) rfl (fun V hS => by go_simp) hS2 ?_
        simp only [nf]
        refine tk 26 (some 82) (.pointer (some ⟨wr.heap.size, 0, none⟩)) rfl (fun V hS => by go_simp) hS2 ?_
        simp only [nf]
        refine tk 27 (some 83) (.string x.name) rfl (fun V hS => by obtain ⟨h0, h1, h2, h3⟩ := HZ.out V hS; go_simp) hS2 ?_
        simp only [nf]
        refine tk 28 (some 84) (.int .i64 (x.name.size : Int)) rfl (fun V hS => by go_simp) hS2 ?_
        simp only [nf]
        refine tk 29 (some 85) (.int .i64 ((x.name.size : Int) - 5)) rfl (fun V hS => by go_simp) hS2 ?_
        simp only [nf]
        refine tk 30 (some 86) (.string (x.name.extract (x.name.size - 5) x.name.size)) rfl (fun V hS => by go_simp <;> (intro h9; omega)) hS2 ?_
        simp only [nf]
        refine tk 31 (some 87) (.bool false) rfl (fun V hS => by go_simp) hS2 ?_
        simp only [nf]
        refine tk 32 (some 88) (.bool false) rfl (fun V hS => by go_simp) hS2 ?_
        simp only [nf]
        refine tk 33 (some 89) (.bool false) rfl (fun V hS => by go_simp) hS2 ?_
        simp only [nf]
        refine tk 34 (some 90) (.bool false) rfl (fun V hS => by go_simp) hS2 ?_
        simp only [nf]
        refine wpAnyH_done (by kernel_rfl) ?_ _
        have HST2 : Hid (stepB l k = true) := Ld (HGO.out HF1.out (.inl HKZ.out))
        have HN2 := Ld (HBI.out _ hS2)
        obtain ⟨z0, z1, z2, z3⟩ := HZ.out _ hS2
        clear hS2
        have HRA : Hid (∀ i, i < k + 1 → stepB l i = true) := Ld (fun i hi => by
         rcases (by omega : i < k ∨ i = k) with h1 | h1
         ·exact HK.out.st i h1
         ·rw [h1]; exact HST2.out)
        have HRB : Hid (true = true → ∀ i (hi : i < l.length), i < k + 1 → sufJ (l[i]).name = true) := Ld (fun e3 i hi1 hi => by
         rcases (by omega : i < k ∨ i = k) with h1 | h1
         ·exact HK.out.sf e3 i hi1 h1
         ·subst h1
          rw [← HX.out]; exact HSV.out)
        have HRM : Hid (∀ tf2, tf2 = (tf || decide (x.name = tgJ)) → RM l true (k + 1) tf2) := Ld (fun tf2 e2 => ⟨HRA.out, HRB.out, (by rw [e2, any_snoc HKL.out, ← HX.out, ← HK.out.tg])⟩)
        clear HRA HRB
        cases tf with
        | true =>
         have HRM2 := Ld (HRM.out true rfl)
         clear HRM
         go_wp2
         go_roundw
         case rel => exact ⟨k + 1, true, by omega, rfl, by go_num, HRM2, HN2⟩
         case measure => simp [intOf]; omega
        | false =>
         have HRM2 := Ld (HRM.out (decide (x.name = tgJ)) rfl)
         have g9 := nm_beq x.name ⟨#[116, 97, 114, 103, 101, 116, 115, 46, 106, 115, 111, 110]⟩
         have g8 : (x.name.toList == [116, 97, 114, 103, 101, 116, 115, 46, 106, 115, 111, 110]) = decide (x.name = tgJ) := by rw [← show ({ data := #[116, 97, 114, 103, 101, 116, 115, 46, 106, 115, 111, 110] } : ByteArray).toList = [116, 97, 114, 103, 101, 116, 115, 46, 106, 115, 111, 110] by rw [ByteArray.toList_eq]]; exact g9
         clear HRM g9
         obtain ⟨tg, htg⟩ : ∃ tg, tg = decide (x.name = tgJ) := ⟨_, rfl⟩
         rw [← htg] at g8 HRM2
         have g7 : decide (x.name.toList = [116, 97, 114, 103, 101, 116, 115, 46, 106, 115, 111, 110]) = tg := by rw [← g8]; exact (leq_dec _ _).symm
         clear htg
         go_wp2
         go_roundw
         case rel => exact ⟨k + 1, tg, by omega, rfl, by go_num, HRM2, HN2⟩
         case measure => simp [intOf]; omega
     ·have e2 : decide ((0 : Int) < (k : Int)) = true := by rw [decide_eq_true_iff]; omega
      have e2n : decide (0 < k) = true := by rw [decide_eq_true_iff]; omega
      have e2g : decide ((k : Int) > 0) = true := by rw [decide_eq_true_iff]; omega
      have HPY : Hid (∀ V, Below WR.heap.size WR V → V.cell? ⟨b, o + (k - 1) * 4, none⟩ = some (.string y.name)) := Ld (fun V hV => HPY'.out V hV hz)
      have hk1 : (1 : Int) ≤ (k : Int) := by omega
      have f1 : IntKind.i64.wrap ((k : Int) - 1) = (k : Int) - 1 := IntWalk.i64_in _ (by omega)
      have f2 : ¬ (n : Int) ≤ (k : Int) - 1 := by omega
      have f3 : ((k : Int) - 1).toNat = k - 1 := by omega
      have f4 : ¬ (k : Int) - 1 < 0 := by omega
      have HZK := Ld hz
      clear hz HPY'
      cases hbl : bl y.name x.name with
      | false =>
       have HBF := Ld hbl
       have hbl2 : Op.bytesLess y.name.toList x.name.toList = false := hbl
       clear hbl
       refine wp_region_held_drew (S := fun V => Below WR.heap.size WR V) (by kernel_rfl) ((Below.refl _ _).drew) (fun hS1 => ?_)
       refine tk 0 (some 56) (.agg #[.string x.name, .int .i64 x.ver, .int .i64 x.len, .string x.hash]) rfl (fun V hS => by obtain ⟨h0, h1, h2, h3⟩ := HZ.out V hS; go_simp) hS1 ?_
       simp only [nf]
       refine rd1 1 rfl (fun K' hK => ?_)
       go_simp
       refine (HC.out _ hS1).mono ?_
       rintro e w6 ⟨rfl, hb6⟩
       go_simp
       refine hK.out _ _ (hS1.trans (hb6.mono hS1.size)) (fun hS2 => ?_)
       clear hK K' hS1
       refine tk 2 (some 58) (.bool false) rfl (fun V hS => by go_simp) hS2 ?_
       simp only [nf]
       refine tk 3 (some 59) (.bool false) rfl (fun V hS => by go_simp) hS2 ?_
       simp only [nf]
       refine tk 4 (some 60) (.int .i64 (k : Int)) rfl (fun V hS => by go_simp) hS2 ?_
       simp only [nf]
       refine tk 5 (some 61) (.bool true) rfl (fun V hS => by go_simp) hS2 ?_
       simp only [nf]
       refine tk 6 (some 62) (.bool true) rfl (fun V hS => by go_simp) hS2 ?_
       simp only [nf]
       refine tk 7 (some 63) (.pointer (some ⟨w.heap.size, 2, none⟩)) rfl (fun V hS => by go_simp) hS2 ?_
       simp only [nf]
       refine tk 8 (some 64) (.slice (some ⟨b, o, none⟩) n c) rfl (fun V hS => by have h0 := HKL2.out V hS; go_simp) hS2 ?_
       simp only [nf]
       refine tk 9 (some 65) (.int .i64 (k : Int)) rfl (fun V hS => by go_simp) hS2 ?_
       simp only [nf]
       refine tk 10 (some 66) (.int .i64 ((k : Int) - 1)) rfl (fun V hS => by go_simp) hS2 ?_
       simp only [nf]
       refine tk 11 (some 67) (.pointer (some ⟨b, o + (k - 1) * 4, none⟩)) rfl (fun V hS => by go_simp) hS2 ?_
       simp only [nf]
       refine tk 12 (some 68) (.pointer (some ⟨b, o + (k - 1) * 4, none⟩)) rfl (fun V hS => by go_simp) hS2 ?_
       simp only [nf]
       refine tk 13 (some 69) (.string y.name) rfl (fun V hS => by have h0 := HPY.out V hS; go_simp) hS2 ?_
       simp only [nf]
       refine tk 14 (some 70) (.pointer (some ⟨wr.heap.size, 0, none⟩)) rfl (fun V hS => by go_simp) hS2 ?_
       simp only [nf]
       refine tk 15 (some 71) (.string x.name) rfl (fun V hS => by obtain ⟨h0, h1, h2, h3⟩ := HZ.out V hS; go_simp) hS2 ?_
       simp only [nf]
       refine tk 16 (some 72) (.bool true) rfl (fun V hS => by go_simp) hS2 ?_
       simp only [nf]
       refine tk 17 (some 73) (.bool true) rfl (fun V hS => by go_simp) hS2 ?_
       simp only [nf]
       refine tk 18 (some 74) (.bool true) rfl (fun V hS => by go_simp) hS2 ?_
       simp only [nf]
       refine tk 19 (some 75) (.bool true) rfl (fun V hS => by go_simp) hS2 ?_
       simp only [nf]
       refine tk0 20 (some 76) rfl hS2 ?_
       simp only [nf]
       refine tk0 21 (some 77) rfl hS2 ?_
       simp only [nf]
       refine tk0 22 (some 78) rfl hS2 ?_
       simp only [nf]
       refine tk0 23 (some 79) rfl hS2 ?_
       simp only [nf]
       refine tk0 24 (some 80) rfl hS2 ?_
       simp only [nf]
       refine tk0 25 (some 81) rfl hS2 ?_
       simp only [nf]
       refine tk0 26 (some 82) rfl hS2 ?_
       simp only [nf]
       refine tk0 27 (some 83) rfl hS2 ?_
       simp only [nf]
       refine tk0 28 (some 84) rfl hS2 ?_
       simp only [nf]
       refine tk0 29 (some 85) rfl hS2 ?_
       simp only [nf]
       refine tk0 30 (some 86) rfl hS2 ?_
       simp only [nf]
       refine tk0 31 (some 87) rfl hS2 ?_
       simp only [nf]
       refine tk0 32 (some 88) rfl hS2 ?_
       simp only [nf]
       refine tk0 33 (some 89) rfl hS2 ?_
       simp only [nf]
       refine tk 34 (some 90) (.bool true) rfl (fun V hS => by go_simp) hS2 ?_
       simp only [nf]
       refine wpAnyH_done (by kernel_rfl) ?_ _
       have HI : Hid (r = false) := Ld (HNO.out (by rw [HST.out, HBF.out]; have := HZK.out; simp; omega))
       go_wp2
       go_ret
       exact ⟨by rw [HI.out]; rfl, HB1.out.trans ((HBI.out _ hS2).mono HB1.out.size)⟩
      | true =>
       have HBF := Ld hbl
       have hbl2 : Op.bytesLess y.name.toList x.name.toList = true := hbl
       clear hbl
       rcases (by omega : x.name.size < 5 ∨ 5 ≤ x.name.size) with h5 | h5
       ·have g1 : decide ((x.name.size : Int) < 5) = true := decide_eq_true (by omega)
        have g1n : decide (x.name.size < 5) = true := decide_eq_true (by omega)
        have HSF := Ld (suf_short h5)
        clear h5
        refine wp_region_held_drew (S := fun V => Below WR.heap.size WR V) (by kernel_rfl) ((Below.refl _ _).drew) (fun hS1 => ?_)
        refine tk 0 (some 56) (.agg #[.string x.name, .int .i64 x.ver, .int .i64 x.len, .string x.hash]) rfl (fun V hS => by obtain ⟨h0, h1, h2, h3⟩ := HZ.out V hS; go_simp) hS1 ?_
        simp only [nf]
        refine rd1 1 rfl (fun K' hK => ?_)
        go_simp
        refine (HC.out _ hS1).mono ?_
        rintro e w6 ⟨rfl, hb6⟩
        go_simp
        refine hK.out _ _ (hS1.trans (hb6.mono hS1.size)) (fun hS2 => ?_)
        clear hK K' hS1
        refine tk 2 (some 58) (.bool false) rfl (fun V hS => by go_simp) hS2 ?_
        simp only [nf]
        refine tk 3 (some 59) (.bool false) rfl (fun V hS => by go_simp) hS2 ?_
        simp only [nf]
        refine tk 4 (some 60) (.int .i64 (k : Int)) rfl (fun V hS => by go_simp) hS2 ?_
        simp only [nf]
        refine tk 5 (some 61) (.bool true) rfl (fun V hS => by go_simp) hS2 ?_
        simp only [nf]
        refine tk 6 (some 62) (.bool true) rfl (fun V hS => by go_simp) hS2 ?_
        simp only [nf]
        refine tk 7 (some 63) (.pointer (some ⟨w.heap.size, 2, none⟩)) rfl (fun V hS => by go_simp) hS2 ?_
        simp only [nf]
        refine tk 8 (some 64) (.slice (some ⟨b, o, none⟩) n c) rfl (fun V hS => by have h0 := HKL2.out V hS; go_simp) hS2 ?_
        simp only [nf]
        refine tk 9 (some 65) (.int .i64 (k : Int)) rfl (fun V hS => by go_simp) hS2 ?_
        simp only [nf]
        refine tk 10 (some 66) (.int .i64 ((k : Int) - 1)) rfl (fun V hS => by go_simp) hS2 ?_
        simp only [nf]
        refine tk 11 (some 67) (.pointer (some ⟨b, o + (k - 1) * 4, none⟩)) rfl (fun V hS => by go_simp) hS2 ?_
        simp only [nf]
        refine tk 12 (some 68) (.pointer (some ⟨b, o + (k - 1) * 4, none⟩)) rfl (fun V hS => by go_simp) hS2 ?_
        simp only [nf]
        refine tk 13 (some 69) (.string y.name) rfl (fun V hS => by have h0 := HPY.out V hS; go_simp) hS2 ?_
        simp only [nf]
        refine tk 14 (some 70) (.pointer (some ⟨wr.heap.size, 0, none⟩)) rfl (fun V hS => by go_simp) hS2 ?_
        simp only [nf]
        refine tk 15 (some 71) (.string x.name) rfl (fun V hS => by obtain ⟨h0, h1, h2, h3⟩ := HZ.out V hS; go_simp) hS2 ?_
        simp only [nf]
        refine tk 16 (some 72) (.bool false) rfl (fun V hS => by go_simp) hS2 ?_
        simp only [nf]
        refine tk 17 (some 73) (.bool false) rfl (fun V hS => by go_simp) hS2 ?_
        simp only [nf]
        refine tk 18 (some 74) (.bool false) rfl (fun V hS => by go_simp) hS2 ?_
        simp only [nf]
        refine tk 19 (some 75) (.bool false) rfl (fun V hS => by go_simp) hS2 ?_
        simp only [nf]
        refine tk 20 (some 76) (.string kind) rfl (fun V hS => by go_simp) hS2 ?_
        simp only [nf]
        refine tk 21 (some 77) (.bool true) rfl (fun V hS => by go_simp) hS2 ?_
        simp only [nf]
        refine tk 22 (some 78) (.bool true) rfl (fun V hS => by go_simp) hS2 ?_
        simp only [nf]
        refine tk 23 (some 79) (.int .i64 (x.name.size : Int)) rfl (fun V hS => by go_simp) hS2 ?_
        simp only [nf]
        refine tk 24 (some 80) (.bool true) rfl (fun V hS => by go_simp) hS2 ?_
        simp only [nf]
        refine tk 25 (some 81) (.bool true) rfl (fun V hS => by go_simp) hS2 ?_
        simp only [nf]
        refine tk0 26 (some 82) rfl hS2 ?_
        simp only [nf]
        refine tk0 27 (some 83) rfl hS2 ?_
        simp only [nf]
        refine tk0 28 (some 84) rfl hS2 ?_
        simp only [nf]
        refine tk0 29 (some 85) rfl hS2 ?_
        simp only [nf]
        refine tk0 30 (some 86) rfl hS2 ?_
        simp only [nf]
        refine tk0 31 (some 87) rfl hS2 ?_
        simp only [nf]
        refine tk 32 (some 88) (.bool true) rfl (fun V hS => by go_simp) hS2 ?_
        simp only [nf]
        refine tk 33 (some 89) (.bool true) rfl (fun V hS => by go_simp) hS2 ?_
        simp only [nf]
        refine tk 34 (some 90) (.bool true) rfl (fun V hS => by go_simp) hS2 ?_
        simp only [nf]
        refine wpAnyH_done (by kernel_rfl) ?_ _
        have HI : Hid (r = false) := Ld (by
         rw [HR.out]
         have : l.all (fun m => sufJ m.name) = false := by
          rw [← Bool.not_eq_true, List.all_eq_true]
          intro h9
          have := h9 x (by rw [HX.out]; exact List.getElem_mem HKL.out)
          rw [HSF.out] at this
          cases this
         rw [this]
         simp)
        go_wp2
        go_ret
        exact ⟨by rw [HI.out]; rfl, HB1.out.trans ((HBI.out _ hS2).mono HB1.out.size)⟩
       ·have g1 : decide ((x.name.size : Int) < 5) = false := decide_eq_false (by omega)
        have g1n : decide (x.name.size < 5) = false := decide_eq_false (by omega)
        have HSF := Ld (suf_ext h5)
        have j1 : IntKind.i64.wrap ((x.name.size : Int) - 5) = (x.name.size : Int) - 5 := IntWalk.i64_in _ (by omega)
        have j2 : ((x.name.size : Int) - 5).toNat = x.name.size - 5 := by omega
        have j3 : (0 : Int) ≤ (x.name.size : Int) - 5 := by omega
        have j4 : (x.name.size : Int) - 5 ≤ (x.name.size : Int) := by omega
        have g2 := nm_beq (x.name.extract (x.name.size - 5) x.name.size) ⟨#[46, 106, 115, 111, 110]⟩
        rw [← HSF.out, show ({ data := #[46, 106, 115, 111, 110] } : ByteArray).toList = [46, 106, 115, 111, 110] by rw [ByteArray.toList_eq]] at g2
        have g3 : decide ((x.name.extract (x.name.size - 5) x.name.size).toList = [46, 106, 115, 111, 110]) = sufJ x.name := by rw [← g2]; exact (leq_dec _ _).symm
        have HT5 : Hid (x.name.extract (x.name.size - 5) x.name.size = x.name.extract (x.name.size - 5) x.name.size) := Ld rfl
        clear h5
        cases hsf : sufJ x.name with
        | false =>
         rw [hsf] at g2 g3
         have HSV := Ld hsf
         clear hsf
         refine wp_region_held_drew (S := fun V => Below WR.heap.size WR V) (by kernel_rfl) ((Below.refl _ _).drew) (fun hS1 => ?_)
         refine tk 0 (some 56) (.agg #[.string x.name, .int .i64 x.ver, .int .i64 x.len, .string x.hash]) rfl (fun V hS => by obtain ⟨h0, h1, h2, h3⟩ := HZ.out V hS; go_simp) hS1 ?_
         simp only [nf]
         refine rd1 1 rfl (fun K' hK => ?_)
         go_simp
         refine (HC.out _ hS1).mono ?_
         rintro e w6 ⟨rfl, hb6⟩
         go_simp
         refine hK.out _ _ (hS1.trans (hb6.mono hS1.size)) (fun hS2 => ?_)
         clear hK K' hS1
         refine tk 2 (some 58) (.bool false) rfl (fun V hS => by go_simp) hS2 ?_
         simp only [nf]
         refine tk 3 (some 59) (.bool false) rfl (fun V hS => by go_simp) hS2 ?_
         simp only [nf]
         refine tk 4 (some 60) (.int .i64 (k : Int)) rfl (fun V hS => by go_simp) hS2 ?_
         simp only [nf]
         refine tk 5 (some 61) (.bool true) rfl (fun V hS => by go_simp) hS2 ?_
         simp only [nf]
         refine tk 6 (some 62) (.bool true) rfl (fun V hS => by go_simp) hS2 ?_
         simp only [nf]
         refine tk 7 (some 63) (.pointer (some ⟨w.heap.size, 2, none⟩)) rfl (fun V hS => by go_simp) hS2 ?_
         simp only [nf]
         refine tk 8 (some 64) (.slice (some ⟨b, o, none⟩) n c) rfl (fun V hS => by have h0 := HKL2.out V hS; go_simp) hS2 ?_
         simp only [nf]
         refine tk 9 (some 65) (.int .i64 (k : Int)) rfl (fun V hS => by go_simp) hS2 ?_
         simp only [nf]
         refine tk 10 (some 66) (.int .i64 ((k : Int) - 1)) rfl (fun V hS => by go_simp) hS2 ?_
         simp only [nf]
         refine tk 11 (some 67) (.pointer (some ⟨b, o + (k - 1) * 4, none⟩)) rfl (fun V hS => by go_simp) hS2 ?_
         simp only [nf]
         refine tk 12 (some 68) (.pointer (some ⟨b, o + (k - 1) * 4, none⟩)) rfl (fun V hS => by go_simp) hS2 ?_
         simp only [nf]
         refine tk 13 (some 69) (.string y.name) rfl (fun V hS => by have h0 := HPY.out V hS; go_simp) hS2 ?_
         simp only [nf]
         refine tk 14 (some 70) (.pointer (some ⟨wr.heap.size, 0, none⟩)) rfl (fun V hS => by go_simp) hS2 ?_
         simp only [nf]
         refine tk 15 (some 71) (.string x.name) rfl (fun V hS => by obtain ⟨h0, h1, h2, h3⟩ := HZ.out V hS; go_simp) hS2 ?_
         simp only [nf]
         refine tk 16 (some 72) (.bool false) rfl (fun V hS => by go_simp) hS2 ?_
         simp only [nf]
         refine tk 17 (some 73) (.bool false) rfl (fun V hS => by go_simp) hS2 ?_
         simp only [nf]
         refine tk 18 (some 74) (.bool false) rfl (fun V hS => by go_simp) hS2 ?_
         simp only [nf]
         refine tk 19 (some 75) (.bool false) rfl (fun V hS => by go_simp) hS2 ?_
         simp only [nf]
         refine tk 20 (some 76) (.string kind) rfl (fun V hS => by go_simp) hS2 ?_
         simp only [nf]
         refine tk 21 (some 77) (.bool true) rfl (fun V hS => by go_simp) hS2 ?_
         simp only [nf]
         refine tk 22 (some 78) (.bool true) rfl (fun V hS => by go_simp) hS2 ?_
         simp only [nf]
         refine tk 23 (some 79) (.int .i64 (x.name.size : Int)) rfl (fun V hS => by go_simp) hS2 ?_
         simp only [nf]
         refine tk 24 (some 80) (.bool false) rfl (fun V hS => by go_simp) hS2 ?_
         simp only [nf]
         refine tk 25 (some 81) (.bool false) rfl (fun V hS => by go_simp) hS2 ?_
         simp only [nf]
         refine tk 26 (some 82) (.pointer (some ⟨wr.heap.size, 0, none⟩)) rfl (fun V hS => by go_simp) hS2 ?_
         simp only [nf]
         refine tk 27 (some 83) (.string x.name) rfl (fun V hS => by obtain ⟨h0, h1, h2, h3⟩ := HZ.out V hS; go_simp) hS2 ?_
         simp only [nf]
         refine tk 28 (some 84) (.int .i64 (x.name.size : Int)) rfl (fun V hS => by go_simp) hS2 ?_
         simp only [nf]
         refine tk 29 (some 85) (.int .i64 ((x.name.size : Int) - 5)) rfl (fun V hS => by go_simp) hS2 ?_
         simp only [nf]
         refine tk 30 (some 86) (.string (x.name.extract (x.name.size - 5) x.name.size)) rfl (fun V hS => by go_simp <;> (intro h9; omega)) hS2 ?_
         simp only [nf]
         refine tk 31 (some 87) (.bool true) rfl (fun V hS => by go_simp) hS2 ?_
         simp only [nf]
         refine tk 32 (some 88) (.bool true) rfl (fun V hS => by go_simp) hS2 ?_
         simp only [nf]
         refine tk 33 (some 89) (.bool true) rfl (fun V hS => by go_simp) hS2 ?_
         simp only [nf]
         refine tk 34 (some 90) (.bool true) rfl (fun V hS => by go_simp) hS2 ?_
         simp only [nf]
         refine wpAnyH_done (by kernel_rfl) ?_ _
         have HI : Hid (r = false) := Ld (by
          rw [HR.out]
          have : l.all (fun m => sufJ m.name) = false := by
           rw [← Bool.not_eq_true, List.all_eq_true]
           intro h9
           have := h9 x (by rw [HX.out]; exact List.getElem_mem HKL.out)
           rw [HSV.out] at this
           cases this
          rw [this]
          simp)
         go_wp2
         go_ret
         exact ⟨by rw [HI.out]; rfl, HB1.out.trans ((HBI.out _ hS2).mono HB1.out.size)⟩
        | true =>
         rw [hsf] at g2 g3
         have HSV := Ld hsf
         clear hsf
         refine wp_region_held_drew (S := fun V => Below WR.heap.size WR V) (by kernel_rfl) ((Below.refl _ _).drew) (fun hS1 => ?_)
         refine tk 0 (some 56) (.agg #[.string x.name, .int .i64 x.ver, .int .i64 x.len, .string x.hash]) rfl (fun V hS => by obtain ⟨h0, h1, h2, h3⟩ := HZ.out V hS; go_simp) hS1 ?_
         simp only [nf]
         refine rd1 1 rfl (fun K' hK => ?_)
         go_simp
         refine (HC.out _ hS1).mono ?_
         rintro e w6 ⟨rfl, hb6⟩
         go_simp
         refine hK.out _ _ (hS1.trans (hb6.mono hS1.size)) (fun hS2 => ?_)
         clear hK K' hS1
         refine tk 2 (some 58) (.bool false) rfl (fun V hS => by go_simp) hS2 ?_
         simp only [nf]
         refine tk 3 (some 59) (.bool false) rfl (fun V hS => by go_simp) hS2 ?_
         simp only [nf]
         refine tk 4 (some 60) (.int .i64 (k : Int)) rfl (fun V hS => by go_simp) hS2 ?_
         simp only [nf]
         refine tk 5 (some 61) (.bool true) rfl (fun V hS => by go_simp) hS2 ?_
         simp only [nf]
         refine tk 6 (some 62) (.bool true) rfl (fun V hS => by go_simp) hS2 ?_
         simp only [nf]
         refine tk 7 (some 63) (.pointer (some ⟨w.heap.size, 2, none⟩)) rfl (fun V hS => by go_simp) hS2 ?_
         simp only [nf]
         refine tk 8 (some 64) (.slice (some ⟨b, o, none⟩) n c) rfl (fun V hS => by have h0 := HKL2.out V hS; go_simp) hS2 ?_
         simp only [nf]
         refine tk 9 (some 65) (.int .i64 (k : Int)) rfl (fun V hS => by go_simp) hS2 ?_
         simp only [nf]
         refine tk 10 (some 66) (.int .i64 ((k : Int) - 1)) rfl (fun V hS => by go_simp) hS2 ?_
         simp only [nf]
         refine tk 11 (some 67) (.pointer (some ⟨b, o + (k - 1) * 4, none⟩)) rfl (fun V hS => by go_simp) hS2 ?_
         simp only [nf]
         refine tk 12 (some 68) (.pointer (some ⟨b, o + (k - 1) * 4, none⟩)) rfl (fun V hS => by go_simp) hS2 ?_
         simp only [nf]
         refine tk 13 (some 69) (.string y.name) rfl (fun V hS => by have h0 := HPY.out V hS; go_simp) hS2 ?_
         simp only [nf]
         refine tk 14 (some 70) (.pointer (some ⟨wr.heap.size, 0, none⟩)) rfl (fun V hS => by go_simp) hS2 ?_
         simp only [nf]
         refine tk 15 (some 71) (.string x.name) rfl (fun V hS => by obtain ⟨h0, h1, h2, h3⟩ := HZ.out V hS; go_simp) hS2 ?_
         simp only [nf]
         refine tk 16 (some 72) (.bool false) rfl (fun V hS => by go_simp) hS2 ?_
         simp only [nf]
         refine tk 17 (some 73) (.bool false) rfl (fun V hS => by go_simp) hS2 ?_
         simp only [nf]
         refine tk 18 (some 74) (.bool false) rfl (fun V hS => by go_simp) hS2 ?_
         simp only [nf]
         refine tk 19 (some 75) (.bool false) rfl (fun V hS => by go_simp) hS2 ?_
         simp only [nf]
         refine tk 20 (some 76) (.string kind) rfl (fun V hS => by go_simp) hS2 ?_
         simp only [nf]
         refine tk 21 (some 77) (.bool true) rfl (fun V hS => by go_simp) hS2 ?_
         simp only [nf]
         refine tk 22 (some 78) (.bool true) rfl (fun V hS => by go_simp) hS2 ?_
         simp only [nf]
         refine tk 23 (some 79) (.int .i64 (x.name.size : Int)) rfl (fun V hS => by go_simp) hS2 ?_
         simp only [nf]
         refine tk 24 (some 80) (.bool false) rfl (fun V hS => by go_simp) hS2 ?_
         simp only [nf]
         refine tk 25 (some 81) (.bool false) rfl (fun V hS => by go_simp) hS2 ?_
         simp only [nf]
         refine tk 26 (some 82) (.pointer (some ⟨wr.heap.size, 0, none⟩)) rfl (fun V hS => by go_simp) hS2 ?_
         simp only [nf]
         refine tk 27 (some 83) (.string x.name) rfl (fun V hS => by obtain ⟨h0, h1, h2, h3⟩ := HZ.out V hS; go_simp) hS2 ?_
         simp only [nf]
         refine tk 28 (some 84) (.int .i64 (x.name.size : Int)) rfl (fun V hS => by go_simp) hS2 ?_
         simp only [nf]
         refine tk 29 (some 85) (.int .i64 ((x.name.size : Int) - 5)) rfl (fun V hS => by go_simp) hS2 ?_
         simp only [nf]
         refine tk 30 (some 86) (.string (x.name.extract (x.name.size - 5) x.name.size)) rfl (fun V hS => by go_simp <;> (intro h9; omega)) hS2 ?_
         simp only [nf]
         refine tk 31 (some 87) (.bool false) rfl (fun V hS => by go_simp) hS2 ?_
         simp only [nf]
         refine tk 32 (some 88) (.bool false) rfl (fun V hS => by go_simp) hS2 ?_
         simp only [nf]
         refine tk 33 (some 89) (.bool false) rfl (fun V hS => by go_simp) hS2 ?_
         simp only [nf]
         refine tk 34 (some 90) (.bool false) rfl (fun V hS => by go_simp) hS2 ?_
         simp only [nf]
         refine wpAnyH_done (by kernel_rfl) ?_ _
         have HST2 : Hid (stepB l k = true) := Ld (HGO.out HF1.out (.inr HBF.out))
         have HN2 := Ld (HBI.out _ hS2)
         obtain ⟨z0, z1, z2, z3⟩ := HZ.out _ hS2
         clear hS2
         have HRA : Hid (∀ i, i < k + 1 → stepB l i = true) := Ld (fun i hi => by
          rcases (by omega : i < k ∨ i = k) with h1 | h1
          ·exact HK.out.st i h1
          ·rw [h1]; exact HST2.out)
         have HRB : Hid (true = true → ∀ i (hi : i < l.length), i < k + 1 → sufJ (l[i]).name = true) := Ld (fun e3 i hi1 hi => by
          rcases (by omega : i < k ∨ i = k) with h1 | h1
          ·exact HK.out.sf e3 i hi1 h1
          ·subst h1
           rw [← HX.out]; exact HSV.out)
         have HRM : Hid (∀ tf2, tf2 = (tf || decide (x.name = tgJ)) → RM l true (k + 1) tf2) := Ld (fun tf2 e2 => ⟨HRA.out, HRB.out, (by rw [e2, any_snoc HKL.out, ← HX.out, ← HK.out.tg])⟩)
         clear HRA HRB
         cases tf with
         | true =>
          have HRM2 := Ld (HRM.out true rfl)
          clear HRM
          go_wp2
          go_roundw
          case rel => exact ⟨k + 1, true, by omega, rfl, by go_num, HRM2, HN2⟩
          case measure => simp [intOf]; omega
         | false =>
          have HRM2 := Ld (HRM.out (decide (x.name = tgJ)) rfl)
          have g9 := nm_beq x.name ⟨#[116, 97, 114, 103, 101, 116, 115, 46, 106, 115, 111, 110]⟩
          have g8 : (x.name.toList == [116, 97, 114, 103, 101, 116, 115, 46, 106, 115, 111, 110]) = decide (x.name = tgJ) := by rw [← show ({ data := #[116, 97, 114, 103, 101, 116, 115, 46, 106, 115, 111, 110] } : ByteArray).toList = [116, 97, 114, 103, 101, 116, 115, 46, 106, 115, 111, 110] by rw [ByteArray.toList_eq]]; exact g9
          clear HRM g9
          obtain ⟨tg, htg⟩ : ∃ tg, tg = decide (x.name = tgJ) := ⟨_, rfl⟩
          rw [← htg] at g8 HRM2
          have g7 : decide (x.name.toList = [116, 97, 114, 103, 101, 116, 115, 46, 106, 115, 111, 110]) = tg := by rw [← g8]; exact (leq_dec _ _).symm
          clear htg
          go_wp2
          go_roundw
          case rel => exact ⟨k + 1, tg, by omega, rfl, by go_num, HRM2, HN2⟩
          case measure => simp [intOf]; omega
   ·have q0 : decide ((k : Int) < (n : Int)) = false := by rw [decide_eq_false_iff_not]; omega
    have q0' : decide (k < n) = false := by rw [decide_eq_false_iff_not]; omega
    have HRI : Hid (risB l = true) := Ld (by
     unfold risB
     rw [allB_iff.2 (by rw [HN.out, ← heq]; exact HK.out.st), HN.out, decide_eq_true hl]
     rfl)
    have HE : Hid (r = tf) := Ld (by
     have h8 : l.all (fun m => sufJ m.name) = true := List.all_eq_true.2 (fun m hm => by
      obtain ⟨i, hi, rfl⟩ := List.getElem_of_mem hm
      exact HK.out.sf rfl i hi (by rw [HN.out] at hi; omega))
     have h9 := HK.out.tg
     rw [heq, ← HN.out, List.take_length] at h9
     rw [HR.out, HRI.out, h8, ← h9]
     simp)
    clear heq
    go_wp2
    go_ret
    exact ⟨by rw [HE.out]; rfl, HB.out⟩
end Go.Proofs.YtefkpphahimkgaaGreatDoor
