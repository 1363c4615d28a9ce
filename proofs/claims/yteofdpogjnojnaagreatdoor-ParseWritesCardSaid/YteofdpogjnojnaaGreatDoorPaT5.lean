/-
  parse: read.
-/
import Derived.Test.YteofdpogjnojnaaGreatDoorPaT4
namespace Go.Proofs.YteofdpogjnojnaaGreatDoor
open Go.RowKit Utf Pa
attribute [local go_sem ↓] Go.wp_at_zero Go.wp_at_succ
set_option linter.unusedVariables false
set_option linter.unusedSimpArgs false

def fl (k n : Int) (s : ByteArray) : MV := .mk ⟨#[]⟩ k n s none 0 [] none 0 []
theorem fl_val (k n : Int) (s : ByteArray) : (fl k n s).val = .agg #[.int .i64 k, .int .i64 n, .string s, .slice none 0 0, .slice none 0 0] := rfl
theorem fl_own {k n : Int} {s : ByteArray} (base : Nat) (w : World) (hk : (Lit.int .i64 k).wf = true) (hn : (Lit.int .i64 n).wf = true) : VOwn base w (fl k n s) :=
  ⟨.mk hk hn Reads.none_ (Nat.le_refl _) (by simp [maxLen]) Reads.none_ (Nat.le_refl _) (by simp [maxLen]) (fun x hx => by cases hx) (fun x hx => by cases hx), .mk (fun h => absurd rfl h) (fun h => absurd rfl h) (fun x hx => by cases hx) (fun x hx => by cases hx), ROwn.nil _ _, ROwn.nil _ _, (fun x hx => by cases hx), (fun x hx => by cases hx)⟩
set_option maxRecDepth 100000 in
set_option maxHeartbeats 16000000 in
theorem read_any {W w : World} {B : Nat} {s : ByteArray} {p : St} (d : Nat) (hC : VC W B s d) (hF : FourOk s) (hT : tabV W) (h : PSt W B s w p) (hs : s.size ≤ 1000000) (he : p.e = 0) (hbg : begins p.r = true) (D : Int) (hD : IntKind.i64.wrap (D - 1) = (d : Int)) :
    Calls Tryz.prog 28 #[.pointer (some ⟨B, 0, none⟩), .int .i64 D] w fun e w' => PF (ValP W B s (readP (valP d) p) w) e w' := by
  rcases hw : wordP p.r with _ | ⟨v, m⟩
  · have hne : p.r ≠ [] := by
      intro q
      rw [q] at hbg
      exact absurd hbg (by decide)
    obtain ⟨c, l, hr⟩ : ∃ c l, p.r = c :: l := by
      cases hq : p.r with
      | nil => exact absurd hq hne
      | cons c l => exact ⟨c, l, rfl⟩
    clear hbg hne
    by_cases hc1 : c = 34
    · have hc := hc1
      clear hc1
      obtain ⟨W0, hW0⟩ : ∃ W0, W0 = w.alloc (.cells #[.int .i64 0, .int .i64 0, .string ⟨#[]⟩, .slice none 0 0, .slice none 0 0] 25) := ⟨_, rfl⟩
      have hb0 : Below w.heap.size w W0 := by rw [hW0]; exact (Below.refl _ _).alloc (Nat.le_refl _) _
      have hs0 : W0.heap.size = w.heap.size + 1 := by rw [hW0]; exact alSz _ _
      have hk0 : Blk W0 w.heap.size 25 #[.int .i64 0, .int .i64 0, .string ⟨#[]⟩, .slice none 0 0, .slice none 0 0] := by rw [hW0]; exact Blk.new _ _ _
      have h0 := h.below hb0
      have HWD := Lib.hid (word_any h0 hs)
      have HPS0 := Lib.hid h0
      have HB0 := Lib.hid hb0
      have HK0 := Lib.hid hk0
      have HW0 := Lib.hid hW0
      have HN : Hid (B < w.heap.size ∧ W.heap.size ≤ w.heap.size ∧ W0.heap.size = w.heap.size + 1) := Lib.hid ⟨h.blk.lt, h.bel.size, hs0⟩
      have hrl := rs_list p
      have hrz := rs_size p
      rw [hr] at hrl
      have hpos : 0 < (rs p).size := by rw [hrz, hr]; simp
      have g0 : (rs p)[0]'hpos = c := at_l hrl 0 hpos c rfl
      obtain ⟨t, ht⟩ : ∃ t, t = rs p := ⟨_, rfl⟩
      have HTT := Lib.hid ht
      rw [← ht] at hpos
      have g0' : t[0]'hpos = c := by subst ht; exact g0
      have hts : (0 : Int) < (t.size : Int) := by omega
      have HWW : Hid ((wordP p.r).isSome = false) := Lib.hid (by rw [hw]; rfl)
      have HRS : Hid (∀ V, PSt W B s V p → Calls Tryz.prog 18 #[.pointer (some ⟨B, 0, none⟩)] V fun e w' => PF (RstP p V) e w') := Lib.hid (fun V hV => rest_any hV hs)
      have hrd : readP (valP d) p = (p.lit.2, .mk 4 0 p.lit.1 [] [] []) := by unfold readP; rw [hw]; simp only [hr]; simp [hc]
      rw [hrd]
      obtain ⟨KEY, hkey⟩ : ∃ KEY, KEY = p.lit.1 := ⟨_, rfl⟩
      obtain ⟨q2, hq2⟩ : ∃ q2, q2 = p.lit.2 := ⟨_, rfl⟩
      have HLIT : Hid (∀ V, PSt W B s V p → Calls Tryz.prog 39 #[.pointer (some ⟨B, 0, none⟩)] V fun e w' => PF (StpP W B s (.string KEY) q2 V) e w') := Lib.hid (fun V hV => by
        have := literal_any hV hs hF hT
        unfold LitP at this
        rw [← hkey, ← hq2] at this
        exact this)
      rw [← hkey, ← hq2]
      clear hkey hq2 hrd hw hrl hrz g0 ht hr hb0 hs0 hk0 h0 h hW0 hC hF hT hs
      subst hc
      go_enter Tryz.func28, Tryz.ntmps28
      go_wp2_with fail
      rw [← HW0.out]
      refine HWD.out.mono ?_
      rintro e w1 ⟨k, n, rfl, hkn, hb1⟩
      rw [HWW.out]
      clear hkn
      unfold flat
      obtain ⟨X, hX⟩ : ∃ X, X = w1.heap.size := ⟨_, rfl⟩
      obtain ⟨w2, hw2⟩ : ∃ w2, w2 = w1.alloc (.cells #[.int .i64 k, .int .i64 n, .string ⟨#[]⟩, .slice none 0 0, .slice none 0 0] 25) := ⟨_, rfl⟩
      have hb2 : Below W0.heap.size W0 w2 := by rw [hw2]; exact hb1.alloc hb1.size _
      have HB2 := Lib.hid hb2
      have HK2 := Lib.hid (HK0.out.below hb2 HK0.out.lt)
      have HPS2 := Lib.hid (HPS0.out.below hb2)
      have HXB : Hid (Blk w2 X 25 #[.int .i64 k, .int .i64 n, .string ⟨#[]⟩, .slice none 0 0, .slice none 0 0]) := Lib.hid (by rw [hw2, hX]; exact Blk.new _ _ _)
      have HXN : Hid (w.heap.size < X) := Lib.hid (by have := hb1.size; have := HN.out; omega)
      have HW2 : Hid (w2 = w1.alloc (.cells #[.int .i64 k, .int .i64 n, .string ⟨#[]⟩, .slice none 0 0, .slice none 0 0] 25)) := Lib.hid hw2
      have HX := Lib.hid hX
      clear hb1 hb2 hw2 hX
      go_wp2_with fail
      rw [← HW2.out, ← HX.out]
      refine (HRS.out w2 HPS2.out).mono ?_
      rintro e w3 ⟨rfl, hb3⟩
      have HB3 : Hid (Below W0.heap.size W0 w3) := Lib.hid (HB2.out.trans (hb3.mono HB2.out.size))
      have HPS3 := Lib.hid (HPS2.out.below hb3)
      have HK3 := Lib.hid (HK2.out.below hb3 HK2.out.lt)
      have HF3 : Hid (Fr (· = B) w w3) := Lib.hid (Fr.of_below (HB0.out.trans (HB3.out.mono HB0.out.size)))
      clear hb3
      rw [← HTT.out]
      go_wp2_with fail
      refine (HLIT.out w3 HPS3.out).mono ?_
      rintro e w4 ⟨rfl, hp4, hf4⟩
      have HPS4 := Lib.hid hp4
      have HK4 := Lib.hid (HK3.out.fr hf4 (by have := HN.out; omega))
      have HF4 := Lib.hid (HF3.out.trans hf4)
      clear hp4 hf4
      go_wp2_with fail
      refine (text_fl KEY w4).mono ?_
      rintro e w5 ⟨rfl, hb5⟩
      unfold flat
      have HPS5 := Lib.hid (HPS4.out.below hb5)
      have HK5 := Lib.hid (HK4.out.below hb5 HK4.out.lt)
      have HF5 := Lib.hid (HF4.out.below hb5)
      clear hb5
      have y0 : w5.cell? ⟨w.heap.size, 0, none⟩ = some (.int .i64 0) := HK5.out.cell 0
      have z0 : w5.frozen? ⟨w.heap.size, 0, none⟩ = false := HK5.out.frozen 0
      have y1 : w5.cell? ⟨w.heap.size, 1, none⟩ = some (.int .i64 0) := HK5.out.cell 1
      have z1 : w5.frozen? ⟨w.heap.size, 1, none⟩ = false := HK5.out.frozen 1
      have y2 : w5.cell? ⟨w.heap.size, 2, none⟩ = some (.string ⟨#[]⟩) := HK5.out.cell 2
      have z2 : w5.frozen? ⟨w.heap.size, 2, none⟩ = false := HK5.out.frozen 2
      have y3 : w5.cell? ⟨w.heap.size, 3, none⟩ = some (.slice none 0 0) := HK5.out.cell 3
      have z3 : w5.frozen? ⟨w.heap.size, 3, none⟩ = false := HK5.out.frozen 3
      have y4 : w5.cell? ⟨w.heap.size, 4, none⟩ = some (.slice none 0 0) := HK5.out.cell 4
      have z4 : w5.frozen? ⟨w.heap.size, 4, none⟩ = false := HK5.out.frozen 4
      have HFK := Lib.hid (((((HK5.out.set_ 0 (.int .i64 4)).set_ 1 (.int .i64 0)).set_ 2 (.string KEY)).set_ 3 (.slice none 0 0)).set_ 4 (.slice none 0 0))
      go_wp2
      have k0 := HFK.out.cell 0
      have k1 := HFK.out.cell 1
      have k2 := HFK.out.cell 2
      have k3 := HFK.out.cell 3
      have k4 := HFK.out.cell 4
      simp at k0 k1 k2 k3 k4
      refine bodyPost_ret (v := (fl 4 0 KEY).val) (by rw [fl_val]; simp [results, Tryz.results28, go_sem, k0, k1, k2, k3, k4]) rfl ?_
      refine val_end (R := w.heap.size) (base := w.heap.size + 1) HPS5.out (fl_own _ _ rfl rfl) rfl fr_put5 HF5.out (by have := HN.out; omega)
    by_cases hc2 : c = 91
    · have hc := hc2
      clear hc1 hc2
      obtain ⟨W0, hW0⟩ : ∃ W0, W0 = w.alloc (.cells #[.int .i64 0, .int .i64 0, .string ⟨#[]⟩, .slice none 0 0, .slice none 0 0] 25) := ⟨_, rfl⟩
      have hb0 : Below w.heap.size w W0 := by rw [hW0]; exact (Below.refl _ _).alloc (Nat.le_refl _) _
      have hs0 : W0.heap.size = w.heap.size + 1 := by rw [hW0]; exact alSz _ _
      have hk0 : Blk W0 w.heap.size 25 #[.int .i64 0, .int .i64 0, .string ⟨#[]⟩, .slice none 0 0, .slice none 0 0] := by rw [hW0]; exact Blk.new _ _ _
      have h0 := h.below hb0
      have HWD := Lib.hid (word_any h0 hs)
      have HPS0 := Lib.hid h0
      have HB0 := Lib.hid hb0
      have HK0 := Lib.hid hk0
      have HW0 := Lib.hid hW0
      have HN : Hid (B < w.heap.size ∧ W.heap.size ≤ w.heap.size ∧ W0.heap.size = w.heap.size + 1) := Lib.hid ⟨h.blk.lt, h.bel.size, hs0⟩
      have hrl := rs_list p
      have hrz := rs_size p
      rw [hr] at hrl
      have hpos : 0 < (rs p).size := by rw [hrz, hr]; simp
      have g0 : (rs p)[0]'hpos = c := at_l hrl 0 hpos c rfl
      obtain ⟨t, ht⟩ : ∃ t, t = rs p := ⟨_, rfl⟩
      have HTT := Lib.hid ht
      rw [← ht] at hpos
      have g0' : t[0]'hpos = c := by subst ht; exact g0
      have hts : (0 : Int) < (t.size : Int) := by omega
      have HWW : Hid ((wordP p.r).isSome = false) := Lib.hid (by rw [hw]; rfl)
      have HRS : Hid (∀ V, PSt W B s V p → Calls Tryz.prog 18 #[.pointer (some ⟨B, 0, none⟩)] V fun e w' => PF (RstP p V) e w') := Lib.hid (fun V hV => rest_any hV hs)
      have hrd : readP (valP d) p = ((itemsP (oneL (valP d)) 93 (p.eat 91).2 []).1, .mk 5 0 ⟨#[]⟩ (itemsP (oneL (valP d)) 93 (p.eat 91).2 []).2 [] []) := by unfold readP; rw [hw]; simp only [hr]; rw [if_neg (by simp [hc]), if_pos (by unfold St.eat; rw [hr, hc]; rfl)]
      rw [hrd]
      have HEAT : Hid (∀ V q, PSt W B s V q → Calls Tryz.prog 40 #[.pointer (some ⟨B, 0, none⟩), .string ⟨#[91]⟩] V fun e w' => PF (StpP W B s (.bool (q.eat 91).1) (q.eat 91).2 V) e w') := Lib.hid (fun V q hq => eat_any hq hs 91)
      have HEAU : Hid (∀ V q, PSt W B s V q → Calls Tryz.prog 40 #[.pointer (some ⟨B, 0, none⟩), .string ⟨#[123]⟩] V fun e w' => PF (StpP W B s (.bool (q.eat 123).1) (q.eat 123).2 V) e w') := Lib.hid (fun V q hq => eat_any hq hs 123)
      have HE1 : Hid ((p.eat 91).1 = true) := Lib.hid (by unfold St.eat; rw [hr, hc]; rfl)
      have HL : Hid (∀ V q, PSt W B s V q → Calls Tryz.prog 41 #[.pointer (some ⟨B, 0, none⟩), .int .i64 (d : Int)] V fun e w' => PF (ValP W B s ((itemsP (oneL (valP d)) 93 q []).1, .mk 5 0 ⟨#[]⟩ (itemsP (oneL (valP d)) 93 q []).2 [] []) V) e w') := Lib.hid (fun V q hq => list_any d hC hq hs)
      clear hrd hw hrl hrz g0 ht hr hb0 hs0 hk0 h0 h hW0 hC hF hT hs
      subst hc
      go_enter Tryz.func28, Tryz.ntmps28
      go_wp2_with fail
      rw [← HW0.out]
      refine HWD.out.mono ?_
      rintro e w1 ⟨k, n, rfl, hkn, hb1⟩
      rw [HWW.out]
      clear hkn
      unfold flat
      obtain ⟨X, hX⟩ : ∃ X, X = w1.heap.size := ⟨_, rfl⟩
      obtain ⟨w2, hw2⟩ : ∃ w2, w2 = w1.alloc (.cells #[.int .i64 k, .int .i64 n, .string ⟨#[]⟩, .slice none 0 0, .slice none 0 0] 25) := ⟨_, rfl⟩
      have hb2 : Below W0.heap.size W0 w2 := by rw [hw2]; exact hb1.alloc hb1.size _
      have HB2 := Lib.hid hb2
      have HK2 := Lib.hid (HK0.out.below hb2 HK0.out.lt)
      have HPS2 := Lib.hid (HPS0.out.below hb2)
      have HXB : Hid (Blk w2 X 25 #[.int .i64 k, .int .i64 n, .string ⟨#[]⟩, .slice none 0 0, .slice none 0 0]) := Lib.hid (by rw [hw2, hX]; exact Blk.new _ _ _)
      have HXN : Hid (w.heap.size < X) := Lib.hid (by have := hb1.size; have := HN.out; omega)
      have HW2 : Hid (w2 = w1.alloc (.cells #[.int .i64 k, .int .i64 n, .string ⟨#[]⟩, .slice none 0 0, .slice none 0 0] 25)) := Lib.hid hw2
      have HX := Lib.hid hX
      clear hb1 hb2 hw2 hX
      go_wp2_with fail
      rw [← HW2.out, ← HX.out]
      refine (HRS.out w2 HPS2.out).mono ?_
      rintro e w3 ⟨rfl, hb3⟩
      have HB3 : Hid (Below W0.heap.size W0 w3) := Lib.hid (HB2.out.trans (hb3.mono HB2.out.size))
      have HPS3 := Lib.hid (HPS2.out.below hb3)
      have HK3 := Lib.hid (HK2.out.below hb3 HK2.out.lt)
      have HF3 : Hid (Fr (· = B) w w3) := Lib.hid (Fr.of_below (HB0.out.trans (HB3.out.mono HB0.out.size)))
      clear hb3
      rw [← HTT.out]
      go_wp2_with fail
      refine (HEAT.out w3 p HPS3.out).mono ?_
      rintro e w4 ⟨rfl, hp4, hf4⟩
      rw [HE1.out]
      have HPS4 := Lib.hid hp4
      have HK4 := Lib.hid (HK3.out.fr hf4 (by have := HN.out; omega))
      have HF4 := Lib.hid (HF3.out.trans hf4)
      clear hp4 hf4
      go_wp2_with fail
      refine (HL.out w4 _ HPS4.out).mono ?_
      rintro e w5 ⟨v, rfl, hpv, hvo, hp5, hf5⟩
      unfold MV.val
      have HPV := Lib.hid hpv
      have HVO : Hid (VOwn (w.heap.size + 1) w5 v) := Lib.hid (vown_le hvo (by have := HK4.out.lt; omega))
      clear hpv hvo
      have HPS5 := Lib.hid hp5
      have HK5 := Lib.hid (HK4.out.fr hf5 (by have := HN.out; omega))
      have HF5 := Lib.hid (HF4.out.trans hf5)
      clear hp5 hf5
      have y0 : w5.cell? ⟨w.heap.size, 0, none⟩ = some (.int .i64 0) := HK5.out.cell 0
      have z0 : w5.frozen? ⟨w.heap.size, 0, none⟩ = false := HK5.out.frozen 0
      have y1 : w5.cell? ⟨w.heap.size, 1, none⟩ = some (.int .i64 0) := HK5.out.cell 1
      have z1 : w5.frozen? ⟨w.heap.size, 1, none⟩ = false := HK5.out.frozen 1
      have y2 : w5.cell? ⟨w.heap.size, 2, none⟩ = some (.string ⟨#[]⟩) := HK5.out.cell 2
      have z2 : w5.frozen? ⟨w.heap.size, 2, none⟩ = false := HK5.out.frozen 2
      have y3 : w5.cell? ⟨w.heap.size, 3, none⟩ = some (.slice none 0 0) := HK5.out.cell 3
      have z3 : w5.frozen? ⟨w.heap.size, 3, none⟩ = false := HK5.out.frozen 3
      have y4 : w5.cell? ⟨w.heap.size, 4, none⟩ = some (.slice none 0 0) := HK5.out.cell 4
      have z4 : w5.frozen? ⟨w.heap.size, 4, none⟩ = false := HK5.out.frozen 4
      have HFK := Lib.hid (((((HK5.out.set_ 0 (.int .i64 v.k)).set_ 1 (.int .i64 v.n)).set_ 2 (.string v.s)).set_ 3 (.slice v.lA v.l.length v.lc)).set_ 4 (.slice v.mA v.m.length v.mc))
      go_wp2
      have k0 := HFK.out.cell 0
      have k1 := HFK.out.cell 1
      have k2 := HFK.out.cell 2
      have k3 := HFK.out.cell 3
      have k4 := HFK.out.cell 4
      simp at k0 k1 k2 k3 k4
      refine bodyPost_ret (v := v.val) (by unfold MV.val; simp [results, Tryz.results28, go_sem, k0, k1, k2, k3, k4]) rfl ?_
      refine val_end (R := w.heap.size) (base := w.heap.size + 1) HPS5.out HVO.out HPV.out fr_put5 HF5.out (by have := HN.out; omega)
    by_cases hc3 : c = 123
    · have hc := hc3
      clear hc1 hc2 hc3
      obtain ⟨W0, hW0⟩ : ∃ W0, W0 = w.alloc (.cells #[.int .i64 0, .int .i64 0, .string ⟨#[]⟩, .slice none 0 0, .slice none 0 0] 25) := ⟨_, rfl⟩
      have hb0 : Below w.heap.size w W0 := by rw [hW0]; exact (Below.refl _ _).alloc (Nat.le_refl _) _
      have hs0 : W0.heap.size = w.heap.size + 1 := by rw [hW0]; exact alSz _ _
      have hk0 : Blk W0 w.heap.size 25 #[.int .i64 0, .int .i64 0, .string ⟨#[]⟩, .slice none 0 0, .slice none 0 0] := by rw [hW0]; exact Blk.new _ _ _
      have h0 := h.below hb0
      have HWD := Lib.hid (word_any h0 hs)
      have HPS0 := Lib.hid h0
      have HB0 := Lib.hid hb0
      have HK0 := Lib.hid hk0
      have HW0 := Lib.hid hW0
      have HN : Hid (B < w.heap.size ∧ W.heap.size ≤ w.heap.size ∧ W0.heap.size = w.heap.size + 1) := Lib.hid ⟨h.blk.lt, h.bel.size, hs0⟩
      have hrl := rs_list p
      have hrz := rs_size p
      rw [hr] at hrl
      have hpos : 0 < (rs p).size := by rw [hrz, hr]; simp
      have g0 : (rs p)[0]'hpos = c := at_l hrl 0 hpos c rfl
      obtain ⟨t, ht⟩ : ∃ t, t = rs p := ⟨_, rfl⟩
      have HTT := Lib.hid ht
      rw [← ht] at hpos
      have g0' : t[0]'hpos = c := by subst ht; exact g0
      have hts : (0 : Int) < (t.size : Int) := by omega
      have HWW : Hid ((wordP p.r).isSome = false) := Lib.hid (by rw [hw]; rfl)
      have HRS : Hid (∀ V, PSt W B s V p → Calls Tryz.prog 18 #[.pointer (some ⟨B, 0, none⟩)] V fun e w' => PF (RstP p V) e w') := Lib.hid (fun V hV => rest_any hV hs)
      have hrd : readP (valP d) p = ((itemsP (oneM (valP d)) 125 (p.eat 123).2 []).1, .mk 6 0 ⟨#[]⟩ [] ((itemsP (oneM (valP d)) 125 (p.eat 123).2 []).2.map Prod.fst) ((itemsP (oneM (valP d)) 125 (p.eat 123).2 []).2.map Prod.snd)) := by unfold readP; rw [hw]; simp only [hr]; rw [if_neg (by simp [hc]), if_neg (by unfold St.eat; rw [hr, hc]; simp), if_pos (by unfold St.eat; rw [hr, hc]; rfl)]
      rw [hrd]
      have HEAT : Hid (∀ V q, PSt W B s V q → Calls Tryz.prog 40 #[.pointer (some ⟨B, 0, none⟩), .string ⟨#[91]⟩] V fun e w' => PF (StpP W B s (.bool (q.eat 91).1) (q.eat 91).2 V) e w') := Lib.hid (fun V q hq => eat_any hq hs 91)
      have HEAU : Hid (∀ V q, PSt W B s V q → Calls Tryz.prog 40 #[.pointer (some ⟨B, 0, none⟩), .string ⟨#[123]⟩] V fun e w' => PF (StpP W B s (.bool (q.eat 123).1) (q.eat 123).2 V) e w') := Lib.hid (fun V q hq => eat_any hq hs 123)
      have HE0 : Hid ((p.eat 91).1 = false) := Lib.hid (by unfold St.eat; rw [hr, hc]; rfl)
      have HE1 : Hid ((p.eat 123).1 = true) := Lib.hid (by unfold St.eat; rw [hr, hc]; rfl)
      have HL : Hid (∀ V q, PSt W B s V q → Calls Tryz.prog 42 #[.pointer (some ⟨B, 0, none⟩), .int .i64 (d : Int)] V fun e w' => PF (ValP W B s ((itemsP (oneM (valP d)) 125 q []).1, .mk 6 0 ⟨#[]⟩ [] ((itemsP (oneM (valP d)) 125 q []).2.map Prod.fst) ((itemsP (oneM (valP d)) 125 q []).2.map Prod.snd)) V) e w') := Lib.hid (fun V q hq => pairs_any d hC hF hT hq hs)
      clear hrd hw hrl hrz g0 ht hr hb0 hs0 hk0 h0 h hW0 hC hF hT hs
      subst hc
      go_enter Tryz.func28, Tryz.ntmps28
      go_wp2_with fail
      rw [← HW0.out]
      refine HWD.out.mono ?_
      rintro e w1 ⟨k, n, rfl, hkn, hb1⟩
      rw [HWW.out]
      clear hkn
      unfold flat
      obtain ⟨X, hX⟩ : ∃ X, X = w1.heap.size := ⟨_, rfl⟩
      obtain ⟨w2, hw2⟩ : ∃ w2, w2 = w1.alloc (.cells #[.int .i64 k, .int .i64 n, .string ⟨#[]⟩, .slice none 0 0, .slice none 0 0] 25) := ⟨_, rfl⟩
      have hb2 : Below W0.heap.size W0 w2 := by rw [hw2]; exact hb1.alloc hb1.size _
      have HB2 := Lib.hid hb2
      have HK2 := Lib.hid (HK0.out.below hb2 HK0.out.lt)
      have HPS2 := Lib.hid (HPS0.out.below hb2)
      have HXB : Hid (Blk w2 X 25 #[.int .i64 k, .int .i64 n, .string ⟨#[]⟩, .slice none 0 0, .slice none 0 0]) := Lib.hid (by rw [hw2, hX]; exact Blk.new _ _ _)
      have HXN : Hid (w.heap.size < X) := Lib.hid (by have := hb1.size; have := HN.out; omega)
      have HW2 : Hid (w2 = w1.alloc (.cells #[.int .i64 k, .int .i64 n, .string ⟨#[]⟩, .slice none 0 0, .slice none 0 0] 25)) := Lib.hid hw2
      have HX := Lib.hid hX
      clear hb1 hb2 hw2 hX
      go_wp2_with fail
      rw [← HW2.out, ← HX.out]
      refine (HRS.out w2 HPS2.out).mono ?_
      rintro e w3 ⟨rfl, hb3⟩
      have HB3 : Hid (Below W0.heap.size W0 w3) := Lib.hid (HB2.out.trans (hb3.mono HB2.out.size))
      have HPS3 := Lib.hid (HPS2.out.below hb3)
      have HK3 := Lib.hid (HK2.out.below hb3 HK2.out.lt)
      have HF3 : Hid (Fr (· = B) w w3) := Lib.hid (Fr.of_below (HB0.out.trans (HB3.out.mono HB0.out.size)))
      clear hb3
      rw [← HTT.out]
      go_wp2_with fail
      refine (HEAT.out w3 p HPS3.out).mono ?_
      rintro e w4 ⟨rfl, hp4, hf4⟩
      rw [HE0.out]
      rw [eat_not HE0.out] at hp4
      have HPS4 := Lib.hid hp4
      have HK4 := Lib.hid (HK3.out.fr hf4 (by have := HN.out; omega))
      have HF4 := Lib.hid (HF3.out.trans hf4)
      clear hp4 hf4
      go_wp2_with fail
      refine (HEAU.out w4 p HPS4.out).mono ?_
      rintro e w5 ⟨rfl, hp5, hf5⟩
      rw [HE1.out]
      have HPS5 := Lib.hid hp5
      have HK5 := Lib.hid (HK4.out.fr hf5 (by have := HN.out; omega))
      have HF5 := Lib.hid (HF4.out.trans hf5)
      clear hp5 hf5
      go_wp2_with fail
      refine (HL.out w5 _ HPS5.out).mono ?_
      rintro e w6 ⟨v, rfl, hpv, hvo, hp6, hf6⟩
      unfold MV.val
      have HPV := Lib.hid hpv
      have HVO : Hid (VOwn (w.heap.size + 1) w6 v) := Lib.hid (vown_le hvo (by have := HK5.out.lt; omega))
      clear hpv hvo
      have HPS6 := Lib.hid hp6
      have HK6 := Lib.hid (HK5.out.fr hf6 (by have := HN.out; omega))
      have HF6 := Lib.hid (HF5.out.trans hf6)
      clear hp6 hf6
      have y0 : w6.cell? ⟨w.heap.size, 0, none⟩ = some (.int .i64 0) := HK6.out.cell 0
      have z0 : w6.frozen? ⟨w.heap.size, 0, none⟩ = false := HK6.out.frozen 0
      have y1 : w6.cell? ⟨w.heap.size, 1, none⟩ = some (.int .i64 0) := HK6.out.cell 1
      have z1 : w6.frozen? ⟨w.heap.size, 1, none⟩ = false := HK6.out.frozen 1
      have y2 : w6.cell? ⟨w.heap.size, 2, none⟩ = some (.string ⟨#[]⟩) := HK6.out.cell 2
      have z2 : w6.frozen? ⟨w.heap.size, 2, none⟩ = false := HK6.out.frozen 2
      have y3 : w6.cell? ⟨w.heap.size, 3, none⟩ = some (.slice none 0 0) := HK6.out.cell 3
      have z3 : w6.frozen? ⟨w.heap.size, 3, none⟩ = false := HK6.out.frozen 3
      have y4 : w6.cell? ⟨w.heap.size, 4, none⟩ = some (.slice none 0 0) := HK6.out.cell 4
      have z4 : w6.frozen? ⟨w.heap.size, 4, none⟩ = false := HK6.out.frozen 4
      have HFK := Lib.hid (((((HK6.out.set_ 0 (.int .i64 v.k)).set_ 1 (.int .i64 v.n)).set_ 2 (.string v.s)).set_ 3 (.slice v.lA v.l.length v.lc)).set_ 4 (.slice v.mA v.m.length v.mc))
      go_wp2
      have k0 := HFK.out.cell 0
      have k1 := HFK.out.cell 1
      have k2 := HFK.out.cell 2
      have k3 := HFK.out.cell 3
      have k4 := HFK.out.cell 4
      simp at k0 k1 k2 k3 k4
      refine bodyPost_ret (v := v.val) (by unfold MV.val; simp [results, Tryz.results28, go_sem, k0, k1, k2, k3, k4]) rfl ?_
      refine val_end (R := w.heap.size) (base := w.heap.size + 1) HPS6.out HVO.out HPV.out fr_put5 HF6.out (by have := HN.out; omega)
    obtain ⟨W0, hW0⟩ : ∃ W0, W0 = w.alloc (.cells #[.int .i64 0, .int .i64 0, .string ⟨#[]⟩, .slice none 0 0, .slice none 0 0] 25) := ⟨_, rfl⟩
    have hb0 : Below w.heap.size w W0 := by rw [hW0]; exact (Below.refl _ _).alloc (Nat.le_refl _) _
    have hs0 : W0.heap.size = w.heap.size + 1 := by rw [hW0]; exact alSz _ _
    have hk0 : Blk W0 w.heap.size 25 #[.int .i64 0, .int .i64 0, .string ⟨#[]⟩, .slice none 0 0, .slice none 0 0] := by rw [hW0]; exact Blk.new _ _ _
    have h0 := h.below hb0
    have HWD := Lib.hid (word_any h0 hs)
    have HPS0 := Lib.hid h0
    have HB0 := Lib.hid hb0
    have HK0 := Lib.hid hk0
    have HW0 := Lib.hid hW0
    have HN : Hid (B < w.heap.size ∧ W.heap.size ≤ w.heap.size ∧ W0.heap.size = w.heap.size + 1) := Lib.hid ⟨h.blk.lt, h.bel.size, hs0⟩
    have hrl := rs_list p
    have hrz := rs_size p
    rw [hr] at hrl
    have hpos : 0 < (rs p).size := by rw [hrz, hr]; simp
    have g0 : (rs p)[0]'hpos = c := at_l hrl 0 hpos c rfl
    obtain ⟨t, ht⟩ : ∃ t, t = rs p := ⟨_, rfl⟩
    have HTT := Lib.hid ht
    rw [← ht] at hpos
    have g0' : t[0]'hpos = c := by subst ht; exact g0
    have hts : (0 : Int) < (t.size : Int) := by omega
    have HWW : Hid ((wordP p.r).isSome = false) := Lib.hid (by rw [hw]; rfl)
    have HRS : Hid (∀ V, PSt W B s V p → Calls Tryz.prog 18 #[.pointer (some ⟨B, 0, none⟩)] V fun e w' => PF (RstP p V) e w') := Lib.hid (fun V hV => rest_any hV hs)
    have hrd : readP (valP d) p = numP p := by unfold readP; rw [hw]; simp only [hr]; rw [if_neg (by simpa using hc1), if_neg (by unfold St.eat; rw [hr]; simp [hc2]), if_neg (by unfold St.eat; rw [hr]; simp [hc3])]
    rw [hrd]
    have HEAT : Hid (∀ V q, PSt W B s V q → Calls Tryz.prog 40 #[.pointer (some ⟨B, 0, none⟩), .string ⟨#[91]⟩] V fun e w' => PF (StpP W B s (.bool (q.eat 91).1) (q.eat 91).2 V) e w') := Lib.hid (fun V q hq => eat_any hq hs 91)
    have HEAU : Hid (∀ V q, PSt W B s V q → Calls Tryz.prog 40 #[.pointer (some ⟨B, 0, none⟩), .string ⟨#[123]⟩] V fun e w' => PF (StpP W B s (.bool (q.eat 123).1) (q.eat 123).2 V) e w') := Lib.hid (fun V q hq => eat_any hq hs 123)
    have HE0 : Hid ((p.eat 91).1 = false) := Lib.hid (by unfold St.eat; rw [hr]; simp [hc2])
    have HE1 : Hid ((p.eat 123).1 = false) := Lib.hid (by unfold St.eat; rw [hr]; simp [hc3])
    have HNM : Hid (∀ V, PSt W B s V p → Calls Tryz.prog 43 #[.pointer (some ⟨B, 0, none⟩)] V fun e w' => PF (NumP W B s (numP p) V) e w') := Lib.hid (fun V hq => number_any hq hs he)
    have hcb : ((c.toNat : Int) == 34) = false := by
      rw [beq_eq_false_iff_ne]
      intro q
      exact hc1 (UInt8.toNat_inj.1 (by have : c.toNat = 34 := by omega
                                       rw [this]; rfl))
    clear hc1 hc2 hc3 hrd hw hrl hrz g0 ht hr hb0 hs0 hk0 h0 h hW0 hC hF hT hs
    go_enter Tryz.func28, Tryz.ntmps28
    go_wp2_with fail
    rw [← HW0.out]
    refine HWD.out.mono ?_
    rintro e w1 ⟨k, n, rfl, hkn, hb1⟩
    rw [HWW.out]
    clear hkn
    unfold flat
    obtain ⟨X, hX⟩ : ∃ X, X = w1.heap.size := ⟨_, rfl⟩
    obtain ⟨w2, hw2⟩ : ∃ w2, w2 = w1.alloc (.cells #[.int .i64 k, .int .i64 n, .string ⟨#[]⟩, .slice none 0 0, .slice none 0 0] 25) := ⟨_, rfl⟩
    have hb2 : Below W0.heap.size W0 w2 := by rw [hw2]; exact hb1.alloc hb1.size _
    have HB2 := Lib.hid hb2
    have HK2 := Lib.hid (HK0.out.below hb2 HK0.out.lt)
    have HPS2 := Lib.hid (HPS0.out.below hb2)
    have HXB : Hid (Blk w2 X 25 #[.int .i64 k, .int .i64 n, .string ⟨#[]⟩, .slice none 0 0, .slice none 0 0]) := Lib.hid (by rw [hw2, hX]; exact Blk.new _ _ _)
    have HXN : Hid (w.heap.size < X) := Lib.hid (by have := hb1.size; have := HN.out; omega)
    have HW2 : Hid (w2 = w1.alloc (.cells #[.int .i64 k, .int .i64 n, .string ⟨#[]⟩, .slice none 0 0, .slice none 0 0] 25)) := Lib.hid hw2
    have HX := Lib.hid hX
    clear hb1 hb2 hw2 hX
    go_wp2_with fail
    rw [← HW2.out, ← HX.out]
    refine (HRS.out w2 HPS2.out).mono ?_
    rintro e w3 ⟨rfl, hb3⟩
    have HB3 : Hid (Below W0.heap.size W0 w3) := Lib.hid (HB2.out.trans (hb3.mono HB2.out.size))
    have HPS3 := Lib.hid (HPS2.out.below hb3)
    have HK3 := Lib.hid (HK2.out.below hb3 HK2.out.lt)
    have HF3 : Hid (Fr (· = B) w w3) := Lib.hid (Fr.of_below (HB0.out.trans (HB3.out.mono HB0.out.size)))
    clear hb3
    rw [← HTT.out]
    go_wp2_with fail
    refine (HEAT.out w3 p HPS3.out).mono ?_
    rintro e w4 ⟨rfl, hp4, hf4⟩
    rw [HE0.out]
    rw [eat_not HE0.out] at hp4
    have HPS4 := Lib.hid hp4
    have HK4 := Lib.hid (HK3.out.fr hf4 (by have := HN.out; omega))
    have HF4 := Lib.hid (HF3.out.trans hf4)
    clear hp4 hf4
    go_wp2_with fail
    refine (HEAU.out w4 p HPS4.out).mono ?_
    rintro e w5 ⟨rfl, hp5, hf5⟩
    rw [HE1.out]
    rw [eat_not HE1.out] at hp5
    have HPS5 := Lib.hid hp5
    have HK5 := Lib.hid (HK4.out.fr hf5 (by have := HN.out; omega))
    have HF5 := Lib.hid (HF4.out.trans hf5)
    clear hp5 hf5
    go_wp2_with fail
    refine (HNM.out w5 HPS5.out).mono ?_
    rintro e w6 ⟨k', n', rfl, hv, hk', hn', hp6, hf6⟩
    unfold flat
    have HV := Lib.hid hv
    have HWF : Hid ((Lit.int .i64 k').wf = true ∧ (Lit.int .i64 n').wf = true) := Lib.hid ⟨hk', hn'⟩
    clear hv hk' hn'
    have HPS6 := Lib.hid hp6
    have HK6 := Lib.hid (HK5.out.fr hf6 (by have := HN.out; omega))
    have HF6 := Lib.hid (HF5.out.trans hf6)
    clear hp6 hf6
    have y0 : w6.cell? ⟨w.heap.size, 0, none⟩ = some (.int .i64 0) := HK6.out.cell 0
    have z0 : w6.frozen? ⟨w.heap.size, 0, none⟩ = false := HK6.out.frozen 0
    have y1 : w6.cell? ⟨w.heap.size, 1, none⟩ = some (.int .i64 0) := HK6.out.cell 1
    have z1 : w6.frozen? ⟨w.heap.size, 1, none⟩ = false := HK6.out.frozen 1
    have y2 : w6.cell? ⟨w.heap.size, 2, none⟩ = some (.string ⟨#[]⟩) := HK6.out.cell 2
    have z2 : w6.frozen? ⟨w.heap.size, 2, none⟩ = false := HK6.out.frozen 2
    have y3 : w6.cell? ⟨w.heap.size, 3, none⟩ = some (.slice none 0 0) := HK6.out.cell 3
    have z3 : w6.frozen? ⟨w.heap.size, 3, none⟩ = false := HK6.out.frozen 3
    have y4 : w6.cell? ⟨w.heap.size, 4, none⟩ = some (.slice none 0 0) := HK6.out.cell 4
    have z4 : w6.frozen? ⟨w.heap.size, 4, none⟩ = false := HK6.out.frozen 4
    have HFK := Lib.hid (((((HK6.out.set_ 0 (.int .i64 k')).set_ 1 (.int .i64 n')).set_ 2 (.string ⟨#[]⟩)).set_ 3 (.slice none 0 0)).set_ 4 (.slice none 0 0))
    go_wp2
    have k0 := HFK.out.cell 0
    have k1 := HFK.out.cell 1
    have k2 := HFK.out.cell 2
    have k3 := HFK.out.cell 3
    have k4 := HFK.out.cell 4
    simp at k0 k1 k2 k3 k4
    refine bodyPost_ret (v := (fl k' n' ⟨#[]⟩).val) (by rw [fl_val]; simp [results, Tryz.results28, go_sem, k0, k1, k2, k3, k4]) rfl ?_
    refine val_end (R := w.heap.size) (base := w.heap.size + 1) HPS6.out (fl_own _ _ HWF.out.1 HWF.out.2) (by rw [HV.out]; rfl) fr_put5 HF6.out (by have := HN.out; omega)
  · clear hbg
    obtain ⟨W0, hW0⟩ : ∃ W0, W0 = w.alloc (.cells #[.int .i64 0, .int .i64 0, .string ⟨#[]⟩, .slice none 0 0, .slice none 0 0] 25) := ⟨_, rfl⟩
    have hb0 : Below w.heap.size w W0 := by rw [hW0]; exact (Below.refl _ _).alloc (Nat.le_refl _) _
    have hs0 : W0.heap.size = w.heap.size + 1 := by rw [hW0]; exact alSz _ _
    have hk0 : Blk W0 w.heap.size 25 #[.int .i64 0, .int .i64 0, .string ⟨#[]⟩, .slice none 0 0, .slice none 0 0] := by rw [hW0]; exact Blk.new _ _ _
    have h0 := h.below hb0
    have HWD := Lib.hid (word_any h0 hs)
    have HPS0 := Lib.hid h0
    have HB0 := Lib.hid hb0
    have HK0 := Lib.hid hk0
    have HW0 := Lib.hid hW0
    have HN : Hid (B < w.heap.size ∧ W.heap.size ≤ w.heap.size ∧ W0.heap.size = w.heap.size + 1) := Lib.hid ⟨h.blk.lt, h.bel.size, hs0⟩
    have hrd : readP (valP d) p = (p.adv m, v) := by unfold readP; rw [hw]
    rw [hrd]
    have HWW : Hid ((wordP p.r).isSome = true) := Lib.hid (by rw [hw]; rfl)
    have HWM := Lib.hid hw
    have hml := word_len hw
    have hwi : IntKind.i64.wrap ((p.i : Int) + (m : Int)) = (p.i : Int) + m := IntWalk.i64_in _ (by have := h.pi; have := h.len; omega)
    have HP : Hid (∀ V, PSt W B s V p → PSt W B s (V.setCell ⟨B, 1, none⟩ (.int .i64 ((p.i : Int) + m))) (p.adv m)) := Lib.hid (fun V hq => by
      refine hq.set (p' := p.adv m) ?_ frB (fun q => ?_) (fun q => ?_) ?_ h.pc h.pe
      · have := hq.blk.set_ 1 (.int .i64 ((p.i : Int) + m))
        simpa [St.adv] using this
      · show p.r.drop m = []
        rw [h.no q]; simp
      · show p.r.drop m = s.data.toList.drop (p.i + m)
        rw [h.ok q, List.drop_drop]
      · show p.i + m ≤ s.size
        have h1 : p.r.length = s.size - p.i := by rw [h.ok he, List.length_drop]; rfl
        have := h.pi
        omega)
    clear hrd hw hml hb0 hs0 hk0 h0 h hW0 hC hF hT hs
    go_enter Tryz.func28, Tryz.ntmps28
    go_wp2_with fail
    rw [← HW0.out]
    refine HWD.out.mono ?_
    rintro e w1 ⟨k, n, rfl, hkn, hb1⟩
    rw [HWW.out]
    unfold flat
    obtain ⟨X, hX⟩ : ∃ X, X = w1.heap.size := ⟨_, rfl⟩
    obtain ⟨w2, hw2⟩ : ∃ w2, w2 = w1.alloc (.cells #[.int .i64 k, .int .i64 n, .string ⟨#[]⟩, .slice none 0 0, .slice none 0 0] 25) := ⟨_, rfl⟩
    have hb2 : Below W0.heap.size W0 w2 := by rw [hw2]; exact hb1.alloc hb1.size _
    have HB2 := Lib.hid hb2
    have HK2 := Lib.hid (HK0.out.below hb2 HK0.out.lt)
    have HPS2 := Lib.hid (HPS0.out.below hb2)
    have HXB : Hid (Blk w2 X 25 #[.int .i64 k, .int .i64 n, .string ⟨#[]⟩, .slice none 0 0, .slice none 0 0]) := Lib.hid (by rw [hw2, hX]; exact Blk.new _ _ _)
    have HXN : Hid (w.heap.size < X) := Lib.hid (by have := hb1.size; have := HN.out; omega)
    have HW2 : Hid (w2 = w1.alloc (.cells #[.int .i64 k, .int .i64 n, .string ⟨#[]⟩, .slice none 0 0, .slice none 0 0] 25)) := Lib.hid hw2
    have HX := Lib.hid hX
    clear hb1 hb2 hw2 hX
    go_wp2_with fail
    rw [← HW2.out, ← HX.out]
    obtain ⟨hv, hlet, hwk, hwn⟩ := hkn v m HWM.out
    have HLET := Lib.hid hlet
    have HVV := Lib.hid hv
    have HWF : Hid ((Lit.int .i64 k).wf = true ∧ (Lit.int .i64 n).wf = true) := Lib.hid ⟨hwk, hwn⟩
    have HS0 : Hid ((fun V => Blk V B 45 #[.string s, .int .i64 p.i, .int .i64 p.c, .int .i64 p.e] ∧ Blk V X 25 #[.int .i64 k, .int .i64 n, .string ⟨#[]⟩, .slice none 0 0, .slice none 0 0]) w2.drew) := Lib.hid ⟨HPS2.out.blk, HXB.out⟩
    clear hkn hv hlet hwk hwn
    refine wp_region_heldT (S := fun V => Blk V B 45 #[.string s, .int .i64 p.i, .int .i64 p.c, .int .i64 p.e] ∧ Blk V X 25 #[.int .i64 k, .int .i64 n, .string ⟨#[]⟩, .slice none 0 0, .slice none 0 0]) 9 (by kernel_rfl) (HS0.out) (fun hS1 => ?_)
    obtain ⟨WD, hWD⟩ : ∃ WD, WD = w2.drew := ⟨_, rfl⟩
    rw [← hWD] at hS1 ⊢
    have HBD : Hid (Below w2.heap.size w2 WD) := Lib.hid (by rw [hWD]; exact (Below.refl _ _).drew)
    clear hWD
    refine wpAnyT_pure (i := 0) (oi := ⟨some 13, _, _, _, _, _⟩) (v := .pointer (some ⟨B, 0, none⟩)) rfl (by kernel_rfl) (by kernel_rfl) (by kernel_rfl) (by decide) (fun _ _ _ h => h) (.inl ⟨by kernel_rfl, fun V hS => by go_simp⟩) hS1 ?_
    simp only [Act.put, List.setIfInBounds_toArray, List.set_cons_zero, List.set_cons_succ]
    refine wpAnyT_pure (i := 1) (oi := ⟨some 14, _, _, _, _, _⟩) (v := .pointer (some ⟨B, 0, none⟩)) rfl (by kernel_rfl) (by kernel_rfl) (by kernel_rfl) (by decide) (fun _ _ _ h => h) (.inl ⟨by kernel_rfl, fun V hS => by go_simp⟩) hS1 ?_
    simp only [Act.put, List.setIfInBounds_toArray, List.set_cons_zero, List.set_cons_succ]
    refine wpAnyT_pure (i := 2) (oi := ⟨some 15, _, _, _, _, _⟩) (v := .pointer (some ⟨B, 1, none⟩)) rfl (by kernel_rfl) (by kernel_rfl) (by kernel_rfl) (by decide) (fun _ _ _ h => h) (.inl ⟨by kernel_rfl, fun V hS => by go_simp⟩) hS1 ?_
    simp only [Act.put, List.setIfInBounds_toArray, List.set_cons_zero, List.set_cons_succ]
    refine wpAnyT_take (i := 3) (oi := ⟨some 16, _, _, _, _, _⟩) (v := .int .i64 p.i) rfl (by kernel_rfl) (by kernel_rfl) (by kernel_rfl) (by kernel_rfl) (by kernel_rfl) (fun _ _ _ h => h) (.inl ⟨by kernel_rfl, fun V hS => by have sc := hS.1.cell 1; simp at sc; go_simp⟩) hS1 ?_
    simp only [Act.put, List.setIfInBounds_toArray, List.set_cons_zero, List.set_cons_succ]
    refine wpAnyT_take (i := 4) (oi := ⟨some 17, _, _, _, _, _⟩) (v := flat k n ⟨#[]⟩) rfl (by kernel_rfl) (by kernel_rfl) (by kernel_rfl) (by kernel_rfl) (by kernel_rfl) (fun _ _ _ h => h) (.inl ⟨by kernel_rfl, fun V hS => by have s0 := hS.2.cell 0; have s1 := hS.2.cell 1; have s2 := hS.2.cell 2; have s3 := hS.2.cell 3; have s4 := hS.2.cell 4; simp at s0 s1 s2 s3 s4; unfold flat; go_simp⟩) hS1 ?_
    simp only [Act.put, List.setIfInBounds_toArray, List.set_cons_zero, List.set_cons_succ]
    refine wpAnyT_ready (rs := [5]) (by kernel_rfl) (by simp) ?_
    refine AllReadyT.cons rfl (fun K' hK => ?_) AllReadyT.nil
    go_simp
    refine (letters_any k n _).mono ?_
    rintro e w3 ⟨rfl, hb3⟩
    rw [HLET.out]
    have HB3 := Lib.hid (HBD.out.trans (hb3.mono HBD.out.size))
    refine hK.out _ _ (⟨(hS1).1.below hb3 (hS1).1.lt, (hS1).2.below hb3 (hS1).2.lt⟩) (fun hS2 => ?_)
    clear hK K' hS1
    refine wpAnyT_pure (i := 6) (oi := ⟨some 19, _, _, _, _, _⟩) (v := .int .i64 ((p.i : Int) + m)) rfl (by kernel_rfl) (by kernel_rfl) (by kernel_rfl) (by decide) (fun _ _ _ h => h) (.inl ⟨by kernel_rfl, fun V hS => by go_simp⟩) hS2 ?_
    simp only [Act.put, List.setIfInBounds_toArray, List.set_cons_zero, List.set_cons_succ]
    refine wpAnyT_pure (i := 7) (oi := ⟨some 20, _, _, _, _, _⟩) (v := .pointer (some ⟨B, 0, none⟩)) rfl (by kernel_rfl) (by kernel_rfl) (by kernel_rfl) (by decide) (fun _ _ _ h => h) (.inl ⟨by kernel_rfl, fun V hS => by go_simp⟩) hS2 ?_
    simp only [Act.put, List.setIfInBounds_toArray, List.set_cons_zero, List.set_cons_succ]
    refine wpAnyT_pure (i := 8) (oi := ⟨some 21, _, _, _, _, _⟩) (v := .pointer (some ⟨B, 1, none⟩)) rfl (by kernel_rfl) (by kernel_rfl) (by kernel_rfl) (by decide) (fun _ _ _ h => h) (.inl ⟨by kernel_rfl, fun V hS => by go_simp⟩) hS2 ?_
    simp only [Act.put, List.setIfInBounds_toArray, List.set_cons_zero, List.set_cons_succ]
    refine wpAnyT_T (by kernel_rfl) rfl (by kernel_rfl) (fun K' hK => ?_)
    have f1 : w3.frozen? ⟨B, 1, none⟩ = false := (HPS2.out.below HB3.out).blk.frozen 1
    have d1 : w3.cell? ⟨B, 1, none⟩ = some (.int .i64 p.i) := (HPS2.out.below HB3.out).blk.cell 1
    go_simp
    clear f1 d1
    refine hK.out _ _ ?_
    clear hK K' hS2
    refine wpAnyH_done (by kernel_rfl) ?_ _
    obtain ⟨w4, hw4⟩ : ∃ w4, w4 = w3.setCell ⟨B, 1, none⟩ (.int .i64 ((p.i : Int) + m)) := ⟨_, rfl⟩
    try rw [← hw4]
    have hp4 := HP.out w3 (HPS2.out.below HB3.out)
    rw [← hw4] at hp4
    have HPS4 := Lib.hid hp4
    have hf34 : Fr (· = B) w3 w4 := by rw [hw4]; exact frB
    have HF4 : Hid (Fr (· = B) w w4) := Lib.hid ((Fr.of_below (HB0.out.trans ((HB2.out.trans (HB3.out.mono HB2.out.size)).mono HB0.out.size))).trans hf34)
    have HK4 := Lib.hid ((HK2.out.below HB3.out HK2.out.lt).fr hf34 (by have := HN.out; omega))
    have HX4 := Lib.hid ((HXB.out.below HB3.out HXB.out.lt).fr hf34 (by have := HN.out; have := HXN.out; omega))
    clear hp4 hf34 hw4 hwi
    have q0 : w4.cell? ⟨X, 0, none⟩ = some (.int .i64 k) := HX4.out.cell 0
    have q1 : w4.cell? ⟨X, 1, none⟩ = some (.int .i64 n) := HX4.out.cell 1
    have q2 : w4.cell? ⟨X, 2, none⟩ = some (.string ⟨#[]⟩) := HX4.out.cell 2
    have q3 : w4.cell? ⟨X, 3, none⟩ = some (.slice none 0 0) := HX4.out.cell 3
    have q4 : w4.cell? ⟨X, 4, none⟩ = some (.slice none 0 0) := HX4.out.cell 4
    have y0 : w4.cell? ⟨w.heap.size, 0, none⟩ = some (.int .i64 0) := HK4.out.cell 0
    have z0 : w4.frozen? ⟨w.heap.size, 0, none⟩ = false := HK4.out.frozen 0
    have y1 : w4.cell? ⟨w.heap.size, 1, none⟩ = some (.int .i64 0) := HK4.out.cell 1
    have z1 : w4.frozen? ⟨w.heap.size, 1, none⟩ = false := HK4.out.frozen 1
    have y2 : w4.cell? ⟨w.heap.size, 2, none⟩ = some (.string ⟨#[]⟩) := HK4.out.cell 2
    have z2 : w4.frozen? ⟨w.heap.size, 2, none⟩ = false := HK4.out.frozen 2
    have y3 : w4.cell? ⟨w.heap.size, 3, none⟩ = some (.slice none 0 0) := HK4.out.cell 3
    have z3 : w4.frozen? ⟨w.heap.size, 3, none⟩ = false := HK4.out.frozen 3
    have y4 : w4.cell? ⟨w.heap.size, 4, none⟩ = some (.slice none 0 0) := HK4.out.cell 4
    have z4 : w4.frozen? ⟨w.heap.size, 4, none⟩ = false := HK4.out.frozen 4
    have HFK := Lib.hid (((((HK4.out.set_ 0 (.int .i64 k)).set_ 1 (.int .i64 n)).set_ 2 (.string ⟨#[]⟩)).set_ 3 (.slice none 0 0)).set_ 4 (.slice none 0 0))
    go_wp2
    have k0 := HFK.out.cell 0
    have k1 := HFK.out.cell 1
    have k2 := HFK.out.cell 2
    have k3 := HFK.out.cell 3
    have k4 := HFK.out.cell 4
    simp at k0 k1 k2 k3 k4
    refine bodyPost_ret (v := (fl k n ⟨#[]⟩).val) (by rw [fl_val]; simp [results, Tryz.results28, go_sem, k0, k1, k2, k3, k4]) rfl ?_
    refine val_end (R := w.heap.size) (base := w.heap.size + 1) HPS4.out (fl_own _ _ HWF.out.1 HWF.out.2) (by rw [HVV.out]; rfl) fr_put5 HF4.out (by have := HN.out; omega)
end Go.Proofs.YteofdpogjnojnaaGreatDoor
