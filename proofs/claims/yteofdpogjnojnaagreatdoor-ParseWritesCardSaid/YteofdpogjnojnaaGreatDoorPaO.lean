/-
  parse: words, what begins a value; value's makers.
-/
import Derived.Test.YteofdpogjnojnaaGreatDoorPaN
namespace Go.Proofs.YteofdpogjnojnaaGreatDoor
open Go.RowKit Utf Pa
set_option linter.unusedVariables false
set_option linter.unusedSimpArgs false

/-- a value without parts -/
def flat (k n : Int) (s : ByteArray) : Value := .agg #[.int .i64 k, .int .i64 n, .string s, .slice none 0 0, .slice none 0 0]
def FlP (k n : Int) (s : ByteArray) (w : World) (e : Ending) (w' : World) : Prop := e = .returned (flat k n s) ∧ Below w.heap.size w w'
set_option maxRecDepth 100000 in
theorem null_fl (w : World) : Calls Tryz.prog 58 #[] w fun e w' => PF (FlP 1 0 ⟨#[]⟩ w) e w' := by
  go_enter Tryz.func58, Tryz.ntmps58
  go_wp2
  refine bodyPost_ret (v := flat 1 0 ⟨#[]⟩) (by simp [results, Tryz.results58, go_sem, flat]) rfl ?_
  exact ⟨rfl, (Below.refl _ _).alloc (Nat.le_refl _) _⟩
set_option maxRecDepth 100000 in
theorem true_fl (w : World) : Calls Tryz.prog 59 #[.bool true] w fun e w' => PF (FlP 2 1 ⟨#[]⟩ w) e w' := by
  go_enter Tryz.func59, Tryz.ntmps59
  go_wp2
  refine bodyPost_ret (v := flat 2 1 ⟨#[]⟩) (by simp [results, Tryz.results59, go_sem, flat]) rfl ?_
  exact ⟨rfl, (Below.refl _ _).alloc (Nat.le_refl _) _⟩
set_option maxRecDepth 100000 in
theorem false_fl (w : World) : Calls Tryz.prog 59 #[.bool false] w fun e w' => PF (FlP 2 0 ⟨#[]⟩ w) e w' := by
  go_enter Tryz.func59, Tryz.ntmps59
  go_wp2
  refine bodyPost_ret (v := flat 2 0 ⟨#[]⟩) (by simp [results, Tryz.results59, go_sem, flat]) rfl ?_
  exact ⟨rfl, (Below.refl _ _).alloc (Nat.le_refl _) _⟩
set_option maxRecDepth 100000 in
theorem int_fl (n : Int) (w : World) : Calls Tryz.prog 68 #[.int .i64 n] w fun e w' => PF (FlP 3 n ⟨#[]⟩ w) e w' := by
  go_enter Tryz.func68, Tryz.ntmps68
  go_wp2
  refine bodyPost_ret (v := flat 3 n ⟨#[]⟩) (by simp [results, Tryz.results68, go_sem, flat]) rfl ?_
  exact ⟨rfl, (Below.refl _ _).alloc (Nat.le_refl _) _⟩
set_option maxRecDepth 100000 in
theorem text_fl (s : ByteArray) (w : World) : Calls Tryz.prog 38 #[.string s] w fun e w' => PF (FlP 4 0 s w) e w' := by
  go_enter Tryz.func38, Tryz.ntmps38
  go_wp2
  refine bodyPost_ret (v := flat 4 0 s) (by simp [results, Tryz.results38, go_sem, flat]) rfl ?_
  exact ⟨rfl, (Below.refl _ _).alloc (Nat.le_refl _) _⟩
theorem prefL (p : St) (x : ByteArray) (w : World) : Calls Tryz.prog 57 #[.string (rs p), .string x] w fun e w' => e = .returned (.bool (x.data.toList.isPrefixOf p.r)) ∧ w = w' :=
  (Tryz.strings_HasPrefix _ _ w).mono fun _ _ ⟨h1, h2⟩ => ⟨by rw [h1, rs_list]; rfl, h2.symm⟩
/-- how many letters a word has -/
def lettersP (k n : Int) : Int := if k = 2 ∧ n = 0 then 5 else 4
def LetP (k n : Int) (w : World) (e : Ending) (w' : World) : Prop := e = .returned (.int .i64 (lettersP k n)) ∧ Below w.heap.size w w'
set_option maxRecDepth 100000 in
theorem letters_any (k n : Int) (w : World) : Calls Tryz.prog 37 #[flat k n ⟨#[]⟩] w fun e w' => PF (LetP k n w) e w' := by
  unfold flat
  by_cases h1 : k = 2
  · have q1 : (k == 2) = true := by rw [beq_iff_eq]; exact h1
    by_cases h2 : n = 0
    · have q2 : (n == 0) = true := by rw [beq_iff_eq]; exact h2
      have HL : Hid (lettersP k n = 5) := Lib.hid (if_pos ⟨h1, h2⟩)
      clear h1 h2
      go_enter Tryz.func37, Tryz.ntmps37
      go_wp2
      go_ret
      exact ⟨by rw [HL.out]; rfl, (Below.refl _ _).alloc (Nat.le_refl _) _⟩
    · have q2 : (n == 0) = false := by rw [beq_eq_false_iff_ne]; exact h2
      have HL : Hid (lettersP k n = 4) := Lib.hid (if_neg (fun q => h2 q.2))
      clear h1 h2
      go_enter Tryz.func37, Tryz.ntmps37
      go_wp2
      go_ret
      exact ⟨by rw [HL.out]; rfl, (Below.refl _ _).alloc (Nat.le_refl _) _⟩
  · have q1 : (k == 2) = false := by rw [beq_eq_false_iff_ne]; exact h1
    have HL : Hid (lettersP k n = 4) := Lib.hid (if_neg (fun q => h1 q.1))
    clear h1
    go_enter Tryz.func37, Tryz.ntmps37
    go_wp2
    go_ret
    exact ⟨by rw [HL.out]; rfl, (Below.refl _ _).alloc (Nat.le_refl _) _⟩
/-- what word answers -/
def WrdP (p : St) (w : World) (e : Ending) (w' : World) : Prop :=
  ∃ k n : Int, e = .returned (.tuple #[flat k n ⟨#[]⟩, .bool (wordP p.r).isSome]) ∧ (∀ v m, wordP p.r = some (v, m) → v = .mk k n ⟨#[]⟩ [] [] [] ∧ lettersP k n = m ∧ (Lit.int .i64 k).wf = true ∧ (Lit.int .i64 n).wf = true) ∧ Below w.heap.size w w'
set_option maxRecDepth 100000 in
set_option maxHeartbeats 4000000 in
theorem word_any {W w : World} {B : Nat} {s : ByteArray} {p : St} (h : PSt W B s w p) (hs : s.size ≤ 1000000) : Calls Tryz.prog 35 #[.pointer (some ⟨B, 0, none⟩)] w fun e w' => PF (WrdP p w) e w' := by
  obtain ⟨W0, hW0⟩ : ∃ W0, W0 = w.alloc (.cells #[.int .i64 0, .int .i64 0, .string ⟨#[]⟩, .slice none 0 0, .slice none 0 0] 25) := ⟨_, rfl⟩
  have hb0 : Below w.heap.size w W0 := by rw [hW0]; exact (Below.refl _ _).alloc (Nat.le_refl _) _
  have hk0 : Blk W0 w.heap.size 25 #[.int .i64 0, .int .i64 0, .string ⟨#[]⟩, .slice none 0 0, .slice none 0 0] := by rw [hW0]; exact Blk.new _ _ _
  have HR := Lib.hid (rest_any (h.below hb0) hs)
  have HB0 := Lib.hid hb0
  have HK0 := Lib.hid hk0
  have HW0 := Lib.hid hW0
  have hn := fun w => prefL p ⟨#[110, 117, 108, 108]⟩ w
  have ht := fun w => prefL p ⟨#[116, 114, 117, 101]⟩ w
  have hf := fun w => prefL p ⟨#[102, 97, 108, 115, 101]⟩ w
  clear hb0 hk0 hW0
  by_cases h1 : ([110, 117, 108, 108] : List UInt8).isPrefixOf p.r = true
  · rw [show ((⟨#[110, 117, 108, 108]⟩ : ByteArray).data.toList.isPrefixOf p.r) = true from h1] at hn
    have HN := Lib.hid hn
    have HWD : Hid (wordP p.r = some (.mk 1 0 ⟨#[]⟩ [] [] [], 4)) := Lib.hid (by unfold wordP; rw [if_pos h1])
    clear hn ht hf h1 h
    go_enter Tryz.func35, Tryz.ntmps35
    go_wp2_with fail
    rw [← HW0.out]
    refine HR.out.mono ?_
    rintro e w1 ⟨rfl, hb1⟩
    have HB1 : Hid (Below w.heap.size w w1) := Lib.hid (HB0.out.trans (hb1.mono HB0.out.size))
    have HK1 := Lib.hid (HK0.out.below hb1 HK0.out.lt)
    clear hb1
    go_wp2_with fail
    refine (HN.out w1).mono ?_
    rintro e w2 ⟨rfl, rfl⟩
    go_wp2_with fail
    refine (null_fl w1).mono ?_
    rintro e w2 ⟨rfl, hb2⟩
    have HB2 : Hid (Below w.heap.size w w2) := Lib.hid (HB1.out.trans (hb2.mono HB1.out.size))
    have HK2 := Lib.hid (HK1.out.below hb2 HK1.out.lt)
    clear hb2
    unfold flat
    have z0 : w2.cell? ⟨w.heap.size, 0, none⟩ = some (.int .i64 0) := HK2.out.cell 0
    have f0 : w2.frozen? ⟨w.heap.size, 0, none⟩ = false := HK2.out.frozen 0
    have z1 : w2.cell? ⟨w.heap.size, 1, none⟩ = some (.int .i64 0) := HK2.out.cell 1
    have f1 : w2.frozen? ⟨w.heap.size, 1, none⟩ = false := HK2.out.frozen 1
    have z2 : w2.cell? ⟨w.heap.size, 2, none⟩ = some (.string ⟨#[]⟩) := HK2.out.cell 2
    have f2 : w2.frozen? ⟨w.heap.size, 2, none⟩ = false := HK2.out.frozen 2
    have z3 : w2.cell? ⟨w.heap.size, 3, none⟩ = some (.slice none 0 0) := HK2.out.cell 3
    have f3 : w2.frozen? ⟨w.heap.size, 3, none⟩ = false := HK2.out.frozen 3
    have z4 : w2.cell? ⟨w.heap.size, 4, none⟩ = some (.slice none 0 0) := HK2.out.cell 4
    have f4 : w2.frozen? ⟨w.heap.size, 4, none⟩ = false := HK2.out.frozen 4
    have HFK := Lib.hid (((((HK2.out.set_ 0 (.int .i64 1)).set_ 1 (.int .i64 0)).set_ 2 (.string ⟨#[]⟩)).set_ 3 (.slice none 0 0)).set_ 4 (.slice none 0 0))
    have HB9 := Lib.hid (((((HB2.out.setCell (p := ⟨w.heap.size, 0, none⟩) (Nat.le_refl _) (.int .i64 1)).setCell (p := ⟨w.heap.size, 1, none⟩) (Nat.le_refl _) (.int .i64 0)).setCell (p := ⟨w.heap.size, 2, none⟩) (Nat.le_refl _) (.string ⟨#[]⟩)).setCell (p := ⟨w.heap.size, 3, none⟩) (Nat.le_refl _) (.slice none 0 0)).setCell (p := ⟨w.heap.size, 4, none⟩) (Nat.le_refl _) (.slice none 0 0))
    go_wp2
    have k0 := HFK.out.cell 0
    have k1 := HFK.out.cell 1
    have k2 := HFK.out.cell 2
    have k3 := HFK.out.cell 3
    have k4 := HFK.out.cell 4
    simp at k0 k1 k2 k3 k4
    refine bodyPost_ret (v := .tuple #[flat 1 0 ⟨#[]⟩, .bool true]) (by simp [results, Tryz.results35, go_sem, k0, k1, k2, k3, k4, flat]) rfl ?_
    exact ⟨1, 0, by rw [HWD.out]; rfl, by rw [HWD.out]; first | (simp; done) | (simp [lettersP]; exact ⟨rfl, rfl⟩), HB9.out⟩
  have h1 := Bool.eq_false_iff.2 h1
  rw [show ((⟨#[110, 117, 108, 108]⟩ : ByteArray).data.toList.isPrefixOf p.r) = false from h1] at hn
  have HN := Lib.hid hn
  by_cases h2 : ([116, 114, 117, 101] : List UInt8).isPrefixOf p.r = true
  · rw [show ((⟨#[116, 114, 117, 101]⟩ : ByteArray).data.toList.isPrefixOf p.r) = true from h2] at ht
    have HT := Lib.hid ht
    have HWD : Hid (wordP p.r = some (.mk 2 1 ⟨#[]⟩ [] [] [], 4)) := Lib.hid (by unfold wordP; rw [if_neg (by rw [h1]; decide), if_pos h2])
    clear hn ht hf h1 h2 h
    go_enter Tryz.func35, Tryz.ntmps35
    go_wp2_with fail
    rw [← HW0.out]
    refine HR.out.mono ?_
    rintro e w1 ⟨rfl, hb1⟩
    have HB1 : Hid (Below w.heap.size w w1) := Lib.hid (HB0.out.trans (hb1.mono HB0.out.size))
    have HK1 := Lib.hid (HK0.out.below hb1 HK0.out.lt)
    clear hb1
    go_wp2_with fail
    refine (HN.out w1).mono ?_
    rintro e w2 ⟨rfl, rfl⟩
    go_wp2_with fail
    refine (HT.out w1).mono ?_
    rintro e w2 ⟨rfl, rfl⟩
    go_wp2_with fail
    refine (true_fl w1).mono ?_
    rintro e w2 ⟨rfl, hb2⟩
    have HB2 : Hid (Below w.heap.size w w2) := Lib.hid (HB1.out.trans (hb2.mono HB1.out.size))
    have HK2 := Lib.hid (HK1.out.below hb2 HK1.out.lt)
    clear hb2
    unfold flat
    have z0 : w2.cell? ⟨w.heap.size, 0, none⟩ = some (.int .i64 0) := HK2.out.cell 0
    have f0 : w2.frozen? ⟨w.heap.size, 0, none⟩ = false := HK2.out.frozen 0
    have z1 : w2.cell? ⟨w.heap.size, 1, none⟩ = some (.int .i64 0) := HK2.out.cell 1
    have f1 : w2.frozen? ⟨w.heap.size, 1, none⟩ = false := HK2.out.frozen 1
    have z2 : w2.cell? ⟨w.heap.size, 2, none⟩ = some (.string ⟨#[]⟩) := HK2.out.cell 2
    have f2 : w2.frozen? ⟨w.heap.size, 2, none⟩ = false := HK2.out.frozen 2
    have z3 : w2.cell? ⟨w.heap.size, 3, none⟩ = some (.slice none 0 0) := HK2.out.cell 3
    have f3 : w2.frozen? ⟨w.heap.size, 3, none⟩ = false := HK2.out.frozen 3
    have z4 : w2.cell? ⟨w.heap.size, 4, none⟩ = some (.slice none 0 0) := HK2.out.cell 4
    have f4 : w2.frozen? ⟨w.heap.size, 4, none⟩ = false := HK2.out.frozen 4
    have HFK := Lib.hid (((((HK2.out.set_ 0 (.int .i64 2)).set_ 1 (.int .i64 1)).set_ 2 (.string ⟨#[]⟩)).set_ 3 (.slice none 0 0)).set_ 4 (.slice none 0 0))
    have HB9 := Lib.hid (((((HB2.out.setCell (p := ⟨w.heap.size, 0, none⟩) (Nat.le_refl _) (.int .i64 2)).setCell (p := ⟨w.heap.size, 1, none⟩) (Nat.le_refl _) (.int .i64 1)).setCell (p := ⟨w.heap.size, 2, none⟩) (Nat.le_refl _) (.string ⟨#[]⟩)).setCell (p := ⟨w.heap.size, 3, none⟩) (Nat.le_refl _) (.slice none 0 0)).setCell (p := ⟨w.heap.size, 4, none⟩) (Nat.le_refl _) (.slice none 0 0))
    go_wp2
    have k0 := HFK.out.cell 0
    have k1 := HFK.out.cell 1
    have k2 := HFK.out.cell 2
    have k3 := HFK.out.cell 3
    have k4 := HFK.out.cell 4
    simp at k0 k1 k2 k3 k4
    refine bodyPost_ret (v := .tuple #[flat 2 1 ⟨#[]⟩, .bool true]) (by simp [results, Tryz.results35, go_sem, k0, k1, k2, k3, k4, flat]) rfl ?_
    exact ⟨2, 1, by rw [HWD.out]; rfl, by rw [HWD.out]; first | (simp; done) | (simp [lettersP]; exact ⟨rfl, rfl⟩), HB9.out⟩
  have h2 := Bool.eq_false_iff.2 h2
  rw [show ((⟨#[116, 114, 117, 101]⟩ : ByteArray).data.toList.isPrefixOf p.r) = false from h2] at ht
  have HT := Lib.hid ht
  by_cases h3 : ([102, 97, 108, 115, 101] : List UInt8).isPrefixOf p.r = true
  · rw [show ((⟨#[102, 97, 108, 115, 101]⟩ : ByteArray).data.toList.isPrefixOf p.r) = true from h3] at hf
    have HF := Lib.hid hf
    have HWD : Hid (wordP p.r = some (.mk 2 0 ⟨#[]⟩ [] [] [], 5)) := Lib.hid (by unfold wordP; rw [if_neg (by rw [h1]; decide), if_neg (by rw [h2]; decide), if_pos h3])
    clear hn ht hf h1 h2 h3 h
    go_enter Tryz.func35, Tryz.ntmps35
    go_wp2_with fail
    rw [← HW0.out]
    refine HR.out.mono ?_
    rintro e w1 ⟨rfl, hb1⟩
    have HB1 : Hid (Below w.heap.size w w1) := Lib.hid (HB0.out.trans (hb1.mono HB0.out.size))
    have HK1 := Lib.hid (HK0.out.below hb1 HK0.out.lt)
    clear hb1
    go_wp2_with fail
    refine (HN.out w1).mono ?_
    rintro e w2 ⟨rfl, rfl⟩
    go_wp2_with fail
    refine (HT.out w1).mono ?_
    rintro e w2 ⟨rfl, rfl⟩
    go_wp2_with fail
    refine (HF.out w1).mono ?_
    rintro e w2 ⟨rfl, rfl⟩
    go_wp2_with fail
    refine (false_fl w1).mono ?_
    rintro e w2 ⟨rfl, hb2⟩
    have HB2 : Hid (Below w.heap.size w w2) := Lib.hid (HB1.out.trans (hb2.mono HB1.out.size))
    have HK2 := Lib.hid (HK1.out.below hb2 HK1.out.lt)
    clear hb2
    unfold flat
    have z0 : w2.cell? ⟨w.heap.size, 0, none⟩ = some (.int .i64 0) := HK2.out.cell 0
    have f0 : w2.frozen? ⟨w.heap.size, 0, none⟩ = false := HK2.out.frozen 0
    have z1 : w2.cell? ⟨w.heap.size, 1, none⟩ = some (.int .i64 0) := HK2.out.cell 1
    have f1 : w2.frozen? ⟨w.heap.size, 1, none⟩ = false := HK2.out.frozen 1
    have z2 : w2.cell? ⟨w.heap.size, 2, none⟩ = some (.string ⟨#[]⟩) := HK2.out.cell 2
    have f2 : w2.frozen? ⟨w.heap.size, 2, none⟩ = false := HK2.out.frozen 2
    have z3 : w2.cell? ⟨w.heap.size, 3, none⟩ = some (.slice none 0 0) := HK2.out.cell 3
    have f3 : w2.frozen? ⟨w.heap.size, 3, none⟩ = false := HK2.out.frozen 3
    have z4 : w2.cell? ⟨w.heap.size, 4, none⟩ = some (.slice none 0 0) := HK2.out.cell 4
    have f4 : w2.frozen? ⟨w.heap.size, 4, none⟩ = false := HK2.out.frozen 4
    have HFK := Lib.hid (((((HK2.out.set_ 0 (.int .i64 2)).set_ 1 (.int .i64 0)).set_ 2 (.string ⟨#[]⟩)).set_ 3 (.slice none 0 0)).set_ 4 (.slice none 0 0))
    have HB9 := Lib.hid (((((HB2.out.setCell (p := ⟨w.heap.size, 0, none⟩) (Nat.le_refl _) (.int .i64 2)).setCell (p := ⟨w.heap.size, 1, none⟩) (Nat.le_refl _) (.int .i64 0)).setCell (p := ⟨w.heap.size, 2, none⟩) (Nat.le_refl _) (.string ⟨#[]⟩)).setCell (p := ⟨w.heap.size, 3, none⟩) (Nat.le_refl _) (.slice none 0 0)).setCell (p := ⟨w.heap.size, 4, none⟩) (Nat.le_refl _) (.slice none 0 0))
    go_wp2
    have k0 := HFK.out.cell 0
    have k1 := HFK.out.cell 1
    have k2 := HFK.out.cell 2
    have k3 := HFK.out.cell 3
    have k4 := HFK.out.cell 4
    simp at k0 k1 k2 k3 k4
    refine bodyPost_ret (v := .tuple #[flat 2 0 ⟨#[]⟩, .bool true]) (by simp [results, Tryz.results35, go_sem, k0, k1, k2, k3, k4, flat]) rfl ?_
    exact ⟨2, 0, by rw [HWD.out]; rfl, by rw [HWD.out]; first | (simp; done) | (simp [lettersP]; exact ⟨rfl, rfl⟩), HB9.out⟩
  have h3 := Bool.eq_false_iff.2 h3
  rw [show ((⟨#[102, 97, 108, 115, 101]⟩ : ByteArray).data.toList.isPrefixOf p.r) = false from h3] at hf
  have HF := Lib.hid hf
  have HWD : Hid (wordP p.r = none) := Lib.hid (by unfold wordP; rw [if_neg (by rw [h1]; decide), if_neg (by rw [h2]; decide), if_neg (by rw [h3]; decide)])
  clear hn ht hf h1 h2 h3 h
  go_enter Tryz.func35, Tryz.ntmps35
  go_wp2_with fail
  rw [← HW0.out]
  refine HR.out.mono ?_
  rintro e w1 ⟨rfl, hb1⟩
  have HB1 : Hid (Below w.heap.size w w1) := Lib.hid (HB0.out.trans (hb1.mono HB0.out.size))
  have HK1 := Lib.hid (HK0.out.below hb1 HK0.out.lt)
  clear hb1
  go_wp2_with fail
  refine (HN.out w1).mono ?_
  rintro e w2 ⟨rfl, rfl⟩
  go_wp2_with fail
  refine (HT.out w1).mono ?_
  rintro e w2 ⟨rfl, rfl⟩
  go_wp2_with fail
  refine (HF.out w1).mono ?_
  rintro e w2 ⟨rfl, rfl⟩
  have HB2 := HB1
  have HK2 := HK1
  have z0 : w1.cell? ⟨w.heap.size, 0, none⟩ = some (.int .i64 0) := HK2.out.cell 0
  have f0 : w1.frozen? ⟨w.heap.size, 0, none⟩ = false := HK2.out.frozen 0
  have z1 : w1.cell? ⟨w.heap.size, 1, none⟩ = some (.int .i64 0) := HK2.out.cell 1
  have f1 : w1.frozen? ⟨w.heap.size, 1, none⟩ = false := HK2.out.frozen 1
  have z2 : w1.cell? ⟨w.heap.size, 2, none⟩ = some (.string ⟨#[]⟩) := HK2.out.cell 2
  have f2 : w1.frozen? ⟨w.heap.size, 2, none⟩ = false := HK2.out.frozen 2
  have z3 : w1.cell? ⟨w.heap.size, 3, none⟩ = some (.slice none 0 0) := HK2.out.cell 3
  have f3 : w1.frozen? ⟨w.heap.size, 3, none⟩ = false := HK2.out.frozen 3
  have z4 : w1.cell? ⟨w.heap.size, 4, none⟩ = some (.slice none 0 0) := HK2.out.cell 4
  have f4 : w1.frozen? ⟨w.heap.size, 4, none⟩ = false := HK2.out.frozen 4
  have HFK := Lib.hid (((((HK2.out.set_ 0 (.int .i64 0)).set_ 1 (.int .i64 0)).set_ 2 (.string ⟨#[]⟩)).set_ 3 (.slice none 0 0)).set_ 4 (.slice none 0 0))
  have HB9 := Lib.hid (((((HB2.out.setCell (p := ⟨w.heap.size, 0, none⟩) (Nat.le_refl _) (.int .i64 0)).setCell (p := ⟨w.heap.size, 1, none⟩) (Nat.le_refl _) (.int .i64 0)).setCell (p := ⟨w.heap.size, 2, none⟩) (Nat.le_refl _) (.string ⟨#[]⟩)).setCell (p := ⟨w.heap.size, 3, none⟩) (Nat.le_refl _) (.slice none 0 0)).setCell (p := ⟨w.heap.size, 4, none⟩) (Nat.le_refl _) (.slice none 0 0))
  go_wp2
  have k0 := HFK.out.cell 0
  have k1 := HFK.out.cell 1
  have k2 := HFK.out.cell 2
  have k3 := HFK.out.cell 3
  have k4 := HFK.out.cell 4
  simp at k0 k1 k2 k3 k4
  refine bodyPost_ret (v := .tuple #[flat 0 0 ⟨#[]⟩, .bool false]) (by simp [results, Tryz.results35, go_sem, k0, k1, k2, k3, k4, flat]) rfl ?_
  exact ⟨0, 0, by rw [HWD.out]; rfl, by rw [HWD.out]; first | (simp; done) | (simp [lettersP]; exact ⟨rfl, rfl⟩), HB9.out⟩

theorem idx_ge (cs : List UInt8) (c : UInt8) (w : World) (n : Int) (hn : n = (c.toNat : Int)) : Calls Tryz.prog 36 #[.string ⟨cs.toArray⟩, .int .u8 n] w fun e w' => e = .returned (.int .i64 (Lib.indexByte cs c)) ∧ w = w' := by
  refine (Tryz.strings_IndexByte _ n w).mono fun e w' ⟨he, hw⟩ => ⟨?_, hw.symm⟩
  rw [he, hn]
  have : ((c.toNat : Int)).toNat.toUInt8 = c := by simp
  rw [this]
set_option maxRecDepth 100000 in
theorem idx_st (c : UInt8) : (0 ≤ Lib.indexByte starts c ↔ c ∈ starts) ∧ -1 ≤ Lib.indexByte starts c ∧ Lib.indexByte starts c ≤ 20 := by
  have : ∀ n : Fin 256, (0 ≤ Lib.indexByte starts (UInt8.ofNat n.1) ↔ UInt8.ofNat n.1 ∈ starts) ∧ -1 ≤ Lib.indexByte starts (UInt8.ofNat n.1) ∧ Lib.indexByte starts (UInt8.ofNat n.1) ≤ 20 := by decide
  exact all_u8 (p := fun c => (0 ≤ Lib.indexByte starts c ↔ c ∈ starts) ∧ -1 ≤ Lib.indexByte starts c ∧ Lib.indexByte starts c ≤ 20) this c
def BoP' (b : Bool) (w : World) (e : Ending) (w' : World) : Prop := e = .returned (.bool b) ∧ Below w.heap.size w w'
set_option maxRecDepth 100000 in
set_option maxHeartbeats 4000000 in
theorem begins_any {W w : World} {B : Nat} {s : ByteArray} {p : St} (h : PSt W B s w p) (hs : s.size ≤ 1000000) : Calls Tryz.prog 27 #[.pointer (some ⟨B, 0, none⟩)] w fun e w' => PF (BoP' (begins p.r) w) e w' := by
  have HWD := Lib.hid (word_any h hs)
  have HR : Hid (∀ V, Below w.heap.size w V → Calls Tryz.prog 18 #[.pointer (some ⟨B, 0, none⟩)] V fun e w' => PF (RstP p V) e w') := Lib.hid (fun V hV => rest_any (h.below hV) hs)
  have hbg : begins p.r = ((wordP p.r).isSome || (match p.r with | c :: _ => decide (c ∈ starts) | [] => false)) := rfl
  have hrl := rs_list p
  have hrz := rs_size p
  obtain ⟨b, hb⟩ : ∃ b, b = begins p.r := ⟨_, rfl⟩
  rw [← hb]
  obtain ⟨ww, hww⟩ : ∃ ww, ww = (wordP p.r).isSome := ⟨_, rfl⟩
  rw [← hww, ← hb] at hbg
  have HWW := Lib.hid hww
  clear hww hb h
  have head : ∀ {Q : Prop}, Q → Q := fun q => q
  cases ww with
  | true =>
    have HB : Hid (b = true) := Lib.hid (by rw [hbg]; rfl)
    clear hbg hrl hrz head
    go_enter Tryz.func27, Tryz.ntmps27
    go_wp2_with fail
    refine HWD.out.mono ?_
    rintro e w1 ⟨k, n, rfl, _, hb1⟩
    rw [← HWW.out]
    unfold flat
    obtain ⟨W2, hW2⟩ : ∃ W2, W2 = w1.alloc (.cells #[.int .i64 k, .int .i64 n, .string ⟨#[]⟩, .slice none 0 0, .slice none 0 0] 25) := ⟨_, rfl⟩
    have HB2 : Hid (Below w.heap.size w W2) := Lib.hid (by rw [hW2]; exact hb1.alloc hb1.size _)
    have HW2 := Lib.hid hW2
    clear hb1 hW2
    go_wp2_with fail
    rw [← HW2.out]
    refine (HR.out W2 HB2.out).mono ?_
    rintro e w3 ⟨rfl, hb3⟩
    have HB3 := Lib.hid (HB2.out.trans (hb3.mono HB2.out.size))
    clear hb3
    go_wp2
    go_ret
    exact ⟨by rw [HB.out]; rfl, HB3.out⟩
  | false =>
    cases hr : p.r with
    | nil =>
      rw [hr] at hbg hrl
      have HB : Hid (b = false) := Lib.hid (by rw [hbg]; rfl)
      have hre : rs p = ⟨#[]⟩ := sz0 (by rw [hrz, hr]; rfl)
      have HRE := Lib.hid hre
      clear hbg hrl hrz head hr hre
      go_enter Tryz.func27, Tryz.ntmps27
      go_wp2_with fail
      refine HWD.out.mono ?_
      rintro e w1 ⟨k, n, rfl, _, hb1⟩
      rw [← HWW.out]
      unfold flat
      obtain ⟨W2, hW2⟩ : ∃ W2, W2 = w1.alloc (.cells #[.int .i64 k, .int .i64 n, .string ⟨#[]⟩, .slice none 0 0, .slice none 0 0] 25) := ⟨_, rfl⟩
      have HB2 : Hid (Below w.heap.size w W2) := Lib.hid (by rw [hW2]; exact hb1.alloc hb1.size _)
      have HW2 := Lib.hid hW2
      clear hb1 hW2
      go_wp2_with fail
      rw [← HW2.out]
      refine (HR.out W2 HB2.out).mono ?_
      rintro e w3 ⟨rfl, hb3⟩
      rw [HRE.out]
      have HB3 := Lib.hid (HB2.out.trans (hb3.mono HB2.out.size))
      clear hb3
      go_wp2
      go_ret
      exact ⟨by rw [HB.out]; rfl, HB3.out⟩
    | cons c r =>
      rw [hr] at hbg hrl
      have hpos : 0 < (rs p).size := by rw [hrz, hr]; simp
      have g0 : (rs p)[0]'hpos = c := at_l hrl 0 hpos c rfl
      have g2 : (rs p).toList.isEmpty = false := by rw [ByteArray.toList_eq, hrl]; rfl
      have HI := Lib.hid (fun w => idx_ge starts c w (c.toNat : Int) rfl)
      have his := idx_st c
      obtain ⟨ix, hix⟩ : ∃ ix, ix = Lib.indexByte starts c := ⟨_, rfl⟩
      rw [← hix] at HI his
      have HB : Hid (b = decide (ix ≥ 0)) := Lib.hid (by
        rw [hbg]
        simp only [Bool.false_or]
        by_cases hm : c ∈ starts
        · rw [decide_eq_true hm, decide_eq_true (his.1.2 hm)]
        · rw [decide_eq_false hm, decide_eq_false (fun q => hm (his.1.1 q))])
      obtain ⟨t, ht⟩ : ∃ t, t = rs p := ⟨_, rfl⟩
      unfold RstP at HR
      rw [← ht] at HR hpos g2
      have g0' : t[0]'hpos = c := by subst ht; exact g0
      clear hbg hrl hrz head hr his hix g0 ht
      have hts : (0 : Int) < (t.size : Int) := by omega
      unfold starts at HI
      go_enter Tryz.func27, Tryz.ntmps27
      go_wp2_with fail
      refine HWD.out.mono ?_
      rintro e w1 ⟨k, n, rfl, _, hb1⟩
      rw [← HWW.out]
      unfold flat
      obtain ⟨W2, hW2⟩ : ∃ W2, W2 = w1.alloc (.cells #[.int .i64 k, .int .i64 n, .string ⟨#[]⟩, .slice none 0 0, .slice none 0 0] 25) := ⟨_, rfl⟩
      have HB2 : Hid (Below w.heap.size w W2) := Lib.hid (by rw [hW2]; exact hb1.alloc hb1.size _)
      have HW2 := Lib.hid hW2
      clear hb1 hW2
      go_wp2_with fail
      rw [← HW2.out]
      refine (HR.out W2 HB2.out).mono ?_
      rintro e w3 ⟨rfl, hb3⟩
      have HB3 := Lib.hid (HB2.out.trans (hb3.mono HB2.out.size))
      clear hb3
      go_wp2_with fail
      refine (HI.out w3).mono ?_
      rintro e w4 ⟨rfl, rfl⟩
      go_wp2
      go_ret
      exact ⟨by rw [HB.out]; rfl, HB3.out⟩
end Go.Proofs.YteofdpogjnojnaaGreatDoor
