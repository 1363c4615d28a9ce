/-
  parse: list.
-/
import Derived.Test.YteofdpogjnojnaaGreatDoorPaT
namespace Go.Proofs.YteofdpogjnojnaaGreatDoor
open Go.RowKit Utf Pa
attribute [local go_sem ↓] Go.wp_at_zero Go.wp_at_succ
set_option linter.unusedVariables false
set_option linter.unusedSimpArgs false

/-- a value of one's own, when older blocks change -/
theorem VOwn.frB {base : Nat} {w w' : World} {v : MV} {S : Nat → Prop} (h : VOwn base w v) (hf : Fr S w w') (hS : ∀ b, S b → b < base) : VOwn base w' v :=
  ⟨h.at_.fr hf (h.fr.mono (fun b hb e => by have := hS b e; omega)), h.fr,
   h.l.frS hf (fun g hg e => by have := h.l.ge g hg; have := hS g e; omega) (fun x hx => (h.l.fr x hx).mono (fun b hb e => by have := hS b e; omega)),
   h.m.frS hf (fun g hg e => by have := h.m.ge g hg; have := hS g e; omega) (fun x hx => (h.m.fr x hx).mono (fun b hb e => by have := hS b e; omega)), h.lm, h.ml⟩
/-- a value is answered through the box R -/
theorem val_end {W w w1 w2 : World} {B R base : Nat} {s : ByteArray} {r : St × PV} {v : MV} (hp : PSt W B s w1 r.1) (hv : VOwn base w1 v) (he : v.pv = r.2) (hR : Fr (· = R) w1 w2) (hf : Fr (· = B) w w1) (hw : w.heap.size ≤ R ∧ R < base ∧ B < w.heap.size ∧ W.heap.size ≤ w.heap.size) : ValP W B s r w (.returned v.val) w2 :=
  ⟨v, rfl, he, vown_le (hv.frB hR (fun b e => by omega)) (by omega), hp.fr hR (by omega) (fun b e => by omega), hf.trans_new hR (fun j hj e => by omega)⟩
theorem alSz (w : World) (o : Obj) : (w.alloc o).heap.size = w.heap.size + 1 := Array.size_push _
theorem Fr.keep {w w' : World} {S : Nat → Prop} {B : Nat} (h : Fr S w w') (hS : ∀ b, b < w.heap.size → S b → b = B) : Fr (· = B) w w' := h.mono hS
theorem JL.fr {B BV BP BD bs : Nat} {d : Int} {w w' : World} {l : List PV} (h : JL B BV BP BD bs d w l) (hf : Fr (· = B) w w') (hne : B < BV ∧ B < BP ∧ B < BD ∧ BV < bs) : JL B BV BP BD bs d w' l := by
  obtain ⟨⟨vl, ml, h1, h2, h3⟩, h4, h5⟩ := h
  exact ⟨⟨vl, ml, h1.fr hf (by omega), h2.frS hf (fun g hg e => by have := h2.ge g hg; omega) (fun x hx => (h2.fr x hx).mono (fun b hb e => by omega)), h3⟩, h4.fr hf (by omega), h5.fr hf (by omega)⟩
set_option maxRecDepth 100000 in
set_option maxHeartbeats 16000000 in
theorem list_any {W w : World} {B : Nat} {s : ByteArray} {p : St} (d : Nat) (hC : VC W B s d) (h : PSt W B s w p) (hs : s.size ≤ 1000000) :
    Calls Tryz.prog 41 #[.pointer (some ⟨B, 0, none⟩), .int .i64 (d : Int)] w fun e w' => PF (ValP W B s ((itemsP (oneL (valP d)) 93 p []).1, .mk 5 0 ⟨#[]⟩ (itemsP (oneL (valP d)) 93 p []).2 [] []) w) e w' := by
  obtain ⟨W1, hW1⟩ : ∃ W1, W1 = w.alloc (.cells #[.pointer (some ⟨B, 0, none⟩)] 43) := ⟨_, rfl⟩
  obtain ⟨W2, hW2⟩ : ∃ W2, W2 = W1.alloc (.cells #[.int .i64 (d : Int)] 3) := ⟨_, rfl⟩
  obtain ⟨W3, hW3⟩ : ∃ W3, W3 = W2.alloc (.cells #[.int .i64 0, .int .i64 0, .string ⟨#[]⟩, .slice none 0 0, .slice none 0 0] 25) := ⟨_, rfl⟩
  obtain ⟨W4, hW4⟩ : ∃ W4, W4 = W3.alloc (.cells #[.int .i64 5, .int .i64 0, .string ⟨#[]⟩, .slice none 0 0, .slice none 0 0] 25) := ⟨_, rfl⟩
  have s1 : W1.heap.size = w.heap.size + 1 := by rw [hW1]; exact alSz _ _
  have s2 : W2.heap.size = w.heap.size + 1 + 1 := by rw [hW2]; rw [alSz]; omega
  have s3 : W3.heap.size = w.heap.size + 1 + 1 + 1 := by rw [hW3]; rw [alSz]; omega
  have s4 : W4.heap.size = w.heap.size + 1 + 1 + 1 + 1 := by rw [hW4]; rw [alSz]; omega
  have b1 : Below w.heap.size w W1 := by rw [hW1]; exact (Below.refl _ _).alloc (Nat.le_refl _) _
  have b2 : Below W1.heap.size W1 W2 := by rw [hW2]; exact (Below.refl _ _).alloc (Nat.le_refl _) _
  have b3 : Below W2.heap.size W2 W3 := by rw [hW3]; exact (Below.refl _ _).alloc (Nat.le_refl _) _
  have b4 : Below W3.heap.size W3 W4 := by rw [hW4]; exact (Below.refl _ _).alloc (Nat.le_refl _) _
  have k1 : Blk W1 w.heap.size 43 #[.pointer (some ⟨B, 0, none⟩)] := by rw [hW1]; exact Blk.new _ _ _
  have k2 : Blk W2 (w.heap.size + 1) 3 #[.int .i64 (d : Int)] := by rw [hW2, ← s1]; exact Blk.new _ _ _
  have k3 : Blk W3 (w.heap.size + 1 + 1) 25 #[.int .i64 0, .int .i64 0, .string ⟨#[]⟩, .slice none 0 0, .slice none 0 0] := by rw [hW3, ← s2]; exact Blk.new _ _ _
  have k4 : Blk W4 (w.heap.size + 1 + 1 + 1) 25 #[.int .i64 5, .int .i64 0, .string ⟨#[]⟩, .slice none 0 0, .slice none 0 0] := by rw [hW4, ← s3]; exact Blk.new _ _ _
  have hb : Below w.heap.size w W4 := ((b1.trans (b2.mono (by omega))).trans (b3.mono (by omega))).trans (b4.mono (by omega))
  have hk1 := ((k1.below b2 k1.lt).below b3 (by omega)).below b4 (by omega)
  have hk2 := (k2.below b3 k2.lt).below b4 (by omega)
  have hk3 := k3.below b4 k3.lt
  have hBl := h.blk.lt
  have hWl := h.bel.size
  have hBW := h.bW
  have hj0 : JL B (w.heap.size + 1 + 1 + 1) w.heap.size (w.heap.size + 1) (w.heap.size + 1 + 1 + 1 + 1) d W4 [] := ⟨⟨_, [], k4, ROwn.nil _ _, rfl⟩, hk1, hk2⟩
  have hit := items_any (W := W) (B := B) (s := s) (oneL (valP d)) 93 63 #[.pointer (some ⟨w.heap.size + 1 + 1 + 1, 0, none⟩), .pointer (some ⟨w.heap.size, 0, none⟩), .pointer (some ⟨w.heap.size + 1, 0, none⟩)] (w.heap.size + 1 + 1 + 1) (JL B (w.heap.size + 1 + 1 + 1) w.heap.size (w.heap.size + 1) (w.heap.size + 1 + 1 + 1 + 1) d) hs (fun args w => rfl) (by omega)
    (fun V V' a hj hf => hj.fr hf (by omega)) List.length (fun q a he hq h0 => by
      have := (val_c d q).2 h0
      show (a ++ [(valP d q).2]).length ≤ (valP d q).1.c
      simp only [List.length_append, List.length_cons, List.length_nil]
      omega)
    (fun V q a hbV hq he hl hj => list1_any d hC _ _ _ (w.heap.size + 1 + 1 + 1 + 1) (w.heap.size + 1 + 1 + 1) (by omega) (by have := hj.ex; obtain ⟨_, _, hx, _⟩ := this; exact hx.lt) hq he hl hj)
    (fun q a => oneL_len (val_len d) q a) (h.below hb) hj0 (Nat.zero_le _) (by omega)
  have HIT := Lib.hid hit
  have HB := Lib.hid hb
  have HK3 := Lib.hid hk3
  have HN : Hid (B < w.heap.size ∧ W.heap.size ≤ w.heap.size) := Lib.hid ⟨hBl, hWl⟩
  have HW : Hid (W4 = (((w.alloc (.cells #[.pointer (some ⟨B, 0, none⟩)] 43)).alloc (.cells #[.int .i64 (d : Int)] 3)).alloc (.cells #[.int .i64 0, .int .i64 0, .string ⟨#[]⟩, .slice none 0 0, .slice none 0 0] 25)).alloc (.cells #[.int .i64 5, .int .i64 0, .string ⟨#[]⟩, .slice none 0 0, .slice none 0 0] 25)) := Lib.hid (by rw [hW4, hW3, hW2, hW1])
  clear hit hj0 hk1 hk2 hk3 k1 k2 k3 k4 hb b1 b2 b3 b4 s1 s2 s3 s4 hW1 hW2 hW3 hW4 hBl hWl hBW h hC hs
  go_enter Tryz.func41, Tryz.ntmps41
  go_wp2_with fail
  rw [← HW.out]
  refine HIT.out.mono ?_
  rintro e w1 ⟨rfl, hp1, hj1, hf1⟩
  obtain ⟨⟨vl, ml, hbv, hrow, hpl⟩, hbp, hbd⟩ := hj1
  obtain ⟨A, c, rfl, _⟩ := hrow.shape
  obtain ⟨v, e1, e2, e3, e4, e5, e6, e7, e8, e9⟩ := VOwn.mk' (base := w.heap.size + 1 + 1 + 1) (w := w1) (k := 5) (n := 0) (s := ⟨#[]⟩) rfl rfl (hrow.base_le (Nat.le_succ _)) (ROwn.nil _ _) (fun x hx => (hrow.fr x hx).mono (fun b _ e => by cases e)) (fun x hx => by cases hx)
  have HBV := Lib.hid hbv
  have HK1 := Lib.hid (HK3.out.fr hf1 (by have := HN.out; omega))
  have HEND : Hid (∀ w2, Fr (· = w.heap.size + 1 + 1) w1 w2 → ValP W B s ((itemsP (oneL (valP d)) 93 p []).1, .mk 5 0 ⟨#[]⟩ (itemsP (oneL (valP d)) 93 p []).2 [] []) w (.returned v.val) w2) := Lib.hid (fun w2 h2 => val_end (R := w.heap.size + 1 + 1) (base := w.heap.size + 1 + 1 + 1) hp1 e9 (by rw [e8, hpl]; rfl) h2 (((Fr.of_below HB.out).trans_new hf1 (fun j hj e => by omega))) (by have := HN.out; omega))
  have HV : Hid (v.val = .agg #[.int .i64 5, .int .i64 0, .string ⟨#[]⟩, (.slice A ml.length c), .slice none 0 0]) := Lib.hid (by
    unfold MV.val
    rw [e1, e2, e3, e6, e4, show (Value.slice v.mA v.m.length v.mc) = .slice none 0 0 by rw [e7, e5]])
  clear hp1 hbv hrow hpl hbp hbd hf1 e1 e2 e3 e4 e5 e6 e7 e8 e9
  have x0 : w1.cell? ⟨w.heap.size + 1 + 1 + 1, 0, none⟩ = some (.int .i64 5) := HBV.out.cell 0
  have x1 : w1.cell? ⟨w.heap.size + 1 + 1 + 1, 1, none⟩ = some (.int .i64 0) := HBV.out.cell 1
  have x2 : w1.cell? ⟨w.heap.size + 1 + 1 + 1, 2, none⟩ = some (.string ⟨#[]⟩) := HBV.out.cell 2
  have x3 : w1.cell? ⟨w.heap.size + 1 + 1 + 1, 3, none⟩ = some (.slice A ml.length c) := HBV.out.cell 3
  have x4 : w1.cell? ⟨w.heap.size + 1 + 1 + 1, 4, none⟩ = some (.slice none 0 0) := HBV.out.cell 4
  have y0 : w1.cell? ⟨w.heap.size + 1 + 1, 0, none⟩ = some (.int .i64 0) := HK1.out.cell 0
  have y1 : w1.cell? ⟨w.heap.size + 1 + 1, 1, none⟩ = some (.int .i64 0) := HK1.out.cell 1
  have y2 : w1.cell? ⟨w.heap.size + 1 + 1, 2, none⟩ = some (.string ⟨#[]⟩) := HK1.out.cell 2
  have y3 : w1.cell? ⟨w.heap.size + 1 + 1, 3, none⟩ = some (.slice none 0 0) := HK1.out.cell 3
  have y4 : w1.cell? ⟨w.heap.size + 1 + 1, 4, none⟩ = some (.slice none 0 0) := HK1.out.cell 4
  have z0 : w1.frozen? ⟨w.heap.size + 1 + 1, 0, none⟩ = false := HK1.out.frozen 0
  have z1 : w1.frozen? ⟨w.heap.size + 1 + 1, 1, none⟩ = false := HK1.out.frozen 1
  have z2 : w1.frozen? ⟨w.heap.size + 1 + 1, 2, none⟩ = false := HK1.out.frozen 2
  have z3 : w1.frozen? ⟨w.heap.size + 1 + 1, 3, none⟩ = false := HK1.out.frozen 3
  have z4 : w1.frozen? ⟨w.heap.size + 1 + 1, 4, none⟩ = false := HK1.out.frozen 4
  have HFK := Lib.hid (((((HK1.out.set_ 0 (.int .i64 5)).set_ 1 (.int .i64 0)).set_ 2 (.string ⟨#[]⟩)).set_ 3 (.slice A ml.length c)).set_ 4 (.slice none 0 0))
  go_wp2
  have k0 := HFK.out.cell 0
  have k1 := HFK.out.cell 1
  have k2 := HFK.out.cell 2
  have k3 := HFK.out.cell 3
  have k4 := HFK.out.cell 4
  simp at k0 k1 k2 k3 k4
  refine bodyPost_ret (v := v.val) (by rw [HV.out]; simp [results, Tryz.results41, go_sem, k0, k1, k2, k3, k4]) rfl ?_
  exact HEND.out _ fr_put5
end Go.Proofs.YteofdpogjnojnaaGreatDoor
