/-
  parse: pairs.
-/
import Derived.Test.YteofdpogjnojnaaGreatDoorPaT3
namespace Go.Proofs.YteofdpogjnojnaaGreatDoor
open Go.RowKit Utf Pa
open Go.ChangeMaps (setBlock)
attribute [local go_sem ↓] Go.wp_at_zero Go.wp_at_succ
set_option linter.unusedVariables false
set_option linter.unusedSimpArgs false

theorem JM.fr {B BV BP BS BD M bs : Nat} {d : Int} {w w' : World} {l : List (ByteArray × PV)} (h : JM B BV BP BS BD M bs d w l) (hf : Fr (· = B) w w') (hne : B < BV ∧ B < BP ∧ B < BS ∧ B < BD ∧ B < M ∧ BV < bs) : JM B BV BP BS BD M bs d w' l := by
  obtain ⟨⟨vl, ml, h1, h2, h3⟩, h4⟩ := h
  exact ⟨⟨vl, ml, h1.fr hf (by omega), h2.frS hf (fun g hg e => by have := h2.ge g hg; omega) (fun x hx => (h2.fr x hx).mono (fun b hb e => by omega)), h3⟩, h4.fr hf (by omega)⟩
theorem makeT (w : World) : (Instr.makeMap 80 none).run Tryz.prog w = .ok (.map (some w.heap.size)) (w.alloc (.map #[] 0)) := by kernel_rfl
theorem pv_pairs {ml : List MV} {l : List (ByteArray × PV)} (h : ml.map kp = l) : PV.mk 6 0 ⟨#[]⟩ (MV.pvL []) (ml.map MV.key) (MV.pvL ml) = .mk 6 0 ⟨#[]⟩ [] (l.map Prod.fst) (l.map Prod.snd) := by
  subst h
  rw [pvL_map, pvL_map, List.map_map, List.map_map]
  rfl
set_option maxRecDepth 100000 in
set_option maxHeartbeats 16000000 in
theorem pairs_any {W w : World} {B : Nat} {s : ByteArray} {p : St} (d : Nat) (hC : VC W B s d) (hF : FourOk s) (hT : tabV W) (h : PSt W B s w p) (hs : s.size ≤ 1000000) :
    Calls Tryz.prog 42 #[.pointer (some ⟨B, 0, none⟩), .int .i64 (d : Int)] w fun e w' => PF (ValP W B s ((itemsP (oneM (valP d)) 125 p []).1, .mk 6 0 ⟨#[]⟩ [] ((itemsP (oneM (valP d)) 125 p []).2.map Prod.fst) ((itemsP (oneM (valP d)) 125 p []).2.map Prod.snd)) w) e w' := by
  obtain ⟨W1, hW1⟩ : ∃ W1, W1 = w.alloc (.cells #[.pointer (some ⟨B, 0, none⟩)] 43) := ⟨_, rfl⟩
  obtain ⟨W2, hW2⟩ : ∃ W2, W2 = W1.alloc (.cells #[.int .i64 (d : Int)] 3) := ⟨_, rfl⟩
  obtain ⟨W3, hW3⟩ : ∃ W3, W3 = W2.alloc (.cells #[.int .i64 0, .int .i64 0, .string ⟨#[]⟩, .slice none 0 0, .slice none 0 0] 25) := ⟨_, rfl⟩
  obtain ⟨W4, hW4⟩ : ∃ W4, W4 = W3.alloc (.cells #[.int .i64 6, .int .i64 0, .string ⟨#[]⟩, .slice none 0 0, .slice none 0 0] 25) := ⟨_, rfl⟩
  have s1 : W1.heap.size = w.heap.size + 1 := by rw [hW1]; exact alSz _ _
  have s2 : W2.heap.size = w.heap.size + 1 + 1 := by rw [hW2]; rw [alSz]; omega
  have s3 : W3.heap.size = w.heap.size + 1 + 1 + 1 := by rw [hW3]; rw [alSz]; omega
  obtain ⟨W5, hW5⟩ : ∃ W5, W5 = W4.alloc (.map #[] 0) := ⟨_, rfl⟩
  obtain ⟨W6, hW6⟩ : ∃ W6, W6 = W5.alloc (.cells #[.map (some (w.heap.size + 1 + 1 + 1 + 1))] 80) := ⟨_, rfl⟩
  have s4 : W4.heap.size = w.heap.size + 1 + 1 + 1 + 1 := by rw [hW4]; rw [alSz]; omega
  have s5 : W5.heap.size = w.heap.size + 1 + 1 + 1 + 1 + 1 := by rw [hW5]; rw [alSz]; omega
  have s6 : W6.heap.size = w.heap.size + 1 + 1 + 1 + 1 + 1 + 1 := by rw [hW6]; rw [alSz]; omega
  have b1 : Below w.heap.size w W1 := by rw [hW1]; exact (Below.refl _ _).alloc (Nat.le_refl _) _
  have b2 : Below W1.heap.size W1 W2 := by rw [hW2]; exact (Below.refl _ _).alloc (Nat.le_refl _) _
  have b3 : Below W2.heap.size W2 W3 := by rw [hW3]; exact (Below.refl _ _).alloc (Nat.le_refl _) _
  have b4 : Below W3.heap.size W3 W4 := by rw [hW4]; exact (Below.refl _ _).alloc (Nat.le_refl _) _
  have b5 : Below W4.heap.size W4 W5 := by rw [hW5]; exact (Below.refl _ _).alloc (Nat.le_refl _) _
  have b6 : Below W5.heap.size W5 W6 := by rw [hW6]; exact (Below.refl _ _).alloc (Nat.le_refl _) _
  have k1 : Blk W1 w.heap.size 43 #[.pointer (some ⟨B, 0, none⟩)] := by rw [hW1]; exact Blk.new _ _ _
  have k2 : Blk W2 (w.heap.size + 1) 3 #[.int .i64 (d : Int)] := by rw [hW2, ← s1]; exact Blk.new _ _ _
  have k3 : Blk W3 (w.heap.size + 1 + 1) 25 #[.int .i64 0, .int .i64 0, .string ⟨#[]⟩, .slice none 0 0, .slice none 0 0] := by rw [hW3, ← s2]; exact Blk.new _ _ _
  have k4 : Blk W4 (w.heap.size + 1 + 1 + 1) 25 #[.int .i64 6, .int .i64 0, .string ⟨#[]⟩, .slice none 0 0, .slice none 0 0] := by rw [hW4, ← s3]; exact Blk.new _ _ _
  have k5 : KM W5 (w.heap.size + 1 + 1 + 1 + 1) (fun _ => false) := by rw [hW5, ← s4]; exact KM.new _
  have k6 : Blk W6 (w.heap.size + 1 + 1 + 1 + 1 + 1) 80 #[.map (some (w.heap.size + 1 + 1 + 1 + 1))] := by rw [hW6, ← s5]; exact Blk.new _ _ _
  have b34 : Below W3.heap.size W3 W6 := (b4.trans (b5.mono (by omega))).trans (b6.mono (by omega))
  have b46 : Below W4.heap.size W4 W6 := b5.trans (b6.mono (by omega))
  have hb : Below w.heap.size w W6 := ((b1.trans (b2.mono (by omega))).trans (b3.mono (by omega))).trans (b34.mono (by omega))
  have hk1 := ((k1.below b2 k1.lt).below b3 (by omega)).below b34 (by omega)
  have hk2 := (k2.below b3 k2.lt).below b34 (by omega)
  have hk3 := k3.below b34 k3.lt
  have hk4 := k4.below b46 k4.lt
  have hk5 := k5.below b6
  have hBl := h.blk.lt
  have hWl := h.bel.size
  have hBW := h.bW
  have hj0 : JM B (w.heap.size + 1 + 1 + 1) w.heap.size (w.heap.size + 1 + 1 + 1 + 1 + 1) (w.heap.size + 1) (w.heap.size + 1 + 1 + 1 + 1) (w.heap.size + 1 + 1 + 1 + 1 + 1 + 1) d W6 [] := ⟨⟨_, [], hk4, ROwn.nil _ _, rfl⟩, ⟨hk1, k6, hk2, hk5.congr (fun t => rfl)⟩⟩
  have hit := items_any (W := W) (B := B) (s := s) (oneM (valP d)) 125 64 #[.pointer (some ⟨w.heap.size, 0, none⟩), .pointer (some ⟨w.heap.size + 1 + 1 + 1 + 1 + 1, 0, none⟩), .pointer (some ⟨w.heap.size + 1 + 1 + 1, 0, none⟩), .pointer (some ⟨w.heap.size + 1, 0, none⟩)] (w.heap.size + 1 + 1 + 1) (JM B (w.heap.size + 1 + 1 + 1) w.heap.size (w.heap.size + 1 + 1 + 1 + 1 + 1) (w.heap.size + 1) (w.heap.size + 1 + 1 + 1 + 1) (w.heap.size + 1 + 1 + 1 + 1 + 1 + 1) d) hs (fun args w => rfl) (by omega)
    (fun V V' a hj hf => hj.fr hf (by omega)) List.length (fun q a he hq h0 => by
      have := (val_c d (keyP a q).2).2 h0
      rw [key_c] at this
      show (a ++ [((keyP a q).1, (valP d (keyP a q).2).2)]).length ≤ (valP d (keyP a q).2).1.c
      simp only [List.length_append, List.length_cons, List.length_nil]
      omega)
    (fun V q a hbV hq he hl hj => pairs1_any d hC hs hF hT _ _ _ _ _ (w.heap.size + 1 + 1 + 1 + 1 + 1 + 1) (w.heap.size + 1 + 1 + 1) (by omega) hj.jx.bs.lt hq he hl hj)
    (fun q a => oneM_len (val_len d) q a) (h.below hb) hj0 (Nat.zero_le _) (by omega)
  have HIT := Lib.hid hit
  have HB := Lib.hid hb
  have HK3 := Lib.hid hk3
  have HN : Hid (B < w.heap.size ∧ W.heap.size ≤ w.heap.size) := Lib.hid ⟨hBl, hWl⟩
  have HW : Hid (W6 = (((((w.alloc (.cells #[.pointer (some ⟨B, 0, none⟩)] 43)).alloc (.cells #[.int .i64 (d : Int)] 3)).alloc (.cells #[.int .i64 0, .int .i64 0, .string ⟨#[]⟩, .slice none 0 0, .slice none 0 0] 25)).alloc (.cells #[.int .i64 6, .int .i64 0, .string ⟨#[]⟩, .slice none 0 0, .slice none 0 0] 25)).alloc (.map #[] 0)).alloc (.cells #[.map (some (w.heap.size + 1 + 1 + 1 + 1))] 80)) := Lib.hid (by rw [hW6, hW5, hW4, hW3, hW2, hW1])
  clear hit hj0 hk1 hk2 hk3 hk4 hk5 k5 k6 b34 b46 b5 b6 s5 s6 hW5 hW6 k1 k2 k3 k4 hb b1 b2 b3 b4 s1 s2 s3 s4 hW1 hW2 hW3 hW4 hBl hWl hBW h hC hs hF hT
  have mm := makeT
  go_enter Tryz.func42, Tryz.ntmps42
  go_wp2_with fail
  rw [← HW.out]
  refine HIT.out.mono ?_
  rintro e w1 ⟨rfl, hp1, hj1, hf1⟩
  obtain ⟨⟨vl, ml, hbv, hrow, hpl⟩, hjx⟩ := hj1
  obtain ⟨A, c, rfl, _⟩ := hrow.shape
  obtain ⟨v, e1, e2, e3, e4, e5, e6, e7, e8, e9⟩ := VOwn.mk' (base := w.heap.size + 1 + 1 + 1) (w := w1) (k := 6) (n := 0) (s := ⟨#[]⟩) rfl rfl (ROwn.nil _ _) (hrow.base_le (by omega)) (fun x hx => by cases hx) (fun x hx => (hrow.fr x hx).mono (fun b _ e => by cases e))
  have HBV := Lib.hid hbv
  have HK1 := Lib.hid (HK3.out.fr hf1 (by have := HN.out; omega))
  have HEND : Hid (∀ w2, Fr (· = w.heap.size + 1 + 1) w1 w2 → ValP W B s ((itemsP (oneM (valP d)) 125 p []).1, .mk 6 0 ⟨#[]⟩ [] ((itemsP (oneM (valP d)) 125 p []).2.map Prod.fst) ((itemsP (oneM (valP d)) 125 p []).2.map Prod.snd)) w (.returned v.val) w2) := Lib.hid (fun w2 h2 => val_end (R := w.heap.size + 1 + 1) (base := w.heap.size + 1 + 1 + 1) hp1 e9 (by rw [e8]; exact pv_pairs hpl) h2 (((Fr.of_below HB.out).trans_new hf1 (fun j hj e => by omega))) (by have := HN.out; omega))
  have HV : Hid (v.val = .agg #[.int .i64 6, .int .i64 0, .string ⟨#[]⟩, .slice none 0 0, (.slice A ml.length c)]) := Lib.hid (by
    unfold MV.val
    rw [e1, e2, e3, e7, e5, show (Value.slice v.lA v.l.length v.lc) = .slice none 0 0 by rw [e6, e4]])
  clear hp1 hbv hrow hpl hjx hf1 e1 e2 e3 e4 e5 e6 e7 e8 e9
  have x0 : w1.cell? ⟨w.heap.size + 1 + 1 + 1, 0, none⟩ = some (.int .i64 6) := HBV.out.cell 0
  have x1 : w1.cell? ⟨w.heap.size + 1 + 1 + 1, 1, none⟩ = some (.int .i64 0) := HBV.out.cell 1
  have x2 : w1.cell? ⟨w.heap.size + 1 + 1 + 1, 2, none⟩ = some (.string ⟨#[]⟩) := HBV.out.cell 2
  have x3 : w1.cell? ⟨w.heap.size + 1 + 1 + 1, 3, none⟩ = some (.slice none 0 0) := HBV.out.cell 3
  have x4 : w1.cell? ⟨w.heap.size + 1 + 1 + 1, 4, none⟩ = some (.slice A ml.length c) := HBV.out.cell 4
  have y0 : w1.cell? ⟨w.heap.size + 1 + 1, 0, none⟩ = some (.int .i64 0) := HK1.out.cell 0
  have y1 : w1.cell? ⟨w.heap.size + 1 + 1, 1, none⟩ = some (.int .i64 0) := HK1.out.cell 1
  have y2 : w1.cell? ⟨w.heap.size + 1 + 1, 2, none⟩ = some (.string ⟨#[]⟩) := HK1.out.cell 2
  have y3 : w1.cell? ⟨w.heap.size + 1 + 1, 3, none⟩ = some (.slice none 0 0) := HK1.out.cell 3
  have y4 : w1.cell? ⟨w.heap.size + 1 + 1, 4, none⟩ = some (.slice none 0 0) := HK1.out.cell 4
  have z0 : w1.frozen? ⟨w.heap.size + 1 + 1, 0, none⟩ = false := HK1.out.frozen 0
  have z1 : w1.frozen? ⟨w.heap.size + 1 + 1, 1, none⟩ = false := HK1.out.frozen 1
  have z2 : w1.frozen? ⟨w.heap.size + 1 + 1, 2, none⟩ = false := HK1.out.frozen 2
  have z3 : w1.frozen? ⟨w.heap.size + 1 + 1, 3, none⟩ = false := HK1.out.frozen 3
  have z4 : w1.frozen? ⟨w.heap.size + 1 + 1, 4, none⟩ = false := HK1.out.frozen 4
  have HFK := Lib.hid (((((HK1.out.set_ 0 (.int .i64 6)).set_ 1 (.int .i64 0)).set_ 2 (.string ⟨#[]⟩)).set_ 3 (.slice none 0 0)).set_ 4 (.slice A ml.length c))
  go_wp2
  have k0 := HFK.out.cell 0
  have k1 := HFK.out.cell 1
  have k2 := HFK.out.cell 2
  have k3 := HFK.out.cell 3
  have k4 := HFK.out.cell 4
  simp at k0 k1 k2 k3 k4
  refine bodyPost_ret (v := v.val) (by rw [HV.out]; simp [results, Tryz.results42, go_sem, k0, k1, k2, k3, k4]) rfl ?_
  exact HEND.out _ fr_put5
end Go.Proofs.YteofdpogjnojnaaGreatDoor
