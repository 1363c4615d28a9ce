/-
  due.row: Swap.
-/
import Derived.Test.YtdhilhjiccpkkaaDueW3
import Derived.BigRegion
import Derived.Deep.RegionHeld3
namespace Go.Proofs.Ytdhilhjiccpkkaa
open Go.RowKit
set_option linter.unusedVariables false

/-- a row whose map does not yet tell the places -/
structure HRM (w : World) (base r M : Nat) (v : Value) (l : List Du) (f : ByteArray → Option Nat) : Prop where
  ge : base ≤ r ∧ base ≤ M
  row : Blk w r 55 #[v, .map (some M)]
  own : DR w base v l
  map : SM w M f
  nd : (Nm l).Nodup
  few : l.length ≤ 256
  ok : ∀ d ∈ l, OkDu d
theorem cell_fr {w w' : World} {S : Nat → Prop} {b o : Nat} {v : Value} (hf : Fr S w w') (hb : ¬ S b) (h : w.cell? ⟨b, o, none⟩ = some v) : w'.cell? ⟨b, o, none⟩ = some v := by
  rw [← h]
  refine World.cell?_of_block (hf.block b ?_ hb)
  rcases Nat.lt_or_ge b w.heap.size with h1 | h1
  · exact h1
  · simp [World.cell?, Array.getElem?_eq_none h1] at h
theorem swap_cur {cur : Array Value} {l : List Du} {i k : Nat} {a b : Du} (h : DC cur l) (hs : l.length * 2 ≤ cur.size) (hi : i < l.length) (hk : k < l.length) (hne : i ≠ k) (ha : a = gd l i) (hb : b = gd l k) :
    DC ((((cur.setIfInBounds (i * 2) (.string b.1)).setIfInBounds (i * 2 + 1) (.int .i64 b.2)).setIfInBounds (k * 2) (.string a.1)).setIfInBounds (k * 2 + 1) (.int .i64 a.2)) (swL l i k) := by
  intro j hj
  rw [swL_length] at hj
  rw [swL_gd hi hk]
  unfold sw
  by_cases ji : j = i
  · subst ji
    rw [if_pos rfl, ← hb]
    constructor
    · rw [Array.getElem?_setIfInBounds_ne (by omega), Array.getElem?_setIfInBounds_ne (by omega), Array.getElem?_setIfInBounds_ne (by omega), Array.getElem?_setIfInBounds_self, if_pos (by omega)]
    · rw [Array.getElem?_setIfInBounds_ne (by omega), Array.getElem?_setIfInBounds_ne (by omega), Array.getElem?_setIfInBounds_self, if_pos (by simp; omega)]
  · rw [if_neg ji]
    by_cases jk : j = k
    · subst jk
      rw [if_pos rfl, ← ha]
      constructor
      · rw [Array.getElem?_setIfInBounds_ne (by omega), Array.getElem?_setIfInBounds_self, if_pos (by simp; omega)]
      · rw [Array.getElem?_setIfInBounds_self, if_pos (by simp; omega)]
    · rw [if_neg jk]
      have := h j hj
      constructor
      · rw [Array.getElem?_setIfInBounds_ne (by omega), Array.getElem?_setIfInBounds_ne (by omega), Array.getElem?_setIfInBounds_ne (by omega), Array.getElem?_setIfInBounds_ne (by omega)]; exact this.1
      · rw [Array.getElem?_setIfInBounds_ne (by omega), Array.getElem?_setIfInBounds_ne (by omega), Array.getElem?_setIfInBounds_ne (by omega), Array.getElem?_setIfInBounds_ne (by omega)]; exact this.2
theorem swap_mem {w : World} {base r M g cap n : Nat} {cur : Array Value} {l : List Du} {i k : Nat} {a b : Du} (h : HR w base r M (.slice (some ⟨g, 0, none⟩) n cap) l) (hB : Blk w g 44 cur) (hg : base ≤ g) (hn : l.length ≤ cap) (hm : cap ≤ 2 ^ 63 - 1) (hs : cur.size = cap * 2) (hdc : DC cur l) (hi : i < l.length) (hk : k < l.length) (hne : i ≠ k) (ha : a = gd l i) (hb : b = gd l k) (hnl : n = l.length) :
    HRM ((((w.setCell ⟨g, i * 2, none⟩ (.string b.1)).setCell ⟨g, i * 2 + 1, none⟩ (.int .i64 b.2)).setCell ⟨g, k * 2, none⟩ (.string a.1)).setCell ⟨g, k * 2 + 1, none⟩ (.int .i64 a.2)) base r M (.slice (some ⟨g, 0, none⟩) n cap) (swL l i k) (idxL l) ∧ Fr (RS r M (.slice (some ⟨g, 0, none⟩) n cap)) w ((((w.setCell ⟨g, i * 2, none⟩ (.string b.1)).setCell ⟨g, i * 2 + 1, none⟩ (.int .i64 b.2)).setCell ⟨g, k * 2, none⟩ (.string a.1)).setCell ⟨g, k * 2 + 1, none⟩ (.int .i64 a.2)) := by
  have hne2 := h.ne
  have hgr := (hne2.2 g rfl).1
  have hgM := (hne2.2 g rfl).2
  have hf : Fr (· = g) w ((((w.setCell ⟨g, i * 2, none⟩ (.string b.1)).setCell ⟨g, i * 2 + 1, none⟩ (.int .i64 b.2)).setCell ⟨g, k * 2, none⟩ (.string a.1)).setCell ⟨g, k * 2 + 1, none⟩ (.int .i64 a.2)) :=
    ((((Fr.refl (fun x => x = g) w).setCell (p := ⟨g, i * 2, none⟩) (fun _ => rfl) _).setCell (p := ⟨g, i * 2 + 1, none⟩) (fun _ => rfl) _).setCell (p := ⟨g, k * 2, none⟩) (fun _ => rfl) _).setCell (p := ⟨g, k * 2 + 1, none⟩) (fun _ => rfl) _
  have hB2 := (((hB.set_ (i * 2) (.string b.1)).set_ (i * 2 + 1) (.int .i64 b.2)).set_ (k * 2) (.string a.1)).set_ (k * 2 + 1) (.int .i64 a.2)
  have hsc := swap_cur hdc (by omega) hi hk hne ha hb
  refine ⟨⟨h.ge, h.row.fr' hf (fun e => hgr e.symm), ?_, h.map.fr hf (fun e => hgM e.symm), nm_nodup (swL_perm hi hk) h.nd, by rw [swL_length]; exact h.few, fun d hd => h.ok d ((swL_perm hi hk).mem_iff.1 hd)⟩, hf.mono (fun x _ e => by subst e; exact .inr (.inr rfl))⟩
  have e : n = (swL l i k).length := by rw [swL_length]; exact hnl
  rw [e]
  exact DR.mk hg hB2 (by rw [swL_length]; exact hn) hm (by simp; exact hs) hsc
set_option maxRecDepth 100000 in
set_option maxHeartbeats 4000000 in
theorem row_swap {w : World} {base r M : Nat} {v : Value} {l : List Du} (h : HR w base r M v l) {i k : Nat} (hi : i < l.length) (hk : k < l.length) (hne : i ≠ k) :
    Calls Try.prog 83 #[.pointer (some ⟨r, 0, none⟩), .int .i64 (i : Int), .int .i64 (k : Int)] w fun e w' => e = .returned (.tuple #[]) ∧ HR w' base r M v (swL l i k) ∧ Fr (RS r M v) w w' := by
  obtain ⟨g, cap, cur, rfl, hg, hB, hn, hm, hs, hdc⟩ := h.open_ (by omega)
  have c0 := h.row.cell 0
  have c1 := h.row.cell 1
  simp only [List.getElem?_toArray, List.getElem?_cons_zero, List.getElem?_cons_succ] at c0 c1
  have e0 := (hdc i hi).1
  have e1 := (hdc i hi).2
  have f0 := (hdc k hk).1
  have f1 := (hdc k hk).2
  rw [← hB.cell] at e0 e1 f0 f1
  have z0 := hB.frozen (i * 2)
  have z1 := hB.frozen (i * 2 + 1)
  have z2 := hB.frozen (k * 2)
  have z3 := hB.frozen (k * 2 + 1)
  have hrl := h.row.lt
  have hgl := hB.lt
  obtain ⟨a, ha⟩ : ∃ a, a = gd l i := ⟨_, rfl⟩
  obtain ⟨b, hb⟩ : ∃ b, b = gd l k := ⟨_, rfl⟩
  rw [← ha] at e0 e1
  rw [← hb] at f0 f1
  obtain ⟨n, hn'⟩ : ∃ n, n = l.length := ⟨_, rfl⟩
  rw [← hn'] at c0 hn hi hk
  rw [← hn']
  have HH := Lib.hid h
  have HA := Lib.hid ha
  have HB := Lib.hid hb
  have HN := Lib.hid hn'
  have HBB := Lib.hid hB
  have HDC := Lib.hid hdc
  have HSZ := Lib.hid hs
  obtain ⟨a1, a2⟩ := a
  obtain ⟨b1, b2⟩ := b
  unfold maxLen at hm
  have q1 : (0 : Int) ≤ (i : Int) := by omega
  have q2 : (i : Int) < (n : Int) := by omega
  have q3 : (0 : Int) ≤ (k : Int) := by omega
  have q4 : (k : Int) < (n : Int) := by omega
  simp only at e0 e1 f0 f1
  clear h hB hdc ha hb hn' hs
  go_enter Try.func83, Try.ntmps83
  go_wp2
  go_region
  have HX : Hid (HRM ((((w.setCell ⟨g, i * 2, none⟩ (.string b1)).setCell ⟨g, i * 2 + 1, none⟩ (.int .i64 b2)).setCell ⟨g, k * 2, none⟩ (.string a1)).setCell ⟨g, k * 2 + 1, none⟩ (.int .i64 a2)) base r M (.slice (some ⟨g, 0, none⟩) n cap) (swL l i k) (idxL l) ∧ Fr (RS r M (.slice (some ⟨g, 0, none⟩) n cap)) w ((((w.setCell ⟨g, i * 2, none⟩ (.string b1)).setCell ⟨g, i * 2 + 1, none⟩ (.int .i64 b2)).setCell ⟨g, k * 2, none⟩ (.string a1)).setCell ⟨g, k * 2 + 1, none⟩ (.int .i64 a2))) := by
    have hA := HA.out
    have hB := HB.out
    have hnn := HN.out
    refine Lib.hid (swap_mem (a := (a1, a2)) (b := (b1, b2)) ?_ HBB.out hg (by omega) hm HSZ.out HDC.out (by omega) (by omega) hne hA hB hnn)
    rw [hnn]; exact HH.out
  generalize (((w.setCell ⟨g, i * 2, none⟩ (.string b1)).setCell ⟨g, i * 2 + 1, none⟩ (.int .i64 b2)).setCell ⟨g, k * 2, none⟩ (.string a1)).setCell ⟨g, k * 2 + 1, none⟩ (.int .i64 a2) = W at HX ⊢
  have HX2 : Hid (HRM W.drew base r M (.slice (some ⟨g, 0, none⟩) n cap) (swL l i k) (idxL l) ∧ Fr (RS r M (.slice (some ⟨g, 0, none⟩) n cap)) w W.drew) := Lib.hid ⟨⟨HX.out.1.ge, HX.out.1.row, HX.out.1.own, HX.out.1.map, HX.out.1.nd, HX.out.1.few, HX.out.1.ok⟩, HX.out.2.drew⟩
  obtain ⟨V, hV⟩ : ∃ V, V = W.drew := ⟨_, rfl⟩
  rw [← hV] at HX2 ⊢
  clear hV HX c0 c1 e0 e1 f0 f1 z0 z1 z2 z3
  have hx := HX2.out.1
  have hnl := HN.out
  have hia : idxL l a1 = some i := (idx_iff HH.out.nd).2 ⟨by omega, by rw [← HA.out]⟩
  have hib : idxL l b1 = some k := (idx_iff HH.out.nd).2 ⟨by omega, by rw [← HB.out]⟩
  have hab : a1 ≠ b1 := fun e => hne (idx_inj HH.out.nd (by omega) (by omega) (by rw [← HA.out, ← HB.out]; exact e))
  obtain ⟨st1, hR1, hS1⟩ := hx.map.entry b1 k hib
  obtain ⟨es1, cl1, hT1⟩ := hS1 i
  have hM1 := (hT1 V.drew rfl).2
  obtain ⟨st2, hR2, hS2⟩ := hM1.entry a1 i (by unfold upd; rw [if_neg hab]; exact hia)
  obtain ⟨es2, cl2, hT2⟩ := hS2 k
  have r1 := hR1 V.drew rfl
  have r2 := (hT1 V.drew rfl).1
  have r3 := hR2 _ rfl
  have r4 := (hT2 _ rfl).1
  have hM2 := (hT2 _ rfl).2
  obtain ⟨A', c', hv⟩ := (show ∃ A' c', (.slice (some ⟨g, 0, none⟩) n cap : Value) = .slice A' (swL l i k).length c' from ⟨_, _, by rw [swL_length, ← hnl]⟩)
  have c0 := hx.row.cell 0
  have c1 := hx.row.cell 1
  simp only [List.getElem?_toArray, List.getElem?_cons_zero, List.getElem?_cons_succ] at c0 c1
  obtain ⟨cur2, hB2, hdc2⟩ : ∃ cur2, Blk V g 44 cur2 ∧ DC cur2 (swL l i k) := by
    rcases hx.own.shape with ⟨e, _⟩ | ⟨g', cap', cur', e, _, hB', _, _, _, hd'⟩
    · cases e
    · cases e
      exact ⟨cur', hB', hd'⟩
  have e0 := (hdc2 i (by rw [swL_length]; omega)).1
  have f0 := (hdc2 k (by rw [swL_length]; omega)).1
  rw [← hB2.cell, swL_gd (by omega) (by omega), sw_l, ← HB.out] at e0
  rw [← hB2.cell, swL_gd (by omega) (by omega), sw_r, ← HA.out] at f0
  simp only at e0 f0
  have HM2 := Lib.hid hM2
  clear hx hnl hia hib hR1 hS1 hT1 hM1 hR2 hS2 hT2 hM2 hv hB2 hdc2 hne
  have hne2 := HH.out.ne
  have HKS : Hid (∀ (V : World) (o : Obj), (fun V : World => V.cell? ⟨r, 0, none⟩ = some (.slice (some ⟨g, 0, none⟩) n cap) ∧ V.cell? ⟨r, 1, none⟩ = some (.map (some M)) ∧ V.cell? ⟨g, i * 2, none⟩ = some (.string b1) ∧ V.cell? ⟨g, k * 2, none⟩ = some (.string a1)) V → (fun V : World => V.cell? ⟨r, 0, none⟩ = some (.slice (some ⟨g, 0, none⟩) n cap) ∧ V.cell? ⟨r, 1, none⟩ = some (.map (some M)) ∧ V.cell? ⟨g, i * 2, none⟩ = some (.string b1) ∧ V.cell? ⟨g, k * 2, none⟩ = some (.string a1)) (Go.ChangeMaps.setBlock V M o)) := Lib.hid (fun V o h => by
    have hf := fr_setBlock V M o
    have hrM := hne2.1
    have hgM := (hne2.2 g (by rfl)).2
    obtain ⟨h1, h2, h3, h4⟩ := h
    exact ⟨(cell_fr hf hrM h1), (cell_fr hf hrM h2), (cell_fr hf hgM h3), (cell_fr hf hgM h4)⟩)
  clear hne2
  go_wp2
  go_region_held3 (fun V : World => V.cell? ⟨r, 0, none⟩ = some (.slice (some ⟨g, 0, none⟩) n cap) ∧ V.cell? ⟨r, 1, none⟩ = some (.map (some M)) ∧ V.cell? ⟨g, i * 2, none⟩ = some (.string b1) ∧ V.cell? ⟨g, k * 2, none⟩ = some (.string a1)) (first | go_keep | (refine HKS.out _ _ ?_; assumption)) (fail)
  go_wp2
  go_end0
  have hf1 := fr_setBlock V.drew M (.map es1 cl1)
  have hf2 := hf1.trans (fr_setBlock (Go.ChangeMaps.setBlock V.drew M (.map es1 cl1)) M (.map es2 cl2))
  have hx := HX2.out.1
  have hne2 := HH.out.ne
  have hgM := (hne2.2 g (by rfl)).2
  have hM3 := HM2.out.congr (g := idxL (swL l i k)) (fun s => by
    rw [idx_swap HH.out.nd (by have := HN.out; omega) (by have := HN.out; omega), ← HA.out, ← HB.out]
    unfold upd
    rfl)
  refine ⟨rfl, ⟨hx.ge, hx.row.fr' (w := V.drew) hf2 hne2.1, hx.own.fr (w := V.drew) hf2 (fun g' e => by cases e; exact hgM), hM3, hx.nd, hx.few, hx.ok⟩, ?_⟩
  exact HX2.out.2.drew.trans_new hf2 (fun j _ e => .inr (.inl e))
end Go.Proofs.Ytdhilhjiccpkkaa
