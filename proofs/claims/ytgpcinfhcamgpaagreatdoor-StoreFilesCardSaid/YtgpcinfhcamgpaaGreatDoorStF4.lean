/-
  store.Put.
-/
import Derived.Test.YtgpcinfhcamgpaaGreatDoorStF3
import Derived.Test.YtgpcinfhcamgpaaGreatDoorStG1
namespace Go.Proofs.YtgpcinfhcamgpaaGreatDoor
open Go.RowKit
attribute [local go_sem ↓] Go.wp_at_zero Go.wp_at_succ
set_option linter.unusedVariables false
set_option linter.unusedSimpArgs false

/-- files with a file put among them -/
def putP (l : List Fi) (f : Fi) : List Fi :=
  if l.findIdx (fun x => decide (x.nm = f.nm)) < l.length then l.set (l.findIdx (fun x => decide (x.nm = f.nm))) f
  else l.take (l.findIdx (fun x => bl' f.nm x.nm)) ++ f :: l.drop (l.findIdx (fun x => bl' f.nm x.nm))
theorem findIdx_fi (p : FV → Bool) (q : Fi → Bool) (h : ∀ f, q (FV.fi f) = p f) (fs : List FV) : (fiL fs).findIdx q = fs.findIdx p := by
  unfold fiL
  rw [List.findIdx_map]
  congr 1
  funext x
  exact h x
theorem idxG_nat {α : Type} {p : α → Bool} {l : List α} {k : Nat} (hk : k < l.length) (h : idxG p l = (k : Int)) : l.findIdx p = k := by
  unfold idxG at h
  split at h
  · omega
  · omega
theorem idxG_len {α : Type} {p : α → Bool} {l : List α} (h : idxG p l = -1) : l.findIdx p = l.length := by
  unfold idxG at h
  split at h
  · omega
  · have := List.findIdx_le_length (p := p) (xs := l)
    omega
theorem bytesLess_flip : ∀ x y : List UInt8, (!Op.bytesLess x y && !(x == y)) = Op.bytesLess y x
  | [], [] => by simp [Op.bytesLess]
  | [], _ :: _ => by simp [Op.bytesLess]
  | _ :: _, [] => by simp [Op.bytesLess]
  | a :: x, b :: y => by
    have h := bytesLess_flip x y
    rw [Op.bytesLess, Op.bytesLess, ← h]
    rcases Nat.lt_trichotomy a.toNat b.toNat with h1 | h1 | h1
    · have e1 : decide (a < b) = true := decide_eq_true h1
      have e2 : decide (b < a) = false := decide_eq_false (fun h2 => by have : b.toNat < a.toNat := h2; omega)
      have e3 : (b == a) = false := by rw [beq_eq_false_iff_ne]; intro e; subst e; omega
      simp [e1, e2, e3]
    · have e : a = b := UInt8.toNat_inj.1 h1
      subst e
      simp [Op.bytesLess]
    · have e1 : decide (b < a) = true := decide_eq_true h1
      have e2 : decide (a < b) = false := decide_eq_false (fun h2 => by have : a.toNat < b.toNat := h2; omega)
      have e3 : (a == b) = false := by rw [beq_eq_false_iff_ne]; intro e; subst e; omega
      simp [e1, e2, e3]
set_option maxHeartbeats 2000000 in
theorem put1_any (f : FV) (n : Nat) (s : ByteArray) (g : Nat) (w : World) (h : w.cell? ⟨g, 0, none⟩ = some (.string s)) (hg : g < w.heap.size) :
    Calls Tryz.prog 68 #[.agg #[.string f.nm, .slice f.A n f.c], .pointer (some ⟨g, 0, none⟩)] w fun e w' => e = .returned (.bool (bl' s f.nm)) ∧ Below w.heap.size w w' := by
  have h1 : (w.alloc (.cells #[.string f.nm, .slice f.A n f.c] 55)).cell? ⟨g, 0, none⟩ = some (.string s) := (World.cell?_alloc_lt _ _ _ hg).trans h
  obtain ⟨q, hq⟩ : ∃ q, q = bl' s f.nm := ⟨_, rfl⟩
  have hq' : (!Op.bytesLess f.nm.toList s.toList && !f.nm.toList == s.toList) = q := (bytesLess_flip _ _).trans hq.symm
  rw [← hq]
  clear h hq
  go_enter Tryz.func68, Tryz.ntmps68
  go_wp2
  go_ret
  exact ⟨rfl, (Below.refl _ _).alloc (Nat.le_refl _) _⟩
def PF (P : Ending → World → Prop) (e : Ending) (w : World) : Prop := P e w
/-- what Put answers -/
def PutP (B : Nat) (fs : List FV) (s : ByteArray) (bl : List UInt8) (w : World) (e : Ending) (w' : World) : Prop := ∃ v gs, e = .returned v ∧ OFs B w' w.heap.size v gs ∧ fiL gs = putP (fiL fs) ⟨s, bl⟩ ∧ Below w.heap.size w w'
theorem fiL_app (a b : List FV) : fiL (a ++ b) = fiL a ++ fiL b := by simp [fiL]
theorem finsert_any (B base : Nat) (v : Value) (A : Option Addr) (n c vb i : Nat) (fs : List FV) (f : FV) (w : World) (ho : OFs B w base v fs) (hv : v = .slice A n c) (hn : fs.length = n) (hi : i ≤ n) (hbig : n ≤ 2000000000000) (hB : B ≤ base) (hbase : base ≤ w.heap.size) (hvb : Blk w vb 55 (FV.cells f).toArray) (hne : v.ownBlock ≠ some vb) (hf : FVs w B f) :
    Calls Tryz.prog 69 #[.slice A n c, .int .i64 (i : Int), .slice (some ⟨vb, 0, none⟩) 1 1] w fun e w' => ∃ v', e = .returned v' ∧ OFs B w' base v' (fs.take i ++ f :: fs.drop i) ∧ Fr (fun k => v.ownBlock = some k) w w' := by
  rcases (by omega : i = n ∨ i < n) with h | h
  · subst h
    refine (finsert_end B base v A i c vb fs f w ho hv hn hbig hB hbase hvb hf).mono ?_
    rintro e w' ⟨v', rfl, h1, h2⟩
    refine ⟨v', rfl, ?_, Fr.of_grown h2 (fun k e => e)⟩
    rw [List.take_of_length_le (by omega), List.drop_of_length_le (by omega)]
    exact h1
  · obtain ⟨g, cap, cur, e, _⟩ := ho.cut (fun e => by subst e; simp at hn; omega)
    rw [hv] at e
    injection e with e1 e2 e3
    subst e1
    rw [hv] at ho hne ⊢
    rcases Nat.lt_or_ge c (n + 1) with hc | hc
    · refine (finsert_grow B base g c vb i n fs f w ho hn h hc hbig hB hbase hvb hf).mono ?_
      rintro e w' ⟨v', rfl, h1, h2⟩
      exact ⟨v', rfl, h1, Fr.of_below h2⟩
    · refine (finsert_room B base g c vb i n fs f w ho hn h hc hB hvb (fun e => hne (by rw [e]; rfl)) hf).mono ?_
      rintro e w' ⟨rfl, h1, h2⟩
      exact ⟨_, rfl, h1, h2.mono (fun k _ e => by rw [e]; rfl)⟩
/-- a part of a code: 0, 1: of a sequence -/
def partF : List Nat → Code → Code
  | [], c => c
  | 0 :: r, .seq a _ => partF r a
  | 1 :: r, .seq _ b => partF r b
  | _, _ => .skip
noncomputable def putC : Code := Tryz.f27.body.getD .skip
def pAct (u : Nat → Value) : Act := ⟨#[u 0, u 1, u 2, u 3, u 4, u 5, u 6, u 7, u 8, u 9, u 10, u 11, u 12, u 13, u 14, u 15, u 16, u 17, u 18, u 19, u 20, u 21, u 22, u 23, u 24, u 25, u 26, u 27, u 28, u 29, u 30, u 31, u 32, u 33, u 34, u 35, u 36, u 37, u 38], []⟩
theorem fiL_setF (fs : List FV) (k : Nat) (hk : k < fs.length) (f : FV) : fiL (fs.set k f) = (fiL fs).set k (FV.fi f) := by
  unfold fiL
  rw [List.map_set]
theorem put_set {fs gs : List FV} {s : ByteArray} {bl : List UInt8} (h : fiL gs = fiL fs) (k : Nat) (hk : k < gs.length) (hz : idxG (fun f : FV => decide (f.nm = s)) gs = (k : Int)) : (fiL gs).set k ⟨s, bl⟩ = putP (fiL fs) ⟨s, bl⟩ := by
  have h1 := idxG_nat hk hz
  have h2 := findIdx_fi (fun f : FV => decide (f.nm = s)) (fun x : Fi => decide (x.nm = s)) (fun f => rfl) gs
  unfold putP
  rw [← h, h2, h1, if_pos (by rw [fiL_len]; exact hk)]
theorem put_ins {fs gs : List FV} {s : ByteArray} {bl : List UInt8} (h : fiL gs = fiL fs) (j : Nat) (f : FV) (hf : FV.fi f = ⟨s, bl⟩) (hz : idxG (fun f : FV => decide (f.nm = s)) gs = -1) (hj : gs.findIdx (fun f => bl' s f.nm) = j) : fiL (gs.take j ++ f :: gs.drop j) = putP (fiL fs) ⟨s, bl⟩ := by
  have h1 := idxG_len hz
  have h2 := findIdx_fi (fun f : FV => decide (f.nm = s)) (fun x : Fi => decide (x.nm = s)) (fun f => rfl) gs
  have h3 := findIdx_fi (fun f : FV => bl' s f.nm) (fun x : Fi => bl' s x.nm) (fun f => rfl) gs
  unfold putP
  rw [← h, h2, h1, if_neg (by rw [fiL_len]; omega), h3, hj, fiL_app]
  unfold fiL
  rw [List.map_cons, List.map_take, List.map_drop, hf]
set_option maxRecDepth 100000 in
set_option maxHeartbeats 8000000 in
theorem sput_rest (B : Nat) (A : Option Addr) (n c : Nat) (fs : List FV) (s : ByteArray) (A3 : Option Addr) (nb c3 : Nat) (bl : List UInt8) (W w2 : World) (H q : Nat) (u : Nat → Value) (hu0 : u 0 = .slice A n c) (hu4 : u 4 = .pointer (some ⟨H, 0, none⟩)) (hu7 : u 7 = .pointer (some ⟨q, 0, none⟩)) (hb2 : Below W.heap.size W w2) (hs : w2.cell? ⟨H, 0, none⟩ = some (.string s)) (hH : H < w2.heap.size) (hq : Blk w2 q 55 #[.string s, .slice A3 nb c3])
    (hnb : bl.length = nb) (hf : FVs w2 B ⟨s, A3, c3, bl⟩) (hl : Fls w2 A fs) (hn : fs.length = n) (hbig : n ≤ 1000000000000) (hv : ∀ f ∈ fs, FVs w2 B f) (hB : B ≤ W.heap.size) (hbl : ∀ f ∈ fs, f.b.length ≤ 140737488355328) :
    Code.wp Tryz.prog (partF [1, 1] putC) (bodyPost Tryz.prog Tryz.f27 (PF (PutP B fs s bl W))) (pAct u) w2 := by
  have HB := Lib.hid hB
  have HB2 := Lib.hid hb2
  have HCP := Lib.hid (copies_any B A n c fs w2 hl hn (by omega) hv (Nat.le_trans hB hb2.size) hbl)
  have HS := Lib.hid hs
  have HH := Lib.hid hH
  have HQ := Lib.hid hq
  have HF := Lib.hid hf
  have HN := Lib.hid hn
  have HNB := Lib.hid hnb
  clear hb2 hs hH hq hf hl hn hv hB hbl hnb
  conv => arg 2; whnf
  unfold pAct
  rw [hu0, hu4, hu7]
  clear hu0 hu4 hu7
  go_wp2_with fail
  refine HCP.out.mono ?_
  rintro e w3 ⟨v, gs, rfl, hown, hfi, hb3⟩
  obtain ⟨A1, c1, rfl, hc1, hcm, hf1⟩ := hown.fls
  have hgn : gs.length = n := by rw [← HN.out, ← fiL_len gs, hfi, fiL_len]
  rw [hgn]
  rw [hgn] at hown
  have HO := Lib.hid hown
  have HFI := Lib.hid hfi
  have HGN := Lib.hid hgn
  have HB3 := Lib.hid hb3
  have HAT := Lib.hid (sat_any A1 n c1 gs s w3 hf1 hgn (by omega))
  have hs3 : w3.cell? ⟨H, 0, none⟩ = some (.string s) := (hb3.cell (p := ⟨H, 0, none⟩) HH.out).trans HS.out
  clear hown hfi hb3 hc1 hcm hf1 hgn HCP
  go_wp2_with fail
  refine HAT.out.mono ?_
  rintro e w4 ⟨rfl, hb4⟩
  have HB4 : Hid (Below w2.heap.size w2 w4) := Lib.hid (HB3.out.trans (hb4.mono HB3.out.size))
  have HO4 := Lib.hid (HO.out.below hb4)
  have HQ4 := Lib.hid (HQ.out.below HB4.out HQ.out.lt)
  have hs4 : w4.cell? ⟨H, 0, none⟩ = some (.string s) := (HB4.out.cell (p := ⟨H, 0, none⟩) HH.out).trans HS.out
  clear hb4 hs3 HAT HO
  obtain ⟨z, hz⟩ : ∃ z, z = idxG (fun f : FV => decide (f.nm = s)) gs := ⟨_, rfl⟩
  rw [← hz]
  have c0 := HQ4.out.cell 0
  have c1' := HQ4.out.cell 1
  simp only [List.getElem?_toArray, List.getElem?_cons_zero, List.getElem?_cons_succ] at c0 c1'
  rcases idxG_cases (fun f : FV => decide (f.nm = s)) gs with h | ⟨k, hk, h⟩
  · rw [h] at hz
    have HZ := Lib.hid h
    subst hz
    clear h
    have HIX := Lib.hid (indexFile_any 68 #[.pointer (some ⟨H, 0, none⟩)] (fun _ _ => by kernel_rfl) A1 n c1 gs w4 (fun f : FV => bl' s f.nm) (by
      obtain ⟨A9, c9, e, _, _, h9⟩ := HO4.out.fls
      injection e with e _ _
      subst e
      exact h9) HGN.out (by omega) (fun k hk V hV => by
      have h1 : V.cell? ⟨H, 0, none⟩ = some (.string s) := (hV.cell (p := ⟨H, 0, none⟩) (Nat.lt_of_lt_of_le HH.out HB4.out.size)).trans hs4
      refine (put1_any gs[k] gs[k].b.length s H V h1 (Nat.lt_of_lt_of_le HH.out (Nat.le_trans HB4.out.size hV.size))).mono ?_
      rintro e w' ⟨rfl, hb⟩
      exact ⟨rfl, hV.trans (hb.mono hV.size)⟩))
    go_wp2_with fail
    refine HIX.out.mono ?_
    rintro e w5 ⟨rfl, hb5⟩
    obtain ⟨z2, hz2⟩ : ∃ z, z = idxG (fun f : FV => bl' s f.nm) gs := ⟨_, rfl⟩
    rw [← hz2]
    have HB5 : Hid (Below w2.heap.size w2 w5) := Lib.hid (HB4.out.trans (hb5.mono HB4.out.size))
    have HO5 := Lib.hid (HO4.out.below hb5)
    have HQ5 := Lib.hid (HQ.out.below HB5.out HQ.out.lt)
    clear hb5 c0 c1' HO4 HQ4 HIX hs4
    have c0 := HQ5.out.cell 0
    have c1' := HQ5.out.cell 1
    simp only [List.getElem?_toArray, List.getElem?_cons_zero, List.getElem?_cons_succ] at c0 c1'
    obtain ⟨W6, hW6⟩ : ∃ W6, W6 = w5.alloc (.cells #[.string s, .slice A3 nb c3] 55) := ⟨_, rfl⟩
    have hb6 : Below w5.heap.size w5 W6 := by rw [hW6]; exact (Below.refl _ _).alloc (Nat.le_refl _) _
    have hB6 : Below w2.heap.size w2 W6 := HB5.out.trans (hb6.mono HB5.out.size)
    have hk6 : Blk W6 w5.heap.size 55 #[.string s, .slice A3 nb c3] := by rw [hW6]; exact Blk.new _ _ _
    have hins := fun (j : Nat) (hj : j ≤ n) => finsert_any B w2.heap.size (.slice A1 n c1) A1 n c1 w5.heap.size j gs ⟨s, A3, c3, bl⟩ W6 (HO5.out.below hb6) rfl HGN.out hj (by omega) (Nat.le_trans HB.out HB2.out.size) hB6.size (by
      have : (FV.cells ⟨s, A3, c3, bl⟩).toArray = #[.string s, .slice A3 nb c3] := by simp only [FV.cells, HNB.out]
      rw [this]; exact hk6) (fun e => by have := HO5.out.lt _ e; omega) (HF.out.below hB6)
    have HB6 := Lib.hid hB6
    have HINS := Lib.hid hins
    have HEND : Hid (∀ (j : Nat) (v' : Value) (w' : World), gs.findIdx (fun f => bl' s f.nm) = j → OFs B w' w2.heap.size v' (gs.take j ++ ⟨s, A3, c3, bl⟩ :: gs.drop j) → Fr (fun k => (Value.slice A1 n c1).ownBlock = some k) W6 w' → PF (PutP B fs s bl W) (.returned v') w') := Lib.hid (fun j v' w' hj ho hf =>
      ⟨v', _, rfl, ho.base_le HB2.out.size, put_ins HFI.out j _ rfl HZ.out hj, Fr.below_trans (HB2.out.trans (HB6.out.mono HB2.out.size)) hf (HB2.out.trans (HB6.out.mono HB2.out.size)).size (fun k e => Nat.le_trans HB2.out.size (HO5.out.ge k e))⟩)
    clear hb6 hB6 hk6 hins
    rcases idxG_cases (fun f : FV => bl' s f.nm) gs with h | ⟨j, hj, h⟩
    · rw [h] at hz2
      have HJ : Hid (gs.findIdx (fun f => bl' s f.nm) = n) := Lib.hid ((idxG_len h).trans HGN.out)
      subst hz2
      clear h
      go_wp2_with fail
      rw [← hW6]
      refine (HINS.out n (Nat.le_refl _)).mono ?_
      rintro e w7 ⟨v', rfl, ho, hf⟩
      have HR := Lib.hid (HEND.out n v' w7 HJ.out ho hf)
      clear ho hf
      go_wp2
      go_ret
      exact HR.out
    · rw [h] at hz2
      have HJ : Hid (gs.findIdx (fun f => bl' s f.nm) = j) := Lib.hid (idxG_nat hj h)
      have HJN : Hid (j ≤ n) := Lib.hid (by rw [← HGN.out]; omega)
      subst hz2
      have t1 : decide ((j : Int) < 0) = false := by rw [decide_eq_false_iff_not]; omega
      clear h hj
      go_wp2_with fail
      rw [← hW6]
      refine (HINS.out j HJN.out).mono ?_
      rintro e w7 ⟨v', rfl, ho, hf⟩
      have HR := Lib.hid (HEND.out j v' w7 HJ.out ho hf)
      clear ho hf
      go_wp2
      go_ret
      exact HR.out
  · rw [h] at hz
    have hkn : k < n := by rw [← HGN.out]; exact hk
    obtain ⟨g, cap, cur, ev, hg, hbk, _⟩ := HO4.out.cut (fun e => by subst e; simp at hk)
    injection ev with ev1 ev2 ev3
    subst ev1
    have hset0 := OFs.set0 HO4.out (Nat.le_trans HB.out HB2.out.size) HGN.out k hk s
    have hno : NoB8 w4 B (· = g) := fun j e => HO4.out.noB (Nat.le_trans HB.out HB2.out.size) j (by subst e; rfl)
    have hset1 := OFs.set1 hset0.1 (Nat.le_trans HB.out HB2.out.size) (by rw [List.length_set]; exact HGN.out) k (by rw [List.length_set]; exact hk) A3 c3 bl ((HF.out.below HB4.out).1.fr hset0.2 hno) HF.out.2
    have hx : (gs.set k ⟨s, gs[k].A, gs[k].c, gs[k].b⟩).set k ⟨((gs.set k ⟨s, gs[k].A, gs[k].c, gs[k].b⟩)[k]'(by rw [List.length_set]; exact hk)).nm, A3, c3, bl⟩ = gs.set k ⟨s, A3, c3, bl⟩ := by
      rw [List.set_set]
      simp
    rw [hx] at hset1
    rw [HNB.out] at hset1
    have HR : Hid (PF (PutP B fs s bl W) (.returned (.slice (some ⟨g, 0, none⟩) n c1)) ((w4.setCell ⟨g, k * 2, none⟩ (.string s)).setCell ⟨g, k * 2 + 1, none⟩ (.slice A3 nb c3))) := Lib.hid (by
      refine ⟨_, _, rfl, hset1.1.base_le HB2.out.size, ?_, Fr.below_trans (HB2.out.trans (HB4.out.mono HB2.out.size)) (hset0.2.trans hset1.2) (HB2.out.trans (HB4.out.mono HB2.out.size)).size (fun j e => by subst e; exact Nat.le_trans HB2.out.size hg)⟩
      rw [fiL_setF gs k hk]
      exact put_set HFI.out k hk h)
    have hz0 := hbk.frozen (k * 2)
    have hz1 := hbk.frozen (k * 2 + 1)
    obtain ⟨A9, c9, e9, _, _, h9⟩ := HO4.out.fls
    injection e9 with e91 e92 e93
    subst e91
    obtain ⟨b, o, hA, hb, d0, d1, _⟩ := h9.at_ hk
    injection hA with hA
    injection hA with hA1 hA2 _
    subst hA1
    subst hA2
    rw [Nat.zero_add] at d0 d1
    have t1 : decide ((0 : Int) ≤ (k : Int)) = true := by rw [decide_eq_true_iff]; omega
    have hki : (k : Int) < (n : Int) := by omega
    have hk0 : (0 : Int) ≤ (k : Int) := by omega
    subst hz
    clear h hset0 hset1 hx hno hbk hg ev2 ev3 e92 e93 h9 hb hs4
    go_wp2
    go_ret
    exact HR.out
theorem pact_lit (a : Act) (hs : a.tmps.size = 39) (hd : a.defers = []) : ∃ u : Nat → Value, (∀ k, a.tmps.getD k undef = u k) ∧ a = pAct u := by
  refine ⟨fun k => a.tmps.getD k undef, fun _ => rfl, ?_⟩
  obtain ⟨t, d⟩ := a
  simp only at hs hd
  subst hd
  have h : t = ((List.range 39).map fun k => t.getD k undef).toArray := by
    apply Array.ext
    · simp [hs]
    · intro j h1 h2
      simp [Array.getD, h1]
  unfold pAct
  congr 1
set_option maxRecDepth 100000 in
set_option maxHeartbeats 8000000 in
theorem sput_any (B : Nat) (A : Option Addr) (n c : Nat) (fs : List FV) (s : ByteArray) (A2 : Option Addr) (nb c2 : Nat) (bl : List UInt8) (w : World) (hl : Fls w A fs) (hn : fs.length = n) (hbig : n ≤ 1000000000000) (hv : ∀ f ∈ fs, FVs w B f) (hB : B ≤ w.heap.size) (hbl : ∀ f ∈ fs, f.b.length ≤ 140737488355328) (hb : RB w A2 bl) (hbn : bl.length = nb) (hbb : nb ≤ 140737488355328) :
    Calls Tryz.prog 27 #[.slice A n c, .string s, .slice A2 nb c2] w fun e w' => PutP B fs s bl w e w' := by
  show Calls Tryz.prog 27 #[.slice A n c, .string s, .slice A2 nb c2] w fun e w' => PF (PutP B fs s bl w) e w'
  have HRE : Hid (∀ (a : Act) (w2 : World) (q : Nat) (A3 : Option Addr) (c3 : Nat), a.tmps.size = 39 → a.defers = [] → a.tmps.getD 0 undef = .slice A n c → a.tmps.getD 4 undef = .pointer (some ⟨w.heap.size, 0, none⟩) → a.tmps.getD 7 undef = .pointer (some ⟨q, 0, none⟩) → Below w.heap.size w w2 → w2.cell? ⟨w.heap.size, 0, none⟩ = some (.string s) → w.heap.size < w2.heap.size → Blk w2 q 55 #[.string s, .slice A3 nb c3] → FVs w2 B ⟨s, A3, c3, bl⟩ →
      Code.wp Tryz.prog (partF [1, 1] putC) (bodyPost Tryz.prog Tryz.f27 (PF (PutP B fs s bl w))) a w2) := Lib.hid (by
    intro a w2 q A3 c3 hs hd h0 h4 h7 hb2 hc hH hq hf
    obtain ⟨u, hu, rfl⟩ := pact_lit a hs hd
    exact sput_rest B A n c fs s A3 nb c3 bl w w2 w.heap.size q u ((hu 0).symm.trans h0) ((hu 4).symm.trans h4) ((hu 7).symm.trans h7) hb2 hc hH hq hbn hf (hl.below hb2) hn hbig (fun f hf => (hv f hf).below hb2) hB hbl)
  have hb0 : Below w.heap.size w (w.alloc (.cells #[.string s] 9)) := (Below.refl _ _).alloc (Nat.le_refl _) _
  have HB0 := Lib.hid hb0
  have hk0 : Blk (w.alloc (.cells #[.string s] 9)) w.heap.size 9 #[.string s] := Blk.new _ _ _
  have HK0 := Lib.hid hk0
  have HCL := Lib.hid (fun V (hV : Below w.heap.size w V) => clone_n A2 nb c2 bl V hbn hbb (hb.below hV))
  have HNB := Lib.hid hbn
  have hBH := hB
  have hsz : (w.alloc (.cells #[.string s] 9)).heap.size = w.heap.size + 1 := by simp
  obtain ⟨H, hH⟩ : ∃ H, H = w.heap.size := ⟨_, rfl⟩
  rw [← hH] at HB0 HK0 HRE HCL hBH
  have HBH := Lib.hid hBH
  have HH := Lib.hid hH
  refine calls_of_wp Tryz.func27 (c := putC) rfl ?_
  simp only [Tryz.ntmps27, List.size_toArray, List.length_cons, List.length_nil, Nat.reduceAdd, Nat.reduceSub, Array.replicate_succ, Array.replicate_zero, List.push_toArray, List.append_toArray, List.nil_append, List.cons_append]
  rw [show putC = (partF [0] putC).seq ((partF [1, 0] putC).seq (partF [1, 1] putC)) from rfl]
  generalize partF [1, 1] putC = KT at HRE ⊢
  clear hb0 hk0 hl hn hv hB hbl hb hbn hBH
  conv => arg 2; arg 1; whnf
  conv => arg 2; arg 2; arg 1; whnf
  go_wp2_with fail
  rw [← hH]
  obtain ⟨W1, hW1⟩ : ∃ W1, W1 = w.alloc (.cells #[.string s] 9) := ⟨_, rfl⟩
  rw [← hW1] at hsz HB0 HK0 ⊢
  clear hW1 hH hsz
  have HSZ : Hid (H ≤ W1.heap.size) := Lib.hid (Nat.le_of_lt HK0.out.lt)
  have HC0 : Hid (∀ V, Below W1.heap.size W1 V → V.cell? ⟨H, 0, none⟩ = some (.string s)) := Lib.hid (fun V hV => (hV.cell (p := ⟨H, 0, none⟩) HK0.out.lt).trans (HK0.out.cell 0))
  refine wp_region_held_drew (S := fun V => Below W1.heap.size W1 V) (by kernel_rfl) ((Below.refl _ _).drew) (fun hS1 => ?_)
  refine wpAnyH_take (i := 0) (oi := ⟨some 11, _, _, _, _, _⟩) (v := .string s) rfl (by kernel_rfl) (by kernel_rfl) (by kernel_rfl) (fun _ _ _ h => h) (.inl ⟨by kernel_rfl, fun V hS => by have hc := HC0.out V hS; go_simp⟩) hS1 ?_
  simp only [Act.put, List.setIfInBounds_toArray, List.set_cons_zero, List.set_cons_succ]
  refine wpAnyH_take (i := 1) (oi := ⟨some 12, _, _, _, _, _⟩) (v := .slice A2 nb c2) rfl (by kernel_rfl) (by kernel_rfl) (by kernel_rfl) (fun _ _ _ h => h) (.inl ⟨by kernel_rfl, fun V hS => by go_simp⟩) hS1 ?_
  simp only [Act.put, List.setIfInBounds_toArray, List.set_cons_zero, List.set_cons_succ]
  refine wpAnyH_ready (rs := [2, 4]) (by kernel_rfl) (by simp) ?_
  refine AllReadyH.cons rfl (fun K' hK => ?_) (AllReadyH.cons rfl (fun K' hK => ?_) AllReadyH.nil)
  · go_simp
    refine (HCL.out _ (HB0.out.trans (hS1.mono (by rw [HH.out]; exact HB0.out.size)))).mono ?_
    rintro e w2 ⟨v, rfl, hv, hb2⟩
    obtain ⟨A3, c3, rfl, hc3, hm3, hr3, _⟩ := hv.shape
    rw [HNB.out]
    have HV := Lib.hid hv
    have HM3 := Lib.hid (And.intro hc3 hm3)
    go_simp
    refine hK.out _ _ (hS1.trans (hb2.mono hS1.size)) (fun hS2 => ?_)
    clear hK K'
    refine wpAnyH_take (i := 3) (oi := ⟨some 14, _, _, _, _, _⟩) (v := .agg #[.string s, .slice A3 nb c3]) rfl (by kernel_rfl) (by kernel_rfl) (by kernel_rfl) (fun _ _ _ h => h) (.inl ⟨by kernel_rfl, fun V hS => by go_simp⟩) hS2 ?_
    simp only [Act.put, List.setIfInBounds_toArray, List.set_cons_zero, List.set_cons_succ]
    refine wpAnyH_ready (rs := [4]) (by kernel_rfl) (by simp) ?_
    refine AllReadyH.cons rfl (fun K' hK => ?_) AllReadyH.nil
    go_simp
    refine hK.out _ _ (hS2.alloc hS2.size _) (fun hS3 => ?_)
    clear hK K'
    have hk3 : Blk (w2.alloc (.cells #[.string ⟨#[]⟩, .slice none 0 0] 55)) w2.heap.size 55 #[.string ⟨#[]⟩, .slice none 0 0] := Blk.new _ _ _
    have hbd : BodyS (w2.alloc (.cells #[.string ⟨#[]⟩, .slice none 0 0] 55)) B A3 bl := (BodyS.of_ob HV.out).below ((Below.refl _ _).alloc (Nat.le_refl _) _)
    have HQ1 : Hid (W1.heap.size ≤ w2.heap.size) := Lib.hid hS2.size
    generalize w2.alloc (.cells #[.string ⟨#[]⟩, .slice none 0 0] 55) = W3 at hk3 hbd hS3 ⊢
    generalize w2.heap.size = q at hk3 HQ1 ⊢
    have HK3 := Lib.hid hk3
    have HBD := Lib.hid hbd
    clear hk3 hbd
    refine wpAnyH_ready (rs := [5]) (by kernel_rfl) (by simp) ?_
    refine AllReadyH.cons rfl (fun K' hK => ?_) AllReadyH.nil
    have hz0 := HK3.out.frozen 0
    have hz1 := HK3.out.frozen 1
    have d0 := HK3.out.cell 0
    have d1 := HK3.out.cell 1
    simp only [List.getElem?_toArray, List.getElem?_cons_zero, List.getElem?_cons_succ] at d0 d1
    go_simp
    refine hK.out _ _ ((hS3.setCell (p := ⟨q, 0, none⟩) HQ1.out _).setCell (p := ⟨q, 1, none⟩) HQ1.out _) (fun hS9 => ?_)
    clear hK K'
    refine wpAnyH_done (by kernel_rfl) ?_ _
    have HS9 := Lib.hid hS9
    clear hS9
    go_wp2
    have hf4 : Fr (· = q) W3 ((W3.setCell ⟨q, 0, none⟩ (.string s)).setCell ⟨q, 1, none⟩ (.slice A3 nb c3)) := ((Fr.refl (· = q) W3).setCell (p := ⟨q, 0, none⟩) (fun _ => rfl) _).setCell (p := ⟨q, 1, none⟩) (fun _ => rfl) _
    have hk4 : Blk ((W3.setCell ⟨q, 0, none⟩ (.string s)).setCell ⟨q, 1, none⟩ (.slice A3 nb c3)) q 55 #[.string s, .slice A3 nb c3] := (HK3.out.set_ 0 (.string s)).set_ 1 (.slice A3 nb c3)
    have hno : NoB8 W3 B (· = q) := fun j e => by
      have e' : j = q := e
      rw [e']
      refine ⟨Nat.le_trans HBH.out (Nat.le_trans HSZ.out HQ1.out), fun cs fr e => ?_⟩
      rw [show W3.heap[q]? = _ from HK3.out] at e
      injection e with e
      injection e with _ e2 _
      exact absurd e2 (by decide)
    have hfv : FVs ((W3.setCell ⟨q, 0, none⟩ (.string s)).setCell ⟨q, 1, none⟩ (.slice A3 nb c3)) B ⟨s, A3, c3, bl⟩ := FVs.fr (f := ⟨s, A3, c3, bl⟩) ⟨HBD.out, HM3.out⟩ hf4 hno
    exact HRE.out _ _ q A3 c3 rfl rfl rfl rfl rfl (HB0.out.trans (HS9.out.mono (by rw [HH.out]; exact HB0.out.size))) (HC0.out _ HS9.out) (Nat.lt_of_lt_of_le HK0.out.lt HS9.out.size) hk4 hfv
  · go_simp
    refine hK.out _ _ (hS1.alloc hS1.size _) (fun hS2 => ?_)
    clear hK K'
    refine wpAnyH_ready (rs := [2]) (by kernel_rfl) (by simp) ?_
    refine AllReadyH.cons rfl (fun K' hK => ?_) AllReadyH.nil
    go_simp
    refine (HCL.out _ (HB0.out.trans (hS2.mono (by rw [HH.out]; exact HB0.out.size)))).mono ?_
    rintro e w2 ⟨v, rfl, hv, hb2⟩
    obtain ⟨A3, c3, rfl, hc3, hm3, hr3, _⟩ := hv.shape
    rw [HNB.out]
    have HV := Lib.hid hv
    have HM3 := Lib.hid (And.intro hc3 hm3)
    go_simp
    refine hK.out _ _ (hS2.trans (hb2.mono hS2.size)) (fun hS3 => ?_)
    clear hK K'
    refine wpAnyH_take (i := 3) (oi := ⟨some 14, _, _, _, _, _⟩) (v := .agg #[.string s, .slice A3 nb c3]) rfl (by kernel_rfl) (by kernel_rfl) (by kernel_rfl) (fun _ _ _ h => h) (.inl ⟨by kernel_rfl, fun V hS => by go_simp⟩) hS3 ?_
    simp only [Act.put, List.setIfInBounds_toArray, List.set_cons_zero, List.set_cons_succ]
    have HK3 : Hid (Blk w2 W1.heap.size 55 #[.string ⟨#[]⟩, .slice none 0 0]) := Lib.hid ((Blk.new W1.drew 55 #[.string ⟨#[]⟩, .slice none 0 0]).below hb2 (by simp))
    have HBD : Hid (BodyS w2 B A3 bl) := Lib.hid (BodyS.of_ob HV.out)
    have HQ1 : Hid (W1.heap.size ≤ W1.heap.size) := Lib.hid (Nat.le_refl _)
    refine wpAnyH_ready (rs := [5]) (by kernel_rfl) (by simp) ?_
    refine AllReadyH.cons rfl (fun K' hK => ?_) AllReadyH.nil
    have hz0 := HK3.out.frozen 0
    have hz1 := HK3.out.frozen 1
    have d0 := HK3.out.cell 0
    have d1 := HK3.out.cell 1
    simp only [List.getElem?_toArray, List.getElem?_cons_zero, List.getElem?_cons_succ] at d0 d1
    go_simp
    refine hK.out _ _ ((hS3.setCell (p := ⟨W1.heap.size, 0, none⟩) HQ1.out _).setCell (p := ⟨W1.heap.size, 1, none⟩) HQ1.out _) (fun hS9 => ?_)
    clear hK K'
    refine wpAnyH_done (by kernel_rfl) ?_ _
    have HS9 := Lib.hid hS9
    clear hS9
    go_wp2
    have hf4 : Fr (· = W1.heap.size) w2 ((w2.setCell ⟨W1.heap.size, 0, none⟩ (.string s)).setCell ⟨W1.heap.size, 1, none⟩ (.slice A3 nb c3)) := ((Fr.refl (· = W1.heap.size) w2).setCell (p := ⟨W1.heap.size, 0, none⟩) (fun _ => rfl) _).setCell (p := ⟨W1.heap.size, 1, none⟩) (fun _ => rfl) _
    have hk4 : Blk ((w2.setCell ⟨W1.heap.size, 0, none⟩ (.string s)).setCell ⟨W1.heap.size, 1, none⟩ (.slice A3 nb c3)) W1.heap.size 55 #[.string s, .slice A3 nb c3] := (HK3.out.set_ 0 (.string s)).set_ 1 (.slice A3 nb c3)
    have hno : NoB8 w2 B (· = W1.heap.size) := fun j e => by
      have e' : j = W1.heap.size := e
      rw [e']
      refine ⟨Nat.le_trans HBH.out (Nat.le_trans HSZ.out HQ1.out), fun cs fr e => ?_⟩
      rw [show w2.heap[W1.heap.size]? = _ from HK3.out] at e
      injection e with e
      injection e with _ e2 _
      exact absurd e2 (by decide)
    have hfv : FVs ((w2.setCell ⟨W1.heap.size, 0, none⟩ (.string s)).setCell ⟨W1.heap.size, 1, none⟩ (.slice A3 nb c3)) B ⟨s, A3, c3, bl⟩ := FVs.fr (f := ⟨s, A3, c3, bl⟩) ⟨HBD.out, HM3.out⟩ hf4 hno
    exact HRE.out _ _ W1.heap.size A3 c3 rfl rfl rfl rfl rfl (HB0.out.trans (HS9.out.mono (by rw [HH.out]; exact HB0.out.size))) (HC0.out _ HS9.out) (Nat.lt_of_lt_of_le HK0.out.lt HS9.out.size) hk4 hfv
end Go.Proofs.YtgpcinfhcamgpaaGreatDoor
