/-
  store.Decode: what it returns.
-/
import Derived.Test.YtgpcinfhcamgpaaGreatDoorStD4
import Derived.Test.YtgpcinfhcamgpaaGreatDoorStE3
namespace Go.Proofs.YtgpcinfhcamgpaaGreatDoor
open Go.RowKit Glob
attribute [local go_sem ↓] Go.wp_at_zero Go.wp_at_succ
set_option linter.unusedVariables false
set_option linter.unusedSimpArgs false

def SV.dec (p1 p2 p3 : Pt) (A4 : Option Addr) (c4 : Nat) (f4 : List FV) (A5 : Option Addr) (c5 : Nat) (f5 : List FV) : SV := ⟨p1, p2, p3, A4, c4, f4, A5, c5, f5⟩
def DecPost (w : World) (l : List UInt8) (e : Ending) (w' : World) : Prop :=
  Below w.heap.size w w' ∧ ((∃ x : SV, decP fnameL pathL l = some x.sta ∧ e = .returned (.tuple #[x.v, .int .i64 0]) ∧ STy w' x ∧ SM x) ∨ (decP fnameL pathL l = none ∧ e = .returned (.tuple #[SV.none.v, .int .i64 230])))
/-- what stays while a state is read -/
structure DI (w : World) (r g : Nat) (V : World) : Prop where
  bel : Below w.heap.size w V
  res : Blk V w.heap.size 25 #[.slice none 0 0, .slice none 0 0, .slice none 0 0, .slice none 0 0, .slice none 0 0]
  box : Blk V g 67 #[.pointer (some ⟨r, 0, none⟩)]
theorem DI.fr {w V V' : World} {r g : Nat} {S : Nat → Prop} (h : DI w r g V) (hf : Fr S V V') (h1 : ∀ k, S k → w.heap.size ≤ k) (h2 : ∀ k, S k → ∃ cs, Blk V k 111 cs) : DI w r g V' :=
  ⟨Fr.below_trans h.bel hf h.bel.size h1, h.res.fr hf (fun e => by obtain ⟨cs, hb⟩ := h2 _ e; exact hb.ne_ h.res (by decide) rfl), h.box.fr hf (fun e => by obtain ⟨cs, hb⟩ := h2 _ e; exact hb.ne_ h.box (by decide) rfl)⟩
theorem DI.below {w V V' : World} {r g : Nat} (h : DI w r g V) (hb : Below V.heap.size V V') : DI w r g V' := ⟨h.bel.trans (hb.mono h.bel.size), h.res.below hb h.res.lt, h.box.below hb h.box.lt⟩
theorem DI.set_ {w V : World} {r g k : Nat} {cs : Array Value} (h : DI w r g V) (hk : Blk V k 25 cs) (hkr : w.heap.size < k) (i : Nat) (u : Value) : DI w r g (V.setCell ⟨k, i, none⟩ u) :=
  ⟨h.bel.setCell (Nat.le_of_lt hkr) u, h.res.far (by show w.heap.size ≠ k; omega) u, h.box.far (by exact h.box.ne_ hk (by decide)) u⟩
theorem RD.blk {w : World} {r : Nat} {l : List UInt8} {bad : Bool} (h : RD w r l bad) : ∃ cs, Blk w r 111 cs := by
  obtain ⟨_, _, hb, _⟩ := h
  exact ⟨_, hb⟩
theorem RD.set_ {w : World} {r k : Nat} {l : List UInt8} {bad : Bool} {cs : Array Value} {t : TypeId} (h : RD w r l bad) (hk : Blk w k t cs) (h1 : t ≠ 111) (h2 : t ≠ 5) (i : Nat) (u : Value) : RD (w.setCell ⟨k, i, none⟩ u) r l bad := by
  refine h.fr (S := (· = k)) (fr_cell u) (fun e => ?_) (fun j cs' e hb => ?_)
  · obtain ⟨cs', hb⟩ := h.blk
    subst e
    exact hb.ne_ hk (fun e => h1 e.symm) rfl
  · subst e
    exact hb.ne_ hk (fun e => h2 e.symm) rfl
theorem PtT.set_ {w : World} {k : Nat} {p : Pt} {cs : Array Value} {t : TypeId} (h : PtT w p) (hk : Blk w k t cs) (h1 : t ≠ 5) (h2 : t ≠ 55) (i : Nat) (u : Value) : PtT (w.setCell ⟨k, i, none⟩ u) p :=
  h.fr (S := (· = k)) (fr_cell u) (fun g e => by subst e; exact NoBF.of_blk hk h1 h2)
theorem OFl.set_ {w : World} {k base : Nat} {v : Value} {fs : List FV} {cs : Array Value} {t : TypeId} (h : OFl 0 w base v fs) (hk : Blk w k t cs) (h1 : t ≠ 5) (h2 : t ≠ 55) (i : Nat) (u : Value) : OFl 0 (w.setCell ⟨k, i, none⟩ u) base v fs :=
  OFl.frN (bb := 0) h (S := (· = k)) (fr_cell u) (fun g e => by subst e; exact NoBF.of_blk hk h1 h2)
theorem sty_set9 {w : World} {k : Nat} {x : SV} {cs : Array Value} (h : STy w x) (hk : Blk w k 25 cs) (i : Nat) (u : Value) : STy (w.setCell ⟨k, i, none⟩ u) x :=
  h.fr (S := (· = k)) (fr_cell u) (fun g e => by subst e; exact NoBF.of_blk hk (by decide) (by decide))
theorem decP_bad {l : List UInt8} (h : (decS l).2.2 = true ∨ (decS l).2.1 ≠ []) : decP fnameL pathL l = none := by
  unfold decP
  rw [if_neg]
  rintro ⟨h1, h2, _⟩
  rcases h with h | h
  · rw [h] at h1; cases h1
  · exact h h2
theorem decP_ok {l : List UInt8} {x : SV} (h1 : (decS l).2.2 = false) (h2 : (decS l).2.1 = []) (h3 : (decS l).1 = x.sta) (h4 : mayS fnameL pathL x.sta = true) : decP fnameL pathL l = some x.sta := by
  unfold decP
  rw [if_pos ⟨h1, h2, by rw [h3]; exact h4⟩, h3]
theorem decP_not {l : List UInt8} {x : SV} (h3 : (decS l).1 = x.sta) (h4 : mayS fnameL pathL x.sta = false) : decP fnameL pathL l = none := by
  unfold decP
  rw [if_neg]
  rintro ⟨_, _, h⟩
  rw [h3, h4] at h
  cases h
set_option maxRecDepth 100000 in
set_option maxHeartbeats 8000000 in
theorem decode_any (A : Option Addr) (n c : Nat) (l : List UInt8) (w : World) (hr : RB w A l) (hn : l.length = n) (hl : n ≤ 100000) (hT : Tab w) :
    Calls Tryz.prog 11 #[.slice A n c] w fun e w' => DecPost w l e w' := by
  have HT := Lib.hid hT
  have HF := Lib.hid (fun V (hV : Below w.heap.size w V) => from_n' A n c l V hn (by omega) (hr.below hV))
  have HN := Lib.hid hn
  have HA0 : Hid (Below w.heap.size w (w.alloc (.cells #[.slice none 0 0, .slice none 0 0, .slice none 0 0, .slice none 0 0, .slice none 0 0] 25))) := Lib.hid ((Below.refl _ _).alloc (Nat.le_refl _) _)
  have HR0 : Hid (Blk (w.alloc (.cells #[.slice none 0 0, .slice none 0 0, .slice none 0 0, .slice none 0 0, .slice none 0 0] 25)) w.heap.size 25 #[.slice none 0 0, .slice none 0 0, .slice none 0 0, .slice none 0 0, .slice none 0 0]) := Lib.hid (Blk.new _ _ _)
  clear hr hn hT
  go_enter Tryz.func11, Tryz.ntmps11
  go_wp2_with fail
  refine (HF.out _ HA0.out).mono ?_
  rintro e w1 ⟨r, rfl, hr1, hrd1, hb1⟩
  have HB1 : Hid (Below w.heap.size w w1) := Lib.hid (HA0.out.trans (hb1.mono HA0.out.size))
  have HR1 := Lib.hid (HR0.out.below hb1 HR0.out.lt)
  have HRD1 := Lib.hid hrd1
  have hrg : w.heap.size ≤ r := by simp at hr1; omega
  have HRG := Lib.hid hrg
  have HBX : Hid (Blk (w1.alloc (.cells #[.pointer (some ⟨r, 0, none⟩)] 67)) w1.heap.size 67 #[.pointer (some ⟨r, 0, none⟩)]) := Lib.hid (Blk.new _ _ _)
  have HD2 : Hid (DI w r w1.heap.size (w1.alloc (.cells #[.pointer (some ⟨r, 0, none⟩)] 67))) := Lib.hid ⟨HB1.out.alloc HB1.out.size _, HR1.out.alloc _, Blk.new _ _ _⟩
  have HRD2 : Hid (RD (w1.alloc (.cells #[.pointer (some ⟨r, 0, none⟩)] 67)) r l false) := Lib.hid (HRD1.out.below ((Below.refl _ _).alloc (Nat.le_refl _) _))
  have HLN : Hid (l.length ≤ 100000) := Lib.hid (by rw [HN.out]; exact hl)
  have hz1 := rdT_size l
  have hl1 := rdT_left l
  have hz2 := rdT_size (rdT l).2.1
  have hl2 := rdT_left (rdT l).2.1
  have hz3 := rdT_size (rdT (rdT l).2.1).2.1
  have hl3 := rdT_left (rdT (rdT l).2.1).2.1
  have hl4 := rdFiles_left (rdT (rdT (rdT l).2.1).2.1).2.1
  have HDS : Hid (decS l = (⟨(rdT l).1, (rdT (rdT l).2.1).1, (rdT (rdT (rdT l).2.1).2.1).1, (rdFiles (rdT (rdT (rdT l).2.1).2.1).2.1).1, (rdFiles (rdFiles (rdT (rdT (rdT l).2.1).2.1).2.1).2.1).1⟩,
    (rdFiles (rdFiles (rdT (rdT (rdT l).2.1).2.1).2.1).2.1).2.1, (rdFiles (rdFiles (rdT (rdT (rdT l).2.1).2.1).2.1).2.1).2.2)) := Lib.hid rfl
  have HBE : Hid ((rdFiles (rdT (rdT (rdT l).2.1).2.1).2.1).2.2 = true → (rdFiles (rdFiles (rdT (rdT (rdT l).2.1).2.1).2.1).2.1).2.2 = true) := Lib.hid (fun e => by
    rw [rdFiles_empty _ e, rdFiles_short (by simp)])
  have HC1 := Lib.hid (fun V (h : RD V r l false) g (hb : Blk V g 67 #[.pointer (some ⟨r, 0, none⟩)]) => dtext_any V r g l false h hb)
  have HC2 := Lib.hid (fun V b (h : RD V r (rdT l).2.1 b) g (hb : Blk V g 67 #[.pointer (some ⟨r, 0, none⟩)]) => dtext_any V r g (rdT l).2.1 b h hb)
  have HC3 := Lib.hid (fun V b (h : RD V r (rdT (rdT l).2.1).2.1 b) g (hb : Blk V g 67 #[.pointer (some ⟨r, 0, none⟩)]) => dtext_any V r g (rdT (rdT l).2.1).2.1 b h hb)
  have HC4 := Lib.hid (fun V b (h : RD V r (rdT (rdT (rdT l).2.1).2.1).2.1 b) => readFiles_any V r (rdT (rdT (rdT l).2.1).2.1).2.1 b h (by have := HLN.out; omega))
  have HC5 := Lib.hid (fun V b (h : RD V r (rdFiles (rdT (rdT (rdT l).2.1).2.1).2.1).2.1 b) => readFiles_any V r (rdFiles (rdT (rdT (rdT l).2.1).2.1).2.1).2.1 b h (by have := HLN.out; omega))
  unfold DtPost at HC1 HC2 HC3
  unfold RdPost at HC4 HC5
  have hll := HLN.out
  obtain ⟨F5, hF5⟩ : ∃ z, z = rdFiles (rdFiles (rdT (rdT (rdT l).2.1).2.1).2.1).2.1 := ⟨_, rfl⟩
  rw [← hF5] at HDS HBE HC5
  obtain ⟨F4, hF4⟩ : ∃ z, z = rdFiles (rdT (rdT (rdT l).2.1).2.1).2.1 := ⟨_, rfl⟩
  rw [← hF4] at HDS HBE HC5 HC4 hl4
  obtain ⟨T3, hT3⟩ : ∃ z, z = rdT (rdT (rdT l).2.1).2.1 := ⟨_, rfl⟩
  rw [← hT3] at HDS HC3 HC4 hz3 hl3 hl4
  obtain ⟨T2, hT2⟩ : ∃ z, z = rdT (rdT l).2.1 := ⟨_, rfl⟩
  rw [← hT2] at HDS HC2 HC3 hz2 hl2 hz3 hl3
  obtain ⟨T1, hT1⟩ : ∃ z, z = rdT l := ⟨_, rfl⟩
  rw [← hT1] at HDS HC1 HC2 hz1 hl1 hz2 hl2
  obtain ⟨t1, l1, b1⟩ := T1
  obtain ⟨t2, l2, b2⟩ := T2
  obtain ⟨t3, l3, b3⟩ := T3
  obtain ⟨f4, l4, b4⟩ := F4
  obtain ⟨f5, l5, b5⟩ := F5
  simp only at HDS HBE HC1 HC2 HC3 HC4 HC5 hz1 hl1 hz2 hl2 hz3 hl3 hl4
  obtain ⟨n1, hn1⟩ : ∃ z, z = t1.length := ⟨_, rfl⟩
  obtain ⟨n2, hn2⟩ : ∃ z, z = t2.length := ⟨_, rfl⟩
  obtain ⟨n3, hn3⟩ : ∃ z, z = t3.length := ⟨_, rfl⟩
  rw [← hn1] at HC1 hz1
  rw [← hn2] at HC2 hz2
  rw [← hn3] at HC3 hz3
  have HN1 := Lib.hid hn1
  have HN2 := Lib.hid hn2
  have HN3 := Lib.hid hn3
  clear hn1 hn2 hn3 hF5 hF4 hT3 hT2 hT1 HF HRD1 HR1 HR0 HA0
  go_wp2_with fail
  refine (HC1.out _ HRD2.out _ HD2.out.box).mono ?_
  rintro e w2 ⟨A1, c1, rfl, hp1, hrd, hf⟩
  have HP1 := Lib.hid hp1
  have HD3 := Lib.hid (HD2.out.fr hf (fun k e => e ▸ HRG.out) (fun k e => e ▸ HRD2.out.blk))
  have HRD3 := Lib.hid hrd
  clear hp1 hrd hf HD2 HRD2 HB1
  go_wp2_with fail
  refine (HC2.out _ _ HRD3.out _ HD3.out.box).mono ?_
  rintro e w3 ⟨A2, c2, rfl, hp2, hrd, hf⟩
  have HP2 := Lib.hid hp2
  have HP12 : Hid (PtT w3 ⟨A1, c1, t1⟩) := Lib.hid (HP1.out.fr hf (fun k e => by obtain ⟨cs, hb⟩ := HRD3.out.blk; subst e; exact NoBF.of_blk hb (by decide) (by decide)))
  have HD4 := Lib.hid (HD3.out.fr hf (fun k e => e ▸ HRG.out) (fun k e => e ▸ HRD3.out.blk))
  have HRD4 := Lib.hid hrd
  clear hp2 hrd hf HD3 HRD3 HP1
  go_wp2_with fail
  refine (HC3.out _ _ HRD4.out _ HD4.out.box).mono ?_
  rintro e w4 ⟨A3, c3, rfl, hp3, hrd, hf⟩
  have HP3 := Lib.hid hp3
  have HNB : Hid (∀ k, k = r → NoBF w3 k) := Lib.hid (fun k e => by obtain ⟨cs, hb⟩ := HRD4.out.blk; subst e; exact NoBF.of_blk hb (by decide) (by decide))
  have HP13 := Lib.hid (HP12.out.fr hf HNB.out)
  have HP23 := Lib.hid (HP2.out.fr hf HNB.out)
  have HD5 := Lib.hid (HD4.out.fr hf (fun k e => e ▸ HRG.out) (fun k e => e ▸ HRD4.out.blk))
  have HRD5 := Lib.hid hrd
  clear hp3 hrd hf HD4 HRD4 HP12 HP2 HNB
  obtain ⟨SC, hSC⟩ : ∃ SC : Array Value, SC = #[.slice A1 n1 c1, .slice A2 n2 c2, .slice A3 n3 c3, .slice none 0 0, .slice none 0 0] := ⟨_, rfl⟩
  have HA5 : Hid (Below w4.heap.size w4 (w4.alloc (.cells #[.slice A1 n1 c1, .slice A2 n2 c2, .slice A3 n3 c3, .slice none 0 0, .slice none 0 0] 25))) := Lib.hid ((Below.refl _ _).alloc (Nat.le_refl _) _)
  have HS6 : Hid (Blk (w4.alloc (.cells #[.slice A1 n1 c1, .slice A2 n2 c2, .slice A3 n3 c3, .slice none 0 0, .slice none 0 0] 25)) w4.heap.size 25 #[.slice A1 n1 c1, .slice A2 n2 c2, .slice A3 n3 c3, .slice none 0 0, .slice none 0 0]) := Lib.hid (Blk.new _ _ _)
  have HD6 := Lib.hid (HD5.out.below HA5.out)
  have HRD6 := Lib.hid (HRD5.out.below HA5.out)
  have HP16 := Lib.hid (HP13.out.below HA5.out)
  have HP26 := Lib.hid (HP23.out.below HA5.out)
  have HP36 := Lib.hid (HP3.out.below HA5.out)
  have HSK : Hid (w.heap.size < w4.heap.size) := Lib.hid HD5.out.res.lt
  have g0 := HD6.out.box.cell 0
  simp only [List.getElem?_toArray, List.getElem?_cons_zero] at g0
  clear hSC HD5 HRD5 HP13 HP23 HP3 HA5
  go_wp2_with fail
  refine (HC4.out _ _ HRD6.out).mono ?_
  rintro e w5 ⟨v4, fs4, rfl, ho4, he4, hrd4, hf4, hln4, hnm4⟩
  obtain ⟨A4, c4, hv4, hlc4, hcm4, hfl4, had4, _⟩ := ho4.shape
  obtain ⟨m4, hm4⟩ : ∃ z, z = fs4.length := ⟨_, rfl⟩
  rw [← hm4] at hv4 hlc4
  subst hv4
  have HM4 := Lib.hid hm4
  have HO4 : Hid (OFl 0 w5 0 (.slice A4 m4 c4) fs4) := Lib.hid (ho4.mono (Nat.zero_le _))
  have HE4 := Lib.hid he4
  have HNB : Hid (∀ k, k = r → NoBF _ k) := Lib.hid (fun k e => by obtain ⟨cs, hb⟩ := HRD6.out.blk; subst e; exact NoBF.of_blk hb (by decide) (by decide))
  have HP17 := Lib.hid (HP16.out.fr hf4 HNB.out)
  have HP27 := Lib.hid (HP26.out.fr hf4 HNB.out)
  have HP37 := Lib.hid (HP36.out.fr hf4 HNB.out)
  have HD7 := Lib.hid (HD6.out.fr hf4 (fun k e => e ▸ HRG.out) (fun k e => e ▸ HRD6.out.blk))
  have HS7 := Lib.hid (HS6.out.fr hf4 (fun e => by obtain ⟨cs, hb⟩ := HRD6.out.blk; exact hb.ne_ HS6.out (by decide) e.symm))
  have HRD7 := Lib.hid hrd4
  have HLM4 := Lib.hid hln4
  have HNM4 := Lib.hid hnm4
  clear g0 HD6 HRD6 HP16 HP26 HP36 HS6 HNB ho4 he4 hrd4 hf4 hln4 hnm4 hfl4 had4 hm4 hlc4 hcm4
  have s3 := HS7.out.cell 3
  have f3 := HS7.out.frozen 3
  simp only [List.getElem?_toArray, List.getElem?_cons_zero, List.getElem?_cons_succ] at s3
  have HS8 : Hid (Blk (w5.setCell ⟨w4.heap.size, 3, none⟩ (.slice A4 m4 c4)) w4.heap.size 25 #[.slice A1 n1 c1, .slice A2 n2 c2, .slice A3 n3 c3, .slice A4 m4 c4, .slice none 0 0]) := Lib.hid (HS7.out.set_ 3 _)
  have HD8 : Hid (DI w r w1.heap.size (w5.setCell ⟨w4.heap.size, 3, none⟩ (.slice A4 m4 c4))) := Lib.hid (HD7.out.set_ HS7.out HSK.out 3 _)
  have HRD8 : Hid (RD (w5.setCell ⟨w4.heap.size, 3, none⟩ (.slice A4 m4 c4)) r l4 b4) := Lib.hid (HRD7.out.set_ HS7.out (by decide) (by decide) 3 _)
  have HP18 : Hid (PtT (w5.setCell ⟨w4.heap.size, 3, none⟩ (.slice A4 m4 c4)) ⟨A1, c1, t1⟩) := Lib.hid (HP17.out.set_ HS7.out (by decide) (by decide) 3 _)
  have HP28 : Hid (PtT (w5.setCell ⟨w4.heap.size, 3, none⟩ (.slice A4 m4 c4)) ⟨A2, c2, t2⟩) := Lib.hid (HP27.out.set_ HS7.out (by decide) (by decide) 3 _)
  have HP38 : Hid (PtT (w5.setCell ⟨w4.heap.size, 3, none⟩ (.slice A4 m4 c4)) ⟨A3, c3, t3⟩) := Lib.hid (HP37.out.set_ HS7.out (by decide) (by decide) 3 _)
  have HO8 : Hid (OFl 0 (w5.setCell ⟨w4.heap.size, 3, none⟩ (.slice A4 m4 c4)) 0 (.slice A4 m4 c4) fs4) := Lib.hid (HO4.out.set_ HS7.out (by decide) (by decide) 3 _)
  have g0 := HD8.out.box.cell 0
  simp only [List.getElem?_toArray, List.getElem?_cons_zero] at g0
  clear HS7 HD7 HRD7 HP17 HP27 HP37 HO4
  go_wp2_with fail
  refine (HC5.out _ _ HRD8.out).mono ?_
  rintro e w6 ⟨v5, fs5, rfl, ho5, he5, hrd5, hf5, hln5, hnm5⟩
  obtain ⟨A5, c5, hv5, hlc5, hcm5, hfl5, had5, _⟩ := ho5.shape
  obtain ⟨m5, hm5⟩ : ∃ z, z = fs5.length := ⟨_, rfl⟩
  rw [← hm5] at hv5 hlc5
  subst hv5
  have HM5 := Lib.hid hm5
  have HO5 : Hid (OFl 0 w6 0 (.slice A5 m5 c5) fs5) := Lib.hid (ho5.mono (Nat.zero_le _))
  have HE5 := Lib.hid he5
  have HNB : Hid (∀ k, k = r → NoBF _ k) := Lib.hid (fun k e => by obtain ⟨cs, hb⟩ := HRD8.out.blk; subst e; exact NoBF.of_blk hb (by decide) (by decide))
  have HP17 := Lib.hid (HP18.out.fr hf5 HNB.out)
  have HP27 := Lib.hid (HP28.out.fr hf5 HNB.out)
  have HP37 := Lib.hid (HP38.out.fr hf5 HNB.out)
  have HO4 := Lib.hid (OFl.frN (bb := 0) HO8.out hf5 HNB.out)
  have HD7 := Lib.hid (HD8.out.fr hf5 (fun k e => e ▸ HRG.out) (fun k e => e ▸ HRD8.out.blk))
  have HS7 := Lib.hid (HS8.out.fr hf5 (fun e => by obtain ⟨cs, hb⟩ := HRD8.out.blk; exact hb.ne_ HS8.out (by decide) e.symm))
  have HRD7 := Lib.hid hrd5
  have HLM5 := Lib.hid hln5
  have HNM5 := Lib.hid hnm5
  clear s3 f3 g0 HD8 HRD8 HP18 HP28 HP38 HO8 HS8 HNB ho5 he5 hrd5 hf5 hln5 hnm5 hfl5 had5 hm5 hlc5 hcm5
  have s4 := HS7.out.cell 4
  have f4' := HS7.out.frozen 4
  simp only [List.getElem?_toArray, List.getElem?_cons_zero, List.getElem?_cons_succ] at s4
  have HS8 : Hid (Blk (w6.setCell ⟨w4.heap.size, 4, none⟩ (.slice A5 m5 c5)) w4.heap.size 25 #[.slice A1 n1 c1, .slice A2 n2 c2, .slice A3 n3 c3, .slice A4 m4 c4, .slice A5 m5 c5]) := Lib.hid (HS7.out.set_ 4 _)
  have HD8 : Hid (DI w r w1.heap.size (w6.setCell ⟨w4.heap.size, 4, none⟩ (.slice A5 m5 c5))) := Lib.hid (HD7.out.set_ HS7.out HSK.out 4 _)
  have HRD8 : Hid (RD (w6.setCell ⟨w4.heap.size, 4, none⟩ (.slice A5 m5 c5)) r l5 b5) := Lib.hid (HRD7.out.set_ HS7.out (by decide) (by decide) 4 _)
  have HX8 : Hid (STy (w6.setCell ⟨w4.heap.size, 4, none⟩ (.slice A5 m5 c5)) (SV.dec ⟨A1, c1, t1⟩ ⟨A2, c2, t2⟩ ⟨A3, c3, t3⟩ A4 c4 fs4 A5 c5 fs5)) := Lib.hid (by
    refine ⟨HP17.out.set_ HS7.out (by decide) (by decide) 4 _, HP27.out.set_ HS7.out (by decide) (by decide) 4 _, HP37.out.set_ HS7.out (by decide) (by decide) 4 _, ?_, ?_⟩
    · show OFl 0 _ 0 (.slice A4 fs4.length c4) fs4
      rw [← HM4.out]
      exact HO4.out.set_ HS7.out (by decide) (by decide) 4 _
    · show OFl 0 _ 0 (.slice A5 fs5.length c5) fs5
      rw [← HM5.out]
      exact HO5.out.set_ HS7.out (by decide) (by decide) 4 _)
  have HSM : Hid (SM (SV.dec ⟨A1, c1, t1⟩ ⟨A2, c2, t2⟩ ⟨A3, c3, t3⟩ A4 c4 fs4 A5 c5 fs5)) := Lib.hid ⟨by show t1.length ≤ _; rw [← HN1.out]; omega, by show t2.length ≤ _; rw [← HN2.out]; omega, by show t3.length ≤ _; rw [← HN3.out]; omega, Nat.le_trans HLM4.out (by omega), Nat.le_trans HLM5.out (by omega), HNM4.out, HNM5.out⟩
  have HXV : Hid ((SV.dec ⟨A1, c1, t1⟩ ⟨A2, c2, t2⟩ ⟨A3, c3, t3⟩ A4 c4 fs4 A5 c5 fs5).v = .agg #[.slice A1 n1 c1, .slice A2 n2 c2, .slice A3 n3 c3, .slice A4 m4 c4, .slice A5 m5 c5]) := Lib.hid (by
    show Value.agg #[.slice A1 t1.length c1, .slice A2 t2.length c2, .slice A3 t3.length c3, .slice A4 fs4.length c4, .slice A5 fs5.length c5] = _
    rw [← HN1.out, ← HN2.out, ← HN3.out, ← HM4.out, ← HM5.out])
  have HEQ : Hid (b5 = false → (decS l).1 = (SV.dec ⟨A1, c1, t1⟩ ⟨A2, c2, t2⟩ ⟨A3, c3, t3⟩ A4 c4 fs4 A5 c5 fs5).sta) := Lib.hid (fun e => by
    have e4 : b4 = false := by
      cases b4 with
      | false => rfl
      | true => rw [HBE.out rfl] at e; cases e
    rw [HDS.out]
    show (⟨t1, t2, t3, f4, f5⟩ : Sta) = ⟨t1, t2, t3, fiL fs4, fiL fs5⟩
    rw [HE4.out e4, HE5.out e])
  have HD1 : Hid ((decS l).2.1 = l5 ∧ (decS l).2.2 = b5) := Lib.hid (by rw [HDS.out]; exact ⟨rfl, rfl⟩)
  generalize SV.dec ⟨A1, c1, t1⟩ ⟨A2, c2, t2⟩ ⟨A3, c3, t3⟩ A4 c4 fs4 A5 c5 fs5 = X at HX8 HSM HXV HEQ
  have g0 := HD8.out.box.cell 0
  have r0 := HD8.out.res
  simp only [List.getElem?_toArray, List.getElem?_cons_zero] at g0
  clear HS7 HD7 HRD7 HP17 HP27 HP37 HO4 HO5 HC1 HC2 HC3 HC4 HC5 HE4 HE5 HM4 HM5 HN1 HN2 HN3 HLM4 HLM5 HNM4 HNM5 HDS HBE
  have q0 := r0.cell 0
  have q1 := r0.cell 1
  have q2 := r0.cell 2
  have q3 := r0.cell 3
  have q4 := r0.cell 4
  have z0 := r0.frozen 0
  have z1 := r0.frozen 1
  have z2 := r0.frozen 2
  have z3 := r0.frozen 3
  have z4 := r0.frozen 4
  simp only [List.getElem?_toArray, List.getElem?_cons_zero, List.getElem?_cons_succ] at q0 q1 q2 q3 q4
  have HRES := Lib.hid r0
  clear r0
  cases b5 with
  | true =>
    have HP : Hid (decP fnameL pathL l = none) := Lib.hid (decP_bad (.inl HD1.out.2))
    have HDN := Lib.hid (done_bad _ r l5 HRD8.out)
    go_wp2_with fail
    refine HDN.out.mono ?_
    rintro e w' ⟨rfl, rfl⟩
    go_wp2
    have HF : Hid (Blk ((((((w6.setCell ⟨w4.heap.size, 4, none⟩ (.slice A5 m5 c5)).setCell ⟨w.heap.size, 0, none⟩ (.slice none 0 0)).setCell ⟨w.heap.size, 1, none⟩ (.slice none 0 0)).setCell ⟨w.heap.size, 2, none⟩ (.slice none 0 0)).setCell ⟨w.heap.size, 3, none⟩ (.slice none 0 0)).setCell ⟨w.heap.size, 4, none⟩ (.slice none 0 0)) w.heap.size 25 #[.slice none 0 0, .slice none 0 0, .slice none 0 0, .slice none 0 0, .slice none 0 0]) := Lib.hid (((((HRES.out.set_ 0 (.slice none 0 0)).set_ 1 (.slice none 0 0)).set_ 2 (.slice none 0 0)).set_ 3 (.slice none 0 0)).set_ 4 (.slice none 0 0))
    have HBF : Hid (Below w.heap.size w ((((((w6.setCell ⟨w4.heap.size, 4, none⟩ (.slice A5 m5 c5)).setCell ⟨w.heap.size, 0, none⟩ (.slice none 0 0)).setCell ⟨w.heap.size, 1, none⟩ (.slice none 0 0)).setCell ⟨w.heap.size, 2, none⟩ (.slice none 0 0)).setCell ⟨w.heap.size, 3, none⟩ (.slice none 0 0)).setCell ⟨w.heap.size, 4, none⟩ (.slice none 0 0))) := Lib.hid (((((HD8.out.bel.setCell (Nat.le_refl _) (.slice none 0 0)).setCell (Nat.le_refl _) (.slice none 0 0)).setCell (Nat.le_refl _) (.slice none 0 0)).setCell (Nat.le_refl _) (.slice none 0 0)).setCell (Nat.le_refl _) (.slice none 0 0))
    generalize ((((((w6.setCell ⟨w4.heap.size, 4, none⟩ (.slice A5 m5 c5)).setCell ⟨w.heap.size, 0, none⟩ (.slice none 0 0)).setCell ⟨w.heap.size, 1, none⟩ (.slice none 0 0)).setCell ⟨w.heap.size, 2, none⟩ (.slice none 0 0)).setCell ⟨w.heap.size, 3, none⟩ (.slice none 0 0)).setCell ⟨w.heap.size, 4, none⟩ (.slice none 0 0)) = Wf at HF HBF ⊢
    have k0 := HF.out.cell 0
    have k1 := HF.out.cell 1
    have k2 := HF.out.cell 2
    have k3 := HF.out.cell 3
    have k4 := HF.out.cell 4
    simp only [List.getElem?_toArray, List.getElem?_cons_zero, List.getElem?_cons_succ] at k0 k1 k2 k3 k4
    refine bodyPost_ret (v := .tuple #[.agg #[.slice none 0 0, .slice none 0 0, .slice none 0 0, .slice none 0 0, .slice none 0 0], .int .i64 230]) (by simp [results, Tryz.results11, go_sem, k0, k1, k2, k3, k4]) rfl ?_
    exact ⟨HBF.out, .inr ⟨HP.out, rfl⟩⟩
  | false =>
    have HDN := Lib.hid (done_any _ r l5 HRD8.out)
    rcases Nat.eq_zero_or_pos l5.length with h0 | h0
    · have hd : doneCode l5.length = 0 := by rw [h0]; rfl
      rw [hd] at HDN
      have HL5 : Hid (l5 = []) := Lib.hid (List.eq_nil_of_length_eq_zero h0)
      have HMY := smay_any X _ HX8.out.at_ HSM.out (HT.out.below HD8.out.bel)
      rw [HXV.out] at HMY
      obtain ⟨z, hz⟩ : ∃ z, z = mayS fnameL pathL X.sta := ⟨_, rfl⟩
      rw [← hz] at HMY
      have HMYY := Lib.hid HMY
      have HZ := Lib.hid hz.symm
      have s0 := HS8.out.cell 0
      have s1 := HS8.out.cell 1
      have s2 := HS8.out.cell 2
      have s3 := HS8.out.cell 3
      have s4' := HS8.out.cell 4
      simp only [List.getElem?_toArray, List.getElem?_cons_zero, List.getElem?_cons_succ] at s0 s1 s2 s3 s4'
      clear h0 hd HMY hz
      go_wp2_with fail
      refine HDN.out.mono ?_
      rintro e w' ⟨rfl, rfl⟩
      go_wp2_with fail
      refine HMYY.out.mono ?_
      rintro e w9 ⟨rfl, hb9⟩
      have HRES9 := Lib.hid (HRES.out.below hb9 HRES.out.lt)
      have HB9 : Hid (Below w.heap.size w w9) := Lib.hid (HD8.out.bel.trans (hb9.mono HD8.out.bel.size))
      have HX9 := Lib.hid (HX8.out.below hb9)
      have HS9 := Lib.hid (HS8.out.below hb9 HS8.out.lt)
      clear q0 q1 q2 q3 q4 z0 z1 z2 z3 z4 s0 s1 s2 s3 s4' s4 f4' g0 hb9
      have q0 := HRES9.out.cell 0
      have q1 := HRES9.out.cell 1
      have q2 := HRES9.out.cell 2
      have q3 := HRES9.out.cell 3
      have q4 := HRES9.out.cell 4
      have z0 := HRES9.out.frozen 0
      have z1 := HRES9.out.frozen 1
      have z2 := HRES9.out.frozen 2
      have z3 := HRES9.out.frozen 3
      have z4 := HRES9.out.frozen 4
      have s0 := HS9.out.cell 0
      have s1 := HS9.out.cell 1
      have s2 := HS9.out.cell 2
      have s3 := HS9.out.cell 3
      have s4 := HS9.out.cell 4
      simp only [List.getElem?_toArray, List.getElem?_cons_zero, List.getElem?_cons_succ] at q0 q1 q2 q3 q4 s0 s1 s2 s3 s4
      cases z with
      | false =>
        have HP : Hid (decP fnameL pathL l = none) := Lib.hid (decP_not (HEQ.out (by first | rfl | trivial)) HZ.out)
        go_wp2
        have HF : Hid (Blk (((((w9.setCell ⟨w.heap.size, 0, none⟩ (.slice none 0 0)).setCell ⟨w.heap.size, 1, none⟩ (.slice none 0 0)).setCell ⟨w.heap.size, 2, none⟩ (.slice none 0 0)).setCell ⟨w.heap.size, 3, none⟩ (.slice none 0 0)).setCell ⟨w.heap.size, 4, none⟩ (.slice none 0 0)) w.heap.size 25 #[.slice none 0 0, .slice none 0 0, .slice none 0 0, .slice none 0 0, .slice none 0 0]) := Lib.hid (((((HRES9.out.set_ 0 (.slice none 0 0)).set_ 1 (.slice none 0 0)).set_ 2 (.slice none 0 0)).set_ 3 (.slice none 0 0)).set_ 4 (.slice none 0 0))
        have HBF : Hid (Below w.heap.size w (((((w9.setCell ⟨w.heap.size, 0, none⟩ (.slice none 0 0)).setCell ⟨w.heap.size, 1, none⟩ (.slice none 0 0)).setCell ⟨w.heap.size, 2, none⟩ (.slice none 0 0)).setCell ⟨w.heap.size, 3, none⟩ (.slice none 0 0)).setCell ⟨w.heap.size, 4, none⟩ (.slice none 0 0))) := Lib.hid (((((HB9.out.setCell (Nat.le_refl _) (.slice none 0 0)).setCell (Nat.le_refl _) (.slice none 0 0)).setCell (Nat.le_refl _) (.slice none 0 0)).setCell (Nat.le_refl _) (.slice none 0 0)).setCell (Nat.le_refl _) (.slice none 0 0))
        generalize (((((w9.setCell ⟨w.heap.size, 0, none⟩ (.slice none 0 0)).setCell ⟨w.heap.size, 1, none⟩ (.slice none 0 0)).setCell ⟨w.heap.size, 2, none⟩ (.slice none 0 0)).setCell ⟨w.heap.size, 3, none⟩ (.slice none 0 0)).setCell ⟨w.heap.size, 4, none⟩ (.slice none 0 0)) = Wf at HF HBF ⊢
        have k0 := HF.out.cell 0
        have k1 := HF.out.cell 1
        have k2 := HF.out.cell 2
        have k3 := HF.out.cell 3
        have k4 := HF.out.cell 4
        simp only [List.getElem?_toArray, List.getElem?_cons_zero, List.getElem?_cons_succ] at k0 k1 k2 k3 k4
        refine bodyPost_ret (v := .tuple #[.agg #[.slice none 0 0, .slice none 0 0, .slice none 0 0, .slice none 0 0, .slice none 0 0], .int .i64 230]) (by simp [results, Tryz.results11, go_sem, k0, k1, k2, k3, k4]) rfl ?_
        exact ⟨HBF.out, .inr ⟨HP.out, rfl⟩⟩
      | true =>
        have HP : Hid (decP fnameL pathL l = some X.sta) := Lib.hid (decP_ok HD1.out.2 (by rw [HD1.out.1]; exact HL5.out) (HEQ.out (by first | rfl | trivial)) HZ.out)
        go_wp2
        have HF : Hid (Blk (((((w9.setCell ⟨w.heap.size, 0, none⟩ (.slice A1 n1 c1)).setCell ⟨w.heap.size, 1, none⟩ (.slice A2 n2 c2)).setCell ⟨w.heap.size, 2, none⟩ (.slice A3 n3 c3)).setCell ⟨w.heap.size, 3, none⟩ (.slice A4 m4 c4)).setCell ⟨w.heap.size, 4, none⟩ (.slice A5 m5 c5)) w.heap.size 25 #[.slice A1 n1 c1, .slice A2 n2 c2, .slice A3 n3 c3, .slice A4 m4 c4, .slice A5 m5 c5]) := Lib.hid (((((HRES9.out.set_ 0 (.slice A1 n1 c1)).set_ 1 (.slice A2 n2 c2)).set_ 2 (.slice A3 n3 c3)).set_ 3 (.slice A4 m4 c4)).set_ 4 (.slice A5 m5 c5))
        have HBF : Hid (Below w.heap.size w (((((w9.setCell ⟨w.heap.size, 0, none⟩ (.slice A1 n1 c1)).setCell ⟨w.heap.size, 1, none⟩ (.slice A2 n2 c2)).setCell ⟨w.heap.size, 2, none⟩ (.slice A3 n3 c3)).setCell ⟨w.heap.size, 3, none⟩ (.slice A4 m4 c4)).setCell ⟨w.heap.size, 4, none⟩ (.slice A5 m5 c5))) := Lib.hid (((((HB9.out.setCell (Nat.le_refl _) (.slice A1 n1 c1)).setCell (Nat.le_refl _) (.slice A2 n2 c2)).setCell (Nat.le_refl _) (.slice A3 n3 c3)).setCell (Nat.le_refl _) (.slice A4 m4 c4)).setCell (Nat.le_refl _) (.slice A5 m5 c5))
        have HXF : Hid (STy (((((w9.setCell ⟨w.heap.size, 0, none⟩ (.slice A1 n1 c1)).setCell ⟨w.heap.size, 1, none⟩ (.slice A2 n2 c2)).setCell ⟨w.heap.size, 2, none⟩ (.slice A3 n3 c3)).setCell ⟨w.heap.size, 3, none⟩ (.slice A4 m4 c4)).setCell ⟨w.heap.size, 4, none⟩ (.slice A5 m5 c5)) X) := Lib.hid (sty_set9 (sty_set9 (sty_set9 (sty_set9 (sty_set9 HX9.out HRES9.out 0 (.slice A1 n1 c1)) (HRES9.out.set_ 0 (.slice A1 n1 c1)) 1 (.slice A2 n2 c2)) ((HRES9.out.set_ 0 (.slice A1 n1 c1)).set_ 1 (.slice A2 n2 c2)) 2 (.slice A3 n3 c3)) (((HRES9.out.set_ 0 (.slice A1 n1 c1)).set_ 1 (.slice A2 n2 c2)).set_ 2 (.slice A3 n3 c3)) 3 (.slice A4 m4 c4)) ((((HRES9.out.set_ 0 (.slice A1 n1 c1)).set_ 1 (.slice A2 n2 c2)).set_ 2 (.slice A3 n3 c3)).set_ 3 (.slice A4 m4 c4)) 4 (.slice A5 m5 c5))
        generalize (((((w9.setCell ⟨w.heap.size, 0, none⟩ (.slice A1 n1 c1)).setCell ⟨w.heap.size, 1, none⟩ (.slice A2 n2 c2)).setCell ⟨w.heap.size, 2, none⟩ (.slice A3 n3 c3)).setCell ⟨w.heap.size, 3, none⟩ (.slice A4 m4 c4)).setCell ⟨w.heap.size, 4, none⟩ (.slice A5 m5 c5)) = Wf at HF HBF HXF ⊢
        have k0 := HF.out.cell 0
        have k1 := HF.out.cell 1
        have k2 := HF.out.cell 2
        have k3 := HF.out.cell 3
        have k4 := HF.out.cell 4
        simp only [List.getElem?_toArray, List.getElem?_cons_zero, List.getElem?_cons_succ] at k0 k1 k2 k3 k4
        refine bodyPost_ret (v := .tuple #[.agg #[.slice A1 n1 c1, .slice A2 n2 c2, .slice A3 n3 c3, .slice A4 m4 c4, .slice A5 m5 c5], .int .i64 0]) (by simp [results, Tryz.results11, go_sem, k0, k1, k2, k3, k4]) rfl ?_
        rw [← HXV.out]
        exact ⟨HBF.out, .inl ⟨X, HP.out, rfl, HXF.out, HSM.out⟩⟩
    · have hd : doneCode l5.length = 11 := by unfold doneCode; rw [if_neg (by omega)]
      rw [hd] at HDN
      have HP : Hid (decP fnameL pathL l = none) := Lib.hid (decP_bad (.inr (by rw [HD1.out.1]; intro e; rw [e] at h0; simp at h0)))
      clear h0 hd
      go_wp2_with fail
      refine HDN.out.mono ?_
      rintro e w' ⟨rfl, rfl⟩
      go_wp2
      have HF : Hid (Blk ((((((w6.setCell ⟨w4.heap.size, 4, none⟩ (.slice A5 m5 c5)).setCell ⟨w.heap.size, 0, none⟩ (.slice none 0 0)).setCell ⟨w.heap.size, 1, none⟩ (.slice none 0 0)).setCell ⟨w.heap.size, 2, none⟩ (.slice none 0 0)).setCell ⟨w.heap.size, 3, none⟩ (.slice none 0 0)).setCell ⟨w.heap.size, 4, none⟩ (.slice none 0 0)) w.heap.size 25 #[.slice none 0 0, .slice none 0 0, .slice none 0 0, .slice none 0 0, .slice none 0 0]) := Lib.hid (((((HRES.out.set_ 0 (.slice none 0 0)).set_ 1 (.slice none 0 0)).set_ 2 (.slice none 0 0)).set_ 3 (.slice none 0 0)).set_ 4 (.slice none 0 0))
      have HBF : Hid (Below w.heap.size w ((((((w6.setCell ⟨w4.heap.size, 4, none⟩ (.slice A5 m5 c5)).setCell ⟨w.heap.size, 0, none⟩ (.slice none 0 0)).setCell ⟨w.heap.size, 1, none⟩ (.slice none 0 0)).setCell ⟨w.heap.size, 2, none⟩ (.slice none 0 0)).setCell ⟨w.heap.size, 3, none⟩ (.slice none 0 0)).setCell ⟨w.heap.size, 4, none⟩ (.slice none 0 0))) := Lib.hid (((((HD8.out.bel.setCell (Nat.le_refl _) (.slice none 0 0)).setCell (Nat.le_refl _) (.slice none 0 0)).setCell (Nat.le_refl _) (.slice none 0 0)).setCell (Nat.le_refl _) (.slice none 0 0)).setCell (Nat.le_refl _) (.slice none 0 0))
      generalize ((((((w6.setCell ⟨w4.heap.size, 4, none⟩ (.slice A5 m5 c5)).setCell ⟨w.heap.size, 0, none⟩ (.slice none 0 0)).setCell ⟨w.heap.size, 1, none⟩ (.slice none 0 0)).setCell ⟨w.heap.size, 2, none⟩ (.slice none 0 0)).setCell ⟨w.heap.size, 3, none⟩ (.slice none 0 0)).setCell ⟨w.heap.size, 4, none⟩ (.slice none 0 0)) = Wf at HF HBF ⊢
      have k0 := HF.out.cell 0
      have k1 := HF.out.cell 1
      have k2 := HF.out.cell 2
      have k3 := HF.out.cell 3
      have k4 := HF.out.cell 4
      simp only [List.getElem?_toArray, List.getElem?_cons_zero, List.getElem?_cons_succ] at k0 k1 k2 k3 k4
      refine bodyPost_ret (v := .tuple #[.agg #[.slice none 0 0, .slice none 0 0, .slice none 0 0, .slice none 0 0, .slice none 0 0], .int .i64 230]) (by simp [results, Tryz.results11, go_sem, k0, k1, k2, k3, k4]) rfl ?_
      exact ⟨HBF.out, .inr ⟨HP.out, rfl⟩⟩
end Go.Proofs.YtgpcinfhcamgpaaGreatDoor
