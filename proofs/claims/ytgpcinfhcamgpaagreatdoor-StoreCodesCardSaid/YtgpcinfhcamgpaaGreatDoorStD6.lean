/-
  The document's Decode: what it returns.
-/
import Derived.Test.YtgpcinfhcamgpaaGreatDoorStD3
import Derived.Test.YtgpcinfhcamgpaaGreatDoorStD5
import Derived.Test.YtgpcinfhcamgpaaGreatDoorStW4
namespace Go.Proofs.YtgpcinfhcamgpaaGreatDoor
open Go.RowKit Glob
attribute [local go_sem ↓] Go.wp_at_zero Go.wp_at_succ
set_option linter.unusedVariables false
set_option linter.unusedSimpArgs false

def RDecPost (w : World) (l : List UInt8) (e : Ending) (w' : World) : Prop :=
  Below w.heap.size w w' ∧ ((∃ x : SV, decP fnameL pathL l = some x.sta ∧ e = .returned (.tuple #[x.v, .bool true]) ∧ STy w' x ∧ SM x) ∨ (decP fnameL pathL l = none ∧ e = .returned (.tuple #[SV.none.v, .bool false])))
theorem RX.blk {w : World} {r : Nat} {l : List UInt8} {bad : Bool} (h : RX w r l bad) : ∃ cs, Blk w r 75 cs := by
  obtain ⟨_, _, hb, _⟩ := h
  exact ⟨_, hb⟩
theorem RX.set_ {w : World} {r k : Nat} {l : List UInt8} {bad : Bool} {cs : Array Value} {t : TypeId} (h : RX w r l bad) (hk : Blk w k t cs) (h1 : t ≠ 75) (h2 : t ≠ 5) (hrk : r ≤ k) (i : Nat) (u : Value) : RX (w.setCell ⟨k, i, none⟩ u) r l bad := by
  refine h.fr (S := (· = k)) (fr_cell u) (fun e => ?_) (fun j cs' e hb => ?_) (fun j e => by subst e; exact hrk)
  · obtain ⟨cs', hb⟩ := h.blk
    subst e
    exact hb.ne_ hk (fun e => h1 e.symm) rfl
  · subst e
    exact hb.ne_ hk (fun e => h2 e.symm) rfl
/-- what stays while the document reads a state -/
structure XI (w : World) (V : World) : Prop where
  bel : Below w.heap.size w V
  res : Blk V w.heap.size 25 #[.slice none 0 0, .slice none 0 0, .slice none 0 0, .slice none 0 0, .slice none 0 0]
theorem XI.fr {w V V' : World} {S : Nat → Prop} (h : XI w V) (hf : Fr S V V') (h1 : ∀ k, S k → w.heap.size < k) : XI w V' :=
  ⟨Fr.below_trans h.bel hf h.bel.size (fun k hk => Nat.le_of_lt (h1 k hk)), h.res.fr hf (fun e => by have := h1 _ e; omega)⟩
theorem XI.below {w V V' : World} (h : XI w V) (hb : Below V.heap.size V V') : XI w V' := ⟨h.bel.trans (hb.mono h.bel.size), h.res.below hb h.res.lt⟩
theorem XI.set_ {w V : World} {k : Nat} (h : XI w V) (hkr : w.heap.size < k) (i : Nat) (u : Value) : XI w (V.setCell ⟨k, i, none⟩ u) :=
  ⟨h.bel.setCell (Nat.le_of_lt hkr) u, h.res.far (by show w.heap.size ≠ k; omega) u⟩
set_option maxRecDepth 100000 in
set_option maxHeartbeats 8000000 in
theorem rdecode_any (A : Option Addr) (n c : Nat) (l : List UInt8) (w : World) (hr : RB w A l) (hn : l.length = n) (hl : n ≤ 100000) (hnc : n ≤ c) (hcm : c ≤ maxLen) :
    Calls Tryz.prog 12 #[.slice A n c] w fun e w' => RDecPost w l e w' := by
  obtain ⟨W2, hW2⟩ : ∃ W, W = ((w.alloc (.cells #[.slice none 0 0, .slice none 0 0, .slice none 0 0, .slice none 0 0, .slice none 0 0] 25)).alloc (.cells #[.slice A n c, .bool false] 75)).alloc (.cells #[.slice none 0 0, .slice none 0 0, .slice none 0 0, .slice none 0 0, .slice none 0 0] 25) := ⟨_, rfl⟩
  obtain ⟨r, hrr⟩ : ∃ r, r = w.heap.size + 1 := ⟨_, rfl⟩
  obtain ⟨s, hss⟩ : ∃ s, s = w.heap.size + 2 := ⟨_, rfl⟩
  have e1 : (w.alloc (.cells #[.slice none 0 0, .slice none 0 0, .slice none 0 0, .slice none 0 0, .slice none 0 0] 25)).heap.size = w.heap.size + 1 := by simp
  have e2 : ((w.alloc (.cells #[.slice none 0 0, .slice none 0 0, .slice none 0 0, .slice none 0 0, .slice none 0 0] 25)).alloc (.cells #[.slice A n c, .bool false] 75)).heap.size = w.heap.size + 2 := by simp
  have HBW : Hid (Below w.heap.size w W2) := Lib.hid (by rw [hW2]; exact (((Below.refl _ _).alloc (Nat.le_refl _) _).alloc (by simp) _).alloc (by simp; omega) _)
  have HX2 : Hid (XI w W2) := Lib.hid ⟨HBW.out, by rw [hW2]; exact ((Blk.new w 25 #[.slice none 0 0, .slice none 0 0, .slice none 0 0, .slice none 0 0, .slice none 0 0]).alloc _).alloc _⟩
  have HRX2 : Hid (RX W2 r l false) := Lib.hid (by
    refine ⟨A, c, ?_, hr.below HBW.out, by omega, hcm, by omega, (fun e => by cases e), fun hp ad e => ?_⟩
    · have h1 := Blk.new (w.alloc (.cells #[.slice none 0 0, .slice none 0 0, .slice none 0 0, .slice none 0 0, .slice none 0 0] 25)) 75 #[.slice A n c, .bool false]
      rw [e1] at h1
      rw [hW2, hrr, hn]
      exact h1.alloc _
    · obtain ⟨ad', e', hlt, _⟩ := hr.at_ hp
      rw [e] at e'
      cases e'
      left
      omega)
  have HS2 : Hid (Blk W2 s 25 #[.slice none 0 0, .slice none 0 0, .slice none 0 0, .slice none 0 0, .slice none 0 0]) := Lib.hid (by
    have h1 := Blk.new ((w.alloc (.cells #[.slice none 0 0, .slice none 0 0, .slice none 0 0, .slice none 0 0, .slice none 0 0] 25)).alloc (.cells #[.slice A n c, .bool false] 75)) 25 #[.slice none 0 0, .slice none 0 0, .slice none 0 0, .slice none 0 0, .slice none 0 0]
    rw [e2] at h1
    rw [hW2, hss]
    exact h1)
  have HRK : Hid (w.heap.size < r ∧ w.heap.size < s ∧ r ≤ s) := Lib.hid ⟨by omega, by omega, by omega⟩
  have HLN : Hid (l.length ≤ 100000) := Lib.hid (by rw [hn]; exact hl)
  have hz1 := rdT_size l
  have hl1 := rdT_left l
  have hz2 := rdT_size (rdT l).2.1
  have hl2 := rdT_left (rdT l).2.1
  have hz3 := rdT_size (rdT (rdT l).2.1).2.1
  have hl3 := rdT_left (rdT (rdT l).2.1).2.1
  have hl4 := rdFiles_left (rdT (rdT (rdT l).2.1).2.1).2.1
  have HDS : Hid (decS l = (⟨(rdT l).1, (rdT (rdT l).2.1).1, (rdT (rdT (rdT l).2.1).2.1).1, (rdFiles (rdT (rdT (rdT l).2.1).2.1).2.1).1, (rdFiles (rdFiles (rdT (rdT (rdT l).2.1).2.1).2.1).2.1).1⟩,
    (rdFiles (rdFiles (rdT (rdT (rdT l).2.1).2.1).2.1).2.1).2.1, (rdFiles (rdFiles (rdT (rdT (rdT l).2.1).2.1).2.1).2.1).2.2)) := Lib.hid rfl
  have HBE : Hid ((rdFiles (rdT (rdT (rdT l).2.1).2.1).2.1).2.2 = true → (rdFiles (rdFiles (rdT (rdT (rdT l).2.1).2.1).2.1).2.1).2.2 = true) := Lib.hid (fun e => by
    rw [rdFiles_empty _ e, rdFiles_short (by simp)])
  have HC1 := Lib.hid (fun V (h : RX V r l false) => rtextX V r l false h)
  have HC2 := Lib.hid (fun V b (h : RX V r (rdT l).2.1 b) => rtextX V r (rdT l).2.1 b h)
  have HC3 := Lib.hid (fun V b (h : RX V r (rdT (rdT l).2.1).2.1 b) => rtextX V r (rdT (rdT l).2.1).2.1 b h)
  have HC4 := Lib.hid (fun V b (h : RX V r (rdT (rdT (rdT l).2.1).2.1).2.1 b) => rread_any V r (rdT (rdT (rdT l).2.1).2.1).2.1 b h (by have := HLN.out; omega))
  have HC5 := Lib.hid (fun V b (h : RX V r (rdFiles (rdT (rdT (rdT l).2.1).2.1).2.1).2.1 b) => rread_any V r (rdFiles (rdT (rdT (rdT l).2.1).2.1).2.1).2.1 b h (by have := HLN.out; omega))
  unfold RdPost at HC4 HC5
  have hll := HLN.out
  obtain ⟨F5, hF5⟩ : ∃ z, z = rdFiles (rdFiles (rdT (rdT (rdT l).2.1).2.1).2.1).2.1 := ⟨_, rfl⟩
  rw [← hF5] at HDS HBE HC5
  obtain ⟨F4, hF4⟩ : ∃ z, z = rdFiles (rdT (rdT (rdT l).2.1).2.1).2.1 := ⟨_, rfl⟩
  rw [← hF4] at HDS HBE HC5 HC4 hl4
  obtain ⟨T3, hT3⟩ : ∃ z, z = rdT (rdT (rdT l).2.1).2.1 := ⟨_, rfl⟩
  rw [← hT3] at HDS HC3 HC4 hz3 hl3 hl4
  obtain ⟨T2, hT2⟩ : ∃ z, z = rdT (rdT l).2.1 := ⟨_, rfl⟩
  rw [← hT2] at HDS HC2 HC3 hz2 hl2 hz3 hl3
  obtain ⟨T1, hT1⟩ : ∃ z, z = rdT l := ⟨_, rfl⟩
  rw [← hT1] at HDS HC1 HC2 hz1 hl1 hz2 hl2
  obtain ⟨t1, l1, b1⟩ := T1
  obtain ⟨t2, l2, b2⟩ := T2
  obtain ⟨t3, l3, b3⟩ := T3
  obtain ⟨f4, l4, b4⟩ := F4
  obtain ⟨f5, l5, b5⟩ := F5
  simp only at HDS HBE HC1 HC2 HC3 HC4 HC5 hz1 hl1 hz2 hl2 hz3 hl3 hl4
  clear hF5 hF4 hT3 hT2 hT1 HBW hr hn
  go_enter Tryz.func12, Tryz.ntmps12
  go_wp2_with fail
  rw [← hW2, ← hrr, ← hss]
  clear e1 e2 hW2 hrr hss
  have HXa := HX2
  have HRa := HRX2
  have HSa := HS2
  refine (HC1.out _ HRa.out).mono ?_
  rintro e V1 ⟨rfl, hrx, hf⟩
  have HNB : Hid (∀ k, k = r → NoBF _ k) := Lib.hid (fun k e => by obtain ⟨cs, hb⟩ := HRa.out.blk; subst e; exact NoBF.of_blk hb (by decide) (by decide))
  have HXb := Lib.hid (HXa.out.fr hf (fun k e => e ▸ HRK.out.1))
  have HSb := Lib.hid (HSa.out.fr hf (fun e => by obtain ⟨cs, hb⟩ := HRa.out.blk; exact hb.ne_ HSa.out (by decide) e.symm))
  have HRb := Lib.hid hrx
  clear hrx hf HNB HXa HSa HRa
  have HCV := conv_body t1 V1 (by unfold maxLen; omega)
  obtain ⟨g1, hg⟩ : ∃ g, g = V1.heap.size := ⟨_, rfl⟩
  rw [← hg] at HCV
  obtain ⟨c1, U1, kc, hc, hm, hbo, hb, -⟩ := HCV
  rw [hg] at hb
  have HXc := Lib.hid (HXb.out.below hb)
  have HSc := Lib.hid (HSb.out.below hb HSb.out.lt)
  have HRc := Lib.hid (HRb.out.below hb)
  have HP1c : Hid (PtT U1 ⟨some ⟨g1, 0, none⟩, c1, t1⟩) := Lib.hid ⟨hbo 0, hc, hm⟩
  clear hc hm hbo hb hg HXb HSb HRb
  have si := HSc.out.cell 0
  have fi := HSc.out.frozen 0
  simp only [List.getElem?_toArray, List.getElem?_cons_zero, List.getElem?_cons_succ] at si
  have HSa : Hid (Blk (U1.setCell ⟨s, 0, none⟩ (.slice (some ⟨g1, 0, none⟩) t1.length c1)) s 25 #[.slice (some ⟨g1, 0, none⟩) t1.length c1, .slice none 0 0, .slice none 0 0, .slice none 0 0, .slice none 0 0]) := Lib.hid (HSc.out.set_ 0 _)
  have HXa : Hid (XI w (U1.setCell ⟨s, 0, none⟩ (.slice (some ⟨g1, 0, none⟩) t1.length c1))) := Lib.hid (HXc.out.set_ HRK.out.2.1 0 _)
  have HRa : Hid (RX (U1.setCell ⟨s, 0, none⟩ (.slice (some ⟨g1, 0, none⟩) t1.length c1)) r l1 b1) := Lib.hid (HRc.out.set_ HSc.out (by decide) (by decide) HRK.out.2.2 0 _)
  have HP1a : Hid (PtT (U1.setCell ⟨s, 0, none⟩ (.slice (some ⟨g1, 0, none⟩) t1.length c1)) ⟨some ⟨g1, 0, none⟩, c1, t1⟩) := Lib.hid (HP1c.out.set_ HSc.out (by decide) (by decide) 0 _)
  clear HSc HXc HRc HP1c
  go_wp2_with fail
  generalize hWW : (U1.setCell ⟨s, 0, none⟩ (.slice (some ⟨g1, 0, none⟩) t1.length c1)) = Y1 at HSa HXa HRa HP1a ⊢
  clear si fi kc hWW
  refine (HC2.out _ _ HRa.out).mono ?_
  rintro e V2 ⟨rfl, hrx, hf⟩
  have HNB : Hid (∀ k, k = r → NoBF _ k) := Lib.hid (fun k e => by obtain ⟨cs, hb⟩ := HRa.out.blk; subst e; exact NoBF.of_blk hb (by decide) (by decide))
  have HXb := Lib.hid (HXa.out.fr hf (fun k e => e ▸ HRK.out.1))
  have HSb := Lib.hid (HSa.out.fr hf (fun e => by obtain ⟨cs, hb⟩ := HRa.out.blk; exact hb.ne_ HSa.out (by decide) e.symm))
  have HRb := Lib.hid hrx
  have HP1b := Lib.hid (HP1a.out.fr hf HNB.out)
  clear hrx hf HNB HXa HSa HRa HP1a
  have HCV := conv_body t2 V2 (by unfold maxLen; omega)
  obtain ⟨g2, hg⟩ : ∃ g, g = V2.heap.size := ⟨_, rfl⟩
  rw [← hg] at HCV
  obtain ⟨c2, U2, kc, hc, hm, hbo, hb, -⟩ := HCV
  rw [hg] at hb
  have HXc := Lib.hid (HXb.out.below hb)
  have HSc := Lib.hid (HSb.out.below hb HSb.out.lt)
  have HRc := Lib.hid (HRb.out.below hb)
  have HP2c : Hid (PtT U2 ⟨some ⟨g2, 0, none⟩, c2, t2⟩) := Lib.hid ⟨hbo 0, hc, hm⟩
  have HP1c := Lib.hid (HP1b.out.below hb)
  clear hc hm hbo hb hg HXb HSb HRb HP1b
  have si := HSc.out.cell 1
  have fi := HSc.out.frozen 1
  simp only [List.getElem?_toArray, List.getElem?_cons_zero, List.getElem?_cons_succ] at si
  have HSa : Hid (Blk (U2.setCell ⟨s, 1, none⟩ (.slice (some ⟨g2, 0, none⟩) t2.length c2)) s 25 #[.slice (some ⟨g1, 0, none⟩) t1.length c1, .slice (some ⟨g2, 0, none⟩) t2.length c2, .slice none 0 0, .slice none 0 0, .slice none 0 0]) := Lib.hid (HSc.out.set_ 1 _)
  have HXa : Hid (XI w (U2.setCell ⟨s, 1, none⟩ (.slice (some ⟨g2, 0, none⟩) t2.length c2))) := Lib.hid (HXc.out.set_ HRK.out.2.1 1 _)
  have HRa : Hid (RX (U2.setCell ⟨s, 1, none⟩ (.slice (some ⟨g2, 0, none⟩) t2.length c2)) r l2 b2) := Lib.hid (HRc.out.set_ HSc.out (by decide) (by decide) HRK.out.2.2 1 _)
  have HP1a : Hid (PtT (U2.setCell ⟨s, 1, none⟩ (.slice (some ⟨g2, 0, none⟩) t2.length c2)) ⟨some ⟨g1, 0, none⟩, c1, t1⟩) := Lib.hid (HP1c.out.set_ HSc.out (by decide) (by decide) 1 _)
  have HP2a : Hid (PtT (U2.setCell ⟨s, 1, none⟩ (.slice (some ⟨g2, 0, none⟩) t2.length c2)) ⟨some ⟨g2, 0, none⟩, c2, t2⟩) := Lib.hid (HP2c.out.set_ HSc.out (by decide) (by decide) 1 _)
  clear HSc HXc HRc HP1c HP2c
  go_wp2_with fail
  generalize hWW : (U2.setCell ⟨s, 1, none⟩ (.slice (some ⟨g2, 0, none⟩) t2.length c2)) = Y2 at HSa HXa HRa HP1a HP2a ⊢
  clear si fi kc hWW
  refine (HC3.out _ _ HRa.out).mono ?_
  rintro e V3 ⟨rfl, hrx, hf⟩
  have HNB : Hid (∀ k, k = r → NoBF _ k) := Lib.hid (fun k e => by obtain ⟨cs, hb⟩ := HRa.out.blk; subst e; exact NoBF.of_blk hb (by decide) (by decide))
  have HXb := Lib.hid (HXa.out.fr hf (fun k e => e ▸ HRK.out.1))
  have HSb := Lib.hid (HSa.out.fr hf (fun e => by obtain ⟨cs, hb⟩ := HRa.out.blk; exact hb.ne_ HSa.out (by decide) e.symm))
  have HRb := Lib.hid hrx
  have HP1b := Lib.hid (HP1a.out.fr hf HNB.out)
  have HP2b := Lib.hid (HP2a.out.fr hf HNB.out)
  clear hrx hf HNB HXa HSa HRa HP1a HP2a
  have HCV := conv_body t3 V3 (by unfold maxLen; omega)
  obtain ⟨g3, hg⟩ : ∃ g, g = V3.heap.size := ⟨_, rfl⟩
  rw [← hg] at HCV
  obtain ⟨c3, U3, kc, hc, hm, hbo, hb, -⟩ := HCV
  rw [hg] at hb
  have HXc := Lib.hid (HXb.out.below hb)
  have HSc := Lib.hid (HSb.out.below hb HSb.out.lt)
  have HRc := Lib.hid (HRb.out.below hb)
  have HP3c : Hid (PtT U3 ⟨some ⟨g3, 0, none⟩, c3, t3⟩) := Lib.hid ⟨hbo 0, hc, hm⟩
  have HP1c := Lib.hid (HP1b.out.below hb)
  have HP2c := Lib.hid (HP2b.out.below hb)
  clear hc hm hbo hb hg HXb HSb HRb HP1b HP2b
  have si := HSc.out.cell 2
  have fi := HSc.out.frozen 2
  simp only [List.getElem?_toArray, List.getElem?_cons_zero, List.getElem?_cons_succ] at si
  have HSa : Hid (Blk (U3.setCell ⟨s, 2, none⟩ (.slice (some ⟨g3, 0, none⟩) t3.length c3)) s 25 #[.slice (some ⟨g1, 0, none⟩) t1.length c1, .slice (some ⟨g2, 0, none⟩) t2.length c2, .slice (some ⟨g3, 0, none⟩) t3.length c3, .slice none 0 0, .slice none 0 0]) := Lib.hid (HSc.out.set_ 2 _)
  have HXa : Hid (XI w (U3.setCell ⟨s, 2, none⟩ (.slice (some ⟨g3, 0, none⟩) t3.length c3))) := Lib.hid (HXc.out.set_ HRK.out.2.1 2 _)
  have HRa : Hid (RX (U3.setCell ⟨s, 2, none⟩ (.slice (some ⟨g3, 0, none⟩) t3.length c3)) r l3 b3) := Lib.hid (HRc.out.set_ HSc.out (by decide) (by decide) HRK.out.2.2 2 _)
  have HP1a : Hid (PtT (U3.setCell ⟨s, 2, none⟩ (.slice (some ⟨g3, 0, none⟩) t3.length c3)) ⟨some ⟨g1, 0, none⟩, c1, t1⟩) := Lib.hid (HP1c.out.set_ HSc.out (by decide) (by decide) 2 _)
  have HP2a : Hid (PtT (U3.setCell ⟨s, 2, none⟩ (.slice (some ⟨g3, 0, none⟩) t3.length c3)) ⟨some ⟨g2, 0, none⟩, c2, t2⟩) := Lib.hid (HP2c.out.set_ HSc.out (by decide) (by decide) 2 _)
  have HP3a : Hid (PtT (U3.setCell ⟨s, 2, none⟩ (.slice (some ⟨g3, 0, none⟩) t3.length c3)) ⟨some ⟨g3, 0, none⟩, c3, t3⟩) := Lib.hid (HP3c.out.set_ HSc.out (by decide) (by decide) 2 _)
  clear HSc HXc HRc HP1c HP2c HP3c
  go_wp2_with fail
  generalize hWW : (U3.setCell ⟨s, 2, none⟩ (.slice (some ⟨g3, 0, none⟩) t3.length c3)) = Y3 at HSa HXa HRa HP1a HP2a HP3a ⊢
  clear si fi kc hWW
  refine (HC4.out _ _ HRa.out).mono ?_
  rintro e V4 ⟨v4, fs4, rfl, ho, he, hrx, hf, hln, hnm⟩
  obtain ⟨A4, c4, hv, -, -, -, -, -⟩ := ho.shape
  obtain ⟨m4, hm4⟩ : ∃ z, z = fs4.length := ⟨_, rfl⟩
  rw [← hm4] at hv
  subst hv
  have HM4 := Lib.hid hm4
  have HO4b : Hid (OFl 0 V4 0 (.slice A4 m4 c4) fs4) := Lib.hid (ho.mono (Nat.zero_le _))
  have HE4 := Lib.hid he
  have HLM4 := Lib.hid hln
  have HNM4 := Lib.hid hnm
  have HNB : Hid (∀ k, k = r → NoBF _ k) := Lib.hid (fun k e => by obtain ⟨cs, hb⟩ := HRa.out.blk; subst e; exact NoBF.of_blk hb (by decide) (by decide))
  have HXb := Lib.hid (HXa.out.fr hf (fun k e => e ▸ HRK.out.1))
  have HSb := Lib.hid (HSa.out.fr hf (fun e => by obtain ⟨cs, hb⟩ := HRa.out.blk; exact hb.ne_ HSa.out (by decide) e.symm))
  have HRb := Lib.hid hrx
  have HP1b := Lib.hid (HP1a.out.fr hf HNB.out)
  have HP2b := Lib.hid (HP2a.out.fr hf HNB.out)
  have HP3b := Lib.hid (HP3a.out.fr hf HNB.out)
  clear ho he hrx hf hln hnm hm4 HNB HXa HSa HRa HP1a HP2a HP3a
  have si := HSb.out.cell 3
  have fi := HSb.out.frozen 3
  simp only [List.getElem?_toArray, List.getElem?_cons_zero, List.getElem?_cons_succ] at si
  have HSa : Hid (Blk (V4.setCell ⟨s, 3, none⟩ (.slice A4 m4 c4)) s 25 #[.slice (some ⟨g1, 0, none⟩) t1.length c1, .slice (some ⟨g2, 0, none⟩) t2.length c2, .slice (some ⟨g3, 0, none⟩) t3.length c3, .slice A4 m4 c4, .slice none 0 0]) := Lib.hid (HSb.out.set_ 3 _)
  have HXa : Hid (XI w (V4.setCell ⟨s, 3, none⟩ (.slice A4 m4 c4))) := Lib.hid (HXb.out.set_ HRK.out.2.1 3 _)
  have HRa : Hid (RX (V4.setCell ⟨s, 3, none⟩ (.slice A4 m4 c4)) r l4 b4) := Lib.hid (HRb.out.set_ HSb.out (by decide) (by decide) HRK.out.2.2 3 _)
  have HP1a : Hid (PtT (V4.setCell ⟨s, 3, none⟩ (.slice A4 m4 c4)) ⟨some ⟨g1, 0, none⟩, c1, t1⟩) := Lib.hid (HP1b.out.set_ HSb.out (by decide) (by decide) 3 _)
  have HP2a : Hid (PtT (V4.setCell ⟨s, 3, none⟩ (.slice A4 m4 c4)) ⟨some ⟨g2, 0, none⟩, c2, t2⟩) := Lib.hid (HP2b.out.set_ HSb.out (by decide) (by decide) 3 _)
  have HP3a : Hid (PtT (V4.setCell ⟨s, 3, none⟩ (.slice A4 m4 c4)) ⟨some ⟨g3, 0, none⟩, c3, t3⟩) := Lib.hid (HP3b.out.set_ HSb.out (by decide) (by decide) 3 _)
  have HO4a : Hid (OFl 0 (V4.setCell ⟨s, 3, none⟩ (.slice A4 m4 c4)) 0 (.slice A4 m4 c4) fs4) := Lib.hid (HO4b.out.set_ HSb.out (by decide) (by decide) 3 _)
  clear HSb HXb HRb HP1b HP2b HP3b HO4b
  go_wp2_with fail
  generalize hWW : (V4.setCell ⟨s, 3, none⟩ (.slice A4 m4 c4)) = Y4 at HSa HXa HRa HP1a HP2a HP3a HO4a ⊢
  clear si fi hWW
  refine (HC5.out _ _ HRa.out).mono ?_
  rintro e V5 ⟨v5, fs5, rfl, ho, he, hrx, hf, hln, hnm⟩
  obtain ⟨A5, c5, hv, -, -, -, -, -⟩ := ho.shape
  obtain ⟨m5, hm5⟩ : ∃ z, z = fs5.length := ⟨_, rfl⟩
  rw [← hm5] at hv
  subst hv
  have HM5 := Lib.hid hm5
  have HO5b : Hid (OFl 0 V5 0 (.slice A5 m5 c5) fs5) := Lib.hid (ho.mono (Nat.zero_le _))
  have HE5 := Lib.hid he
  have HLM5 := Lib.hid hln
  have HNM5 := Lib.hid hnm
  have HNB : Hid (∀ k, k = r → NoBF _ k) := Lib.hid (fun k e => by obtain ⟨cs, hb⟩ := HRa.out.blk; subst e; exact NoBF.of_blk hb (by decide) (by decide))
  have HXb := Lib.hid (HXa.out.fr hf (fun k e => e ▸ HRK.out.1))
  have HSb := Lib.hid (HSa.out.fr hf (fun e => by obtain ⟨cs, hb⟩ := HRa.out.blk; exact hb.ne_ HSa.out (by decide) e.symm))
  have HRb := Lib.hid hrx
  have HP1b := Lib.hid (HP1a.out.fr hf HNB.out)
  have HP2b := Lib.hid (HP2a.out.fr hf HNB.out)
  have HP3b := Lib.hid (HP3a.out.fr hf HNB.out)
  have HO4b := Lib.hid (OFl.frN (bb := 0) HO4a.out hf HNB.out)
  clear ho he hrx hf hln hnm hm5 HNB HXa HSa HRa HP1a HP2a HP3a HO4a
  have si := HSb.out.cell 4
  have fi := HSb.out.frozen 4
  simp only [List.getElem?_toArray, List.getElem?_cons_zero, List.getElem?_cons_succ] at si
  have HSa : Hid (Blk (V5.setCell ⟨s, 4, none⟩ (.slice A5 m5 c5)) s 25 #[.slice (some ⟨g1, 0, none⟩) t1.length c1, .slice (some ⟨g2, 0, none⟩) t2.length c2, .slice (some ⟨g3, 0, none⟩) t3.length c3, .slice A4 m4 c4, .slice A5 m5 c5]) := Lib.hid (HSb.out.set_ 4 _)
  have HXa : Hid (XI w (V5.setCell ⟨s, 4, none⟩ (.slice A5 m5 c5))) := Lib.hid (HXb.out.set_ HRK.out.2.1 4 _)
  have HRa : Hid (RX (V5.setCell ⟨s, 4, none⟩ (.slice A5 m5 c5)) r l5 b5) := Lib.hid (HRb.out.set_ HSb.out (by decide) (by decide) HRK.out.2.2 4 _)
  have HP1a : Hid (PtT (V5.setCell ⟨s, 4, none⟩ (.slice A5 m5 c5)) ⟨some ⟨g1, 0, none⟩, c1, t1⟩) := Lib.hid (HP1b.out.set_ HSb.out (by decide) (by decide) 4 _)
  have HP2a : Hid (PtT (V5.setCell ⟨s, 4, none⟩ (.slice A5 m5 c5)) ⟨some ⟨g2, 0, none⟩, c2, t2⟩) := Lib.hid (HP2b.out.set_ HSb.out (by decide) (by decide) 4 _)
  have HP3a : Hid (PtT (V5.setCell ⟨s, 4, none⟩ (.slice A5 m5 c5)) ⟨some ⟨g3, 0, none⟩, c3, t3⟩) := Lib.hid (HP3b.out.set_ HSb.out (by decide) (by decide) 4 _)
  have HO4a : Hid (OFl 0 (V5.setCell ⟨s, 4, none⟩ (.slice A5 m5 c5)) 0 (.slice A4 m4 c4) fs4) := Lib.hid (HO4b.out.set_ HSb.out (by decide) (by decide) 4 _)
  have HO5a : Hid (OFl 0 (V5.setCell ⟨s, 4, none⟩ (.slice A5 m5 c5)) 0 (.slice A5 m5 c5) fs5) := Lib.hid (HO5b.out.set_ HSb.out (by decide) (by decide) 4 _)
  clear HSb HXb HRb HP1b HP2b HP3b HO4b HO5b
  have HX8 : Hid (STy (V5.setCell ⟨s, 4, none⟩ (.slice A5 m5 c5)) (SV.dec ⟨some ⟨g1, 0, none⟩, c1, t1⟩ ⟨some ⟨g2, 0, none⟩, c2, t2⟩ ⟨some ⟨g3, 0, none⟩, c3, t3⟩ A4 c4 fs4 A5 c5 fs5)) := Lib.hid (by
    refine ⟨HP1a.out, HP2a.out, HP3a.out, ?_, ?_⟩
    · show OFl 0 _ 0 (.slice A4 fs4.length c4) fs4
      rw [← HM4.out]
      exact HO4a.out
    · show OFl 0 _ 0 (.slice A5 fs5.length c5) fs5
      rw [← HM5.out]
      exact HO5a.out)
  have HSM : Hid (SM (SV.dec ⟨some ⟨g1, 0, none⟩, c1, t1⟩ ⟨some ⟨g2, 0, none⟩, c2, t2⟩ ⟨some ⟨g3, 0, none⟩, c3, t3⟩ A4 c4 fs4 A5 c5 fs5)) := Lib.hid ⟨by show t1.length ≤ _; omega, by show t2.length ≤ _; omega, by show t3.length ≤ _; omega, Nat.le_trans HLM4.out (by omega), Nat.le_trans HLM5.out (by omega), HNM4.out, HNM5.out⟩
  have HXV : Hid (((SV.dec ⟨some ⟨g1, 0, none⟩, c1, t1⟩ ⟨some ⟨g2, 0, none⟩, c2, t2⟩ ⟨some ⟨g3, 0, none⟩, c3, t3⟩ A4 c4 fs4 A5 c5 fs5)).v = .agg #[.slice (some ⟨g1, 0, none⟩) t1.length c1, .slice (some ⟨g2, 0, none⟩) t2.length c2, .slice (some ⟨g3, 0, none⟩) t3.length c3, .slice A4 m4 c4, .slice A5 m5 c5]) := Lib.hid (by
    show Value.agg #[.slice (some ⟨g1, 0, none⟩) t1.length c1, .slice (some ⟨g2, 0, none⟩) t2.length c2, .slice (some ⟨g3, 0, none⟩) t3.length c3, .slice A4 fs4.length c4, .slice A5 fs5.length c5] = _
    rw [← HM4.out, ← HM5.out])
  have HEQ : Hid (b5 = false → (decS l).1 = ((SV.dec ⟨some ⟨g1, 0, none⟩, c1, t1⟩ ⟨some ⟨g2, 0, none⟩, c2, t2⟩ ⟨some ⟨g3, 0, none⟩, c3, t3⟩ A4 c4 fs4 A5 c5 fs5)).sta) := Lib.hid (fun e => by
    have e4 : b4 = false := by
      cases b4 with
      | false => rfl
      | true => rw [HBE.out rfl] at e; cases e
    rw [HDS.out]
    show (⟨t1, t2, t3, f4, f5⟩ : Sta) = ⟨t1, t2, t3, fiL fs4, fiL fs5⟩
    rw [HE4.out e4, HE5.out e])
  have HD1 : Hid ((decS l).2.1 = l5 ∧ (decS l).2.2 = b5) := Lib.hid (by rw [HDS.out]; exact ⟨rfl, rfl⟩)
  generalize (SV.dec ⟨some ⟨g1, 0, none⟩, c1, t1⟩ ⟨some ⟨g2, 0, none⟩, c2, t2⟩ ⟨some ⟨g3, 0, none⟩, c3, t3⟩ A4 c4 fs4 A5 c5 fs5) = X at HX8 HSM HXV HEQ
  have HMY := fun V (hV : Below ((V5.setCell ⟨s, 4, none⟩ (.slice A5 m5 c5))).heap.size (V5.setCell ⟨s, 4, none⟩ (.slice A5 m5 c5)) V) => rmay_any X V (HX8.out.at_.below hV) HSM.out
  obtain ⟨z, hz⟩ : ∃ z, z = mayS fnameL pathL X.sta := ⟨_, rfl⟩
  rw [HXV.out, ← hz] at HMY
  have HMYY := Lib.hid (HMY _ (Below.refl _ _))
  have HZ := Lib.hid hz.symm
  obtain ⟨RA, RCC, rr0, rr1, -, -⟩ := HRa.out.parts
  obtain ⟨n5, hn5⟩ : ∃ z, z = l5.length := ⟨_, rfl⟩
  rw [← hn5] at rr0
  have HN5 := Lib.hid hn5
  clear HMY hz hn5 HC1 HC2 HC3 HC4 HC5 HP1a HP2a HP3a HO4a HO5a HE4 HE5 HM4 HM5 HLM4 HLM5 HNM4 HNM5 HDS HBE
  cases b5 with
  | true =>
    have HP : Hid (decP fnameL pathL l = none) := Lib.hid (decP_bad (.inl HD1.out.2))
    have q0 := HXa.out.res.cell 0
    have z0 := HXa.out.res.frozen 0
    have q1 := HXa.out.res.cell 1
    have z1 := HXa.out.res.frozen 1
    have q2 := HXa.out.res.cell 2
    have z2 := HXa.out.res.frozen 2
    have q3 := HXa.out.res.cell 3
    have z3 := HXa.out.res.frozen 3
    have q4 := HXa.out.res.cell 4
    have z4 := HXa.out.res.frozen 4
    simp only [List.getElem?_toArray, List.getElem?_cons_zero, List.getElem?_cons_succ] at q0 q1 q2 q3 q4
    go_wp2
    have HF : Hid (Blk ((((((V5.setCell ⟨s, 4, none⟩ (.slice A5 m5 c5)).setCell ⟨w.heap.size, 0, none⟩ (.slice none 0 0)).setCell ⟨w.heap.size, 1, none⟩ (.slice none 0 0)).setCell ⟨w.heap.size, 2, none⟩ (.slice none 0 0)).setCell ⟨w.heap.size, 3, none⟩ (.slice none 0 0)).setCell ⟨w.heap.size, 4, none⟩ (.slice none 0 0)) w.heap.size 25 #[.slice none 0 0, .slice none 0 0, .slice none 0 0, .slice none 0 0, .slice none 0 0]) := Lib.hid (((((HXa.out.res.set_ 0 (.slice none 0 0)).set_ 1 (.slice none 0 0)).set_ 2 (.slice none 0 0)).set_ 3 (.slice none 0 0)).set_ 4 (.slice none 0 0))
    have HBF : Hid (Below w.heap.size w ((((((V5.setCell ⟨s, 4, none⟩ (.slice A5 m5 c5)).setCell ⟨w.heap.size, 0, none⟩ (.slice none 0 0)).setCell ⟨w.heap.size, 1, none⟩ (.slice none 0 0)).setCell ⟨w.heap.size, 2, none⟩ (.slice none 0 0)).setCell ⟨w.heap.size, 3, none⟩ (.slice none 0 0)).setCell ⟨w.heap.size, 4, none⟩ (.slice none 0 0))) := Lib.hid (((((HXa.out.bel.setCell (Nat.le_refl _) (.slice none 0 0)).setCell (Nat.le_refl _) (.slice none 0 0)).setCell (Nat.le_refl _) (.slice none 0 0)).setCell (Nat.le_refl _) (.slice none 0 0)).setCell (Nat.le_refl _) (.slice none 0 0))
    generalize ((((((V5.setCell ⟨s, 4, none⟩ (.slice A5 m5 c5)).setCell ⟨w.heap.size, 0, none⟩ (.slice none 0 0)).setCell ⟨w.heap.size, 1, none⟩ (.slice none 0 0)).setCell ⟨w.heap.size, 2, none⟩ (.slice none 0 0)).setCell ⟨w.heap.size, 3, none⟩ (.slice none 0 0)).setCell ⟨w.heap.size, 4, none⟩ (.slice none 0 0)) = Wf at HF HBF ⊢
    have k0 := HF.out.cell 0
    have k1 := HF.out.cell 1
    have k2 := HF.out.cell 2
    have k3 := HF.out.cell 3
    have k4 := HF.out.cell 4
    simp only [List.getElem?_toArray, List.getElem?_cons_zero, List.getElem?_cons_succ] at k0 k1 k2 k3 k4
    refine bodyPost_ret (v := .tuple #[.agg #[.slice none 0 0, .slice none 0 0, .slice none 0 0, .slice none 0 0, .slice none 0 0], .bool false]) (by simp [results, Tryz.results12, go_sem, k0, k1, k2, k3, k4]) rfl ?_
    exact ⟨HBF.out, .inr ⟨HP.out, rfl⟩⟩
  | false =>
    rcases Nat.eq_zero_or_pos n5 with h0 | h0
    · have n1 : decide ((0 : Int) < (n5 : Int)) = false := by rw [decide_eq_false_iff_not]; omega
      have n1' : decide (0 < n5) = false := by rw [decide_eq_false_iff_not]; omega
      have HL5 : Hid (l5 = []) := Lib.hid (List.eq_nil_of_length_eq_zero (by rw [← HN5.out]; exact h0))
      have s0 := HSa.out.cell 0
      have s1 := HSa.out.cell 1
      have s2 := HSa.out.cell 2
      have s3 := HSa.out.cell 3
      have s4 := HSa.out.cell 4
      simp only [List.getElem?_toArray, List.getElem?_cons_zero, List.getElem?_cons_succ] at s0 s1 s2 s3 s4
      clear h0
      go_wp2_with fail
      refine HMYY.out.mono ?_
      rintro e w9 ⟨rfl, hb9⟩
      have HX9 := Lib.hid (HXa.out.below hb9)
      have HT9 := Lib.hid (HX8.out.below hb9)
      have HS9 := Lib.hid (HSa.out.below hb9 HSa.out.lt)
      clear s0 s1 s2 s3 s4 si fi rr0 rr1 hb9
      have s0 := HS9.out.cell 0
      have s1 := HS9.out.cell 1
      have s2 := HS9.out.cell 2
      have s3 := HS9.out.cell 3
      have s4 := HS9.out.cell 4
      simp only [List.getElem?_toArray, List.getElem?_cons_zero, List.getElem?_cons_succ] at s0 s1 s2 s3 s4
      cases z with
      | false =>
        have HP : Hid (decP fnameL pathL l = none) := Lib.hid (decP_not (HEQ.out (by first | rfl | trivial)) HZ.out)
        have q0 := HX9.out.res.cell 0
        have z0 := HX9.out.res.frozen 0
        have q1 := HX9.out.res.cell 1
        have z1 := HX9.out.res.frozen 1
        have q2 := HX9.out.res.cell 2
        have z2 := HX9.out.res.frozen 2
        have q3 := HX9.out.res.cell 3
        have z3 := HX9.out.res.frozen 3
        have q4 := HX9.out.res.cell 4
        have z4 := HX9.out.res.frozen 4
        simp only [List.getElem?_toArray, List.getElem?_cons_zero, List.getElem?_cons_succ] at q0 q1 q2 q3 q4
        go_wp2
        have HF : Hid (Blk (((((w9.setCell ⟨w.heap.size, 0, none⟩ (.slice none 0 0)).setCell ⟨w.heap.size, 1, none⟩ (.slice none 0 0)).setCell ⟨w.heap.size, 2, none⟩ (.slice none 0 0)).setCell ⟨w.heap.size, 3, none⟩ (.slice none 0 0)).setCell ⟨w.heap.size, 4, none⟩ (.slice none 0 0)) w.heap.size 25 #[.slice none 0 0, .slice none 0 0, .slice none 0 0, .slice none 0 0, .slice none 0 0]) := Lib.hid (((((HX9.out.res.set_ 0 (.slice none 0 0)).set_ 1 (.slice none 0 0)).set_ 2 (.slice none 0 0)).set_ 3 (.slice none 0 0)).set_ 4 (.slice none 0 0))
        have HBF : Hid (Below w.heap.size w (((((w9.setCell ⟨w.heap.size, 0, none⟩ (.slice none 0 0)).setCell ⟨w.heap.size, 1, none⟩ (.slice none 0 0)).setCell ⟨w.heap.size, 2, none⟩ (.slice none 0 0)).setCell ⟨w.heap.size, 3, none⟩ (.slice none 0 0)).setCell ⟨w.heap.size, 4, none⟩ (.slice none 0 0))) := Lib.hid (((((HX9.out.bel.setCell (Nat.le_refl _) (.slice none 0 0)).setCell (Nat.le_refl _) (.slice none 0 0)).setCell (Nat.le_refl _) (.slice none 0 0)).setCell (Nat.le_refl _) (.slice none 0 0)).setCell (Nat.le_refl _) (.slice none 0 0))
        generalize (((((w9.setCell ⟨w.heap.size, 0, none⟩ (.slice none 0 0)).setCell ⟨w.heap.size, 1, none⟩ (.slice none 0 0)).setCell ⟨w.heap.size, 2, none⟩ (.slice none 0 0)).setCell ⟨w.heap.size, 3, none⟩ (.slice none 0 0)).setCell ⟨w.heap.size, 4, none⟩ (.slice none 0 0)) = Wf at HF HBF ⊢
        have k0 := HF.out.cell 0
        have k1 := HF.out.cell 1
        have k2 := HF.out.cell 2
        have k3 := HF.out.cell 3
        have k4 := HF.out.cell 4
        simp only [List.getElem?_toArray, List.getElem?_cons_zero, List.getElem?_cons_succ] at k0 k1 k2 k3 k4
        refine bodyPost_ret (v := .tuple #[.agg #[.slice none 0 0, .slice none 0 0, .slice none 0 0, .slice none 0 0, .slice none 0 0], .bool false]) (by simp [results, Tryz.results12, go_sem, k0, k1, k2, k3, k4]) rfl ?_
        exact ⟨HBF.out, .inr ⟨HP.out, rfl⟩⟩
      | true =>
        have HP : Hid (decP fnameL pathL l = some X.sta) := Lib.hid (decP_ok HD1.out.2 (by rw [HD1.out.1]; exact HL5.out) (HEQ.out (by first | rfl | trivial)) HZ.out)
        have q0 := HX9.out.res.cell 0
        have z0 := HX9.out.res.frozen 0
        have q1 := HX9.out.res.cell 1
        have z1 := HX9.out.res.frozen 1
        have q2 := HX9.out.res.cell 2
        have z2 := HX9.out.res.frozen 2
        have q3 := HX9.out.res.cell 3
        have z3 := HX9.out.res.frozen 3
        have q4 := HX9.out.res.cell 4
        have z4 := HX9.out.res.frozen 4
        simp only [List.getElem?_toArray, List.getElem?_cons_zero, List.getElem?_cons_succ] at q0 q1 q2 q3 q4
        go_wp2
        have HF : Hid (Blk (((((w9.setCell ⟨w.heap.size, 0, none⟩ (.slice (some ⟨g1, 0, none⟩) t1.length c1)).setCell ⟨w.heap.size, 1, none⟩ (.slice (some ⟨g2, 0, none⟩) t2.length c2)).setCell ⟨w.heap.size, 2, none⟩ (.slice (some ⟨g3, 0, none⟩) t3.length c3)).setCell ⟨w.heap.size, 3, none⟩ (.slice A4 m4 c4)).setCell ⟨w.heap.size, 4, none⟩ (.slice A5 m5 c5)) w.heap.size 25 #[.slice (some ⟨g1, 0, none⟩) t1.length c1, .slice (some ⟨g2, 0, none⟩) t2.length c2, .slice (some ⟨g3, 0, none⟩) t3.length c3, .slice A4 m4 c4, .slice A5 m5 c5]) := Lib.hid (((((HX9.out.res.set_ 0 (.slice (some ⟨g1, 0, none⟩) t1.length c1)).set_ 1 (.slice (some ⟨g2, 0, none⟩) t2.length c2)).set_ 2 (.slice (some ⟨g3, 0, none⟩) t3.length c3)).set_ 3 (.slice A4 m4 c4)).set_ 4 (.slice A5 m5 c5))
        have HBF : Hid (Below w.heap.size w (((((w9.setCell ⟨w.heap.size, 0, none⟩ (.slice (some ⟨g1, 0, none⟩) t1.length c1)).setCell ⟨w.heap.size, 1, none⟩ (.slice (some ⟨g2, 0, none⟩) t2.length c2)).setCell ⟨w.heap.size, 2, none⟩ (.slice (some ⟨g3, 0, none⟩) t3.length c3)).setCell ⟨w.heap.size, 3, none⟩ (.slice A4 m4 c4)).setCell ⟨w.heap.size, 4, none⟩ (.slice A5 m5 c5))) := Lib.hid (((((HX9.out.bel.setCell (Nat.le_refl _) (.slice (some ⟨g1, 0, none⟩) t1.length c1)).setCell (Nat.le_refl _) (.slice (some ⟨g2, 0, none⟩) t2.length c2)).setCell (Nat.le_refl _) (.slice (some ⟨g3, 0, none⟩) t3.length c3)).setCell (Nat.le_refl _) (.slice A4 m4 c4)).setCell (Nat.le_refl _) (.slice A5 m5 c5))
        have HXF : Hid (STy (((((w9.setCell ⟨w.heap.size, 0, none⟩ (.slice (some ⟨g1, 0, none⟩) t1.length c1)).setCell ⟨w.heap.size, 1, none⟩ (.slice (some ⟨g2, 0, none⟩) t2.length c2)).setCell ⟨w.heap.size, 2, none⟩ (.slice (some ⟨g3, 0, none⟩) t3.length c3)).setCell ⟨w.heap.size, 3, none⟩ (.slice A4 m4 c4)).setCell ⟨w.heap.size, 4, none⟩ (.slice A5 m5 c5)) X) := Lib.hid (sty_set9 (sty_set9 (sty_set9 (sty_set9 (sty_set9 HT9.out HX9.out.res 0 (.slice (some ⟨g1, 0, none⟩) t1.length c1)) (HX9.out.res.set_ 0 (.slice (some ⟨g1, 0, none⟩) t1.length c1)) 1 (.slice (some ⟨g2, 0, none⟩) t2.length c2)) ((HX9.out.res.set_ 0 (.slice (some ⟨g1, 0, none⟩) t1.length c1)).set_ 1 (.slice (some ⟨g2, 0, none⟩) t2.length c2)) 2 (.slice (some ⟨g3, 0, none⟩) t3.length c3)) (((HX9.out.res.set_ 0 (.slice (some ⟨g1, 0, none⟩) t1.length c1)).set_ 1 (.slice (some ⟨g2, 0, none⟩) t2.length c2)).set_ 2 (.slice (some ⟨g3, 0, none⟩) t3.length c3)) 3 (.slice A4 m4 c4)) ((((HX9.out.res.set_ 0 (.slice (some ⟨g1, 0, none⟩) t1.length c1)).set_ 1 (.slice (some ⟨g2, 0, none⟩) t2.length c2)).set_ 2 (.slice (some ⟨g3, 0, none⟩) t3.length c3)).set_ 3 (.slice A4 m4 c4)) 4 (.slice A5 m5 c5))
        generalize (((((w9.setCell ⟨w.heap.size, 0, none⟩ (.slice (some ⟨g1, 0, none⟩) t1.length c1)).setCell ⟨w.heap.size, 1, none⟩ (.slice (some ⟨g2, 0, none⟩) t2.length c2)).setCell ⟨w.heap.size, 2, none⟩ (.slice (some ⟨g3, 0, none⟩) t3.length c3)).setCell ⟨w.heap.size, 3, none⟩ (.slice A4 m4 c4)).setCell ⟨w.heap.size, 4, none⟩ (.slice A5 m5 c5)) = Wf at HF HBF HXF ⊢
        have k0 := HF.out.cell 0
        have k1 := HF.out.cell 1
        have k2 := HF.out.cell 2
        have k3 := HF.out.cell 3
        have k4 := HF.out.cell 4
        simp only [List.getElem?_toArray, List.getElem?_cons_zero, List.getElem?_cons_succ] at k0 k1 k2 k3 k4
        refine bodyPost_ret (v := .tuple #[.agg #[.slice (some ⟨g1, 0, none⟩) t1.length c1, .slice (some ⟨g2, 0, none⟩) t2.length c2, .slice (some ⟨g3, 0, none⟩) t3.length c3, .slice A4 m4 c4, .slice A5 m5 c5], .bool true]) (by simp [results, Tryz.results12, go_sem, k0, k1, k2, k3, k4]) rfl ?_
        rw [← HXV.out]
        exact ⟨HBF.out, .inl ⟨X, HP.out, rfl, HXF.out, HSM.out⟩⟩
    · have n1 : decide ((0 : Int) < (n5 : Int)) = true := by rw [decide_eq_true_iff]; omega
      have n1' : decide (0 < n5) = true := by rw [decide_eq_true_iff]; omega
      have HP : Hid (decP fnameL pathL l = none) := Lib.hid (decP_bad (.inr (by rw [HD1.out.1]; intro e; have := HN5.out; rw [e] at this; simp at this; omega)))
      clear h0
      have q0 := HXa.out.res.cell 0
      have z0 := HXa.out.res.frozen 0
      have q1 := HXa.out.res.cell 1
      have z1 := HXa.out.res.frozen 1
      have q2 := HXa.out.res.cell 2
      have z2 := HXa.out.res.frozen 2
      have q3 := HXa.out.res.cell 3
      have z3 := HXa.out.res.frozen 3
      have q4 := HXa.out.res.cell 4
      have z4 := HXa.out.res.frozen 4
      simp only [List.getElem?_toArray, List.getElem?_cons_zero, List.getElem?_cons_succ] at q0 q1 q2 q3 q4
      go_wp2
      have HF : Hid (Blk ((((((V5.setCell ⟨s, 4, none⟩ (.slice A5 m5 c5)).setCell ⟨w.heap.size, 0, none⟩ (.slice none 0 0)).setCell ⟨w.heap.size, 1, none⟩ (.slice none 0 0)).setCell ⟨w.heap.size, 2, none⟩ (.slice none 0 0)).setCell ⟨w.heap.size, 3, none⟩ (.slice none 0 0)).setCell ⟨w.heap.size, 4, none⟩ (.slice none 0 0)) w.heap.size 25 #[.slice none 0 0, .slice none 0 0, .slice none 0 0, .slice none 0 0, .slice none 0 0]) := Lib.hid (((((HXa.out.res.set_ 0 (.slice none 0 0)).set_ 1 (.slice none 0 0)).set_ 2 (.slice none 0 0)).set_ 3 (.slice none 0 0)).set_ 4 (.slice none 0 0))
      have HBF : Hid (Below w.heap.size w ((((((V5.setCell ⟨s, 4, none⟩ (.slice A5 m5 c5)).setCell ⟨w.heap.size, 0, none⟩ (.slice none 0 0)).setCell ⟨w.heap.size, 1, none⟩ (.slice none 0 0)).setCell ⟨w.heap.size, 2, none⟩ (.slice none 0 0)).setCell ⟨w.heap.size, 3, none⟩ (.slice none 0 0)).setCell ⟨w.heap.size, 4, none⟩ (.slice none 0 0))) := Lib.hid (((((HXa.out.bel.setCell (Nat.le_refl _) (.slice none 0 0)).setCell (Nat.le_refl _) (.slice none 0 0)).setCell (Nat.le_refl _) (.slice none 0 0)).setCell (Nat.le_refl _) (.slice none 0 0)).setCell (Nat.le_refl _) (.slice none 0 0))
      generalize ((((((V5.setCell ⟨s, 4, none⟩ (.slice A5 m5 c5)).setCell ⟨w.heap.size, 0, none⟩ (.slice none 0 0)).setCell ⟨w.heap.size, 1, none⟩ (.slice none 0 0)).setCell ⟨w.heap.size, 2, none⟩ (.slice none 0 0)).setCell ⟨w.heap.size, 3, none⟩ (.slice none 0 0)).setCell ⟨w.heap.size, 4, none⟩ (.slice none 0 0)) = Wf at HF HBF ⊢
      have k0 := HF.out.cell 0
      have k1 := HF.out.cell 1
      have k2 := HF.out.cell 2
      have k3 := HF.out.cell 3
      have k4 := HF.out.cell 4
      simp only [List.getElem?_toArray, List.getElem?_cons_zero, List.getElem?_cons_succ] at k0 k1 k2 k3 k4
      refine bodyPost_ret (v := .tuple #[.agg #[.slice none 0 0, .slice none 0 0, .slice none 0 0, .slice none 0 0, .slice none 0 0], .bool false]) (by simp [results, Tryz.results12, go_sem, k0, k1, k2, k3, k4]) rfl ?_
      exact ⟨HBF.out, .inr ⟨HP.out, rfl⟩⟩
end Go.Proofs.YtgpcinfhcamgpaaGreatDoor
