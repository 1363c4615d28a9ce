/-
  The document's kids, Depth, Count.
-/
import Derived.Test.YteofdpogjnojnaaGreatDoorVa4
namespace Go.Proofs.YteofdpogjnojnaaGreatDoor
open Go.RowKit
attribute [local go_sem ↓] Go.wp_at_zero Go.wp_at_succ
set_option linter.unusedVariables false
set_option linter.unusedSimpArgs false

def KidP (v : MV) (w : World) (e : Ending) (w' : World) : Prop :=
  ∃ (A : Option Addr) (n c : Nat), e = .returned (.slice A n c) ∧ n = (v.l ++ v.m).length ∧ Reads w' w'.heap.size 5 A n ((v.l ++ v.m).flatMap MV.cs) ∧ Below w.heap.size w w'
theorem VAt.rl {w : World} {v : MV} (h : VAt w v) : Reads w w.heap.size 5 v.lA v.l.length (v.l.flatMap MV.cs) := by cases h; assumption
theorem oneC_csL (l : List MV) : ∀ u ∈ l.flatMap MV.cs, u.oneCell' = true := fun u hu => by
  rw [List.mem_flatMap] at hu
  obtain ⟨x, _, hu⟩ := hu
  exact oneC_cs x u hu
set_option maxRecDepth 100000 in
set_option maxHeartbeats 1000000 in
theorem rkids_any (v : MV) (w : World) (h : VAt w v) (hf : FitV v) : Calls Tryz.prog 20 #[v.val] w fun e w' => KidP v w e w' := by
  show Calls Tryz.prog 20 #[v.val] w fun e w' => PF (KidP v w) e w'
  have hsm : v.l.length + v.m.length ≤ 3001 := by cases hf; assumption
  have HV := Lib.hid h
  unfold MV.val
  obtain ⟨i0, hi0, hz0, hz1, hz2⟩ := info_parts infoValue
  have HINF := Lib.hid (And.intro hi0 (And.intro hz0 (And.intro hz1 hz2)))
  obtain ⟨nl, hnl⟩ : ∃ nl, nl = v.l.length := ⟨_, rfl⟩
  obtain ⟨nm, hnm⟩ : ∃ nm, nm = v.m.length := ⟨_, rfl⟩
  rw [← hnl, ← hnm] at hsm ⊢
  have HNL : Hid (v.l.length = nl) := Lib.hid hnl.symm
  have HNM : Hid (v.m.length = nm) := Lib.hid hnm.symm
  have hnl3 : (nl : Int) ≤ 3001 := by omega
  have hnm3 : (nm : Int) ≤ 3001 := by omega
  obtain ⟨W1, hW1⟩ : ∃ W1, W1 = w.alloc (.cells #[.int .i64 v.k, .int .i64 v.n, .string v.s, .slice v.lA nl v.lc, .slice v.mA nm v.mc] 25) := ⟨_, rfl⟩
  have hb1 : Below w.heap.size w W1 := by rw [hW1]; exact (Below.refl _ _).alloc (Nat.le_refl _) _
  have hk1 : Blk W1 w.heap.size 25 #[.int .i64 v.k, .int .i64 v.n, .string v.s, .slice v.lA nl v.lc, .slice v.mA nm v.mc] := by rw [hW1]; exact Blk.new _ _ _
  obtain ⟨W2, hW2⟩ : ∃ W2, W2 = W1.alloc (.cells #[] 25) := ⟨_, rfl⟩
  have hb2 : Below W1.heap.size W1 W2 := by rw [hW2]; exact (Below.refl _ _).alloc (Nat.le_refl _) _
  have hsz1 : W1.heap.size = w.heap.size + 1 := by rw [hW1]; simp
  have HO0 : Hid (W2.ownsRow (w.heap.size + 1) 25 5 (.slice (some ⟨w.heap.size + 1, 0, none⟩) 0 0) 0 []) := Lib.hid (by
    rw [hW2, ← hsz1]
    exact ⟨rfl, .inr ⟨W1.heap.size, 0, #[], rfl, Nat.le_refl _, heap_alloc_new W1 _, Nat.le_refl _, by simp [maxLen], rfl, rfl⟩⟩)
  have HB2 := Lib.hid (hb1.trans (hb2.mono hb1.size))
  have HK2 := Lib.hid (hk1.below hb2 hk1.lt)
  have HSZ : Hid (w.heap.size + 1 ≤ W2.heap.size) := Lib.hid (by rw [← hsz1]; exact hb2.size)
  have HRL : Hid (Reads W2 W2.heap.size 5 v.lA nl (v.l.flatMap MV.cs)) := Lib.hid (by rw [hnl]; exact (h.bel HB2.out).rl)
  have b3 := hk1.cell 3
  simp only [List.getElem?_toArray, List.getElem?_cons_zero, List.getElem?_cons_succ] at b3
  have b3' := HK2.out.cell 3
  simp only [List.getElem?_toArray, List.getElem?_cons_zero, List.getElem?_cons_succ] at b3'
  clear h hf hnl hnm hi0 hz0 hz1 hz2 hb1 hk1 hb2 hsz1
  subst hW2
  subst hW1
  go_enter Tryz.func20, Tryz.ntmps20
  go_wp2_with (at_builtin; refine wpList_append_any _ rfl _ _ 22 rfl _ 25 i0 _ 5 80 Tryz.underlying22 HINF.out.1 HINF.out.2.1 HINF.out.2.2.1 HINF.out.2.2.2 rfl (by omega) _ 0 [] rfl HO0.out _ _ nl v.lc (v.l.flatMap MV.cs) rfl HRL.out (oneC_csL _) (by simp only [maxLen]; omega) (by omega) HSZ.out ?_; intro v1 w1 hown1 hg1 hat1)
  have HB3 : Hid (Below w.heap.size w w1) := Lib.hid (HB2.out.grown hg1 HB2.out.size (by intro k hk; cases hk; exact Nat.le_succ _))
  have HK3 := Lib.hid (HK2.out.grown hg1 (fun e => by injection e with e; exact absurd (show w.heap.size = w.heap.size + 1 from e) (by omega)))
  have HO3 := Lib.hid hown1
  have hgs := hg1.size
  clear hown1 hg1 hat1 b3 b3' HO0 HRL
  go_wp2
  go_loopw [3, 4] (fun x y wr => ∃ i : Nat, y = .int .i64 (i : Int) ∧ i ≤ nm ∧ Hid (wr.ownsRow (w.heap.size + 1) 25 5 x (nl + i) ((v.l ++ v.m.take i).flatMap MV.cs)) ∧ Hid (Below w.heap.size w wr) ∧ Hid (Blk wr w.heap.size 25 #[.int .i64 v.k, .int .i64 v.n, .string v.s, .slice v.lA nl v.lc, .slice v.mA nm v.mc] ∧ w.heap.size + 1 ≤ wr.heap.size)) (fun _ y _ => nm - (intOf y).toNat)
  case atStart => exact ⟨0, rfl, Nat.zero_le _, Lib.hid (by simpa using HO3.out), HB3, Lib.hid ⟨HK3.out, Nat.le_trans HSZ.out hgs⟩⟩
  case round =>
    clear HO3 HB3 HK3 HK2 HB2
    obtain ⟨i, rfl, hi, HO, HW, HKB⟩ := hrel
    have b4 := HKB.out.1.cell 4
    simp only [List.getElem?_toArray, List.getElem?_cons_zero, List.getElem?_cons_succ] at b4
    rcases (by omega : i < nm ∨ i = nm) with hlt | heq
    · have q0 : decide ((i : Int) < (nm : Int)) = true := by rw [decide_eq_true_iff]; omega
      have q0' : decide (i < nm) = true := by rw [decide_eq_true_iff]; omega
      have hil : i < v.m.length := by rw [HNM.out]; exact hlt
      obtain ⟨b, o, hA, hbl, hc⟩ := (HV.out.bel HW.out).ma (i := i) hil
      obtain ⟨x, hx⟩ : ∃ x, x = v.m[i] := ⟨_, rfl⟩
      rw [← hx] at hc
      rw [hA] at b4
      have d1 : wr.cell? ⟨b, o + i * 6 + 1, none⟩ = some (.int .i64 x.k) := hc 1 (by omega)
      have d2 : wr.cell? ⟨b, o + i * 6 + 1 + 1, none⟩ = some (.int .i64 x.n) := hc 2 (by omega)
      have d3 : wr.cell? ⟨b, o + i * 6 + 1 + 2, none⟩ = some (.string x.s) := hc 3 (by omega)
      have d4 : wr.cell? ⟨b, o + i * 6 + 1 + 3, none⟩ = some (.slice x.lA x.l.length x.lc) := hc 4 (by omega)
      have d5 : wr.cell? ⟨b, o + i * 6 + 1 + 4, none⟩ = some (.slice x.mA x.m.length x.mc) := hc 5 (by omega)
      have hbb : Below wr.heap.size wr (wr.alloc (.cells #[.int .i64 x.k, .int .i64 x.n, .string x.s, .slice x.lA x.l.length x.lc, .slice x.mA x.m.length x.mc] 25)) := (Below.refl _ _).alloc (Nat.le_refl _) _
      have HXB : Hid (Reads (wr.alloc (.cells #[.int .i64 x.k, .int .i64 x.n, .string x.s, .slice x.lA x.l.length x.lc, .slice x.mA x.m.length x.mc] 25)) (wr.alloc (.cells #[.int .i64 x.k, .int .i64 x.n, .string x.s, .slice x.lA x.l.length x.lc, .slice x.mA x.m.length x.mc] 25)).heap.size 5 (some ⟨wr.heap.size, 0, none⟩) 1 x.cs) := by
        have hk := Blk.new wr 25 #[.int .i64 x.k, .int .i64 x.n, .string x.s, .slice x.lA x.l.length x.lc, .slice x.mA x.m.length x.mc]
        exact Lib.hid ⟨rfl, fun _ => ⟨_, rfl, hk.lt, fun j u hu => by
          rw [Addr.add_lit, Nat.zero_add, hk.cell j]
          simpa [MV.cs] using hu⟩⟩
      have HOB : Hid ((wr.alloc (.cells #[.int .i64 x.k, .int .i64 x.n, .string x.s, .slice x.lA x.l.length x.lc, .slice x.mA x.m.length x.mc] 25)).ownsRow (w.heap.size + 1) 25 5 _ (nl + i) ((v.l ++ v.m.take i).flatMap MV.cs)) := Lib.hid (by
        refine ⟨HO.out.1, ?_⟩
        rcases HO.out.2 with h0 | ⟨g, cap, cur, hv, hg, hh, hn⟩
        · exact .inl h0
        · exact .inr ⟨g, cap, cur, hv, hg, (hbb.block g (Blk.lt (t := 25) hh)).trans hh, hn⟩)
      have HGE : Hid (∀ j, Value.ownBlock _ = some j → w.heap.size + 1 ≤ j) := Lib.hid (fun j e => (World.ownsRow.lt HO.out j e).1)
      have HBB := Lib.hid hbb
      have HXX := Lib.hid hx
      have HIL := Lib.hid hil
      have hii : (i : Int) < (nm : Int) := by omega
      have hi0 : (0 : Int) ≤ (i : Int) := by omega
      have hbs := Nat.le_trans HKB.out.2 hbb.size
      clear hc hx hbl hbb hA
      go_wp2_with (at_builtin; refine wpList_append_any _ rfl _ _ 22 rfl (w.heap.size + 1) 25 i0 _ 5 80 Tryz.underlying22 HINF.out.1 HINF.out.2.1 HINF.out.2.2.1 HINF.out.2.2.2 rfl (by omega) _ (nl + i) _ rfl HOB.out _ _ 1 1 x.cs rfl HXB.out (oneC_cs x) (by simp only [maxLen]; omega) (by omega) hbs ?_; intro v1 w1 hown1 hg1 hat1)
      have HW2 : Hid (Below w.heap.size w w1) := Lib.hid ((HW.out.trans (HBB.out.mono HW.out.size)).grown hg1 (Nat.le_trans HW.out.size HBB.out.size) (fun j e => Nat.le_of_lt (HGE.out j e)))
      have HKB2 : Hid (Blk w1 w.heap.size 25 #[.int .i64 v.k, .int .i64 v.n, .string v.s, .slice v.lA nl v.lc, .slice v.mA nm v.mc] ∧ w.heap.size + 1 ≤ w1.heap.size) := Lib.hid ⟨(HKB.out.1.below HBB.out HKB.out.1.lt).grown hg1 (fun e => by have := HGE.out _ e.symm; omega), Nat.le_trans hbs hg1.size⟩
      have HO2 : Hid (w1.ownsRow (w.heap.size + 1) 25 5 v1 (nl + (i + 1)) ((v.l ++ v.m.take (i + 1)).flatMap MV.cs)) := Lib.hid (by
        rw [List.take_succ_eq_append_getElem HIL.out, ← HXX.out, ← List.append_assoc, List.flatMap_append, List.flatMap_singleton]
        exact hown1)
      clear hown1 hg1 hat1
      go_wp2
      go_roundw
      case rel => exact ⟨i + 1, by go_num, by omega, HO2, HW2, HKB2⟩
      case measure => simp [intOf]; omega
    · have q0 : decide ((i : Int) < (nm : Int)) = false := by rw [decide_eq_false_iff_not]; omega
      have q0' : decide (i < nm) = false := by rw [decide_eq_false_iff_not]; omega
      rw [heq, List.take_of_length_le (by rw [HNM.out]; exact Nat.le_refl _)] at HO
      have HE := Lib.hid HO.out
      clear heq
      go_wp2
      go_ret
      rcases HE.out.2 with ⟨hv, h0⟩ | ⟨g, cap, cur, hv, hg, hh, hn, hm, hcs, ht⟩
      · refine ⟨none, 0, 0, by rw [hv]; rfl, by rw [List.length_append, HNL.out, HNM.out]; omega, ?_, HW.out⟩
        have : v.l ++ v.m = [] := List.eq_nil_of_length_eq_zero (by rw [List.length_append, HNL.out, HNM.out]; omega)
        rw [this]
        exact Reads.none_
      · have ho := HE.out
        rw [hv] at ho
        exact ⟨_, nl + nm, cap, by rw [hv]; rfl, by rw [List.length_append, HNL.out, HNM.out], Reads.of_own ho, HW.out⟩
end Go.Proofs.YteofdpogjnojnaaGreatDoor
