/-
  The document's Apply.
-/
import Derived.Test.YtefkpphahimkgaaGreatDoorApD1
namespace Go.Proofs.YtefkpphahimkgaaGreatDoor
open Go.RowKit
attribute [local go_sem ↓] Go.wp_at_zero Go.wp_at_succ
set_option linter.unusedVariables false
set_option linter.unusedSimpArgs false

/-- what the document's loops keep -/
structure DaS (w W1 : World) (A : Option Addr) (N c : Nat) (l : List ME) (v e0 : Int) (A2 : Option Addr) (c2 : Nat) (L : List CE) (rv : Value) (hs : HL) (wr : World) : Prop where
  b0 : Below w.heap.size w W1
  bel : Below W1.heap.size W1 wr
  box : Blk W1 w.heap.size 24 #[.int .i64 v, .int .i64 e0, .slice A N c]
  ml : MAt W1 A c l
  cl : CAt W1 A2 c2 L
  own : OHl wr W1.heap.size rv hs
section
variable {w W1 : World} {A : Option Addr} {N c : Nat} {l : List ME} {v e0 : Int} {A2 : Option Addr} {c2 : Nat} {L : List CE} {rv : Value} {hs : HL} {wr w' : World}
theorem DaS.below (h : DaS w W1 A N c l v e0 A2 c2 L rv hs wr) (hb : Below wr.heap.size wr w') : DaS w W1 A N c l v e0 A2 c2 L rv hs w' :=
  ⟨h.b0, h.bel.trans (hb.mono h.bel.size), h.box, h.ml, h.cl, h.own.below hb⟩
theorem DaS.blk (h : DaS w W1 A N c l v e0 A2 c2 L rv hs wr) : Blk wr w.heap.size 24 #[.int .i64 v, .int .i64 e0, .slice A N c] := h.box.below h.bel h.box.lt
theorem DaS.app {w2 : World} {rv' : Value} {hs' : HL} (h : DaS w W1 A N c l v e0 A2 c2 L rv hs wr) (hb : Below wr.heap.size wr w2) (hg : w2.grownBy w' rv.ownBlock) (ho : OHl w' W1.heap.size rv' hs') : DaS w W1 A N c l v e0 A2 c2 L rv' hs' w' :=
  ⟨h.b0, below_grown (h.bel.trans (hb.mono h.bel.size)) hg (Nat.le_trans h.bel.size hb.size) h.own.ge, h.box, h.ml, h.cl, ho⟩
theorem DaS.new {rv' : Value} {hs' : HL} (h : DaS w W1 A N c l v e0 A2 c2 L rv hs wr) (hb : Below wr.heap.size wr w') (ho : OHl w' W1.heap.size rv' hs') : DaS w W1 A N c l v e0 A2 c2 L rv' hs' w' :=
  ⟨h.b0, h.bel.trans (hb.mono h.bel.size), h.box, h.ml, h.cl, ho⟩
end
/-- the names that are held, or that one does not fit -/
def DapP (o : Option HL) (w : World) (e : Ending) (w' : World) : Prop := match o with
  | some hs => ∃ rv, e = .returned (.tuple #[rv, .bool true]) ∧ OHl w' w.heap.size rv hs ∧ Below w.heap.size w w'
  | none => e = .returned (.tuple #[.slice none 0 0, .bool false]) ∧ Below w.heap.size w w'
set_option maxRecDepth 100000 in
set_option maxHeartbeats 16000000 in
theorem rapply_any {w : World} (v e0 : Int) {A : Option Addr} {c : Nat} {l : List ME} (h : MAt w A c l) (hl : l.length ≤ 1000) {A2 : Option Addr} {c2 : Nat} {L : List CE} (h2 : CAt w A2 c2 L) (hL : L.length ≤ 1000) :
    Calls Tryz.prog 22 #[.agg #[.int .i64 v, .int .i64 e0, .slice A l.length c], .slice A2 L.length c2] w fun e w' => PFb (DapP (applyL (versL l) L) w) e w' := by
  obtain ⟨n, hn⟩ : ∃ n, n = L.length := ⟨_, rfl⟩
  obtain ⟨N, hN⟩ : ∃ N, N = l.length := ⟨_, rfl⟩
  obtain ⟨W1, hW1⟩ : ∃ W1, W1 = (w.alloc (.cells #[.int .i64 v, .int .i64 e0, .slice A N c] 24)) := ⟨_, rfl⟩
  have hb1 : Below w.heap.size w W1 := by rw [hW1]; exact (Below.refl _ _).alloc (Nat.le_refl _) _
  have hk1 : Blk W1 w.heap.size 24 #[.int .i64 v, .int .i64 e0, .slice A N c] := by rw [hW1]; exact Blk.new _ _ _
  have HS0 : Hid (DaS w W1 A N c l v e0 A2 c2 L (.slice none 0 0) (versL (l.take 0)) W1) := Lib.hid ⟨hb1, Below.refl _ _, hk1, h.bel hb1, h2.bel hb1, OHl.nil _ _⟩
  have hnI : (n : Int) ≤ 1000 := by omega
  have hNI : (N : Int) ≤ 1000 := by omega
  have HN := Lib.hid hn
  have HNN := Lib.hid hN
  have HW := Lib.hid hW1
  obtain ⟨R, hR⟩ : ∃ R, R = applyL (versL l) L := ⟨_, rfl⟩
  have HR := Lib.hid hR
  rw [← hn, ← hN, ← hR]
  clear hb1 hk1 h hn hW1 hl h2 hL hN hR
  go_enter Tryz.func22, Tryz.ntmps22
  go_upto_region 1 with (fail)
  rw [← HW.out]
  go_wp2
  -- the files' versions
  go_loopw [6, 7, 8, 9] (fun rv y _ _ wr => ∃ (i : Nat), i ≤ N ∧ y = .int .i64 (i : Int) ∧ Hid (DaS w W1 A N c l v e0 A2 c2 L rv (versL (l.take i)) wr)) (fun _ y _ _ _ => N - (intOf y).toNat)
  case atStart => exact ⟨0, Nat.zero_le _, rfl, HS0⟩
  case round =>
    clear HS0
    obtain ⟨i, hi, rfl, HS⟩ := hrel
    obtain ⟨w0, hw0⟩ : ∃ w0, wr = w0 := ⟨_, rfl⟩
    subst wr
    have hi0 : (0 : Int) ≤ (i : Int) := by omega
    have x2 := HS.out.blk.cell 2
    simp only [List.getElem?_toArray, List.getElem?_cons_zero, List.getElem?_cons_succ] at x2
    rcases (by omega : i < N ∨ i = N) with hlt | heq
    · have q0 : decide ((i : Int) < (N : Int)) = true := by rw [decide_eq_true_iff]; omega
      have q0' : decide (i < N) = true := by rw [decide_eq_true_iff]; omega
      have hil : i < l.length := by rw [← HNN.out]; exact hlt
      have hii : (i : Int) < (N : Int) := by omega
      go_wp2
      clear x2
      go_loopw [8, 9] (fun f y wr => ∃ (k : Nat) (fb : Bool), k ≤ i ∧ y = .int .i64 (k : Int) ∧ f = .bool fb ∧ Hid (fb = firB (l.take k) l[i].name) ∧ Hid (Below w0.heap.size w0 wr)) (fun _ y _ => i - (intOf y).toNat)
      case atStart => exact ⟨0, true, Nat.zero_le _, rfl, rfl, Lib.hid rfl, Lib.hid (Below.refl _ _)⟩
      case round =>
        obtain ⟨k, fb, hk, rfl, rfl, HFB, HB⟩ := hrel
        have HS1 := Lib.hid (HS.out.below HB.out)
        obtain ⟨b, o, hA, hbl, hcs⟩ := HS1.out.ml.at_ (by omega)
        have hA' := hA
        subst hA
        rcases (by omega : k < i ∨ k = i) with hki | hki
        · have hkl : k < l.length := by omega
          have z0 : decide ((k : Int) < (i : Int)) = true := by rw [decide_eq_true_iff]; omega
          have z0' : decide (k < i) = true := by rw [decide_eq_true_iff]; omega
          have hkI : (k : Int) < (N : Int) := by omega
          have hk0 : (0 : Int) ≤ (k : Int) := by omega
          obtain ⟨na, hna⟩ : ∃ na, na = l[k].name := ⟨_, rfl⟩
          obtain ⟨nb, hnb⟩ : ∃ nb, nb = l[i].name := ⟨_, rfl⟩
          have HNX : Hid (firB (l.take (k + 1)) l[i].name = (fb && !decide (na = nb))) := Lib.hid (by rw [firB_next hkl, ← HFB.out, hna, hnb]; simp)
          have HCE : Hid (∀ V, Below wr.heap.size wr V → V.cell? ⟨w.heap.size, 2, none⟩ = some (.slice (some ⟨b, o, none⟩) N c) ∧ V.cell? ⟨b, o + k * 4, none⟩ = some (.string na) ∧ V.cell? ⟨b, o + i * 4, none⟩ = some (.string nb)) := Lib.hid (fun V hV => by
            have hv := HS1.out.bel.trans (hV.mono HS1.out.bel.size)
            have h0 := (HS1.out.below hV).blk.cell 2
            refine ⟨h0, ?_, ?_⟩
            · have := hcs k hkl 0 (by omega)
              rw [hna]
              exact (hv.cell hbl).trans this
            · have := hcs i hil 0 (by omega)
              rw [hnb]
              exact (hv.cell hbl).trans this)
          clear hna hnb hcs hbl hA'
          cases fb with
          | false =>
            have HNX2 : Hid (false = firB (l.take (k + 1)) l[i].name) := Lib.hid (by rw [HNX.out]; rfl)
            go_wp2
            refine wp_region_held_drew (S := fun V => Below wr.heap.size wr V) (by kernel_rfl) ((Below.refl _ _).drew) (fun hS1 => ?_)
            refine wpAnyH_take (i := 0) (oi := ⟨some 26, _, _, _, _, _⟩) (v := .bool false) rfl (by kernel_rfl) (by kernel_rfl) (by kernel_rfl) (fun _ _ _ h => h) (.inl ⟨by kernel_rfl, fun V hS => by go_simp⟩) hS1 ?_
            simp only [Act.put, List.setIfInBounds_toArray, List.set_cons_zero, List.set_cons_succ]
            refine wpAnyH_take (i := 1) (oi := ⟨some 27, _, _, _, _, _⟩) (v := .bool false) rfl (by kernel_rfl) (by kernel_rfl) (by kernel_rfl) (fun _ _ _ h => h) (.inl ⟨by kernel_rfl, fun V hS => by go_simp⟩) hS1 ?_
            simp only [Act.put, List.setIfInBounds_toArray, List.set_cons_zero, List.set_cons_succ]
            refine wpAnyH_take (i := 2) (oi := ⟨some 28, _, _, _, _, _⟩) (v := undef) rfl (by kernel_rfl) (by kernel_rfl) (by kernel_rfl) (fun _ _ _ h => h) (.inr ⟨by kernel_rfl, rfl⟩) hS1 ?_
            simp only [Act.put, List.setIfInBounds_toArray, List.set_cons_zero, List.set_cons_succ]
            refine wpAnyH_take (i := 3) (oi := ⟨some 29, _, _, _, _, _⟩) (v := undef) rfl (by kernel_rfl) (by kernel_rfl) (by kernel_rfl) (fun _ _ _ h => h) (.inr ⟨by kernel_rfl, rfl⟩) hS1 ?_
            simp only [Act.put, List.setIfInBounds_toArray, List.set_cons_zero, List.set_cons_succ]
            refine wpAnyH_take (i := 4) (oi := ⟨some 30, _, _, _, _, _⟩) (v := undef) rfl (by kernel_rfl) (by kernel_rfl) (by kernel_rfl) (fun _ _ _ h => h) (.inr ⟨by kernel_rfl, rfl⟩) hS1 ?_
            simp only [Act.put, List.setIfInBounds_toArray, List.set_cons_zero, List.set_cons_succ]
            refine wpAnyH_take (i := 5) (oi := ⟨some 31, _, _, _, _, _⟩) (v := undef) rfl (by kernel_rfl) (by kernel_rfl) (by kernel_rfl) (fun _ _ _ h => h) (.inr ⟨by kernel_rfl, rfl⟩) hS1 ?_
            simp only [Act.put, List.setIfInBounds_toArray, List.set_cons_zero, List.set_cons_succ]
            refine wpAnyH_take (i := 6) (oi := ⟨some 32, _, _, _, _, _⟩) (v := undef) rfl (by kernel_rfl) (by kernel_rfl) (by kernel_rfl) (fun _ _ _ h => h) (.inr ⟨by kernel_rfl, rfl⟩) hS1 ?_
            simp only [Act.put, List.setIfInBounds_toArray, List.set_cons_zero, List.set_cons_succ]
            refine wpAnyH_take (i := 7) (oi := ⟨some 33, _, _, _, _, _⟩) (v := undef) rfl (by kernel_rfl) (by kernel_rfl) (by kernel_rfl) (fun _ _ _ h => h) (.inr ⟨by kernel_rfl, rfl⟩) hS1 ?_
            simp only [Act.put, List.setIfInBounds_toArray, List.set_cons_zero, List.set_cons_succ]
            refine wpAnyH_take (i := 8) (oi := ⟨some 34, _, _, _, _, _⟩) (v := undef) rfl (by kernel_rfl) (by kernel_rfl) (by kernel_rfl) (fun _ _ _ h => h) (.inr ⟨by kernel_rfl, rfl⟩) hS1 ?_
            simp only [Act.put, List.setIfInBounds_toArray, List.set_cons_zero, List.set_cons_succ]
            refine wpAnyH_take (i := 9) (oi := ⟨some 35, _, _, _, _, _⟩) (v := undef) rfl (by kernel_rfl) (by kernel_rfl) (by kernel_rfl) (fun _ _ _ h => h) (.inr ⟨by kernel_rfl, rfl⟩) hS1 ?_
            simp only [Act.put, List.setIfInBounds_toArray, List.set_cons_zero, List.set_cons_succ]
            refine wpAnyH_take (i := 10) (oi := ⟨some 36, _, _, _, _, _⟩) (v := undef) rfl (by kernel_rfl) (by kernel_rfl) (by kernel_rfl) (fun _ _ _ h => h) (.inr ⟨by kernel_rfl, rfl⟩) hS1 ?_
            simp only [Act.put, List.setIfInBounds_toArray, List.set_cons_zero, List.set_cons_succ]
            refine wpAnyH_take (i := 11) (oi := ⟨some 37, _, _, _, _, _⟩) (v := undef) rfl (by kernel_rfl) (by kernel_rfl) (by kernel_rfl) (fun _ _ _ h => h) (.inr ⟨by kernel_rfl, rfl⟩) hS1 ?_
            simp only [Act.put, List.setIfInBounds_toArray, List.set_cons_zero, List.set_cons_succ]
            refine wpAnyH_take (i := 12) (oi := ⟨some 38, _, _, _, _, _⟩) (v := undef) rfl (by kernel_rfl) (by kernel_rfl) (by kernel_rfl) (fun _ _ _ h => h) (.inr ⟨by kernel_rfl, rfl⟩) hS1 ?_
            simp only [Act.put, List.setIfInBounds_toArray, List.set_cons_zero, List.set_cons_succ]
            refine wpAnyH_take (i := 13) (oi := ⟨some 39, _, _, _, _, _⟩) (v := undef) rfl (by kernel_rfl) (by kernel_rfl) (by kernel_rfl) (fun _ _ _ h => h) (.inr ⟨by kernel_rfl, rfl⟩) hS1 ?_
            simp only [Act.put, List.setIfInBounds_toArray, List.set_cons_zero, List.set_cons_succ]
            refine wpAnyH_take (i := 14) (oi := ⟨some 40, _, _, _, _, _⟩) (v := undef) rfl (by kernel_rfl) (by kernel_rfl) (by kernel_rfl) (fun _ _ _ h => h) (.inr ⟨by kernel_rfl, rfl⟩) hS1 ?_
            simp only [Act.put, List.setIfInBounds_toArray, List.set_cons_zero, List.set_cons_succ]
            refine wpAnyH_take (i := 15) (oi := ⟨some 41, _, _, _, _, _⟩) (v := .bool false) rfl (by kernel_rfl) (by kernel_rfl) (by kernel_rfl) (fun _ _ _ h => h) (.inl ⟨by kernel_rfl, fun V hS => by go_simp⟩) hS1 ?_
            simp only [Act.put, List.setIfInBounds_toArray, List.set_cons_zero, List.set_cons_succ]
            refine wpAnyH_take (i := 16) (oi := ⟨some 8, _, _, _, _, _⟩) (v := .bool false) rfl (by kernel_rfl) (by kernel_rfl) (by kernel_rfl) (fun _ _ _ h => h) (.inl ⟨by kernel_rfl, fun V hS => by go_simp⟩) hS1 ?_
            simp only [Act.put, List.setIfInBounds_toArray, List.set_cons_zero, List.set_cons_succ]
            refine wpAnyH_done (by kernel_rfl) ?_ _
            have HB2 : Hid (Below w0.heap.size w0 wr.drew) := Lib.hid (HB.out.trans (hS1.mono HB.out.size))
            clear hS1
            go_wp2
            go_roundw
            case rel => exact ⟨k + 1, false, by omega, by go_num, rfl, HNX2, HB2⟩
            case measure => simp [intOf]; omega
          | true =>
            obtain ⟨eq, heq⟩ : ∃ eq, eq = decide (na = nb) := ⟨_, rfl⟩
            have HNX2 : Hid ((!eq) = firB (l.take (k + 1)) l[i].name) := Lib.hid (by rw [HNX.out, heq]; rfl)
            have heq' : (na.toList == nb.toList) = eq := by rw [nm_beq, heq]
            clear heq
            go_wp2
            refine wp_region_held_drew (S := fun V => Below wr.heap.size wr V) (by kernel_rfl) ((Below.refl _ _).drew) (fun hS1 => ?_)
            refine wpAnyH_take (i := 0) (oi := ⟨some 26, _, _, _, _, _⟩) (v := .bool true) rfl (by kernel_rfl) (by kernel_rfl) (by kernel_rfl) (fun _ _ _ h => h) (.inl ⟨by kernel_rfl, fun V hS => by go_simp⟩) hS1 ?_
            simp only [Act.put, List.setIfInBounds_toArray, List.set_cons_zero, List.set_cons_succ]
            refine wpAnyH_take (i := 1) (oi := ⟨some 27, _, _, _, _, _⟩) (v := .bool true) rfl (by kernel_rfl) (by kernel_rfl) (by kernel_rfl) (fun _ _ _ h => h) (.inl ⟨by kernel_rfl, fun V hS => by go_simp⟩) hS1 ?_
            simp only [Act.put, List.setIfInBounds_toArray, List.set_cons_zero, List.set_cons_succ]
            refine wpAnyH_take (i := 2) (oi := ⟨some 28, _, _, _, _, _⟩) (v := .pointer (some ⟨w.heap.size, 2, none⟩)) rfl (by kernel_rfl) (by kernel_rfl) (by kernel_rfl) (fun _ _ _ h => h) (.inl ⟨by kernel_rfl, fun V hS => by go_simp⟩) hS1 ?_
            simp only [Act.put, List.setIfInBounds_toArray, List.set_cons_zero, List.set_cons_succ]
            refine wpAnyH_take (i := 3) (oi := ⟨some 29, _, _, _, _, _⟩) (v := .slice (some ⟨b, o, none⟩) N c) rfl (by kernel_rfl) (by kernel_rfl) (by kernel_rfl) (fun _ _ _ h => h) (.inl ⟨by kernel_rfl, fun V hS => by obtain ⟨h0, h1, h2⟩ := HCE.out V hS; go_simp⟩) hS1 ?_
            simp only [Act.put, List.setIfInBounds_toArray, List.set_cons_zero, List.set_cons_succ]
            refine wpAnyH_take (i := 4) (oi := ⟨some 30, _, _, _, _, _⟩) (v := .int .i64 (k : Int)) rfl (by kernel_rfl) (by kernel_rfl) (by kernel_rfl) (fun _ _ _ h => h) (.inl ⟨by kernel_rfl, fun V hS => by go_simp⟩) hS1 ?_
            simp only [Act.put, List.setIfInBounds_toArray, List.set_cons_zero, List.set_cons_succ]
            refine wpAnyH_take (i := 5) (oi := ⟨some 31, _, _, _, _, _⟩) (v := .pointer (some ⟨b, o + k * 4, none⟩)) rfl (by kernel_rfl) (by kernel_rfl) (by kernel_rfl) (fun _ _ _ h => h) (.inl ⟨by kernel_rfl, fun V hS => by go_simp⟩) hS1 ?_
            simp only [Act.put, List.setIfInBounds_toArray, List.set_cons_zero, List.set_cons_succ]
            refine wpAnyH_take (i := 6) (oi := ⟨some 32, _, _, _, _, _⟩) (v := .pointer (some ⟨b, o + k * 4, none⟩)) rfl (by kernel_rfl) (by kernel_rfl) (by kernel_rfl) (fun _ _ _ h => h) (.inl ⟨by kernel_rfl, fun V hS => by go_simp⟩) hS1 ?_
            simp only [Act.put, List.setIfInBounds_toArray, List.set_cons_zero, List.set_cons_succ]
            refine wpAnyH_take (i := 7) (oi := ⟨some 33, _, _, _, _, _⟩) (v := .string na) rfl (by kernel_rfl) (by kernel_rfl) (by kernel_rfl) (fun _ _ _ h => h) (.inl ⟨by kernel_rfl, fun V hS => by obtain ⟨h0, h1, h2⟩ := HCE.out V hS; go_simp⟩) hS1 ?_
            simp only [Act.put, List.setIfInBounds_toArray, List.set_cons_zero, List.set_cons_succ]
            refine wpAnyH_take (i := 8) (oi := ⟨some 34, _, _, _, _, _⟩) (v := .pointer (some ⟨w.heap.size, 2, none⟩)) rfl (by kernel_rfl) (by kernel_rfl) (by kernel_rfl) (fun _ _ _ h => h) (.inl ⟨by kernel_rfl, fun V hS => by go_simp⟩) hS1 ?_
            simp only [Act.put, List.setIfInBounds_toArray, List.set_cons_zero, List.set_cons_succ]
            refine wpAnyH_take (i := 9) (oi := ⟨some 35, _, _, _, _, _⟩) (v := .slice (some ⟨b, o, none⟩) N c) rfl (by kernel_rfl) (by kernel_rfl) (by kernel_rfl) (fun _ _ _ h => h) (.inl ⟨by kernel_rfl, fun V hS => by obtain ⟨h0, h1, h2⟩ := HCE.out V hS; go_simp⟩) hS1 ?_
            simp only [Act.put, List.setIfInBounds_toArray, List.set_cons_zero, List.set_cons_succ]
            refine wpAnyH_take (i := 10) (oi := ⟨some 36, _, _, _, _, _⟩) (v := .int .i64 (i : Int)) rfl (by kernel_rfl) (by kernel_rfl) (by kernel_rfl) (fun _ _ _ h => h) (.inl ⟨by kernel_rfl, fun V hS => by go_simp⟩) hS1 ?_
            simp only [Act.put, List.setIfInBounds_toArray, List.set_cons_zero, List.set_cons_succ]
            refine wpAnyH_take (i := 11) (oi := ⟨some 37, _, _, _, _, _⟩) (v := .pointer (some ⟨b, o + i * 4, none⟩)) rfl (by kernel_rfl) (by kernel_rfl) (by kernel_rfl) (fun _ _ _ h => h) (.inl ⟨by kernel_rfl, fun V hS => by go_simp⟩) hS1 ?_
            simp only [Act.put, List.setIfInBounds_toArray, List.set_cons_zero, List.set_cons_succ]
            refine wpAnyH_take (i := 12) (oi := ⟨some 38, _, _, _, _, _⟩) (v := .pointer (some ⟨b, o + i * 4, none⟩)) rfl (by kernel_rfl) (by kernel_rfl) (by kernel_rfl) (fun _ _ _ h => h) (.inl ⟨by kernel_rfl, fun V hS => by go_simp⟩) hS1 ?_
            simp only [Act.put, List.setIfInBounds_toArray, List.set_cons_zero, List.set_cons_succ]
            refine wpAnyH_take (i := 13) (oi := ⟨some 39, _, _, _, _, _⟩) (v := .string nb) rfl (by kernel_rfl) (by kernel_rfl) (by kernel_rfl) (fun _ _ _ h => h) (.inl ⟨by kernel_rfl, fun V hS => by obtain ⟨h0, h1, h2⟩ := HCE.out V hS; go_simp⟩) hS1 ?_
            simp only [Act.put, List.setIfInBounds_toArray, List.set_cons_zero, List.set_cons_succ]
            refine wpAnyH_take (i := 14) (oi := ⟨some 40, _, _, _, _, _⟩) (v := .bool (!eq)) rfl (by kernel_rfl) (by kernel_rfl) (by kernel_rfl) (fun _ _ _ h => h) (.inl ⟨by kernel_rfl, fun V hS => by go_simp⟩) hS1 ?_
            simp only [Act.put, List.setIfInBounds_toArray, List.set_cons_zero, List.set_cons_succ]
            refine wpAnyH_take (i := 15) (oi := ⟨some 41, _, _, _, _, _⟩) (v := .bool (!eq)) rfl (by kernel_rfl) (by kernel_rfl) (by kernel_rfl) (fun _ _ _ h => h) (.inl ⟨by kernel_rfl, fun V hS => by go_simp⟩) hS1 ?_
            simp only [Act.put, List.setIfInBounds_toArray, List.set_cons_zero, List.set_cons_succ]
            refine wpAnyH_take (i := 16) (oi := ⟨some 8, _, _, _, _, _⟩) (v := .bool (!eq)) rfl (by kernel_rfl) (by kernel_rfl) (by kernel_rfl) (fun _ _ _ h => h) (.inl ⟨by kernel_rfl, fun V hS => by go_simp⟩) hS1 ?_
            simp only [Act.put, List.setIfInBounds_toArray, List.set_cons_zero, List.set_cons_succ]
            refine wpAnyH_done (by kernel_rfl) ?_ _
            have HB2 : Hid (Below w0.heap.size w0 wr.drew) := Lib.hid (HB.out.trans (hS1.mono HB.out.size))
            clear hS1 heq'
            go_wp2
            go_roundw
            case rel => exact ⟨k + 1, !eq, by omega, by go_num, rfl, HNX2, HB2⟩
            case measure => simp [intOf]; omega
        · have z0 : decide ((k : Int) < (i : Int)) = false := by rw [decide_eq_false_iff_not]; omega
          have z0' : decide (k < i) = false := by rw [decide_eq_false_iff_not]; omega
          obtain ⟨m, hm⟩ : ∃ m, m = l[i] := ⟨_, rfl⟩
          have HFI : Hid (fb = firB (l.take i) m.name) := Lib.hid (by rw [HFB.out, hki, hm])
          have HVN : Hid (versL (l.take (i + 1)) = verS (versL (l.take i)) m) := Lib.hid (by rw [vers_next hil, ← hm])
          have HVS : Hid ((getH (versL (l.take i)) m.name).isSome = !fb) := Lib.hid (by rw [versL_some, HFI.out])
          cases fb with
          | false =>
            have HS2 : Hid (DaS w W1 (some ⟨b, o, none⟩) N c l v e0 A2 c2 L u6 (versL (l.take (i + 1))) wr) := Lib.hid (by
              have e1 : verS (versL (l.take i)) m = versL (l.take i) := by unfold verS; rw [HVS.out]; rfl
              rw [HVN.out, e1]; exact HS1.out)
            clear hcs hbl hA' hki
            go_wp2
            go_roundw
            case rel => exact ⟨i + 1, by omega, by go_num, HS2⟩
            case measure => simp [intOf]; omega
          | true =>
            have HE1 : Hid (versL (l.take (i + 1)) = versL (l.take i) ++ [(m.name, m.ver)]) := Lib.hid (by
              have : (getH (versL (l.take i)) m.name).isSome = false := HVS.out
              rw [HVN.out]; unfold verS; rw [this]; rfl)
            obtain ⟨A6, c6, hu6, hle6, hm6, _⟩ := HS1.out.own.open_
            obtain ⟨m6, hm6'⟩ : ∃ m6, m6 = (versL (l.take i)).length := ⟨_, rfl⟩
            have HM6 : Hid ((versL (l.take i)).length ≤ 1000) := Lib.hid (by have := versL_len (l.take i); rw [List.length_take] at this; omega)
            rw [← hm6'] at hu6
            subst hu6
            have HCE : Hid (∀ V, Fr (fun g => (Value.slice A6 m6 c6).ownBlock = some g) wr V → V.cell? ⟨w.heap.size, 2, none⟩ = some (.slice (some ⟨b, o, none⟩) N c) ∧ V.cell? ⟨b, o + i * 4, none⟩ = some (.string m.name) ∧ V.cell? ⟨b, o + i * 4 + 1, none⟩ = some (.int .i64 m.ver)) := Lib.hid (fun V hV => by
              have hge := HS1.out.own.ge
              have hb1 := HS1.out.bel
              have hsz := hb1.size
              have hbx := HS1.out.blk
              have hwl := HS1.out.box.lt
              have hrd : ∀ {p : Addr} {u : Value}, p.block < W1.heap.size → W1.cell? p = some u → V.cell? p = some u := fun {p u} hp hc => by
                rw [hV.cell (by omega) (fun e => by have := hge _ e; omega)]
                exact (hb1.cell hp).trans hc
              have h0 := hcs i hil 0 (by omega)
              have h1 := hcs i hil 1 (by omega)
              rw [← hm] at h0 h1
              exact ⟨hrd (p := ⟨w.heap.size, 2, none⟩) hwl (HS1.out.box.cell 2), hrd hbl h0, hrd hbl h1⟩)
            clear hcs hbl hA' hki hm hle6 hm6 hm6'
            go_wp2
            refine wp_region_held_drew (S := fun V => Fr (fun g => (Value.slice A6 m6 c6).ownBlock = some g) wr V) (by kernel_rfl) ((Fr.refl _ _).drew) (fun hS1 => ?_)
            obtain ⟨WD, hWD⟩ : ∃ WD, WD = wr.drew := ⟨_, rfl⟩
            rw [← hWD] at hS1 ⊢
            have HBD : Hid (Below wr.heap.size wr WD) := Lib.hid (by rw [hWD]; exact (Below.refl _ _).drew)
            clear hWD
            refine wpAnyH_take (i := 0) (oi := ⟨some 43, _, _, _, _, _⟩) (v := .slice A6 m6 c6) rfl (by kernel_rfl) (by kernel_rfl) (by kernel_rfl) (fun _ _ _ h => h) (.inl ⟨by kernel_rfl, fun V hS => by go_simp⟩) hS1 ?_
            simp only [Act.put, List.setIfInBounds_toArray, List.set_cons_zero, List.set_cons_succ]
            refine wpAnyH_take (i := 1) (oi := ⟨some 44, _, _, _, _, _⟩) (v := .pointer (some ⟨w.heap.size, 2, none⟩)) rfl (by kernel_rfl) (by kernel_rfl) (by kernel_rfl) (fun _ _ _ h => h) (.inl ⟨by kernel_rfl, fun V hS => by go_simp⟩) hS1 ?_
            simp only [Act.put, List.setIfInBounds_toArray, List.set_cons_zero, List.set_cons_succ]
            refine wpAnyH_take (i := 2) (oi := ⟨some 45, _, _, _, _, _⟩) (v := .slice (some ⟨b, o, none⟩) N c) rfl (by kernel_rfl) (by kernel_rfl) (by kernel_rfl) (fun _ _ _ h => h) (.inl ⟨by kernel_rfl, fun V hS => by obtain ⟨h0, h1, h2⟩ := HCE.out V hS; go_simp⟩) hS1 ?_
            simp only [Act.put, List.setIfInBounds_toArray, List.set_cons_zero, List.set_cons_succ]
            refine wpAnyH_take (i := 3) (oi := ⟨some 46, _, _, _, _, _⟩) (v := .int .i64 (i : Int)) rfl (by kernel_rfl) (by kernel_rfl) (by kernel_rfl) (fun _ _ _ h => h) (.inl ⟨by kernel_rfl, fun V hS => by go_simp⟩) hS1 ?_
            simp only [Act.put, List.setIfInBounds_toArray, List.set_cons_zero, List.set_cons_succ]
            refine wpAnyH_take (i := 4) (oi := ⟨some 47, _, _, _, _, _⟩) (v := .pointer (some ⟨b, o + i * 4, none⟩)) rfl (by kernel_rfl) (by kernel_rfl) (by kernel_rfl) (fun _ _ _ h => h) (.inl ⟨by kernel_rfl, fun V hS => by go_simp⟩) hS1 ?_
            simp only [Act.put, List.setIfInBounds_toArray, List.set_cons_zero, List.set_cons_succ]
            refine wpAnyH_take (i := 5) (oi := ⟨some 48, _, _, _, _, _⟩) (v := .pointer (some ⟨b, o + i * 4, none⟩)) rfl (by kernel_rfl) (by kernel_rfl) (by kernel_rfl) (fun _ _ _ h => h) (.inl ⟨by kernel_rfl, fun V hS => by go_simp⟩) hS1 ?_
            simp only [Act.put, List.setIfInBounds_toArray, List.set_cons_zero, List.set_cons_succ]
            refine wpAnyH_take (i := 6) (oi := ⟨some 49, _, _, _, _, _⟩) (v := .string m.name) rfl (by kernel_rfl) (by kernel_rfl) (by kernel_rfl) (fun _ _ _ h => h) (.inl ⟨by kernel_rfl, fun V hS => by obtain ⟨h0, h1, h2⟩ := HCE.out V hS; go_simp⟩) hS1 ?_
            simp only [Act.put, List.setIfInBounds_toArray, List.set_cons_zero, List.set_cons_succ]
            refine wpAnyH_take (i := 7) (oi := ⟨some 50, _, _, _, _, _⟩) (v := .pointer (some ⟨w.heap.size, 2, none⟩)) rfl (by kernel_rfl) (by kernel_rfl) (by kernel_rfl) (fun _ _ _ h => h) (.inl ⟨by kernel_rfl, fun V hS => by go_simp⟩) hS1 ?_
            simp only [Act.put, List.setIfInBounds_toArray, List.set_cons_zero, List.set_cons_succ]
            refine wpAnyH_take (i := 8) (oi := ⟨some 51, _, _, _, _, _⟩) (v := .slice (some ⟨b, o, none⟩) N c) rfl (by kernel_rfl) (by kernel_rfl) (by kernel_rfl) (fun _ _ _ h => h) (.inl ⟨by kernel_rfl, fun V hS => by obtain ⟨h0, h1, h2⟩ := HCE.out V hS; go_simp⟩) hS1 ?_
            simp only [Act.put, List.setIfInBounds_toArray, List.set_cons_zero, List.set_cons_succ]
            refine wpAnyH_take (i := 9) (oi := ⟨some 52, _, _, _, _, _⟩) (v := .int .i64 (i : Int)) rfl (by kernel_rfl) (by kernel_rfl) (by kernel_rfl) (fun _ _ _ h => h) (.inl ⟨by kernel_rfl, fun V hS => by go_simp⟩) hS1 ?_
            simp only [Act.put, List.setIfInBounds_toArray, List.set_cons_zero, List.set_cons_succ]
            refine wpAnyH_take (i := 10) (oi := ⟨some 53, _, _, _, _, _⟩) (v := .pointer (some ⟨b, o + i * 4, none⟩)) rfl (by kernel_rfl) (by kernel_rfl) (by kernel_rfl) (fun _ _ _ h => h) (.inl ⟨by kernel_rfl, fun V hS => by go_simp⟩) hS1 ?_
            simp only [Act.put, List.setIfInBounds_toArray, List.set_cons_zero, List.set_cons_succ]
            refine wpAnyH_take (i := 11) (oi := ⟨some 54, _, _, _, _, _⟩) (v := .pointer (some ⟨b, o + i * 4 + 1, none⟩)) rfl (by kernel_rfl) (by kernel_rfl) (by kernel_rfl) (fun _ _ _ h => h) (.inl ⟨by kernel_rfl, fun V hS => by go_simp⟩) hS1 ?_
            simp only [Act.put, List.setIfInBounds_toArray, List.set_cons_zero, List.set_cons_succ]
            refine wpAnyH_take (i := 12) (oi := ⟨some 55, _, _, _, _, _⟩) (v := .int .i64 m.ver) rfl (by kernel_rfl) (by kernel_rfl) (by kernel_rfl) (fun _ _ _ h => h) (.inl ⟨by kernel_rfl, fun V hS => by obtain ⟨h0, h1, h2⟩ := HCE.out V hS; go_simp⟩) hS1 ?_
            simp only [Act.put, List.setIfInBounds_toArray, List.set_cons_zero, List.set_cons_succ]
            refine wpAnyH_take (i := 13) (oi := ⟨some 56, _, _, _, _, _⟩) (v := .agg #[.string m.name, .int .i64 m.ver]) rfl (by kernel_rfl) (by kernel_rfl) (by kernel_rfl) (fun _ _ _ h => h) (.inl ⟨by kernel_rfl, fun V hS => by go_simp⟩) hS1 ?_
            simp only [Act.put, List.setIfInBounds_toArray, List.set_cons_zero, List.set_cons_succ]
            refine wpAnyH_ready (rs := [14]) (by kernel_rfl) (by simp) ?_
            refine AllReadyH.cons rfl (fun K' hK => ?_) AllReadyH.nil
            go_simp
            obtain ⟨w2, hw2⟩ : ∃ w2, w2 = WD.alloc (.cells #[.string m.name, .int .i64 m.ver] 57) := ⟨_, rfl⟩
            rw [← hw2]
            have hb2 : Below WD.heap.size WD w2 := by rw [hw2]; exact (Below.refl _ _).alloc (Nat.le_refl _) _
            obtain ⟨Q, hQ⟩ : ∃ Q, Q = WD.heap.size := ⟨_, rfl⟩
            rw [← hQ]
            have HB2 : Hid (Below wr.heap.size wr w2) := Lib.hid (HBD.out.trans (hb2.mono HBD.out.size))
            have HQ : Hid (Blk w2 Q 57 #[.string m.name, .int .i64 m.ver]) := Lib.hid (by rw [hw2, hQ]; exact Blk.new _ _ _)
            have HSZ : Hid (W1.heap.size ≤ w2.heap.size) := Lib.hid (Nat.le_trans HS1.out.bel.size HB2.out.size)
            clear hw2 hb2 hQ
            refine hK.out _ _ (Fr.of_below HB2.out) (fun hS2 => ?_)
            clear hK K' hS1
            refine wpAnyH_ready (rs := [15]) (by kernel_rfl) (by simp) ?_
            refine AllReadyH.cons rfl (fun K' hK => ?_) AllReadyH.nil
            refine step_app_held w2 rfl (some 58) rfl _ _ rfl W1.heap.size (.slice A6 m6 c6) (versL (l.take i)) rfl (HS1.out.own.below HB2.out) Q rfl m.name m.ver HQ.out (by have := HM6.out; omega) HSZ.out ?_
            intro rv4 w4 hrow hg hat
            have HS4 : Hid (DaS w W1 (some ⟨b, o, none⟩) N c l v e0 A2 c2 L rv4 (versL (l.take (i + 1))) w4) := Lib.hid (HS1.out.app HB2.out hg (by rw [HE1.out]; exact hrow))
            have HF4 : Hid (Fr (fun g => (Value.slice A6 m6 c6).ownBlock = some g) wr w4) := Lib.hid ((Fr.of_below HB2.out).trans (Fr.of_grown hg (fun g e => e)))
            clear hrow hg hat
            refine hK.out _ _ (HF4.out) (fun hS3 => ?_)
            clear hK K' hS2
            simp only [Act.put, List.setIfInBounds_toArray, List.set_cons_zero, List.set_cons_succ]
            refine wpAnyH_take (i := 16) (oi := ⟨some 6, _, _, _, _, _⟩) (v := rv4) rfl (by kernel_rfl) (by kernel_rfl) (by kernel_rfl) (fun _ _ _ h => h) (.inl ⟨by kernel_rfl, fun V hS => by go_simp⟩) hS3 ?_
            simp only [Act.put, List.setIfInBounds_toArray, List.set_cons_zero, List.set_cons_succ]
            refine wpAnyH_done (by kernel_rfl) ?_ _
            go_wp2
            go_roundw
            case rel => exact ⟨i + 1, by omega, by go_num, HS4⟩
            case measure => simp [intOf]; omega
    · have q0 : decide ((i : Int) < (N : Int)) = false := by rw [decide_eq_false_iff_not]; omega
      have q0' : decide (i < N) = false := by rw [decide_eq_false_iff_not]; omega
      have HSL : Hid (DaS w W1 A N c l v e0 A2 c2 L u6 (versL l) w0) := Lib.hid (by have := HS.out; rw [heq, HNN.out, List.take_length] at this; rw [HNN.out]; exact this)
      clear heq HS
      go_wp2
      clear x2
      -- the changes
      have HA0 : Hid (applyL (versL l) (L.take 0) = some (versL l)) := Lib.hid rfl
      have HD0 : Hid (((versL l).map Prod.fst).Nodup ∧ (versL l).length ≤ 1000 + 0) := Lib.hid ⟨versL_nodup l, by have := versL_len l; have := HNN.out; omega⟩
      go_loopw [6, 10, 11, 12, 13] (fun rv y _ _ _ wr => ∃ (k : Nat) (hs : HL), k ≤ n ∧ y = .int .i64 (k : Int) ∧ Hid (applyL (versL l) (L.take k) = some hs) ∧ Hid ((hs.map Prod.fst).Nodup ∧ hs.length ≤ 1000 + k) ∧ Hid (DaS w W1 A N c l v e0 A2 c2 L rv hs wr)) (fun _ y _ _ _ _ => n - (intOf y).toNat)
      case atStart => exact ⟨0, _, Nat.zero_le _, rfl, HA0, HD0, HSL⟩
      case round =>
        clear HSL HA0 HD0
        obtain ⟨k, hs, hk, rfl, HA, HD, HS⟩ := hrel
        obtain ⟨w0, hw0⟩ : ∃ w0, wr = w0 := ⟨_, rfl⟩
        subst wr
        have hk0 : (0 : Int) ≤ (k : Int) := by omega
        rcases (by omega : k < n ∨ k = n) with hlt | heq
        · have y0 : decide ((k : Int) < (n : Int)) = true := by rw [decide_eq_true_iff]; omega
          have y0' : decide (k < n) = true := by rw [decide_eq_true_iff]; omega
          have hkL : k < L.length := by rw [← HN.out]; exact hlt
          have hki : (k : Int) < (n : Int) := by omega
          obtain ⟨b2, o2, hA2, hb2l, hc0, hc1, hc2⟩ := HS.out.cl.three hkL
          have hA2' := hA2
          subst hA2
          obtain ⟨ch, hch⟩ : ∃ ch, ch = L[k] := ⟨_, rfl⟩
          rw [← hch] at hc0 hc1 hc2
          have HAN : Hid (applyL (versL l) (L.take (k + 1)) = if chOk hs ch then some (chDo hs ch) else none) := Lib.hid (by rw [apply_take HA.out hkL, ← hch])
          have HCC : Hid (∀ V, Below w0.heap.size w0 V → V.cell? ⟨b2, o2 + k * 3, none⟩ = some (.string ch.name) ∧ V.cell? ⟨b2, o2 + k * 3 + 1, none⟩ = some (.int .i64 ch.fr) ∧ V.cell? ⟨b2, o2 + k * 3 + 2, none⟩ = some (.int .i64 ch.to)) := Lib.hid (fun V hV => by
            have hv := HS.out.bel.trans (hV.mono HS.out.bel.size)
            exact ⟨(hv.cell hb2l).trans hc0, (hv.cell hb2l).trans hc1, (hv.cell hb2l).trans hc2⟩)
          have HB2L : Hid (b2 < W1.heap.size) := Lib.hid hb2l
          obtain ⟨A6, c6, hu6, hle6, hm6, _⟩ := HS.out.own.open_
          obtain ⟨m6, hm6'⟩ : ∃ m6, m6 = hs.length := ⟨_, rfl⟩
          rw [← hm6'] at hu6 hle6
          subst hu6
          have hmI : (m6 : Int) ≤ 2000 := by have := HD.out.2; omega
          have HM6 := Lib.hid hm6'
          have HLE6 := Lib.hid (And.intro hle6 hm6)
          clear hch hc0 hc1 hc2 hb2l hA2' hm6' hle6 hm6
          go_wp2
          go_loopw [11, 12] (fun a y wr => ∃ (j : Nat) (q : Int), j ≤ m6 ∧ y = .int .i64 (j : Int) ∧ a = .int .i64 q ∧ Hid (q = atK hs ch.name j) ∧ Hid (Below w0.heap.size w0 wr)) (fun _ y _ => m6 - (intOf y).toNat)
          case atStart => exact ⟨0, -1, Nat.zero_le _, rfl, rfl, Lib.hid (atK_zero _ _).symm, Lib.hid (Below.refl _ _)⟩
          case round =>
            obtain ⟨j, q, hj, rfl, rfl, HQ, HB⟩ := hrel
            have hj0 : (0 : Int) ≤ (j : Int) := by omega
            have HS1 := Lib.hid (HS.out.below HB.out)
            obtain ⟨d0, d1, d2⟩ := HCC.out wr HB.out
            rcases (by omega : j < m6 ∨ j = m6) with hjm | hjm
            · have z0 : decide ((j : Int) < (m6 : Int)) = true := by rw [decide_eq_true_iff]; omega
              have z0' : decide (j < m6) = true := by rw [decide_eq_true_iff]; omega
              have hjI : (j : Int) < (m6 : Int) := by omega
              have hjl : j < hs.length := by rw [← HM6.out]; exact hjm
              obtain ⟨g, hg, hgl, hgb, -, hcl⟩ := HS1.out.own.two hjl
              subst hg
              obtain ⟨g0, g1⟩ := hcl j hjl
              obtain ⟨nj, hnj⟩ : ∃ nj, nj = hs[j].1 := ⟨_, rfl⟩
              rw [← hnj] at g0
              have HNX : Hid (atK hs ch.name (j + 1) = if nj = ch.name then (j : Int) else q) := Lib.hid (by rw [atK_next HD.out.1 hjl, ← HQ.out, ← hnj])
              obtain ⟨nc, hnc⟩ : ∃ nc, nc = ch.name := ⟨_, rfl⟩
              rw [← hnc] at d0
              clear hgl hgb hcl hnj g1 d1 d2
              by_cases he : nj = nc
              · have z1 : (nj.toList == nc.toList) = true := by rw [nm_beq, decide_eq_true he]
                have HQ2 : Hid ((j : Int) = atK hs ch.name (j + 1)) := Lib.hid (by rw [HNX.out, if_pos (by rw [he, hnc])])
                clear he hnc
                go_wp2
                go_quiet (fail)
                have HB2 : Hid (Below w0.heap.size w0 (wr.drewN nq)) := Lib.hid (below_drewN HB.out _)
                go_wp2
                go_roundw
                case rel => exact ⟨j + 1, _, by omega, by go_num, rfl, HQ2, HB2⟩
                case measure => simp [intOf]; omega
              · have z1 : (nj.toList == nc.toList) = false := by rw [nm_beq, decide_eq_false he]
                have HQ2 : Hid (q = atK hs ch.name (j + 1)) := Lib.hid (by rw [HNX.out, if_neg (by rw [← hnc]; exact he)])
                clear he hnc
                go_wp2
                go_quiet (fail)
                have HB2 : Hid (Below w0.heap.size w0 (wr.drewN nq)) := Lib.hid (below_drewN HB.out _)
                go_wp2
                go_roundw
                case rel => exact ⟨j + 1, _, by omega, by go_num, rfl, HQ2, HB2⟩
                case measure => simp [intOf]; omega
            · have z0 : decide ((j : Int) < (m6 : Int)) = false := by rw [decide_eq_false_iff_not]; omega
              have z0' : decide (j < m6) = false := by rw [decide_eq_false_iff_not]; omega
              have HQA : Hid (q = match idxH hs ch.name with | none => -1 | some i => (i : Int)) := Lib.hid (by rw [HQ.out, hjm, HM6.out]; exact atK_all)
              have HB0 : Hid (Below w.heap.size w wr) := Lib.hid (HS1.out.b0.trans (HS1.out.bel.mono HS1.out.b0.size))
              clear HQ hjm HS1
              cases hix : idxH hs ch.name with
              | none =>
                obtain ⟨hdr, hhv⟩ := dropH_none_idx hix
                obtain rfl : q = -1 := by have := HQA.out; rw [hix] at this; exact this
                obtain ⟨hv, hhv2⟩ : ∃ hv, hv = haveH hs ch.name := ⟨_, rfl⟩
                have hv0 : hv = 0 := hhv2.trans hhv
                clear hix HQA hhv
                by_cases f1 : ch.fr < 0
                · have HRN : Hid (R = none) := Lib.hid (by rw [HR.out]; exact apply_stop (k := k + 1) (by rw [HAN.out, chOk_1 (by omega)]; rfl))
                  have e1 : decide (ch.fr < 0) = true := decide_eq_true f1
                  clear f1 hdr hhv2 hv0
                  go_wp2
                  go_quiet (fail)
                  have HB3 : Hid (Below w.heap.size w (wr.drewN nq)) := Lib.hid (below_drewN HB0.out _)
                  go_wp2
                  refine bodyPost_ret (v := .tuple #[.slice none 0 0, .bool false]) (by simp [results, Tryz.results22, go_sem]) rfl ?_
                  unfold PFb
                  rw [HRN.out]
                  exact ⟨rfl, HB3.out⟩
                have e1 : decide (ch.fr < 0) = false := decide_eq_false f1
                by_cases f2 : ch.to < 0
                · have HRN : Hid (R = none) := Lib.hid (by rw [HR.out]; exact apply_stop (k := k + 1) (by rw [HAN.out, chOk_2 (by omega)]; rfl))
                  have e2 : decide (ch.to < 0) = true := decide_eq_true f2
                  clear f1 f2 hdr hhv2 hv0
                  go_wp2
                  go_quiet (fail)
                  have HB3 : Hid (Below w.heap.size w (wr.drewN nq)) := Lib.hid (below_drewN HB0.out _)
                  go_wp2
                  refine bodyPost_ret (v := .tuple #[.slice none 0 0, .bool false]) (by simp [results, Tryz.results22, go_sem]) rfl ?_
                  unfold PFb
                  rw [HRN.out]
                  exact ⟨rfl, HB3.out⟩
                have e2 : decide (ch.to < 0) = false := decide_eq_false f2
                by_cases f3 : ch.fr = ch.to
                · have HRN : Hid (R = none) := Lib.hid (by rw [HR.out]; exact apply_stop (k := k + 1) (by rw [HAN.out, chOk_3 f3]; rfl))
                  have e3 : (ch.fr == ch.to) = true := beq_iff_eq.2 f3
                  clear f1 f2 f3 hdr hhv2 hv0
                  go_wp2
                  go_quiet (fail)
                  have HB3 : Hid (Below w.heap.size w (wr.drewN nq)) := Lib.hid (below_drewN HB0.out _)
                  go_wp2
                  refine bodyPost_ret (v := .tuple #[.slice none 0 0, .bool false]) (by simp [results, Tryz.results22, go_sem]) rfl ?_
                  unfold PFb
                  rw [HRN.out]
                  exact ⟨rfl, HB3.out⟩
                have e3 : (ch.fr == ch.to) = false := beq_eq_false_iff_ne.2 f3
                by_cases f4 : hv = ch.fr
                rotate_left
                · have HRN : Hid (R = none) := Lib.hid (by rw [HR.out]; exact apply_stop (k := k + 1) (by rw [HAN.out, chOk_4 (by omega) (by omega) f3, ← hhv2, decide_eq_false f4]; rfl))
                  have e4 : (0 != ch.fr) = true := bne_iff_ne.2 (by rw [← hv0]; exact f4)
                  clear f1 f2 f3 f4 hdr hhv2 hv0
                  go_wp2
                  go_quiet (fail)
                  have HB3 : Hid (Below w.heap.size w (wr.drewN nq)) := Lib.hid (below_drewN HB0.out _)
                  go_wp2
                  refine bodyPost_ret (v := .tuple #[.slice none 0 0, .bool false]) (by simp [results, Tryz.results22, go_sem]) rfl ?_
                  unfold PFb
                  rw [HRN.out]
                  exact ⟨rfl, HB3.out⟩
                have e4 : (0 != ch.fr) = false := bne_eq_false_iff_eq.2 (hv0.symm.trans f4)
                have HAN3 : Hid (applyL (versL l) (L.take (k + 1)) = some (chDo hs ch)) := Lib.hid (by rw [HAN.out, chOk_4 (by omega) (by omega) f3, ← hhv2, decide_eq_true f4]; rfl)
                have HTO : Hid (0 ≤ ch.to) := Lib.hid (by omega)
                have HDR := Lib.hid hdr
                have HD3 : Hid (((dropH hs ch.name).map Prod.fst).Nodup ∧ (dropH hs ch.name).length ≤ 1000 + k) := Lib.hid ⟨dropH_nodup HD.out.1 _, by have := dropH_le hs ch.name; have := HD.out.2; omega⟩
                clear f1 f2 f3 f4 hdr hhv2 HAN hv0
                go_wp2
                go_quiet (fail)
                obtain ⟨w5, hw5⟩ : ∃ w5, w5 = wr.drewN nq := ⟨_, rfl⟩
                rw [← hw5]
                have HB5 : Hid (Below w0.heap.size w0 w5) := Lib.hid (by rw [hw5]; exact below_drewN HB.out _)
                have HBR : Hid (Below wr.heap.size wr w5) := Lib.hid (by rw [hw5]; exact below_drewN (Below.refl _ _) _)
                have HS5 := Lib.hid (HS.out.below HB5.out)
                clear hw5 d0 d1 d2 e1 e2 e3 e4
                obtain ⟨rv9, hrv9⟩ : ∃ rv9, rv9 = Value.slice A6 m6 c6 := ⟨_, rfl⟩
                rw [← hrv9]
                obtain ⟨w9, hw9⟩ : ∃ w9, w9 = w5 := ⟨_, rfl⟩
                rw [← hw9]
                have HB9 : Hid (Below w0.heap.size w0 w9) := Lib.hid (by rw [hw9]; exact HB5.out)
                have HS9 : Hid (DaS w W1 A N c l v e0 (some ⟨b2, o2, none⟩) c2 L rv9 (dropH hs ch.name) w9) := Lib.hid (by rw [hrv9, hw9, HDR.out]; exact HS5.out)
                clear hrv9 hw9
                obtain ⟨d0, d1, d2⟩ := HCC.out w9 HB9.out
                clear d0 d1
                by_cases ft : ch.to = 0
                · have z4 : decide (ch.to > 0) = false := decide_eq_false (by omega)
                  have z4' : decide (0 < ch.to) = false := decide_eq_false (by omega)
                  have HCD : Hid (chDo hs ch = dropH hs ch.name) := Lib.hid (by unfold chDo; rw [if_pos ft])
                  clear ft
                  go_wp2
                  go_roundw
                  case rel => exact ⟨k + 1, _, by omega, by go_num, Lib.hid (by rw [HAN3.out, HCD.out]), Lib.hid ⟨HD3.out.1, by have := HD3.out.2; omega⟩, HS9⟩
                  case measure => simp [intOf]; omega
                · have z4 : decide (ch.to > 0) = true := decide_eq_true (by have := HTO.out; omega)
                  have z4' : decide (0 < ch.to) = true := decide_eq_true (by have := HTO.out; omega)
                  have HCD : Hid (chDo hs ch = dropH hs ch.name ++ [(ch.name, ch.to)]) := Lib.hid (by unfold chDo; rw [if_neg ft])
                  have HCE : Hid (∀ V, Fr (fun g => rv9.ownBlock = some g) w9 V → V.cell? ⟨b2, o2 + k * 3, none⟩ = some (.string ch.name) ∧ V.cell? ⟨b2, o2 + k * 3 + 2, none⟩ = some (.int .i64 ch.to)) := Lib.hid (fun V hV => by
                    obtain ⟨h0, h1, h2⟩ := HCC.out w9 HB9.out
                    have hge := HS9.out.own.ge
                    have hsz := HS9.out.bel.size
                    have hlb := HB2L.out
                    have hrd : ∀ {p : Addr} {u : Value}, p.block = b2 → w9.cell? p = some u → V.cell? p = some u := fun {p u} hp hc => by
                      rw [hV.cell (by omega) (fun e => by have := hge _ e; omega)]
                      exact hc
                    exact ⟨hrd rfl h0, hrd rfl h2⟩)
                  clear ft
                  go_wp2
                  clear d2
                  refine wp_region_held_drew (S := fun V => Fr (fun g => rv9.ownBlock = some g) w9 V) (by kernel_rfl) ((Fr.refl _ _).drew) (fun hS1 => ?_)
                  obtain ⟨WD, hWD⟩ : ∃ WD, WD = w9.drew := ⟨_, rfl⟩
                  rw [← hWD] at hS1 ⊢
                  have HBD : Hid (Below w9.heap.size w9 WD) := Lib.hid (by rw [hWD]; exact (Below.refl _ _).drew)
                  clear hWD
                  refine wpAnyH_take (i := 0) (oi := ⟨some 144, _, _, _, _, _⟩) (v := rv9) rfl (by kernel_rfl) (by kernel_rfl) (by kernel_rfl) (fun _ _ _ h => h) (.inl ⟨by kernel_rfl, fun V hS => by go_simp⟩) hS1 ?_
                  simp only [Act.put, List.setIfInBounds_toArray, List.set_cons_zero, List.set_cons_succ]
                  refine wpAnyH_take (i := 1) (oi := ⟨some 145, _, _, _, _, _⟩) (v := .slice (some ⟨b2, o2, none⟩) n c2) rfl (by kernel_rfl) (by kernel_rfl) (by kernel_rfl) (fun _ _ _ h => h) (.inl ⟨by kernel_rfl, fun V hS => by go_simp⟩) hS1 ?_
                  simp only [Act.put, List.setIfInBounds_toArray, List.set_cons_zero, List.set_cons_succ]
                  refine wpAnyH_take (i := 2) (oi := ⟨some 146, _, _, _, _, _⟩) (v := .int .i64 (k : Int)) rfl (by kernel_rfl) (by kernel_rfl) (by kernel_rfl) (fun _ _ _ h => h) (.inl ⟨by kernel_rfl, fun V hS => by go_simp⟩) hS1 ?_
                  simp only [Act.put, List.setIfInBounds_toArray, List.set_cons_zero, List.set_cons_succ]
                  refine wpAnyH_take (i := 3) (oi := ⟨some 147, _, _, _, _, _⟩) (v := .pointer (some ⟨b2, o2 + k * 3, none⟩)) rfl (by kernel_rfl) (by kernel_rfl) (by kernel_rfl) (fun _ _ _ h => h) (.inl ⟨by kernel_rfl, fun V hS => by go_simp⟩) hS1 ?_
                  simp only [Act.put, List.setIfInBounds_toArray, List.set_cons_zero, List.set_cons_succ]
                  refine wpAnyH_take (i := 4) (oi := ⟨some 148, _, _, _, _, _⟩) (v := .pointer (some ⟨b2, o2 + k * 3, none⟩)) rfl (by kernel_rfl) (by kernel_rfl) (by kernel_rfl) (fun _ _ _ h => h) (.inl ⟨by kernel_rfl, fun V hS => by go_simp⟩) hS1 ?_
                  simp only [Act.put, List.setIfInBounds_toArray, List.set_cons_zero, List.set_cons_succ]
                  refine wpAnyH_take (i := 5) (oi := ⟨some 149, _, _, _, _, _⟩) (v := .string ch.name) rfl (by kernel_rfl) (by kernel_rfl) (by kernel_rfl) (fun _ _ _ h => h) (.inl ⟨by kernel_rfl, fun V hS => by obtain ⟨h0, h2⟩ := HCE.out V hS; go_simp⟩) hS1 ?_
                  simp only [Act.put, List.setIfInBounds_toArray, List.set_cons_zero, List.set_cons_succ]
                  refine wpAnyH_take (i := 6) (oi := ⟨some 150, _, _, _, _, _⟩) (v := .slice (some ⟨b2, o2, none⟩) n c2) rfl (by kernel_rfl) (by kernel_rfl) (by kernel_rfl) (fun _ _ _ h => h) (.inl ⟨by kernel_rfl, fun V hS => by go_simp⟩) hS1 ?_
                  simp only [Act.put, List.setIfInBounds_toArray, List.set_cons_zero, List.set_cons_succ]
                  refine wpAnyH_take (i := 7) (oi := ⟨some 151, _, _, _, _, _⟩) (v := .int .i64 (k : Int)) rfl (by kernel_rfl) (by kernel_rfl) (by kernel_rfl) (fun _ _ _ h => h) (.inl ⟨by kernel_rfl, fun V hS => by go_simp⟩) hS1 ?_
                  simp only [Act.put, List.setIfInBounds_toArray, List.set_cons_zero, List.set_cons_succ]
                  refine wpAnyH_take (i := 8) (oi := ⟨some 152, _, _, _, _, _⟩) (v := .pointer (some ⟨b2, o2 + k * 3, none⟩)) rfl (by kernel_rfl) (by kernel_rfl) (by kernel_rfl) (fun _ _ _ h => h) (.inl ⟨by kernel_rfl, fun V hS => by go_simp⟩) hS1 ?_
                  simp only [Act.put, List.setIfInBounds_toArray, List.set_cons_zero, List.set_cons_succ]
                  refine wpAnyH_take (i := 9) (oi := ⟨some 153, _, _, _, _, _⟩) (v := .pointer (some ⟨b2, o2 + k * 3 + 2, none⟩)) rfl (by kernel_rfl) (by kernel_rfl) (by kernel_rfl) (fun _ _ _ h => h) (.inl ⟨by kernel_rfl, fun V hS => by go_simp⟩) hS1 ?_
                  simp only [Act.put, List.setIfInBounds_toArray, List.set_cons_zero, List.set_cons_succ]
                  refine wpAnyH_take (i := 10) (oi := ⟨some 154, _, _, _, _, _⟩) (v := .int .i64 ch.to) rfl (by kernel_rfl) (by kernel_rfl) (by kernel_rfl) (fun _ _ _ h => h) (.inl ⟨by kernel_rfl, fun V hS => by obtain ⟨h0, h2⟩ := HCE.out V hS; go_simp⟩) hS1 ?_
                  simp only [Act.put, List.setIfInBounds_toArray, List.set_cons_zero, List.set_cons_succ]
                  refine wpAnyH_take (i := 11) (oi := ⟨some 155, _, _, _, _, _⟩) (v := .agg #[.string ch.name, .int .i64 ch.to]) rfl (by kernel_rfl) (by kernel_rfl) (by kernel_rfl) (fun _ _ _ h => h) (.inl ⟨by kernel_rfl, fun V hS => by go_simp⟩) hS1 ?_
                  simp only [Act.put, List.setIfInBounds_toArray, List.set_cons_zero, List.set_cons_succ]
                  refine wpAnyH_ready (rs := [12]) (by kernel_rfl) (by simp) ?_
                  refine AllReadyH.cons rfl (fun K' hK => ?_) AllReadyH.nil
                  go_simp
                  obtain ⟨wA, hwA⟩ : ∃ wA, wA = WD.alloc (.cells #[.string ch.name, .int .i64 ch.to] 57) := ⟨_, rfl⟩
                  rw [← hwA]
                  have hbA : Below WD.heap.size WD wA := by rw [hwA]; exact (Below.refl _ _).alloc (Nat.le_refl _) _
                  obtain ⟨Q, hQ⟩ : ∃ Q, Q = WD.heap.size := ⟨_, rfl⟩
                  rw [← hQ]
                  have HBA : Hid (Below w9.heap.size w9 wA) := Lib.hid (HBD.out.trans (hbA.mono HBD.out.size))
                  have HQ : Hid (Blk wA Q 57 #[.string ch.name, .int .i64 ch.to]) := Lib.hid (by rw [hwA, hQ]; exact Blk.new _ _ _)
                  have HSZ : Hid (W1.heap.size ≤ wA.heap.size) := Lib.hid (Nat.le_trans HS9.out.bel.size HBA.out.size)
                  clear hwA hbA hQ
                  refine hK.out _ _ (Fr.of_below HBA.out) (fun hS2 => ?_)
                  clear hK K' hS1
                  refine wpAnyH_ready (rs := [13]) (by kernel_rfl) (by simp) ?_
                  refine AllReadyH.cons rfl (fun K' hK => ?_) AllReadyH.nil
                  refine step_app_held wA rfl (some 157) rfl _ _ rfl W1.heap.size rv9 (dropH hs ch.name) rfl (HS9.out.own.below HBA.out) Q rfl ch.name ch.to HQ.out (by have := HD3.out.2; omega) HSZ.out ?_
                  intro rvB wB hrow hg hat
                  have HSB : Hid (DaS w W1 A N c l v e0 (some ⟨b2, o2, none⟩) c2 L rvB (dropH hs ch.name ++ [(ch.name, ch.to)]) wB) := Lib.hid (HS9.out.app HBA.out hg hrow)
                  have HFB : Hid (Fr (fun g => rv9.ownBlock = some g) w9 wB) := Lib.hid ((Fr.of_below HBA.out).trans (Fr.of_grown hg (fun g e => e)))
                  clear hrow hg hat
                  refine hK.out _ _ (HFB.out) (fun hS3 => ?_)
                  clear hK K' hS2
                  simp only [Act.put, List.setIfInBounds_toArray, List.set_cons_zero, List.set_cons_succ]
                  refine wpAnyH_take (i := 14) (oi := ⟨some 6, _, _, _, _, _⟩) (v := rvB) rfl (by kernel_rfl) (by kernel_rfl) (by kernel_rfl) (fun _ _ _ h => h) (.inl ⟨by kernel_rfl, fun V hS => by go_simp⟩) hS3 ?_
                  simp only [Act.put, List.setIfInBounds_toArray, List.set_cons_zero, List.set_cons_succ]
                  refine wpAnyH_done (by kernel_rfl) ?_ _
                  go_wp2
                  go_roundw
                  case rel => exact ⟨k + 1, _, by omega, by go_num, Lib.hid (by rw [HAN3.out, HCD.out]), Lib.hid ⟨put_nodup HD.out.1 _ _, by rw [List.length_append]; have := HD3.out.2; simp only [List.length_singleton]; omega⟩, HSB⟩
                  case measure => simp [intOf]; omega
              | some i =>
                obtain rfl : q = (i : Int) := by have := HQA.out; rw [hix] at this; exact this
                have hil2 : i < hs.length := idxH_lt hix
                obtain ⟨hdr, hhv⟩ := dropH_at HD.out.1 hix hil2
                obtain ⟨g, hg, hgl, hgb, -, hcl⟩ := (HS.out.below HB.out).own.two hil2
                subst hg
                obtain ⟨g0, g1⟩ := hcl i hil2
                obtain ⟨hv, hhv2⟩ : ∃ hv, hv = haveH hs ch.name := ⟨_, rfl⟩
                rw [← hhv, ← hhv2] at g1
                have him : i < m6 := by rw [HM6.out]; exact hil2
                have hiI : (i : Int) < (m6 : Int) := by omega
                have hi0 : (0 : Int) ≤ (i : Int) := by omega
                have z2 : decide ((i : Int) ≥ 0) = true := decide_eq_true hi0
                have z2' : decide ((0 : Int) ≤ (i : Int)) = true := decide_eq_true hi0
                have HGL := Lib.hid hgl
                have HGC := Lib.hid hcl
                clear hix HQA hhv g0 hgl hgb hcl
                by_cases f1 : ch.fr < 0
                · have HRN : Hid (R = none) := Lib.hid (by rw [HR.out]; exact apply_stop (k := k + 1) (by rw [HAN.out, chOk_1 (by omega)]; rfl))
                  have e1 : decide (ch.fr < 0) = true := decide_eq_true f1
                  clear f1 hdr hhv2 hil2 him
                  go_wp2
                  go_quiet (fail)
                  have HB3 : Hid (Below w.heap.size w (wr.drewN nq)) := Lib.hid (below_drewN HB0.out _)
                  go_wp2
                  refine bodyPost_ret (v := .tuple #[.slice none 0 0, .bool false]) (by simp [results, Tryz.results22, go_sem]) rfl ?_
                  unfold PFb
                  rw [HRN.out]
                  exact ⟨rfl, HB3.out⟩
                have e1 : decide (ch.fr < 0) = false := decide_eq_false f1
                by_cases f2 : ch.to < 0
                · have HRN : Hid (R = none) := Lib.hid (by rw [HR.out]; exact apply_stop (k := k + 1) (by rw [HAN.out, chOk_2 (by omega)]; rfl))
                  have e2 : decide (ch.to < 0) = true := decide_eq_true f2
                  clear f1 f2 hdr hhv2 hil2 him
                  go_wp2
                  go_quiet (fail)
                  have HB3 : Hid (Below w.heap.size w (wr.drewN nq)) := Lib.hid (below_drewN HB0.out _)
                  go_wp2
                  refine bodyPost_ret (v := .tuple #[.slice none 0 0, .bool false]) (by simp [results, Tryz.results22, go_sem]) rfl ?_
                  unfold PFb
                  rw [HRN.out]
                  exact ⟨rfl, HB3.out⟩
                have e2 : decide (ch.to < 0) = false := decide_eq_false f2
                by_cases f3 : ch.fr = ch.to
                · have HRN : Hid (R = none) := Lib.hid (by rw [HR.out]; exact apply_stop (k := k + 1) (by rw [HAN.out, chOk_3 f3]; rfl))
                  have e3 : (ch.fr == ch.to) = true := beq_iff_eq.2 f3
                  clear f1 f2 f3 hdr hhv2 hil2 him
                  go_wp2
                  go_quiet (fail)
                  have HB3 : Hid (Below w.heap.size w (wr.drewN nq)) := Lib.hid (below_drewN HB0.out _)
                  go_wp2
                  refine bodyPost_ret (v := .tuple #[.slice none 0 0, .bool false]) (by simp [results, Tryz.results22, go_sem]) rfl ?_
                  unfold PFb
                  rw [HRN.out]
                  exact ⟨rfl, HB3.out⟩
                have e3 : (ch.fr == ch.to) = false := beq_eq_false_iff_ne.2 f3
                by_cases f4 : hv = ch.fr
                rotate_left
                · have HRN : Hid (R = none) := Lib.hid (by rw [HR.out]; exact apply_stop (k := k + 1) (by rw [HAN.out, chOk_4 (by omega) (by omega) f3, ← hhv2, decide_eq_false f4]; rfl))
                  have e4 : (hv != ch.fr) = true := bne_iff_ne.2 f4
                  clear f1 f2 f3 f4 hdr hhv2 hil2 him
                  go_wp2
                  go_quiet (fail)
                  have HB3 : Hid (Below w.heap.size w (wr.drewN nq)) := Lib.hid (below_drewN HB0.out _)
                  go_wp2
                  refine bodyPost_ret (v := .tuple #[.slice none 0 0, .bool false]) (by simp [results, Tryz.results22, go_sem]) rfl ?_
                  unfold PFb
                  rw [HRN.out]
                  exact ⟨rfl, HB3.out⟩
                have e4 : (hv != ch.fr) = false := bne_eq_false_iff_eq.2 (f4)
                have HAN3 : Hid (applyL (versL l) (L.take (k + 1)) = some (chDo hs ch)) := Lib.hid (by rw [HAN.out, chOk_4 (by omega) (by omega) f3, ← hhv2, decide_eq_true f4]; rfl)
                have HTO : Hid (0 ≤ ch.to) := Lib.hid (by omega)
                have HDR := Lib.hid hdr
                have HD3 : Hid (((dropH hs ch.name).map Prod.fst).Nodup ∧ (dropH hs ch.name).length ≤ 1000 + k) := Lib.hid ⟨dropH_nodup HD.out.1 _, by have := dropH_le hs ch.name; have := HD.out.2; omega⟩
                clear f1 f2 f3 f4 hdr hhv2 HAN
                go_wp2
                go_quiet (fail)
                obtain ⟨w5, hw5⟩ : ∃ w5, w5 = wr.drewN nq := ⟨_, rfl⟩
                rw [← hw5]
                have HB5 : Hid (Below w0.heap.size w0 w5) := Lib.hid (by rw [hw5]; exact below_drewN HB.out _)
                have HBR : Hid (Below wr.heap.size wr w5) := Lib.hid (by rw [hw5]; exact below_drewN (Below.refl _ _) _)
                have HS5 := Lib.hid (HS.out.below HB5.out)
                clear hw5 d0 d1 d2 e1 e2 e3 e4 g1
                have HRT : Hid (∀ V, Below w5.heap.size w5 V → Reads V V.heap.size 2 (some ⟨g, 0, none⟩) i (hcells (hs.take i))) := Lib.hid (fun V hV => by
                  have hb : Below wr.heap.size wr V := HBR.out.trans (hV.mono HBR.out.size)
                  have h1 := hreads (w := V) (g := g) (l := hs) (Nat.lt_of_lt_of_le HGL.out hb.size) (fun j hj => ⟨(hb.cell (p := ⟨g, j * 2, none⟩) HGL.out).trans (HGC.out j hj).1, (hb.cell (p := ⟨g, j * 2 + 1, none⟩) HGL.out).trans (HGC.out j hj).2⟩) 0 (hs.take i) (fun j hj => by
                    rw [List.length_take] at hj
                    rw [Nat.zero_add, List.getElem?_eq_getElem (show j < hs.length by omega), List.getElem_take]
                    exact ⟨by omega, rfl⟩)
                  rw [List.length_take, Nat.min_eq_left (by omega), Nat.zero_mul] at h1
                  exact h1)
                have HTL : Hid ((hs.take i).length = i) := Lib.hid (by rw [List.length_take]; omega)
                by_cases hcap : c6 = i + 1
                · have hm1 : m6 = i + 1 := by have := HLE6.out.1; omega
                  have HRD : Hid (∀ V, Below w5.heap.size w5 V → Reads V V.heap.size 2 (some ⟨g, 0, none⟩) 0 (hcells (hs.drop (i + 1)))) := Lib.hid (fun V hV => hreads_nil _ (by rw [List.length_drop, ← HM6.out]; omega))
                  have HDL : Hid ((hs.drop (i + 1)).length = 0) := Lib.hid (by rw [List.length_drop, ← HM6.out]; omega)
                  have q4' : ((i : Int) + 1).toNat = c6 := by omega
                  have q5 : IntKind.i64.wrap ((i : Int) + 1) = (i : Int) + 1 := IntWalk.i64_in _ (by omega)
                  have q6 : (m6 : Int) ≤ (c6 : Int) := by omega
                  have q3 : (i : Int) + 1 ≤ (m6 : Int) := by omega
                  have q2 : (i : Int) ≤ (c6 : Int) := by omega
                  have q7 : (0 : Int) ≤ (i : Int) + 1 := by omega
                  have hcap2 : i + 1 = c6 := hcap.symm
                  have hcap3 : i + 1 = m6 := hm1.symm
                  clear hcap hm1 hil2 him
                  go_wp2
                  refine wp_region_held_drew (S := fun V => Below w5.heap.size w5 V) (by kernel_rfl) ((Below.refl _ _).drew) (fun hS1 => ?_)
                  obtain ⟨WD, hWD⟩ : ∃ WD, WD = w5.drew := ⟨_, rfl⟩
                  rw [← hWD] at hS1 ⊢
                  have HBD : Hid (Below w5.heap.size w5 WD) := Lib.hid (by rw [hWD]; exact (Below.refl _ _).drew)
                  clear hWD
                  refine wpAnyH_take (i := 1) (oi := ⟨some 129, _, _, _, _, _⟩) (v := .slice (some ⟨g, 0, none⟩) m6 c6) rfl (by kernel_rfl) (by kernel_rfl) (by kernel_rfl) (fun _ _ _ h => h) (.inl ⟨by kernel_rfl, fun V hS => by go_simp⟩) hS1 ?_
                  simp only [Act.put, List.setIfInBounds_toArray, List.set_cons_zero, List.set_cons_succ]
                  refine wpAnyH_take (i := 2) (oi := ⟨some 130, _, _, _, _, _⟩) (v := .int .i64 (i : Int)) rfl (by kernel_rfl) (by kernel_rfl) (by kernel_rfl) (fun _ _ _ h => h) (.inl ⟨by kernel_rfl, fun V hS => by go_simp⟩) hS1 ?_
                  simp only [Act.put, List.setIfInBounds_toArray, List.set_cons_zero, List.set_cons_succ]
                  refine wpAnyH_take (i := 3) (oi := ⟨some 131, _, _, _, _, _⟩) (v := .slice (some ⟨g, 0, none⟩) i c6) rfl (by kernel_rfl) (by kernel_rfl) (by kernel_rfl) (fun _ _ _ h => h) (.inl ⟨by kernel_rfl, fun V hS => by go_simp⟩) hS1 ?_
                  simp only [Act.put, List.setIfInBounds_toArray, List.set_cons_zero, List.set_cons_succ]
                  refine wpAnyH_take (i := 5) (oi := ⟨some 133, _, _, _, _, _⟩) (v := .slice (some ⟨g, 0, none⟩) m6 c6) rfl (by kernel_rfl) (by kernel_rfl) (by kernel_rfl) (fun _ _ _ h => h) (.inl ⟨by kernel_rfl, fun V hS => by go_simp⟩) hS1 ?_
                  simp only [Act.put, List.setIfInBounds_toArray, List.set_cons_zero, List.set_cons_succ]
                  refine wpAnyH_take (i := 6) (oi := ⟨some 134, _, _, _, _, _⟩) (v := .int .i64 (i : Int)) rfl (by kernel_rfl) (by kernel_rfl) (by kernel_rfl) (fun _ _ _ h => h) (.inl ⟨by kernel_rfl, fun V hS => by go_simp⟩) hS1 ?_
                  simp only [Act.put, List.setIfInBounds_toArray, List.set_cons_zero, List.set_cons_succ]
                  refine wpAnyH_take (i := 7) (oi := ⟨some 135, _, _, _, _, _⟩) (v := .int .i64 ((i : Int) + 1)) rfl (by kernel_rfl) (by kernel_rfl) (by kernel_rfl) (fun _ _ _ h => h) (.inl ⟨by kernel_rfl, fun V hS => by go_simp⟩) hS1 ?_
                  simp only [Act.put, List.setIfInBounds_toArray, List.set_cons_zero, List.set_cons_succ]
                  refine wpAnyH_take (i := 8) (oi := ⟨some 136, _, _, _, _, _⟩) (v := .slice (some ⟨g, 0, none⟩) 0 0) rfl (by kernel_rfl) (by kernel_rfl) (by kernel_rfl) (fun _ _ _ h => h) (.inl ⟨by kernel_rfl, fun V hS => by go_simp; omega⟩) hS1 ?_
                  simp only [Act.put, List.setIfInBounds_toArray, List.set_cons_zero, List.set_cons_succ]
                  refine wpAnyH_ready (rs := [0]) (by kernel_rfl) (by simp) ?_
                  refine AllReadyH.cons rfl (fun K' hK => ?_) AllReadyH.nil
                  go_simp
                  obtain ⟨w7, hw7⟩ : ∃ w7, w7 = WD.alloc (.cells #[] 57) := ⟨_, rfl⟩
                  rw [← hw7]
                  have hb7 : Below WD.heap.size WD w7 := by rw [hw7]; exact (Below.refl _ _).alloc (Nat.le_refl _) _
                  obtain ⟨Q, hQ⟩ : ∃ Q, Q = WD.heap.size := ⟨_, rfl⟩
                  rw [← hQ]
                  have HB7 : Hid (Below w5.heap.size w5 w7) := Lib.hid (HBD.out.trans (hb7.mono HBD.out.size))
                  have HO7 : Hid (OHl w7 w5.heap.size (.slice (some ⟨Q, 0, none⟩) 0 0) []) := Lib.hid (OHl.empty _ _ _ (by rw [hw7, hQ]; exact Blk.new _ _ _) (by rw [hQ]; exact HBD.out.size))
                  clear hw7 hb7 hQ
                  refine hK.out _ _ (HB7.out) (fun hS2 => ?_)
                  clear hK K' hS1
                  refine wpAnyH_ready (rs := [4]) (by kernel_rfl) (by simp) ?_
                  refine AllReadyH.cons rfl (fun K' hK => ?_) AllReadyH.nil
                  refine step_apps_held w7 rfl (some 132) rfl _ _ rfl w5.heap.size (.slice (some ⟨Q, 0, none⟩) 0 0) [] rfl HO7.out (some ⟨g, 0, none⟩) i c6 rfl (hs.take i) (HRT.out w7 HB7.out) HTL.out (by simp only [List.length_nil]; have := HD.out.2; omega) HB7.out.size ?_
                  intro rv8 w8 hrow hg hat
                  have HO8 := Lib.hid hrow
                  have HB8 : Hid (Below w5.heap.size w5 w8) := Lib.hid (below_grown HB7.out hg HB7.out.size HO7.out.ge)
                  clear hrow hg hat
                  refine hK.out _ _ (HB8.out) (fun hS3 => ?_)
                  clear hK K' hS2
                  simp only [Act.put, List.setIfInBounds_toArray, List.set_cons_zero, List.set_cons_succ]
                  refine wpAnyH_ready (rs := [9]) (by kernel_rfl) (by simp) ?_
                  refine AllReadyH.cons rfl (fun K' hK => ?_) AllReadyH.nil
                  refine step_apps_held w8 rfl (some 137) rfl _ _ rfl w5.heap.size rv8 ([] ++ hs.take i) rfl HO8.out (some ⟨g, 0, none⟩) (0) (0) rfl (hs.drop (i + 1)) (HRD.out w8 HB8.out) HDL.out (by rw [List.length_append, HTL.out]; simp only [List.length_nil]; have := HD.out.2; omega) HB8.out.size ?_
                  intro rv9 w9 hrow hg hat
                  have HO9 := Lib.hid hrow
                  have HB59 : Hid (Below w5.heap.size w5 w9) := Lib.hid (below_grown HB8.out hg HB8.out.size HO8.out.ge)
                  clear hrow hg hat
                  refine hK.out _ _ (HB59.out) (fun hS4 => ?_)
                  clear hK K' hS3
                  simp only [Act.put, List.setIfInBounds_toArray, List.set_cons_zero, List.set_cons_succ]
                  refine wpAnyH_take (i := 10) (oi := ⟨some 6, _, _, _, _, _⟩) (v := rv9) rfl (by kernel_rfl) (by kernel_rfl) (by kernel_rfl) (fun _ _ _ h => h) (.inl ⟨by kernel_rfl, fun V hS => by go_simp⟩) hS4 ?_
                  simp only [Act.put, List.setIfInBounds_toArray, List.set_cons_zero, List.set_cons_succ]
                  refine wpAnyH_done (by kernel_rfl) ?_ _
                  have HB9 : Hid (Below w0.heap.size w0 w9) := Lib.hid (HB5.out.trans (HB59.out.mono HB5.out.size))
                  have HS9 : Hid (DaS w W1 A N c l v e0 (some ⟨b2, o2, none⟩) c2 L rv9 (dropH hs ch.name) w9) := Lib.hid (HS5.out.new HB59.out (by rw [HDR.out]; exact HO9.out.mono HS5.out.bel.size))
                  clear hS4
                  obtain ⟨d0, d1, d2⟩ := HCC.out w9 HB9.out
                  clear d0 d1
                  by_cases ft : ch.to = 0
                  · have z4 : decide (ch.to > 0) = false := decide_eq_false (by omega)
                    have z4' : decide (0 < ch.to) = false := decide_eq_false (by omega)
                    have HCD : Hid (chDo hs ch = dropH hs ch.name) := Lib.hid (by unfold chDo; rw [if_pos ft])
                    clear ft
                    go_wp2
                    go_roundw
                    case rel => exact ⟨k + 1, _, by omega, by go_num, Lib.hid (by rw [HAN3.out, HCD.out]), Lib.hid ⟨HD3.out.1, by have := HD3.out.2; omega⟩, HS9⟩
                    case measure => simp [intOf]; omega
                  · have z4 : decide (ch.to > 0) = true := decide_eq_true (by have := HTO.out; omega)
                    have z4' : decide (0 < ch.to) = true := decide_eq_true (by have := HTO.out; omega)
                    have HCD : Hid (chDo hs ch = dropH hs ch.name ++ [(ch.name, ch.to)]) := Lib.hid (by unfold chDo; rw [if_neg ft])
                    have HCE : Hid (∀ V, Fr (fun g => rv9.ownBlock = some g) w9 V → V.cell? ⟨b2, o2 + k * 3, none⟩ = some (.string ch.name) ∧ V.cell? ⟨b2, o2 + k * 3 + 2, none⟩ = some (.int .i64 ch.to)) := Lib.hid (fun V hV => by
                      obtain ⟨h0, h1, h2⟩ := HCC.out w9 HB9.out
                      have hge := HS9.out.own.ge
                      have hsz := HS9.out.bel.size
                      have hlb := HB2L.out
                      have hrd : ∀ {p : Addr} {u : Value}, p.block = b2 → w9.cell? p = some u → V.cell? p = some u := fun {p u} hp hc => by
                        rw [hV.cell (by omega) (fun e => by have := hge _ e; omega)]
                        exact hc
                      exact ⟨hrd rfl h0, hrd rfl h2⟩)
                    clear ft
                    go_wp2
                    clear d2
                    refine wp_region_held_drew (S := fun V => Fr (fun g => rv9.ownBlock = some g) w9 V) (by kernel_rfl) ((Fr.refl _ _).drew) (fun hS1 => ?_)
                    obtain ⟨WD, hWD⟩ : ∃ WD, WD = w9.drew := ⟨_, rfl⟩
                    rw [← hWD] at hS1 ⊢
                    have HBD : Hid (Below w9.heap.size w9 WD) := Lib.hid (by rw [hWD]; exact (Below.refl _ _).drew)
                    clear hWD
                    refine wpAnyH_take (i := 0) (oi := ⟨some 144, _, _, _, _, _⟩) (v := rv9) rfl (by kernel_rfl) (by kernel_rfl) (by kernel_rfl) (fun _ _ _ h => h) (.inl ⟨by kernel_rfl, fun V hS => by go_simp⟩) hS1 ?_
                    simp only [Act.put, List.setIfInBounds_toArray, List.set_cons_zero, List.set_cons_succ]
                    refine wpAnyH_take (i := 1) (oi := ⟨some 145, _, _, _, _, _⟩) (v := .slice (some ⟨b2, o2, none⟩) n c2) rfl (by kernel_rfl) (by kernel_rfl) (by kernel_rfl) (fun _ _ _ h => h) (.inl ⟨by kernel_rfl, fun V hS => by go_simp⟩) hS1 ?_
                    simp only [Act.put, List.setIfInBounds_toArray, List.set_cons_zero, List.set_cons_succ]
                    refine wpAnyH_take (i := 2) (oi := ⟨some 146, _, _, _, _, _⟩) (v := .int .i64 (k : Int)) rfl (by kernel_rfl) (by kernel_rfl) (by kernel_rfl) (fun _ _ _ h => h) (.inl ⟨by kernel_rfl, fun V hS => by go_simp⟩) hS1 ?_
                    simp only [Act.put, List.setIfInBounds_toArray, List.set_cons_zero, List.set_cons_succ]
                    refine wpAnyH_take (i := 3) (oi := ⟨some 147, _, _, _, _, _⟩) (v := .pointer (some ⟨b2, o2 + k * 3, none⟩)) rfl (by kernel_rfl) (by kernel_rfl) (by kernel_rfl) (fun _ _ _ h => h) (.inl ⟨by kernel_rfl, fun V hS => by go_simp⟩) hS1 ?_
                    simp only [Act.put, List.setIfInBounds_toArray, List.set_cons_zero, List.set_cons_succ]
                    refine wpAnyH_take (i := 4) (oi := ⟨some 148, _, _, _, _, _⟩) (v := .pointer (some ⟨b2, o2 + k * 3, none⟩)) rfl (by kernel_rfl) (by kernel_rfl) (by kernel_rfl) (fun _ _ _ h => h) (.inl ⟨by kernel_rfl, fun V hS => by go_simp⟩) hS1 ?_
                    simp only [Act.put, List.setIfInBounds_toArray, List.set_cons_zero, List.set_cons_succ]
                    refine wpAnyH_take (i := 5) (oi := ⟨some 149, _, _, _, _, _⟩) (v := .string ch.name) rfl (by kernel_rfl) (by kernel_rfl) (by kernel_rfl) (fun _ _ _ h => h) (.inl ⟨by kernel_rfl, fun V hS => by obtain ⟨h0, h2⟩ := HCE.out V hS; go_simp⟩) hS1 ?_
                    simp only [Act.put, List.setIfInBounds_toArray, List.set_cons_zero, List.set_cons_succ]
                    refine wpAnyH_take (i := 6) (oi := ⟨some 150, _, _, _, _, _⟩) (v := .slice (some ⟨b2, o2, none⟩) n c2) rfl (by kernel_rfl) (by kernel_rfl) (by kernel_rfl) (fun _ _ _ h => h) (.inl ⟨by kernel_rfl, fun V hS => by go_simp⟩) hS1 ?_
                    simp only [Act.put, List.setIfInBounds_toArray, List.set_cons_zero, List.set_cons_succ]
                    refine wpAnyH_take (i := 7) (oi := ⟨some 151, _, _, _, _, _⟩) (v := .int .i64 (k : Int)) rfl (by kernel_rfl) (by kernel_rfl) (by kernel_rfl) (fun _ _ _ h => h) (.inl ⟨by kernel_rfl, fun V hS => by go_simp⟩) hS1 ?_
                    simp only [Act.put, List.setIfInBounds_toArray, List.set_cons_zero, List.set_cons_succ]
                    refine wpAnyH_take (i := 8) (oi := ⟨some 152, _, _, _, _, _⟩) (v := .pointer (some ⟨b2, o2 + k * 3, none⟩)) rfl (by kernel_rfl) (by kernel_rfl) (by kernel_rfl) (fun _ _ _ h => h) (.inl ⟨by kernel_rfl, fun V hS => by go_simp⟩) hS1 ?_
                    simp only [Act.put, List.setIfInBounds_toArray, List.set_cons_zero, List.set_cons_succ]
                    refine wpAnyH_take (i := 9) (oi := ⟨some 153, _, _, _, _, _⟩) (v := .pointer (some ⟨b2, o2 + k * 3 + 2, none⟩)) rfl (by kernel_rfl) (by kernel_rfl) (by kernel_rfl) (fun _ _ _ h => h) (.inl ⟨by kernel_rfl, fun V hS => by go_simp⟩) hS1 ?_
                    simp only [Act.put, List.setIfInBounds_toArray, List.set_cons_zero, List.set_cons_succ]
                    refine wpAnyH_take (i := 10) (oi := ⟨some 154, _, _, _, _, _⟩) (v := .int .i64 ch.to) rfl (by kernel_rfl) (by kernel_rfl) (by kernel_rfl) (fun _ _ _ h => h) (.inl ⟨by kernel_rfl, fun V hS => by obtain ⟨h0, h2⟩ := HCE.out V hS; go_simp⟩) hS1 ?_
                    simp only [Act.put, List.setIfInBounds_toArray, List.set_cons_zero, List.set_cons_succ]
                    refine wpAnyH_take (i := 11) (oi := ⟨some 155, _, _, _, _, _⟩) (v := .agg #[.string ch.name, .int .i64 ch.to]) rfl (by kernel_rfl) (by kernel_rfl) (by kernel_rfl) (fun _ _ _ h => h) (.inl ⟨by kernel_rfl, fun V hS => by go_simp⟩) hS1 ?_
                    simp only [Act.put, List.setIfInBounds_toArray, List.set_cons_zero, List.set_cons_succ]
                    refine wpAnyH_ready (rs := [12]) (by kernel_rfl) (by simp) ?_
                    refine AllReadyH.cons rfl (fun K' hK => ?_) AllReadyH.nil
                    go_simp
                    obtain ⟨wA, hwA⟩ : ∃ wA, wA = WD.alloc (.cells #[.string ch.name, .int .i64 ch.to] 57) := ⟨_, rfl⟩
                    rw [← hwA]
                    have hbA : Below WD.heap.size WD wA := by rw [hwA]; exact (Below.refl _ _).alloc (Nat.le_refl _) _
                    obtain ⟨Q, hQ⟩ : ∃ Q, Q = WD.heap.size := ⟨_, rfl⟩
                    rw [← hQ]
                    have HBA : Hid (Below w9.heap.size w9 wA) := Lib.hid (HBD.out.trans (hbA.mono HBD.out.size))
                    have HQ : Hid (Blk wA Q 57 #[.string ch.name, .int .i64 ch.to]) := Lib.hid (by rw [hwA, hQ]; exact Blk.new _ _ _)
                    have HSZ : Hid (W1.heap.size ≤ wA.heap.size) := Lib.hid (Nat.le_trans HS9.out.bel.size HBA.out.size)
                    clear hwA hbA hQ
                    refine hK.out _ _ (Fr.of_below HBA.out) (fun hS2 => ?_)
                    clear hK K' hS1
                    refine wpAnyH_ready (rs := [13]) (by kernel_rfl) (by simp) ?_
                    refine AllReadyH.cons rfl (fun K' hK => ?_) AllReadyH.nil
                    refine step_app_held wA rfl (some 157) rfl _ _ rfl W1.heap.size rv9 (dropH hs ch.name) rfl (HS9.out.own.below HBA.out) Q rfl ch.name ch.to HQ.out (by have := HD3.out.2; omega) HSZ.out ?_
                    intro rvB wB hrow hg hat
                    have HSB : Hid (DaS w W1 A N c l v e0 (some ⟨b2, o2, none⟩) c2 L rvB (dropH hs ch.name ++ [(ch.name, ch.to)]) wB) := Lib.hid (HS9.out.app HBA.out hg hrow)
                    have HFB : Hid (Fr (fun g => rv9.ownBlock = some g) w9 wB) := Lib.hid ((Fr.of_below HBA.out).trans (Fr.of_grown hg (fun g e => e)))
                    clear hrow hg hat
                    refine hK.out _ _ (HFB.out) (fun hS3 => ?_)
                    clear hK K' hS2
                    simp only [Act.put, List.setIfInBounds_toArray, List.set_cons_zero, List.set_cons_succ]
                    refine wpAnyH_take (i := 14) (oi := ⟨some 6, _, _, _, _, _⟩) (v := rvB) rfl (by kernel_rfl) (by kernel_rfl) (by kernel_rfl) (fun _ _ _ h => h) (.inl ⟨by kernel_rfl, fun V hS => by go_simp⟩) hS3 ?_
                    simp only [Act.put, List.setIfInBounds_toArray, List.set_cons_zero, List.set_cons_succ]
                    refine wpAnyH_done (by kernel_rfl) ?_ _
                    go_wp2
                    go_roundw
                    case rel => exact ⟨k + 1, _, by omega, by go_num, Lib.hid (by rw [HAN3.out, HCD.out]), Lib.hid ⟨put_nodup HD.out.1 _ _, by rw [List.length_append]; have := HD3.out.2; simp only [List.length_singleton]; omega⟩, HSB⟩
                    case measure => simp [intOf]; omega

                · have HRD : Hid (∀ V, Below w5.heap.size w5 V → Reads V V.heap.size 2 (some ⟨g, (i + 1) * 2, none⟩) (m6 - (i + 1)) (hcells (hs.drop (i + 1)))) := Lib.hid (fun V hV => by
                    have hb : Below wr.heap.size wr V := HBR.out.trans (hV.mono HBR.out.size)
                    have h1 := hreads (w := V) (g := g) (l := hs) (Nat.lt_of_lt_of_le HGL.out hb.size) (fun j hj => ⟨(hb.cell (p := ⟨g, j * 2, none⟩) HGL.out).trans (HGC.out j hj).1, (hb.cell (p := ⟨g, j * 2 + 1, none⟩) HGL.out).trans (HGC.out j hj).2⟩) (i + 1) (hs.drop (i + 1)) (fun j hj => by
                      rw [List.length_drop] at hj
                      rw [List.getElem?_eq_getElem (show i + 1 + j < hs.length by omega), List.getElem_drop]
                      exact ⟨by omega, rfl⟩)
                    rw [List.length_drop, ← HM6.out] at h1
                    exact h1)
                  have HDL : Hid ((hs.drop (i + 1)).length = m6 - (i + 1)) := Lib.hid (by rw [List.length_drop, ← HM6.out])
                  have q4 : ((i : Int) + 1).toNat = i + 1 := by omega
                  have q5 : IntKind.i64.wrap ((i : Int) + 1) = (i : Int) + 1 := IntWalk.i64_in _ (by omega)
                  have q6 : (m6 : Int) ≤ (c6 : Int) := by have := HLE6.out.1; omega
                  have q3 : (i : Int) + 1 ≤ (m6 : Int) := by omega
                  have q2 : (i : Int) ≤ (c6 : Int) := by omega
                  have q7 : (0 : Int) ≤ (i : Int) + 1 := by omega
                  clear hil2 him
                  go_wp2
                  refine wp_region_held_drew (S := fun V => Below w5.heap.size w5 V) (by kernel_rfl) ((Below.refl _ _).drew) (fun hS1 => ?_)
                  obtain ⟨WD, hWD⟩ : ∃ WD, WD = w5.drew := ⟨_, rfl⟩
                  rw [← hWD] at hS1 ⊢
                  have HBD : Hid (Below w5.heap.size w5 WD) := Lib.hid (by rw [hWD]; exact (Below.refl _ _).drew)
                  clear hWD
                  refine wpAnyH_take (i := 1) (oi := ⟨some 129, _, _, _, _, _⟩) (v := .slice (some ⟨g, 0, none⟩) m6 c6) rfl (by kernel_rfl) (by kernel_rfl) (by kernel_rfl) (fun _ _ _ h => h) (.inl ⟨by kernel_rfl, fun V hS => by go_simp⟩) hS1 ?_
                  simp only [Act.put, List.setIfInBounds_toArray, List.set_cons_zero, List.set_cons_succ]
                  refine wpAnyH_take (i := 2) (oi := ⟨some 130, _, _, _, _, _⟩) (v := .int .i64 (i : Int)) rfl (by kernel_rfl) (by kernel_rfl) (by kernel_rfl) (fun _ _ _ h => h) (.inl ⟨by kernel_rfl, fun V hS => by go_simp⟩) hS1 ?_
                  simp only [Act.put, List.setIfInBounds_toArray, List.set_cons_zero, List.set_cons_succ]
                  refine wpAnyH_take (i := 3) (oi := ⟨some 131, _, _, _, _, _⟩) (v := .slice (some ⟨g, 0, none⟩) i c6) rfl (by kernel_rfl) (by kernel_rfl) (by kernel_rfl) (fun _ _ _ h => h) (.inl ⟨by kernel_rfl, fun V hS => by go_simp⟩) hS1 ?_
                  simp only [Act.put, List.setIfInBounds_toArray, List.set_cons_zero, List.set_cons_succ]
                  refine wpAnyH_take (i := 5) (oi := ⟨some 133, _, _, _, _, _⟩) (v := .slice (some ⟨g, 0, none⟩) m6 c6) rfl (by kernel_rfl) (by kernel_rfl) (by kernel_rfl) (fun _ _ _ h => h) (.inl ⟨by kernel_rfl, fun V hS => by go_simp⟩) hS1 ?_
                  simp only [Act.put, List.setIfInBounds_toArray, List.set_cons_zero, List.set_cons_succ]
                  refine wpAnyH_take (i := 6) (oi := ⟨some 134, _, _, _, _, _⟩) (v := .int .i64 (i : Int)) rfl (by kernel_rfl) (by kernel_rfl) (by kernel_rfl) (fun _ _ _ h => h) (.inl ⟨by kernel_rfl, fun V hS => by go_simp⟩) hS1 ?_
                  simp only [Act.put, List.setIfInBounds_toArray, List.set_cons_zero, List.set_cons_succ]
                  refine wpAnyH_take (i := 7) (oi := ⟨some 135, _, _, _, _, _⟩) (v := .int .i64 ((i : Int) + 1)) rfl (by kernel_rfl) (by kernel_rfl) (by kernel_rfl) (fun _ _ _ h => h) (.inl ⟨by kernel_rfl, fun V hS => by go_simp⟩) hS1 ?_
                  simp only [Act.put, List.setIfInBounds_toArray, List.set_cons_zero, List.set_cons_succ]
                  refine wpAnyH_take (i := 8) (oi := ⟨some 136, _, _, _, _, _⟩) (v := .slice (some ⟨g, (i + 1) * 2, none⟩) (m6 - (i + 1)) (c6 - (i + 1))) rfl (by kernel_rfl) (by kernel_rfl) (by kernel_rfl) (fun _ _ _ h => h) (.inl ⟨by kernel_rfl, fun V hS => by go_simp⟩) hS1 ?_
                  simp only [Act.put, List.setIfInBounds_toArray, List.set_cons_zero, List.set_cons_succ]
                  refine wpAnyH_ready (rs := [0]) (by kernel_rfl) (by simp) ?_
                  refine AllReadyH.cons rfl (fun K' hK => ?_) AllReadyH.nil
                  go_simp
                  obtain ⟨w7, hw7⟩ : ∃ w7, w7 = WD.alloc (.cells #[] 57) := ⟨_, rfl⟩
                  rw [← hw7]
                  have hb7 : Below WD.heap.size WD w7 := by rw [hw7]; exact (Below.refl _ _).alloc (Nat.le_refl _) _
                  obtain ⟨Q, hQ⟩ : ∃ Q, Q = WD.heap.size := ⟨_, rfl⟩
                  rw [← hQ]
                  have HB7 : Hid (Below w5.heap.size w5 w7) := Lib.hid (HBD.out.trans (hb7.mono HBD.out.size))
                  have HO7 : Hid (OHl w7 w5.heap.size (.slice (some ⟨Q, 0, none⟩) 0 0) []) := Lib.hid (OHl.empty _ _ _ (by rw [hw7, hQ]; exact Blk.new _ _ _) (by rw [hQ]; exact HBD.out.size))
                  clear hw7 hb7 hQ
                  refine hK.out _ _ (HB7.out) (fun hS2 => ?_)
                  clear hK K' hS1
                  refine wpAnyH_ready (rs := [4]) (by kernel_rfl) (by simp) ?_
                  refine AllReadyH.cons rfl (fun K' hK => ?_) AllReadyH.nil
                  refine step_apps_held w7 rfl (some 132) rfl _ _ rfl w5.heap.size (.slice (some ⟨Q, 0, none⟩) 0 0) [] rfl HO7.out (some ⟨g, 0, none⟩) i c6 rfl (hs.take i) (HRT.out w7 HB7.out) HTL.out (by simp only [List.length_nil]; have := HD.out.2; omega) HB7.out.size ?_
                  intro rv8 w8 hrow hg hat
                  have HO8 := Lib.hid hrow
                  have HB8 : Hid (Below w5.heap.size w5 w8) := Lib.hid (below_grown HB7.out hg HB7.out.size HO7.out.ge)
                  clear hrow hg hat
                  refine hK.out _ _ (HB8.out) (fun hS3 => ?_)
                  clear hK K' hS2
                  simp only [Act.put, List.setIfInBounds_toArray, List.set_cons_zero, List.set_cons_succ]
                  refine wpAnyH_ready (rs := [9]) (by kernel_rfl) (by simp) ?_
                  refine AllReadyH.cons rfl (fun K' hK => ?_) AllReadyH.nil
                  refine step_apps_held w8 rfl (some 137) rfl _ _ rfl w5.heap.size rv8 ([] ++ hs.take i) rfl HO8.out (some ⟨g, (i + 1) * 2, none⟩) (m6 - (i + 1)) (c6 - (i + 1)) rfl (hs.drop (i + 1)) (HRD.out w8 HB8.out) HDL.out (by rw [List.length_append, HTL.out]; simp only [List.length_nil]; have := HD.out.2; omega) HB8.out.size ?_
                  intro rv9 w9 hrow hg hat
                  have HO9 := Lib.hid hrow
                  have HB59 : Hid (Below w5.heap.size w5 w9) := Lib.hid (below_grown HB8.out hg HB8.out.size HO8.out.ge)
                  clear hrow hg hat
                  refine hK.out _ _ (HB59.out) (fun hS4 => ?_)
                  clear hK K' hS3
                  simp only [Act.put, List.setIfInBounds_toArray, List.set_cons_zero, List.set_cons_succ]
                  refine wpAnyH_take (i := 10) (oi := ⟨some 6, _, _, _, _, _⟩) (v := rv9) rfl (by kernel_rfl) (by kernel_rfl) (by kernel_rfl) (fun _ _ _ h => h) (.inl ⟨by kernel_rfl, fun V hS => by go_simp⟩) hS4 ?_
                  simp only [Act.put, List.setIfInBounds_toArray, List.set_cons_zero, List.set_cons_succ]
                  refine wpAnyH_done (by kernel_rfl) ?_ _
                  have HB9 : Hid (Below w0.heap.size w0 w9) := Lib.hid (HB5.out.trans (HB59.out.mono HB5.out.size))
                  have HS9 : Hid (DaS w W1 A N c l v e0 (some ⟨b2, o2, none⟩) c2 L rv9 (dropH hs ch.name) w9) := Lib.hid (HS5.out.new HB59.out (by rw [HDR.out]; exact HO9.out.mono HS5.out.bel.size))
                  clear hS4
                  obtain ⟨d0, d1, d2⟩ := HCC.out w9 HB9.out
                  clear d0 d1
                  by_cases ft : ch.to = 0
                  · have z4 : decide (ch.to > 0) = false := decide_eq_false (by omega)
                    have z4' : decide (0 < ch.to) = false := decide_eq_false (by omega)
                    have HCD : Hid (chDo hs ch = dropH hs ch.name) := Lib.hid (by unfold chDo; rw [if_pos ft])
                    clear ft
                    go_wp2
                    go_roundw
                    case rel => exact ⟨k + 1, _, by omega, by go_num, Lib.hid (by rw [HAN3.out, HCD.out]), Lib.hid ⟨HD3.out.1, by have := HD3.out.2; omega⟩, HS9⟩
                    case measure => simp [intOf]; omega
                  · have z4 : decide (ch.to > 0) = true := decide_eq_true (by have := HTO.out; omega)
                    have z4' : decide (0 < ch.to) = true := decide_eq_true (by have := HTO.out; omega)
                    have HCD : Hid (chDo hs ch = dropH hs ch.name ++ [(ch.name, ch.to)]) := Lib.hid (by unfold chDo; rw [if_neg ft])
                    have HCE : Hid (∀ V, Fr (fun g => rv9.ownBlock = some g) w9 V → V.cell? ⟨b2, o2 + k * 3, none⟩ = some (.string ch.name) ∧ V.cell? ⟨b2, o2 + k * 3 + 2, none⟩ = some (.int .i64 ch.to)) := Lib.hid (fun V hV => by
                      obtain ⟨h0, h1, h2⟩ := HCC.out w9 HB9.out
                      have hge := HS9.out.own.ge
                      have hsz := HS9.out.bel.size
                      have hlb := HB2L.out
                      have hrd : ∀ {p : Addr} {u : Value}, p.block = b2 → w9.cell? p = some u → V.cell? p = some u := fun {p u} hp hc => by
                        rw [hV.cell (by omega) (fun e => by have := hge _ e; omega)]
                        exact hc
                      exact ⟨hrd rfl h0, hrd rfl h2⟩)
                    clear ft
                    go_wp2
                    clear d2
                    refine wp_region_held_drew (S := fun V => Fr (fun g => rv9.ownBlock = some g) w9 V) (by kernel_rfl) ((Fr.refl _ _).drew) (fun hS1 => ?_)
                    obtain ⟨WD, hWD⟩ : ∃ WD, WD = w9.drew := ⟨_, rfl⟩
                    rw [← hWD] at hS1 ⊢
                    have HBD : Hid (Below w9.heap.size w9 WD) := Lib.hid (by rw [hWD]; exact (Below.refl _ _).drew)
                    clear hWD
                    refine wpAnyH_take (i := 0) (oi := ⟨some 144, _, _, _, _, _⟩) (v := rv9) rfl (by kernel_rfl) (by kernel_rfl) (by kernel_rfl) (fun _ _ _ h => h) (.inl ⟨by kernel_rfl, fun V hS => by go_simp⟩) hS1 ?_
                    simp only [Act.put, List.setIfInBounds_toArray, List.set_cons_zero, List.set_cons_succ]
                    refine wpAnyH_take (i := 1) (oi := ⟨some 145, _, _, _, _, _⟩) (v := .slice (some ⟨b2, o2, none⟩) n c2) rfl (by kernel_rfl) (by kernel_rfl) (by kernel_rfl) (fun _ _ _ h => h) (.inl ⟨by kernel_rfl, fun V hS => by go_simp⟩) hS1 ?_
                    simp only [Act.put, List.setIfInBounds_toArray, List.set_cons_zero, List.set_cons_succ]
                    refine wpAnyH_take (i := 2) (oi := ⟨some 146, _, _, _, _, _⟩) (v := .int .i64 (k : Int)) rfl (by kernel_rfl) (by kernel_rfl) (by kernel_rfl) (fun _ _ _ h => h) (.inl ⟨by kernel_rfl, fun V hS => by go_simp⟩) hS1 ?_
                    simp only [Act.put, List.setIfInBounds_toArray, List.set_cons_zero, List.set_cons_succ]
                    refine wpAnyH_take (i := 3) (oi := ⟨some 147, _, _, _, _, _⟩) (v := .pointer (some ⟨b2, o2 + k * 3, none⟩)) rfl (by kernel_rfl) (by kernel_rfl) (by kernel_rfl) (fun _ _ _ h => h) (.inl ⟨by kernel_rfl, fun V hS => by go_simp⟩) hS1 ?_
                    simp only [Act.put, List.setIfInBounds_toArray, List.set_cons_zero, List.set_cons_succ]
                    refine wpAnyH_take (i := 4) (oi := ⟨some 148, _, _, _, _, _⟩) (v := .pointer (some ⟨b2, o2 + k * 3, none⟩)) rfl (by kernel_rfl) (by kernel_rfl) (by kernel_rfl) (fun _ _ _ h => h) (.inl ⟨by kernel_rfl, fun V hS => by go_simp⟩) hS1 ?_
                    simp only [Act.put, List.setIfInBounds_toArray, List.set_cons_zero, List.set_cons_succ]
                    refine wpAnyH_take (i := 5) (oi := ⟨some 149, _, _, _, _, _⟩) (v := .string ch.name) rfl (by kernel_rfl) (by kernel_rfl) (by kernel_rfl) (fun _ _ _ h => h) (.inl ⟨by kernel_rfl, fun V hS => by obtain ⟨h0, h2⟩ := HCE.out V hS; go_simp⟩) hS1 ?_
                    simp only [Act.put, List.setIfInBounds_toArray, List.set_cons_zero, List.set_cons_succ]
                    refine wpAnyH_take (i := 6) (oi := ⟨some 150, _, _, _, _, _⟩) (v := .slice (some ⟨b2, o2, none⟩) n c2) rfl (by kernel_rfl) (by kernel_rfl) (by kernel_rfl) (fun _ _ _ h => h) (.inl ⟨by kernel_rfl, fun V hS => by go_simp⟩) hS1 ?_
                    simp only [Act.put, List.setIfInBounds_toArray, List.set_cons_zero, List.set_cons_succ]
                    refine wpAnyH_take (i := 7) (oi := ⟨some 151, _, _, _, _, _⟩) (v := .int .i64 (k : Int)) rfl (by kernel_rfl) (by kernel_rfl) (by kernel_rfl) (fun _ _ _ h => h) (.inl ⟨by kernel_rfl, fun V hS => by go_simp⟩) hS1 ?_
                    simp only [Act.put, List.setIfInBounds_toArray, List.set_cons_zero, List.set_cons_succ]
                    refine wpAnyH_take (i := 8) (oi := ⟨some 152, _, _, _, _, _⟩) (v := .pointer (some ⟨b2, o2 + k * 3, none⟩)) rfl (by kernel_rfl) (by kernel_rfl) (by kernel_rfl) (fun _ _ _ h => h) (.inl ⟨by kernel_rfl, fun V hS => by go_simp⟩) hS1 ?_
                    simp only [Act.put, List.setIfInBounds_toArray, List.set_cons_zero, List.set_cons_succ]
                    refine wpAnyH_take (i := 9) (oi := ⟨some 153, _, _, _, _, _⟩) (v := .pointer (some ⟨b2, o2 + k * 3 + 2, none⟩)) rfl (by kernel_rfl) (by kernel_rfl) (by kernel_rfl) (fun _ _ _ h => h) (.inl ⟨by kernel_rfl, fun V hS => by go_simp⟩) hS1 ?_
                    simp only [Act.put, List.setIfInBounds_toArray, List.set_cons_zero, List.set_cons_succ]
                    refine wpAnyH_take (i := 10) (oi := ⟨some 154, _, _, _, _, _⟩) (v := .int .i64 ch.to) rfl (by kernel_rfl) (by kernel_rfl) (by kernel_rfl) (fun _ _ _ h => h) (.inl ⟨by kernel_rfl, fun V hS => by obtain ⟨h0, h2⟩ := HCE.out V hS; go_simp⟩) hS1 ?_
                    simp only [Act.put, List.setIfInBounds_toArray, List.set_cons_zero, List.set_cons_succ]
                    refine wpAnyH_take (i := 11) (oi := ⟨some 155, _, _, _, _, _⟩) (v := .agg #[.string ch.name, .int .i64 ch.to]) rfl (by kernel_rfl) (by kernel_rfl) (by kernel_rfl) (fun _ _ _ h => h) (.inl ⟨by kernel_rfl, fun V hS => by go_simp⟩) hS1 ?_
                    simp only [Act.put, List.setIfInBounds_toArray, List.set_cons_zero, List.set_cons_succ]
                    refine wpAnyH_ready (rs := [12]) (by kernel_rfl) (by simp) ?_
                    refine AllReadyH.cons rfl (fun K' hK => ?_) AllReadyH.nil
                    go_simp
                    obtain ⟨wA, hwA⟩ : ∃ wA, wA = WD.alloc (.cells #[.string ch.name, .int .i64 ch.to] 57) := ⟨_, rfl⟩
                    rw [← hwA]
                    have hbA : Below WD.heap.size WD wA := by rw [hwA]; exact (Below.refl _ _).alloc (Nat.le_refl _) _
                    obtain ⟨Q, hQ⟩ : ∃ Q, Q = WD.heap.size := ⟨_, rfl⟩
                    rw [← hQ]
                    have HBA : Hid (Below w9.heap.size w9 wA) := Lib.hid (HBD.out.trans (hbA.mono HBD.out.size))
                    have HQ : Hid (Blk wA Q 57 #[.string ch.name, .int .i64 ch.to]) := Lib.hid (by rw [hwA, hQ]; exact Blk.new _ _ _)
                    have HSZ : Hid (W1.heap.size ≤ wA.heap.size) := Lib.hid (Nat.le_trans HS9.out.bel.size HBA.out.size)
                    clear hwA hbA hQ
                    refine hK.out _ _ (Fr.of_below HBA.out) (fun hS2 => ?_)
                    clear hK K' hS1
                    refine wpAnyH_ready (rs := [13]) (by kernel_rfl) (by simp) ?_
                    refine AllReadyH.cons rfl (fun K' hK => ?_) AllReadyH.nil
                    refine step_app_held wA rfl (some 157) rfl _ _ rfl W1.heap.size rv9 (dropH hs ch.name) rfl (HS9.out.own.below HBA.out) Q rfl ch.name ch.to HQ.out (by have := HD3.out.2; omega) HSZ.out ?_
                    intro rvB wB hrow hg hat
                    have HSB : Hid (DaS w W1 A N c l v e0 (some ⟨b2, o2, none⟩) c2 L rvB (dropH hs ch.name ++ [(ch.name, ch.to)]) wB) := Lib.hid (HS9.out.app HBA.out hg hrow)
                    have HFB : Hid (Fr (fun g => rv9.ownBlock = some g) w9 wB) := Lib.hid ((Fr.of_below HBA.out).trans (Fr.of_grown hg (fun g e => e)))
                    clear hrow hg hat
                    refine hK.out _ _ (HFB.out) (fun hS3 => ?_)
                    clear hK K' hS2
                    simp only [Act.put, List.setIfInBounds_toArray, List.set_cons_zero, List.set_cons_succ]
                    refine wpAnyH_take (i := 14) (oi := ⟨some 6, _, _, _, _, _⟩) (v := rvB) rfl (by kernel_rfl) (by kernel_rfl) (by kernel_rfl) (fun _ _ _ h => h) (.inl ⟨by kernel_rfl, fun V hS => by go_simp⟩) hS3 ?_
                    simp only [Act.put, List.setIfInBounds_toArray, List.set_cons_zero, List.set_cons_succ]
                    refine wpAnyH_done (by kernel_rfl) ?_ _
                    go_wp2
                    go_roundw
                    case rel => exact ⟨k + 1, _, by omega, by go_num, Lib.hid (by rw [HAN3.out, HCD.out]), Lib.hid ⟨put_nodup HD.out.1 _ _, by rw [List.length_append]; have := HD3.out.2; simp only [List.length_singleton]; omega⟩, HSB⟩
                    case measure => simp [intOf]; omega
        · have y0 : decide ((k : Int) < (n : Int)) = false := by rw [decide_eq_false_iff_not]; omega
          have y0' : decide (k < n) = false := by rw [decide_eq_false_iff_not]; omega
          have HE : Hid (R = some hs) := Lib.hid (by rw [HR.out, ← HA.out, heq, HN.out, List.take_length])
          clear heq
          go_wp2
          refine bodyPost_ret (v := .tuple #[u6, .bool true]) (by simp [results, Tryz.results22, go_sem]) rfl ?_
          unfold PFb
          rw [HE.out]
          exact ⟨u6, rfl, HS.out.own.mono HS.out.b0.size, HS.out.b0.trans (HS.out.bel.mono HS.out.b0.size)⟩
end Go.Proofs.YtefkpphahimkgaaGreatDoor
