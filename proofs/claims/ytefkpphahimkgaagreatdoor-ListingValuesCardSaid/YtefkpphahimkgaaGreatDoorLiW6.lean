/-
 listing.Older.
-/
import Derived.Test.YtefkpphahimkgaaGreatDoorTk
import Derived.Test.YtefkpphahimkgaaGreatDoorLiW3
import Derived.Test.YtefkpphahimkgaaGreatDoorGA
namespace Go.Proofs.YtefkpphahimkgaaGreatDoor
open Go.RowKit
attribute [local go_sem ↓] Go.wp_at_zero Go.wp_at_succ
set_option linter.unusedVariables false
set_option linter.unusedSimpArgs false
def oldB (b : List ME) (m : ME) : Bool := match findL b m.name with | none => true | some x => decide (x.ver < m.ver)
def olderL (a b : List ME) : List ByteArray := (a.filter (oldB b)).map ME.name
def OldP (names : List ByteArray) (w : World) (e : Ending) (w' : World) : Prop := ∃ v, e = .returned v ∧ OR 9 w' w.heap.size v (names.map Value.string) ∧ Below w.heap.size w w'
theorem infoStrL : (Tryz.prog.info? 9).map (fun i => (i.zero, i.size, i.bytes)) = some (some (.string ⟨#[]⟩), 1, 16) := by kernel_rfl
theorem older_len (a b : List ME) : (olderL a b).length ≤ a.length := by
 unfold olderL
 rw [List.length_map]
 exact List.length_filter_le _ _
theorem older_snoc {a b : List ME} {k : Nat} (hk : k < a.length) : olderL (a.take (k + 1)) b = olderL (a.take k) b ++ (if oldB b a[k] then [a[k].name] else []) := by
 unfold olderL
 rw [List.take_succ_eq_append_getElem hk, List.filter_append, List.map_append]
 congr 1
 cases h : oldB b a[k] with
 | true => simp [h]
 | false => simp [h]
set_option maxRecDepth 100000 in
set_option maxHeartbeats 8000000 in
theorem older_any {w : World} (v1 e1 v2 e2 : Int) {A A2 : Option Addr} {c c2 : Nat} {l l2 : List ME} (h : MAt w A c l) (h2 : MAt w A2 c2 l2) (hl : l.length ≤ 1000) :
  Calls Tryz.prog 18 #[.agg #[.int .i64 v1, .int .i64 e1, .slice A l.length c], .agg #[.int .i64 v2, .int .i64 e2, .slice A2 l2.length c2]] w fun e w' => PFb (OldP (olderL l l2) w) e w' := by
 obtain ⟨n, hn⟩ : ∃ n, n = l.length := ⟨_, rfl⟩
 obtain ⟨n2, hn2⟩ : ∃ n2, n2 = l2.length := ⟨_, rfl⟩
 rw [← hn] at hl ⊢
 rw [← hn2]
 have HN : Hid (l.length = n) := Ld hn.symm
 have HN2 : Hid (l2.length = n2) := Ld hn2.symm
 have HF := Ld h
 have HF2 := Ld h2
 obtain ⟨hb2, hk1, hk2, hs2⟩ := new2_ w #[.int .i64 v1, .int .i64 e1, .slice A n c] #[.int .i64 v2, .int .i64 e2, .slice A2 n2 c2] 24 24 _ rfl
 have HB2 := Ld hb2
 have HK1 := Ld hk1
 have HK2 := Ld hk2
 have hw0 : ∃ B, B = w.heap.size := ⟨_, rfl⟩
 clear h h2 hn hn2 hb2 hk1 hk2 hs2 hw0
 go_enter Tryz.func18, Tryz.ntmps18
 go_wp2
 go_loopw [5, 13] (fun v y wr => ∃ k : Nat, k ≤ n ∧ y = .int .i64 (k : Int) ∧ Hid (OR 9 wr w.heap.size v ((olderL (l.take k) l2).map Value.string)) ∧ Hid (Below w.heap.size w wr) ∧ Hid (Blk wr w.heap.size 24 #[.int .i64 v1, .int .i64 e1, .slice A n c]) ∧ Hid (Blk wr (w.heap.size + 1) 24 #[.int .i64 v2, .int .i64 e2, .slice A2 n2 c2])) (fun _ y _ => n - (intOf y).toNat)
 case atStart => exact ⟨0, Nat.zero_le _, rfl, Ld (OR.nil _ _ _), HB2, HK1, HK2⟩
 case round =>
  obtain ⟨k, hk, rfl, HO, HB, HKA, HKB⟩ := hrel
  rcases (by omega : k < n ∨ k = n) with hlt | heq
  ·have q0 : decide ((k : Int) < (n : Int)) = true := by rw [decide_eq_true_iff]; omega
   have q0' : decide (k < n) = true := by rw [decide_eq_true_iff]; omega
   have hkl : k < l.length := by rw [HN.out]; exact hlt
   obtain ⟨b, o, hA, hbl, c0, c1, c2', c3⟩ := (HF.out.bel HB.out).four hkl
   subst hA
   obtain ⟨x, hx⟩ : ∃ x, x = l[k] := ⟨_, rfl⟩
   rw [← hx] at c0 c1 c2' c3
   have hsn := older_snoc (b := l2) hkl
   rw [← hx] at hsn
   have HSN := Ld hsn
   obtain ⟨WR, hWR⟩ : ∃ WR, WR = wr.alloc (.cells #[.string x.name, .int .i64 x.ver, .int .i64 x.len, .string x.hash] 44) := ⟨_, rfl⟩
   have hbr : Below wr.heap.size wr WR := by rw [hWR]; exact (Below.refl _ _).alloc (Nat.le_refl _) _
   have hkr : Blk WR wr.heap.size 44 #[.string x.name, .int .i64 x.ver, .int .i64 x.len, .string x.hash] := by rw [hWR]; exact Blk.new _ _ _
   have hbw : Below w.heap.size w WR := HB.out.trans (hbr.mono HB.out.size)
   have hf := find_any v2 e2 (HF2.out.bel hbw) x.name
   rw [HN2.out] at hf
   have hkb := HKB.out.below hbr HKB.out.lt
   have x0 : WR.cell? ⟨w.heap.size + 1, 0, none⟩ = some (.int .i64 v2) := hkb.cell 0
   have x1 : WR.cell? ⟨w.heap.size + 1, 1, none⟩ = some (.int .i64 e2) := hkb.cell 1
   have x2 : WR.cell? ⟨w.heap.size + 1, 2, none⟩ = some (.slice A2 n2 c2) := hkb.cell 2
   have HFI := Ld hf
   have HKR := Ld hkr
   have HBW := Ld hbw
   have HBR := Ld hbr
   have HWR := Ld hWR
   have HOR := Ld (HO.out.below hbr)
   have HKA2 := Ld (HKA.out.below hbr HKA.out.lt)
   have HKB2 := Ld hkb
   have hki : (k : Int) < (n : Int) := by omega
   have hk0 : (0 : Int) ≤ (k : Int) := by omega
   have y0 : WR.cell? ⟨wr.heap.size, 0, none⟩ = some (.string x.name) := hkr.cell 0
   clear hbl hx hsn hbr hkr hbw hf hkb hWR HO HKA HKB
   go_upto_region 5 with (fail)
   rw [← HWR.out]
   go_wp2_with fail
   refine HFI.out.mono ?_
   rintro e w4 ⟨y, bf, rfl, hb4, hfy⟩
   unfold ME.val
   obtain ⟨W5, hW5⟩ : ∃ W5, W5 = w4.alloc (.cells #[.string y.name, .int .i64 y.ver, .int .i64 y.len, .string y.hash] 44) := ⟨_, rfl⟩
   have hb5 : Below w4.heap.size w4 W5 := by rw [hW5]; exact (Below.refl _ _).alloc (Nat.le_refl _) _
   have hk5 : Blk W5 w4.heap.size 44 #[.string y.name, .int .i64 y.ver, .int .i64 y.len, .string y.hash] := by rw [hW5]; exact Blk.new _ _ _
   have hb45 : Below WR.heap.size WR W5 := hb4.trans (hb5.mono hb4.size)
   have hkr5 := HKR.out.below hb45 HKR.out.lt
   have z1 : W5.cell? ⟨w4.heap.size, 1, none⟩ = some (.int .i64 y.ver) := hk5.cell 1
   have z0 : W5.cell? ⟨wr.heap.size, 0, none⟩ = some (.string x.name) := hkr5.cell 0
   have z2 : W5.cell? ⟨wr.heap.size, 1, none⟩ = some (.int .i64 x.ver) := hkr5.cell 1
   have HO5 := Ld (HOR.out.below hb45)
   have HB5 := Ld (HBW.out.trans (hb45.mono HBW.out.size))
   have HKA5 := Ld (HKA2.out.below hb45 HKA2.out.lt)
   have HKB5 := Ld (HKB2.out.below hb45 HKB2.out.lt)
   have HW5 := Ld hW5
   have hol := older_len (l.take k) l2
   have hol2 : (olderL (l.take k) l2).length ≤ 1000 := by rw [List.length_take] at hol; omega
   clear hb4 hb5 hk5 hb45 hkr5 hW5 hol x0 x1 x2 y0 c0 c1 c2' c3
   rcases hfy with ⟨rfl, hy, hfn⟩ | ⟨rfl, hfs⟩
   ·have HOB : Hid (oldB l2 x = true) := Ld (by unfold oldB; rw [hfn])
    clear hfn hy
    have HFX : Hid (True) := Ld trivial
    go_upto_region 6 with (fail)
    rw [← HW5.out]
    go_wp2_with (at_builtin; refine app_cell W5 rfl _ _ 40 9 _ 16 Tryz.underlying40 infoStrL rfl rfl w.heap.size u5 _ rfl HO5.out _ rfl rfl (by rw [List.length_map]; simp only [maxLen]; omega) (by rw [List.length_map]; omega) HB5.out.size ?_)
    intro v' w' hO hG hv'
    have HO' : Hid (OR 9 w' w.heap.size v' ((olderL (l.take (k + 1)) l2).map Value.string)) := Ld (by
     rw [HSN.out, HOB.out, if_pos rfl, List.map_append]
     exact hO)
    have HB' : Hid (Below w.heap.size w w') := below_grown (HB5.out.alloc HB5.out.size _) hG (by have := HB5.out.size; simp; omega) HO5.out.ge
    have hne : ∀ g, g < w.heap.size + 2 → w.heap.size ≤ g → (∃ cs, Blk W5 g 24 cs) → ¬ some g = u5.ownBlock := fun g hg1 hg2 ⟨cs, hb⟩ e => by
     rcases HO5.out.2 with ⟨h0, _⟩ | ⟨g', cap, cur, hv, _, hh, _⟩
     ·rw [h0] at e; cases e
     ·rw [hv] at e
      injection e with e
      subst e
      have hbb : Blk W5 g 9 cur := hh
      exact Blk.ne_ hb hbb (by decide) rfl
    have HKA' : Hid (Blk w' w.heap.size 24 #[.int .i64 v1, .int .i64 e1, .slice (some ⟨b, o, none⟩) n c]) := Ld ((HKA5.out.alloc _).grown hG (hne _ (by omega) (Nat.le_refl _) ⟨_, HKA5.out⟩))
    have HKB' : Hid (Blk w' (w.heap.size + 1) 24 #[.int .i64 v2, .int .i64 e2, .slice A2 n2 c2]) := Ld ((HKB5.out.alloc _).grown hG (hne _ (by omega) (Nat.le_succ _) ⟨_, HKB5.out⟩))
    clear hO hG hv' hne
    go_wp2
    go_roundw
    case rel => exact ⟨k + 1, by omega, by go_num, HO', HB', HKA', HKB'⟩
    case measure => simp [intOf]; omega
   ·by_cases hlt2 : y.ver < x.ver
    ·have HOB : Hid (oldB l2 x = true) := Ld (by unfold oldB; rw [hfs]; exact decide_eq_true hlt2)
     have d1 : decide (y.ver < x.ver) = true := decide_eq_true hlt2
     clear hlt2 hfs
     go_upto_region 6 with (fail)
     rw [← HW5.out]
     go_wp2_with (at_builtin; refine app_cell W5 rfl _ _ 40 9 _ 16 Tryz.underlying40 infoStrL rfl rfl w.heap.size u5 _ rfl HO5.out _ rfl rfl (by rw [List.length_map]; simp only [maxLen]; omega) (by rw [List.length_map]; omega) HB5.out.size ?_)
     intro v' w' hO hG hv'
     have HO' : Hid (OR 9 w' w.heap.size v' ((olderL (l.take (k + 1)) l2).map Value.string)) := Ld (by
      rw [HSN.out, HOB.out, if_pos rfl, List.map_append]
      exact hO)
     have HB' : Hid (Below w.heap.size w w') := below_grown (HB5.out.alloc HB5.out.size _) hG (by have := HB5.out.size; simp; omega) HO5.out.ge
     have hne : ∀ g, g < w.heap.size + 2 → w.heap.size ≤ g → (∃ cs, Blk W5 g 24 cs) → ¬ some g = u5.ownBlock := fun g hg1 hg2 ⟨cs, hb⟩ e => by
      rcases HO5.out.2 with ⟨h0, _⟩ | ⟨g', cap, cur, hv, _, hh, _⟩
      ·rw [h0] at e; cases e
      ·rw [hv] at e
       injection e with e
       subst e
       have hbb : Blk W5 g 9 cur := hh
       exact Blk.ne_ hb hbb (by decide) rfl
     have HKA' : Hid (Blk w' w.heap.size 24 #[.int .i64 v1, .int .i64 e1, .slice (some ⟨b, o, none⟩) n c]) := Ld ((HKA5.out.alloc _).grown hG (hne _ (by omega) (Nat.le_refl _) ⟨_, HKA5.out⟩))
     have HKB' : Hid (Blk w' (w.heap.size + 1) 24 #[.int .i64 v2, .int .i64 e2, .slice A2 n2 c2]) := Ld ((HKB5.out.alloc _).grown hG (hne _ (by omega) (Nat.le_succ _) ⟨_, HKB5.out⟩))
     clear hO hG hv' hne
     go_wp2
     go_roundw
     case rel => exact ⟨k + 1, by omega, by go_num, HO', HB', HKA', HKB'⟩
     case measure => simp [intOf]; omega
    ·have HOB : Hid (oldB l2 x = false) := Ld (by unfold oldB; rw [hfs]; exact decide_eq_false hlt2)
     have d1 : decide (y.ver < x.ver) = false := decide_eq_false hlt2
     clear hlt2 hfs
     go_upto_region 6 with (fail)
     rw [← HW5.out]
     have HO' : Hid (OR 9 W5 w.heap.size u5 ((olderL (l.take (k + 1)) l2).map Value.string)) := Ld (by
      rw [HSN.out, HOB.out]
      simpa using HO5.out)
     go_wp2
     go_roundw
     case rel => exact ⟨k + 1, by omega, by go_num, HO', HB5, HKA5, HKB5⟩
     case measure => simp [intOf]; omega
  ·have q0 : decide ((k : Int) < (n : Int)) = false := by rw [decide_eq_false_iff_not]; omega
   have q0' : decide (k < n) = false := by rw [decide_eq_false_iff_not]; omega
   have HE : Hid (OR 9 wr w.heap.size u5 ((olderL l l2).map Value.string)) := Ld (by
    have h9 := HO.out
    rw [heq, ← HN.out, List.take_length] at h9
    exact h9)
   clear heq
   go_wp2
   go_ret
   exact ⟨_, rfl, HE.out, HB.out⟩
end Go.Proofs.YtefkpphahimkgaaGreatDoor
