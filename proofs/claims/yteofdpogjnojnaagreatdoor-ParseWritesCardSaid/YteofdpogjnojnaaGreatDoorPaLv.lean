/-
  pursuivantlaw05.lives: it returns true in whatever world.
-/
import Derived.Test.YteofdpogjnojnaaGreatDoorGPb
namespace Go.Proofs.YteofdpogjnojnaaGreatDoor
open Go.RowKit Utf Pa
set_option linter.unusedVariables false
set_option linter.unusedSimpArgs false

theorem lit_rb5 (w : World) (l : List UInt8) (cs : Array Value) (fr : Nat × Nat) (h : cs = (Lib.byteCells l).toArray) : RB (w.alloc (.cells cs 5 fr)) (some ⟨w.heap.size, 0, none⟩) l := by
  subst h
  refine ⟨by simp [Lib.byteCells], fun hn => ⟨_, rfl, by simp, fun j u hu => ?_⟩⟩
  rw [Addr.add_lit, Nat.zero_add, cell_of_row _ w.heap.size j _ 5 fr (heap_alloc_new w _)]
  simpa using hu
theorem lit_conv (u : World) (l : List UInt8) (g n : Nat) (cs : Array Value) (hg : g = u.heap.size) (hn : n = l.length) (h : cs = (Lib.byteCells l).toArray) : ∃ W', (convert 33 33 (.slice (some ⟨g, 0, none⟩) n n)).run Tryz.prog (u.alloc (.cells cs 5)) = .ok (.slice (some ⟨g, 0, none⟩) n n) W' ∧ RB W' (some ⟨g, 0, none⟩) l ∧ Below u.heap.size u W' := by
  subst hg
  exact ⟨_, Lib.run_convert_bytes_const (P := Tryz.prog) u 33 5 cs n n Tryz.underlying33 Tryz.underlying5, lit_rb5 u l cs _ h, (Below.refl _ _).alloc (Nat.le_refl _) _⟩
theorem len_pv {l : List MV} {p : List PV} (h : MV.pvL l = p) : l.length = p.length := by rw [← h, pvL_len]
/-- where the parts of the first text's value lie -/
theorem lv_cells {w : World} {v : MV} (hat : VAt w v) (h : v.pv = .mk 6 0 ⟨#[]⟩ [] [⟨#[97]⟩, ⟨#[98]⟩] [.mk 5 0 ⟨#[]⟩ [.mk 3 1 ⟨#[]⟩ [] [] [], .mk 3 (-20) ⟨#[]⟩ [] [] [], .mk 1 0 ⟨#[]⟩ [] [] []] [] [], .mk 4 0 ⟨#[120]⟩ [] [] []]) :
    ∃ ad bd cc, v.mA = some ad ∧ v.m.length = 2 ∧ w.cell? (ad.add 4) = some (.slice (some bd) 3 cc) ∧ w.cell? (bd.add 6) = some (.int .i64 (-20)) := by
  cases hat with
  | mk a b c d e f g i j k =>
    rename_i key kk nn ss lA lc l mA mc m
    rw [MV.pv] at h
    injection h with z1 z2 z3 z4 z5 hm
    clear z1 z2 z3 z4 z5
    have hml : m.length = 2 := len_pv hm
    obtain ⟨x0, x1, rfl⟩ : ∃ x0 x1, m = [x0, x1] := by
      match m, hml with
      | [x0, x1], _ => exact ⟨x0, x1, rfl⟩
    rw [pvL_map] at hm
    injection hm with hx0 z1
    clear z1
    obtain ⟨ad, rfl, hb, hc⟩ := f.2 (by simp)
    have hv0 := k x0 (by simp)
    cases hv0 with
    | mk a' b' c' d' e' f' g' i' j' k' =>
      rename_i key' kk' nn' ss' lA' lc' l' mA' mc' m'
      rw [MV.pv] at hx0
      injection hx0 with z1 z2 z3 hl z5 z6
      clear z1 z2 z3 z5 z6
      have hll : l'.length = 3 := len_pv hl
      obtain ⟨y0, y1, y2, rfl⟩ : ∃ y0 y1 y2, l' = [y0, y1, y2] := by
        match l', hll with
        | [y0, y1, y2], _ => exact ⟨y0, y1, y2, rfl⟩
      rw [pvL_map] at hl
      injection hl with _ hl2
      injection hl2 with hy1 _
      obtain ⟨bd, rfl, hb2, hc2⟩ := c'.2 (by simp)
      refine ⟨ad, bd, lc', rfl, rfl, hc 4 _ rfl, ?_⟩
      rw [hc2 6 (.int .i64 y1.n) rfl]
      cases y1
      rw [MV.pv] at hy1
      injection hy1 with _ hn
      simp [MV.n, hn]
set_option maxRecDepth 100000 in
set_option maxHeartbeats 8000000 in
theorem lives_any (w : World) (hT : tabV w) : Calls Tryz.prog 6 #[] w fun e w' => e = .returned (.bool true) ∧ Below w.heap.size w w' := by
  have HT := Lib.hid hT
  clear hT
  obtain ⟨Wa0, hcv0, hrb0, hbl0⟩ := lit_conv (w) [32, 123, 34, 97, 34, 32, 58, 32, 91, 49, 44, 32, 45, 50, 48, 44, 110, 117, 108, 108, 93, 44, 32, 34, 98, 34, 58, 34, 120, 34, 125, 32] (w.heap.size) 32 #[.int .u8 32, .int .u8 123, .int .u8 34, .int .u8 97, .int .u8 34, .int .u8 32, .int .u8 58, .int .u8 32, .int .u8 91, .int .u8 49, .int .u8 44, .int .u8 32, .int .u8 45, .int .u8 50, .int .u8 48, .int .u8 44, .int .u8 110, .int .u8 117, .int .u8 108, .int .u8 108, .int .u8 93, .int .u8 44, .int .u8 32, .int .u8 34, .int .u8 98, .int .u8 34, .int .u8 58, .int .u8 34, .int .u8 120, .int .u8 34, .int .u8 125, .int .u8 32] (by simp) rfl rfl
  have HRB0 := Lib.hid hrb0
  have HBA0 : Hid (Below w.heap.size w Wa0) := Lib.hid (hbl0)
  clear hrb0 hbl0
  go_enter Tryz.func6, Tryz.ntmps6
  go_wp2_with fail
  refine (parse_any (w := Wa0) _ 32 [32, 123, 34, 97, 34, 32, 58, 32, 91, 49, 44, 32, 45, 50, 48, 44, 110, 117, 108, 108, 93, 44, 32, 34, 98, 34, 58, 34, 120, 34, 125, 32] HRB0.out (Nat.le_refl _) (by simp [maxLen]) (fun _ => fourOk_asc (by decide) (asc_of (by decide))) (HT.out.below HBA0.out)).mono ?_
  rintro e w1 ⟨v1, rfl, hpv1, hvo1, hb1, -⟩
  rw [lv1] at hpv1 ⊢
  have HB1 : Hid (Below w.heap.size w w1) := Lib.hid (HBA0.out.trans (hb1.mono HBA0.out.size))
  obtain ⟨ad, bd, cc, hma, hml, hc4, hc6⟩ := lv_cells hvo1.at_ hpv1
  unfold MV.val
  rw [hma, hml]
  have HC4 := Lib.hid hc4
  have HC6 := Lib.hid hc6
  have HN1 : Hid (ad.block < w1.heap.size ∧ bd.block < w1.heap.size) := Lib.hid ⟨by have := lt_of_cell hc4; rwa [block_of_add] at this, by have := lt_of_cell hc6; rwa [block_of_add] at this⟩
  clear hc4 hc6 hma hml
  have HP1 : Hid (Below Wa0.heap.size Wa0 w1) := Lib.hid hb1
  clear hpv1 hvo1 hb1 hcv0
  have hbx1 : Below w1.heap.size w1 (w1.alloc (.cells #[.int .i64 v1.k, .int .i64 v1.n, .string v1.s, .slice v1.lA v1.l.length v1.lc, .slice (some ad) 2 v1.mc] 25)) := (Below.refl _ _).alloc (Nat.le_refl _) _
  obtain ⟨X, hX⟩ : ∃ X, X = w1.heap.size := ⟨_, rfl⟩
  have HXB : Hid (Blk (w1.alloc (.cells #[.int .i64 v1.k, .int .i64 v1.n, .string v1.s, .slice v1.lA v1.l.length v1.lc, .slice (some ad) 2 v1.mc] 25)) X 25 #[.int .i64 v1.k, .int .i64 v1.n, .string v1.s, .slice v1.lA v1.l.length v1.lc, .slice (some ad) 2 v1.mc]) := Lib.hid (by rw [hX]; exact Blk.new _ _ _)
  have HX := Lib.hid hX
  clear hX
  obtain ⟨Wa1, hcv1, hrb1, hbl1⟩ := lit_conv (w1.alloc (.cells #[.int .i64 v1.k, .int .i64 v1.n, .string v1.s, .slice v1.lA v1.l.length v1.lc, .slice (some ad) 2 v1.mc] 25)) [91, 49, 44, 50, 46, 53, 93] (w1.heap.size + 1) 7 #[.int .u8 91, .int .u8 49, .int .u8 44, .int .u8 50, .int .u8 46, .int .u8 53, .int .u8 93] (by simp) rfl rfl
  have HRB1 := Lib.hid hrb1
  have HBA1 : Hid (Below w.heap.size w Wa1) := Lib.hid ((HB1.out.trans (hbx1.mono HB1.out.size)).trans (hbl1.mono (by have := HB1.out.size; simp; omega)))
  have HS1 : Hid (Below (w1.heap.size + 1) (w1.alloc (.cells #[.int .i64 v1.k, .int .i64 v1.n, .string v1.s, .slice v1.lA v1.l.length v1.lc, .slice (some ad) 2 v1.mc] 25)) Wa1) := Lib.hid (by have := hbl1; simpa using this)
  have HK : Hid (Below w1.heap.size w1 Wa1) := Lib.hid (hbx1.trans (hbl1.mono (by simp)))
  clear hrb1 hbl1
  clear hbx1
  go_wp2_with fail
  refine (parse_any (w := Wa1) _ 7 [91, 49, 44, 50, 46, 53, 93] HRB1.out (Nat.le_refl _) (by simp [maxLen]) (fun _ => fourOk_asc (by decide) (asc_of (by decide))) (HT.out.below HBA1.out)).mono ?_
  rintro e w2 ⟨v2, rfl, hpv2, hvo2, hb2, -⟩
  rw [lv2] at hpv2 ⊢
  have HB2 : Hid (Below w.heap.size w w2) := Lib.hid (HBA1.out.trans (hb2.mono HBA1.out.size))
  unfold MV.val
  have HP2 : Hid (Below Wa1.heap.size Wa1 w2) := Lib.hid hb2
  clear hpv2 hvo2 hb2 hcv1
  have hbx2 : Below w2.heap.size w2 (w2.alloc (.cells #[.int .i64 v2.k, .int .i64 v2.n, .string v2.s, .slice v2.lA v2.l.length v2.lc, .slice v2.mA v2.m.length v2.mc] 25)) := (Below.refl _ _).alloc (Nat.le_refl _) _
  obtain ⟨Wa2, hcv2, hrb2, hbl2⟩ := lit_conv (w2.alloc (.cells #[.int .i64 v2.k, .int .i64 v2.n, .string v2.s, .slice v2.lA v2.l.length v2.lc, .slice v2.mA v2.m.length v2.mc] 25)) [123, 34, 97, 34, 58, 49, 44, 34, 97, 34, 58, 50, 125] (w2.heap.size + 1) 13 #[.int .u8 123, .int .u8 34, .int .u8 97, .int .u8 34, .int .u8 58, .int .u8 49, .int .u8 44, .int .u8 34, .int .u8 97, .int .u8 34, .int .u8 58, .int .u8 50, .int .u8 125] (by simp) rfl rfl
  have HRB2 := Lib.hid hrb2
  have HBA2 : Hid (Below w.heap.size w Wa2) := Lib.hid ((HB2.out.trans (hbx2.mono HB2.out.size)).trans (hbl2.mono (by have := HB2.out.size; simp; omega)))
  have HS2 : Hid (Below w2.heap.size w2 Wa2) := Lib.hid (hbx2.trans (hbl2.mono (by simp)))
  clear hrb2 hbl2
  clear hbx2
  go_wp2_with fail
  refine (parse_any (w := Wa2) _ 13 [123, 34, 97, 34, 58, 49, 44, 34, 97, 34, 58, 50, 125] HRB2.out (Nat.le_refl _) (by simp [maxLen]) (fun _ => fourOk_asc (by decide) (asc_of (by decide))) (HT.out.below HBA2.out)).mono ?_
  rintro e w3 ⟨v3, rfl, hpv3, hvo3, hb3, -⟩
  rw [lv3] at hpv3 ⊢
  have HB3 : Hid (Below w.heap.size w w3) := Lib.hid (HBA2.out.trans (hb3.mono HBA2.out.size))
  unfold MV.val
  have HP3 : Hid (Below Wa2.heap.size Wa2 w3) := Lib.hid hb3
  clear hpv3 hvo3 hb3 hcv2
  have hbx3 : Below w3.heap.size w3 (w3.alloc (.cells #[.int .i64 v3.k, .int .i64 v3.n, .string v3.s, .slice v3.lA v3.l.length v3.lc, .slice v3.mA v3.m.length v3.mc] 25)) := (Below.refl _ _).alloc (Nat.le_refl _) _
  obtain ⟨Wa3, hcv3, hrb3, hbl3⟩ := lit_conv (w3.alloc (.cells #[.int .i64 v3.k, .int .i64 v3.n, .string v3.s, .slice v3.lA v3.l.length v3.lc, .slice v3.mA v3.m.length v3.mc] 25)) [48, 49] (w3.heap.size + 1) 2 #[.int .u8 48, .int .u8 49] (by simp) rfl rfl
  have HRB3 := Lib.hid hrb3
  have HBA3 : Hid (Below w.heap.size w Wa3) := Lib.hid ((HB3.out.trans (hbx3.mono HB3.out.size)).trans (hbl3.mono (by have := HB3.out.size; simp; omega)))
  have HS3 : Hid (Below w3.heap.size w3 Wa3) := Lib.hid (hbx3.trans (hbl3.mono (by simp)))
  clear hrb3 hbl3
  clear hbx3
  go_wp2_with fail
  refine (parse_any (w := Wa3) _ 2 [48, 49] HRB3.out (Nat.le_refl _) (by simp [maxLen]) (fun _ => fourOk_asc (by decide) (asc_of (by decide))) (HT.out.below HBA3.out)).mono ?_
  rintro e w4 ⟨v4, rfl, hpv4, hvo4, hb4, -⟩
  rw [lv4] at hpv4 ⊢
  have HB4 : Hid (Below w.heap.size w w4) := Lib.hid (HBA3.out.trans (hb4.mono HBA3.out.size))
  unfold MV.val
  have HP4 : Hid (Below Wa3.heap.size Wa3 w4) := Lib.hid hb4
  clear hpv4 hvo4 hb4 hcv3
  have hbx4 : Below w4.heap.size w4 (w4.alloc (.cells #[.int .i64 v4.k, .int .i64 v4.n, .string v4.s, .slice v4.lA v4.l.length v4.lc, .slice v4.mA v4.m.length v4.mc] 25)) := (Below.refl _ _).alloc (Nat.le_refl _) _
  obtain ⟨Wa4, hcv4, hrb4, hbl4⟩ := lit_conv (w4.alloc (.cells #[.int .i64 v4.k, .int .i64 v4.n, .string v4.s, .slice v4.lA v4.l.length v4.lc, .slice v4.mA v4.m.length v4.mc] 25)) [97, 10, 98, 99] (w4.heap.size + 1) 4 #[.int .u8 97, .int .u8 10, .int .u8 98, .int .u8 99] (by simp) rfl rfl
  have HRB4 := Lib.hid hrb4
  have HBA4 : Hid (Below w.heap.size w Wa4) := Lib.hid ((HB4.out.trans (hbx4.mono HB4.out.size)).trans (hbl4.mono (by have := HB4.out.size; simp; omega)))
  have HS4 : Hid (Below w4.heap.size w4 Wa4) := Lib.hid (hbx4.trans (hbl4.mono (by simp)))
  clear hrb4 hbl4
  clear hbx4
  go_wp2_with fail
  refine (at_any _ 4 [97, 10, 98, 99] 3 Wa4 HRB4.out (fun q => by cases q) (Nat.le_refl _) (by simp [maxLen]) (by decide)).mono ?_
  rintro e w5 ⟨rfl, hb5⟩
  rw [lv5]
  have HB5 : Hid (Below w.heap.size w w5) := Lib.hid (HBA4.out.trans (hb5.mono HBA4.out.size))
  have b2 : Below Wa1.heap.size Wa1 Wa2 := HP2.out.trans (HS2.out.mono HP2.out.size)
  have b3 : Below Wa1.heap.size Wa1 Wa3 := b2.trans ((HP3.out.trans (HS3.out.mono HP3.out.size)).mono b2.size)
  have b4 : Below Wa1.heap.size Wa1 Wa4 := b3.trans ((HP4.out.trans (HS4.out.mono HP4.out.size)).mono b3.size)
  have b5 : Below Wa1.heap.size Wa1 w5 := b4.trans (hb5.mono b4.size)
  have c1 : Below w1.heap.size w1 w5 := HK.out.trans (b5.mono HK.out.size)
  have d4 : w5.cell? (ad.add 4) = some (.slice (some bd) 3 cc) := (c1.cell (p := ad.add 4) (by rw [block_of_add]; exact HN1.out.1)).trans HC4.out
  have d6 : w5.cell? (bd.add 6) = some (.int .i64 (-20)) := (c1.cell (p := bd.add 6) (by rw [block_of_add]; exact HN1.out.2)).trans HC6.out
  have hxk : Blk w5 X 25 _ := (HXB.out.below (HS1.out.mono (by simp)) HXB.out.lt).below b5 (by have := (HXB.out.below (HS1.out.mono (by simp)) HXB.out.lt).lt; exact this)
  have x4 : w5.cell? ⟨X, 4, none⟩ = some (.slice (some ad) 2 v1.mc) := hxk.cell 4
  rw [HX.out] at x4
  have e4 : w5.cell? ⟨ad.block, ad.off + 1 + 3, none⟩ = some (.slice (some bd) 3 cc) := d4
  have e6 : w5.cell? ⟨bd.block, bd.off + 5 + 1, none⟩ = some (.int .i64 (-20)) := d6
  clear hb5 b2 b3 b4 b5 c1 hxk hcv4 d4 d6
  go_wp2
  go_ret
  exact ⟨rfl, HB5.out⟩
end Go.Proofs.YteofdpogjnojnaaGreatDoor
