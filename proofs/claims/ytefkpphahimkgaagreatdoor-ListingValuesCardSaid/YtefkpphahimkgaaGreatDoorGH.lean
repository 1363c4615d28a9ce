/-
 Are two values the same, plainly (for a seat without value.Sorted).
 The document's Sort.
 The document's Same.
-/
import Derived.Test.YtefkpphahimkgaaGreatDoorTk
import Derived.Test.YtefkpphahimkgaaGreatDoorGR
import Derived.Test.YtefkpphahimkgaaGreatDoorGV
namespace Go.Proofs.YtefkpphahimkgaaGreatDoor
open Go.RowKit
noncomputable def sameP (a b : PV) : Bool := decide (a.chk = 0) && (decide (b.chk = 0) && decide (a.sort = b.sort))
end Go.Proofs.YtefkpphahimkgaaGreatDoor
namespace Go.Proofs.YtefkpphahimkgaaGreatDoor
open Go.RowKit
attribute [local go_sem ↓] Go.wp_at_zero Go.wp_at_succ
set_option linter.unusedVariables false
set_option linter.unusedSimpArgs false
theorem six_cells {w : World} {b : Nat} {t : TypeId} {v0 v1 v2 v3 v4 v5 : Value} (h : Blk w b t #[v0, v1, v2, v3, v4, v5]) : w.cell? ⟨b, 0, none⟩ = some v0 ∧ w.cell? ⟨b, 1, none⟩ = some v1 ∧ w.cell? ⟨b, 2, none⟩ = some v2 ∧ w.cell? ⟨b, 3, none⟩ = some v3 ∧ w.cell? ⟨b, 4, none⟩ = some v4 ∧ w.cell? ⟨b, 5, none⟩ = some v5 :=
 ⟨h.cell 0, h.cell 1, h.cell 2, h.cell 3, h.cell 4, h.cell 5⟩
theorem six_fr {w : World} {b : Nat} {t : TypeId} {v0 v1 v2 v3 v4 v5 : Value} (h : Blk w b t #[v0, v1, v2, v3, v4, v5]) : w.frozen? ⟨b, 0, none⟩ = false ∧ w.frozen? ⟨b, 1, none⟩ = false ∧ w.frozen? ⟨b, 2, none⟩ = false ∧ w.frozen? ⟨b, 3, none⟩ = false ∧ w.frozen? ⟨b, 4, none⟩ = false ∧ w.frozen? ⟨b, 5, none⟩ = false :=
 ⟨h.frozen 0, h.frozen 1, h.frozen 2, h.frozen 3, h.frozen 4, h.frozen 5⟩
theorem fr_six {w : World} {g : Nat} {a b c d e f : Value} : Fr (· = g) w ((((((w.setCell ⟨g, 0, none⟩ a).setCell ⟨g, 1, none⟩ b).setCell ⟨g, 2, none⟩ c).setCell ⟨g, 3, none⟩ d).setCell ⟨g, 4, none⟩ e).setCell ⟨g, 5, none⟩ f) :=
 fr_five.setCell (p := ⟨g, 5, none⟩) (fun _ => rfl) _
theorem blk_six {w : World} {g : Nat} {t : TypeId} {a b c d e f v0 v1 v2 v3 v4 v5 : Value} (h : Blk w g t #[v0, v1, v2, v3, v4, v5]) : Blk ((((((w.setCell ⟨g, 0, none⟩ a).setCell ⟨g, 1, none⟩ b).setCell ⟨g, 2, none⟩ c).setCell ⟨g, 3, none⟩ d).setCell ⟨g, 4, none⟩ e).setCell ⟨g, 5, none⟩ f) g t #[a, b, c, d, e, f] :=
 (((((h.set_ 0 _).set_ 1 _).set_ 2 _).set_ 3 _).set_ 4 _).set_ 5 _
theorem one_reads {W : World} {x : MV} {cs : Array Value} (hx : x.pcs.toArray = cs) : Reads (W.alloc (.cells cs 73)) (W.alloc (.cells cs 73)).heap.size 6 (some ⟨W.heap.size, 0, none⟩) 1 ([x].flatMap MV.pcs) := by
 subst hx
 have hk := Blk.new W 73 x.pcs.toArray
 refine ⟨rfl, fun _ => ⟨_, rfl, hk.lt, fun j u hu => ?_⟩⟩
 rw [Addr.add_lit, Nat.zero_add, hk.cell j]
 simpa using hu
theorem one_lt {W : World} {B g : Nat} {x : MV} (h : Reads W B 6 (some ⟨g, 0, none⟩) 1 ([x].flatMap MV.pcs)) : ¬ g = B := by
 obtain ⟨ad, e, hb, _⟩ := h.2 (by omega)
 injection e with e
 subst e
 exact Nat.ne_of_lt hb
theorem reads_grown {W W' : World} {x : MV} {g : Nat} {row : Option Nat} (h : Reads W W.heap.size 6 (some ⟨g, 0, none⟩) 1 ([x].flatMap MV.pcs)) (hg : W.grownBy W' row) (hne : ¬ some g = row) : Reads W' W'.heap.size 6 (some ⟨g, 0, none⟩) 1 ([x].flatMap MV.pcs) := by
 obtain ⟨ad, e, hb, hc⟩ := h.2 (by omega)
 injection e with e
 subst e
 refine ⟨rfl, fun _ => ⟨_, rfl, Nat.lt_of_lt_of_le hb hg.size, fun j u hu => ?_⟩⟩
 rw [World.cell?_of_block (hg.block _ (by rw [block_of_add]; exact hb) (by rw [block_of_add]; exact hne))]
 exact hc j u hu
theorem pvL_take (l : List MV) (i : Nat) : MV.pvL (l.take i) = (MV.pvL l).take i := by rw [pvL_map, pvL_map, List.map_take]
theorem zip_sort (m : List MV) : (m.map MV.key).zip (PV.sortL (MV.pvL m)) = m.map (fun x => (x.key, x.pv.sort)) := by
 rw [sortL_map, pvL_map, List.map_map]
 induction m with
 | nil => rfl
 | cons x r ih => rw [List.map_cons, List.map_cons, List.map_cons, List.zip_cons_cons, ih]; rfl
set_option maxRecDepth 100000 in
set_option maxHeartbeats 4000000 in
theorem rsort_one {w0 : World} {v : MV} (hv : VAt w0 v) (hok : OkP v.pv) (hr : v.pv.right = true) (ih : ∀ x ∈ v.l ++ v.m, ∀ V, Below w0.heap.size w0 V → Calls Tryz.prog 51 #[x.val] V fun e w' => PF (OwP x.pv.sort V) e w') (w : World) (hb : Below w0.heap.size w0 w) :
  Calls Tryz.prog 51 #[v.val] w fun e w' => PF (OwP v.pv.sort w) e w' := by
 have HV : Hid (VAt w v) := Ld (hv.bel hb)
 have HB0 := Ld hb
 have HIH := Ld ih
 have hwk := hv.wk
 have hln := hok.len
 obtain ⟨key, k, n, s, lA, lc, l, mA, mc, m⟩ := v
 have hkn : ((m.map MV.key)).Nodup := by
  rw [MV.pv] at hr
  exact keysB_nodup (rightP hr).2.1
 unfold MV.val
 simp only [MV.k, MV.n, MV.s, MV.lA, MV.lc, MV.l, MV.mA, MV.mc, MV.m] at hwk hln HIH ⊢
 have HSRT : Hid ((MV.mk key k n s lA lc l mA mc m).pv.sort = .mk k n s (PV.sortL (MV.pvL l)) ((isortP (m.map (fun x => (x.key, x.pv.sort)))).map (·.1)) ((isortP (m.map (fun x => (x.key, x.pv.sort)))).map (·.2))) := Ld (by rw [MV.pv, PV.sort, zip_sort])
 obtain ⟨tgt, htgt⟩ : ∃ tgt, tgt = m.map (fun x => (x.key, x.pv.sort)) := ⟨_, rfl⟩
 rw [← htgt] at HSRT
 have HTG := Ld htgt
 have HKN : Hid ((tgt.map (·.1)).Nodup) := Ld (by rw [htgt, List.map_map]; exact hkn)
 have HWK := Ld hwk
 obtain ⟨nl, hnl⟩ : ∃ nl, nl = l.length := ⟨_, rfl⟩
 obtain ⟨nm, hnm⟩ : ∃ nm, nm = m.length := ⟨_, rfl⟩
 rw [← hnl, ← hnm] at hln ⊢
 have HNL : Hid (l.length = nl) := Ld hnl.symm
 have HNM : Hid (m.length = nm) := Ld hnm.symm
 have hnl3 : (nl : Int) ≤ 3001 := by omega
 have hnm3 : (nm : Int) ≤ 3001 := by omega
 obtain ⟨W3, hW3⟩ : ∃ W3, W3 = (((w.alloc (.cells #[.int .i64 k, .int .i64 n, .string s, .slice lA nl lc, .slice mA nm mc] 30)).alloc (.cells #[.int .i64 0, .int .i64 0, .string ⟨#[]⟩, .slice none 0 0, .slice none 0 0] 30)).alloc (.cells #[.int .i64 k, .int .i64 n, .string s, .slice none 0 0, .slice none 0 0] 30)) := ⟨_, rfl⟩
 have HC0 : Hid (RSt w w.heap.size W3.heap.size k n s #[.int .i64 k, .int .i64 n, .string s, .slice lA nl lc, .slice mA nm mc] (.slice none 0 0) (.slice none 0 0) [] [] W3) := by
  have hk1 : Blk (w.alloc (.cells #[.int .i64 k, .int .i64 n, .string s, .slice lA nl lc, .slice mA nm mc] 30)) w.heap.size 30 #[.int .i64 k, .int .i64 n, .string s, .slice lA nl lc, .slice mA nm mc] := Blk.new _ _ _
  have hb1 : Below w.heap.size w W3 := by rw [hW3]; exact ((((Below.refl _ _).alloc (Nat.le_refl _) _).alloc (by simp) _).alloc (by simp; omega) _)
  have hs3 : W3.heap.size = w.heap.size + 3 := by rw [hW3]; simp
  refine Ld ⟨hb1, ?_, ?_, ?_, ⟨by omega, Nat.le_refl _⟩, ROwn.nil _ _, ROwn.nil _ _, (fun y hy => by cases hy), (fun y hy => by cases hy), (fun g e => by cases e)⟩
  ·rw [hW3]; exact (hk1.alloc _).alloc _
  ·rw [hW3]
   have h2 := (Blk.new (w.alloc (.cells #[.int .i64 k, .int .i64 n, .string s, .slice lA nl lc, .slice mA nm mc] 30)) 30 #[.int .i64 0, .int .i64 0, .string ⟨#[]⟩, .slice none 0 0, .slice none 0 0]).alloc (.cells #[.int .i64 k, .int .i64 n, .string s, .slice none 0 0, .slice none 0 0] 30)
   simpa using h2
  ·rw [hW3]
   have h2 := (Blk.new ((w.alloc (.cells #[.int .i64 k, .int .i64 n, .string s, .slice lA nl lc, .slice mA nm mc] 30)).alloc (.cells #[.int .i64 0, .int .i64 0, .string ⟨#[]⟩, .slice none 0 0, .slice none 0 0] 30)) 30 #[.int .i64 k, .int .i64 n, .string s, .slice none 0 0, .slice none 0 0])
   simpa using h2
 clear hb hv hok hr ih hwk hln hkn htgt hnl hnm
 go_enter Tryz.func51, Tryz.ntmps51
 go_wp2_with fail
 rw [← hW3]
 clear hW3
 go_loopw [4] (fun y wr => ∃ (i : Nat) (A1 : Option Addr) (n1 c1 : Nat) (l' : List MV), y = .int .i64 (i : Int) ∧ i ≤ nl ∧ Hid (l'.length = i) ∧ Hid (MV.pvL l' = ((MV.pvL l).take i).map PV.sort) ∧ Hid (RSt w w.heap.size W3.heap.size k n s #[.int .i64 k, .int .i64 n, .string s, .slice lA nl lc, .slice mA nm mc] (.slice A1 n1 c1) (.slice none 0 0) l' [] wr)) (fun y _ => nl - (intOf y).toNat)
 case atStart => exact ⟨0, none, 0, 0, [], rfl, Nat.zero_le _, Ld rfl, Ld rfl, HC0⟩
 case round =>
  clear HC0
  obtain ⟨i, A1, n1, c1, l', rfl, hi, HLL, HPL, HC⟩ := hrel
  obtain ⟨b0, b1, b2, b3, b4⟩ := five_cells HC.out.src
  rcases (by omega : i < nl ∨ i = nl) with hlt | heq
  ·have q0 : decide ((i : Int) < (nl : Int)) = true := by rw [decide_eq_true_iff]; omega
   have q0' : decide (i < nl) = true := by rw [decide_eq_true_iff]; omega
   have hil : i < l.length := by rw [HNL.out]; exact hlt
   obtain ⟨b, o, hA0, hbl, hc0⟩ := HV.out.la (i := i) hil
   have hA : lA = some ⟨b, o, none⟩ := hA0
   have hc : ∀ j, j < 5 → w.cell? ⟨b, o + i * 5 + j, none⟩ = l[i].cs[j]? := hc0
   clear hA0 hc0
   subst hA
   obtain ⟨x, hx⟩ : ∃ x, x = l[i] := ⟨_, rfl⟩
   have hxm : x ∈ l := by rw [hx]; exact List.getElem_mem hil
   rw [← hx] at hc
   have HLT5 : Hid (∀ g, (Value.slice A1 n1 c1).ownBlock = some g → g < wr.heap.size) := Ld HC.out.rl.ltS
   have HBV : Hid (∀ V, Fr (fun g => (Value.slice A1 n1 c1).ownBlock = some g) wr V → Below w.heap.size w V) := Ld (fun V hV => Fr.below_trans HC.out.bel hV HC.out.bel.size (fun g e => by have := HC.out.rl.ge _ e; have := HC.out.bs; omega))
   have HSV : Hid (∀ V, Fr (fun g => (Value.slice A1 n1 c1).ownBlock = some g) wr V → V.cell? ⟨w.heap.size + 1 + 1, 3, none⟩ = some (.slice A1 n1 c1) ∧ V.cell? ⟨w.heap.size, 3, none⟩ = some (.slice (some ⟨b, o, none⟩) nl lc) ∧ (V.cell? ⟨b, o + i * 5, none⟩ = some (.int .i64 x.k) ∧ V.cell? ⟨b, o + i * 5 + 1, none⟩ = some (.int .i64 x.n) ∧ V.cell? ⟨b, o + i * 5 + 2, none⟩ = some (.string x.s) ∧ V.cell? ⟨b, o + i * 5 + 3, none⟩ = some (.slice x.lA x.l.length x.lc) ∧ V.cell? ⟨b, o + i * 5 + 4, none⟩ = some (.slice x.mA x.m.length x.mc))) := Ld (fun V hV => by
    have h1 := (HC.out.box.fr hV (fun e => by have := HC.out.rl.ge _ e; have := HC.out.bs; omega)).cell 3
    have h2 := (HC.out.src.fr hV (fun e => by have := HC.out.rl.ge _ e; have := HC.out.bs; omega)).cell 3
    have hk := HBV.out V hV
    exact ⟨h1, h2, (hk.cell (p := ⟨b, _, none⟩) hbl).trans (hc 0 (by omega)), (hk.cell (p := ⟨b, _, none⟩) hbl).trans (hc 1 (by omega)), (hk.cell (p := ⟨b, _, none⟩) hbl).trans (hc 2 (by omega)), (hk.cell (p := ⟨b, _, none⟩) hbl).trans (hc 3 (by omega)), (hk.cell (p := ⟨b, _, none⟩) hbl).trans (hc 4 (by omega))⟩)
   have hcall := HIH.out x (List.mem_append_left _ hxm)
   unfold MV.val at hcall
   have HCC : Hid (∀ V, Fr (fun g => (Value.slice A1 n1 c1).ownBlock = some g) wr V → Calls Tryz.prog 51 #[.agg #[.int .i64 x.k, .int .i64 x.n, .string x.s, .slice x.lA x.l.length x.lc, .slice x.mA x.m.length x.mc]] V fun e w' => PF (OwP x.pv.sort V) e w') := Ld (fun V hV => hcall V (HB0.out.trans ((HBV.out V hV).mono HB0.out.size)))
   have HXX := Ld hx
   have HIL := Ld hil
   have hii : (i : Int) < (nl : Int) := by omega
   have hi0 : (0 : Int) ≤ (i : Int) := by omega
   clear hc hxm hx hcall hbl
   go_wp2_with fail
   clear b0 b1 b2 b3 b4
   refine wp_region_last (S := fun V => Fr (fun g => (Value.slice A1 n1 c1).ownBlock = some g) wr V) (st := 11) (n := 11) (by kernel_rfl) rfl (by kernel_rfl) rfl ((Fr.refl _ _).drew) (fun hS1 => ?_)
   refine tk 0 (some 22) (.pointer (some ⟨w.heap.size + 1 + 1, 3, none⟩)) rfl (fun V hS => by go_simp) hS1 ?_
   simp only [nf]
   refine tk 1 (some 23) (.slice A1 n1 c1) rfl (fun V hS => by obtain ⟨h0, h1, h2, h3, h4, h5, h6⟩ := HSV.out V hS; go_simp) hS1 ?_
   simp only [nf]
   refine tk 2 (some 24) (.pointer (some ⟨w.heap.size, 3, none⟩)) rfl (fun V hS => by go_simp) hS1 ?_
   simp only [nf]
   refine tk 3 (some 25) (.slice (some ⟨b, o, none⟩) nl lc) rfl (fun V hS => by obtain ⟨h0, h1, h2, h3, h4, h5, h6⟩ := HSV.out V hS; go_simp) hS1 ?_
   simp only [nf]
   refine tk 4 (some 26) (.int .i64 (i : Int)) rfl (fun V hS => by go_simp) hS1 ?_
   simp only [nf]
   refine tk 5 (some 27) (.pointer (some ⟨b, o + i * 5, none⟩)) rfl (fun V hS => by go_simp) hS1 ?_
   simp only [nf]
   refine tk 6 (some 28) (.agg #[.int .i64 x.k, .int .i64 x.n, .string x.s, .slice x.lA x.l.length x.lc, .slice x.mA x.m.length x.mc]) rfl (fun V hS => by obtain ⟨h0, h1, h2, h3, h4, h5, h6⟩ := HSV.out V hS; go_simp) hS1 ?_
   simp only [nf]
   refine rd1 7 rfl (fun K' hK => ?_)
   go_simp
   refine (HCC.out _ hS1).mono ?_
   rintro e w2 ⟨x', rfl, hpv, hvo, hb2⟩
   unfold MV.val
   have HPV := Ld hpv
   have HVO := Ld hvo
   have HC6 := Ld ((HC.out.below ((Below.refl _ _).drew)).below hb2)
   clear hpv hvo
   go_simp
   refine hK.out _ _ ((hS1).below hb2) (fun hS2 => ?_)
   clear hK K' hS1
   refine rd1 8 rfl (fun K' hK => ?_)
   go_simp
   have HK7 : Hid (Blk (w2.alloc (.cells #[.int .i64 x'.k, .int .i64 x'.n, .string x'.s, .slice x'.lA x'.l.length x'.lc, .slice x'.mA x'.m.length x'.mc] 30)) w2.heap.size 30 (MV.cs x').toArray) := Ld (Blk.new _ _ _)
   have HC7 := Ld (HC6.out.below ((Below.refl _ _).alloc (Nat.le_refl _) (.cells #[.int .i64 x'.k, .int .i64 x'.n, .string x'.s, .slice x'.lA x'.l.length x'.lc, .slice x'.mA x'.m.length x'.mc] 30)))
   have HV7 := Ld (HVO.out.at_.bel ((Below.refl _ _).alloc (Nat.le_refl _) (.cells #[.int .i64 x'.k, .int .i64 x'.n, .string x'.s, .slice x'.lA x'.l.length x'.lc, .slice x'.mA x'.m.length x'.mc] 30)))
   refine hK.out _ _ ((hS2).alloc _) (fun hS3 => ?_)
   clear hK K' hS2
   refine rd1 9 rfl (fun K' hK => ?_)
   generalize w2.alloc (.cells #[.int .i64 x'.k, .int .i64 x'.n, .string x'.s, .slice x'.lA x'.l.length x'.lc, .slice x'.mA x'.m.length x'.mc] 30) = w3 at HK7 HC7 HV7 hS3 ⊢
   refine step_app_row w3 infoValue Tryz.underlying27 rfl (by omega) (by omega) (fun _ => rfl) oneC_cs rfl (some 31) rfl _ _ rfl W3.heap.size (.slice A1 n1 c1) l' rfl HC7.out.rl w2.heap.size rfl x' HK7.out HV7.out (HVO.out.fr.mono (fun g hg => Nat.le_trans HC.out.bs.2 hg)) (HVO.out.fr.mono (fun g hg e => by have := HLT5.out g e; have hg' : wr.heap.size ≤ g := hg; omega)) (by rw [HLL.out]; omega) HC7.out.bs.2 ?_
   intro v4 w4 hrow hg hat
   have hs4 := (hS3).grown hg (fun g e _ => e)
   obtain ⟨A9, c9, rfl, _, _, _⟩ := hrow.shape
   have hN9 : (l' ++ [x']).length = i + 1 := by rw [List.length_append, HLL.out]; rfl
   have HN9 := Ld hN9
   generalize (l' ++ [x']).length = N9 at hrow hat hN9 ⊢
   clear hN9
   refine hK.out _ _ (hs4) (fun hS4 => ?_)
   clear hK K' hS3
   simp only [nf]
   refine tk 10 (some 32) (.pointer (some ⟨w.heap.size + 1 + 1, 3, none⟩)) rfl (fun V hS => by go_simp) hS4 ?_
   simp only [nf]
   refine wpAnyH_done (by kernel_rfl) ?_ _
   refine lastQ_normal (wpOp_step rfl (fun K' hK => ?_))
   obtain ⟨hcn, hbx⟩ := HC7.out.more hrow hg (Nat.le_refl _)
   have hz := hbx.frozen 3
   have hd := hbx.cell 3
   simp only [gz] at hd
   go_simp
   refine hK _ _ ?_
   clear hK K' hS4 hz hd hbx hrow hg hat
   have HCN := Ld hcn
   clear hcn
   have HPN : Hid (MV.pvL (l' ++ [x']) = ((MV.pvL l).take (i + 1)).map PV.sort) := Ld (by
    rw [pvL_snoc, HPL.out, HPV.out, HXX.out, ← sortL_map, ← sortL_map, ← pvL_take, ← pvL_take, pvL_next l i HIL.out, sortL_map, sortL_map, List.map_append]
    rfl)
   have HLN : Hid ((l' ++ [x']).length = i + 1) := Ld (by rw [List.length_append, HLL.out]; rfl)
   go_wp2
   go_roundw
   case rel => exact ⟨i + 1, A9, N9, c9, l' ++ [x'], by go_num, by omega, HLN, HPN, HCN⟩
   case measure => simp [intOf]; omega
  ·have q0 : decide ((i : Int) < (nl : Int)) = false := by rw [decide_eq_false_iff_not]; omega
   have q0' : decide (i < nl) = false := by rw [decide_eq_false_iff_not]; omega
   have HPE : Hid (MV.pvL l' = PV.sortL (MV.pvL l)) := Ld (by rw [HPL.out, heq, List.take_of_length_le (by rw [pvL_len, HNL.out]; exact Nat.le_refl _), sortL_map])
   clear heq
   go_wp2
   clear b0 b1 b2 b3 b4 HPL HLL
   go_loopw [5, 6, 7] (fun y z6 z7 wr => ∃ (j : Nat) (A2 : Option Addr) (c2 : Nat) (m' : List MV) (y6 y7 : Value), y = .int .i64 (j : Int) ∧ z6 = y6 ∧ z7 = y7 ∧ j ≤ nm ∧ Hid (m'.length = j) ∧ Hid ((m'.map (fun x => (x.key, x.pv))).Perm (tgt.take j)) ∧ Hid (m'.Pairwise (fun a b => bl b.key a.key = false)) ∧ Hid (RSt w w.heap.size W3.heap.size k n s #[.int .i64 k, .int .i64 n, .string s, .slice lA nl lc, .slice mA nm mc] (.slice A1 n1 c1) (.slice A2 j c2) l' m' wr)) (fun y _ _ _ => nm - (intOf y).toNat)
   case atStart => exact ⟨0, none, 0, [], _, _, rfl, rfl, rfl, Nat.zero_le _, Ld rfl, Ld (List.Perm.refl _), Ld List.Pairwise.nil, HC⟩
   case round =>
    clear HC
    obtain ⟨j, A2, c2, m', y6, y7, rfl, rfl, rfl, hj, HLM, HPM, HPW, HC⟩ := hrel
    obtain ⟨wo, rfl⟩ : ∃ wo, wo = wr := ⟨_, rfl⟩
    obtain ⟨b0, b1, b2, b3, b4⟩ := five_cells HC.out.src
    rcases (by omega : j < nm ∨ j = nm) with hlt | heq
    ·have q5 : decide ((j : Int) < (nm : Int)) = true := by rw [decide_eq_true_iff]; omega
     have q5' : decide (j < nm) = true := by rw [decide_eq_true_iff]; omega
     have hil : j < m.length := by rw [HNM.out]; exact hlt
     obtain ⟨b, o, hA0, hbl, hc0⟩ := HV.out.ma (i := j) hil
     have hA : mA = some ⟨b, o, none⟩ := hA0
     have hc : ∀ t, t < 6 → w.cell? ⟨b, o + j * 6 + t, none⟩ = m[j].pcs[t]? := hc0
     clear hA0 hc0
     subst hA
     obtain ⟨x, hx⟩ : ∃ x, x = m[j] := ⟨_, rfl⟩
     have hxm : x ∈ m := by rw [hx]; exact List.getElem_mem hil
     rw [← hx] at hc
     have HXC : Hid (∀ V, Below w.heap.size w V → V.cell? ⟨b, o + j * 6, none⟩ = some (.string x.key) ∧ V.cell? ⟨b, o + j * 6 + 1, none⟩ = some (.int .i64 x.k) ∧ V.cell? ⟨b, o + j * 6 + 1 + 1, none⟩ = some (.int .i64 x.n) ∧ V.cell? ⟨b, o + j * 6 + 1 + 2, none⟩ = some (.string x.s) ∧ V.cell? ⟨b, o + j * 6 + 1 + 3, none⟩ = some (.slice x.lA x.l.length x.lc) ∧ V.cell? ⟨b, o + j * 6 + 1 + 4, none⟩ = some (.slice x.mA x.m.length x.mc)) := Ld (fun V hk => ⟨(hk.cell (p := ⟨b, _, none⟩) hbl).trans (hc 0 (by omega)), (hk.cell (p := ⟨b, _, none⟩) hbl).trans (hc 1 (by omega)), (hk.cell (p := ⟨b, _, none⟩) hbl).trans (hc 2 (by omega)), (hk.cell (p := ⟨b, _, none⟩) hbl).trans (hc 3 (by omega)), (hk.cell (p := ⟨b, _, none⟩) hbl).trans (hc 4 (by omega)), (hk.cell (p := ⟨b, _, none⟩) hbl).trans (hc 5 (by omega))⟩)
     have hcall := HIH.out x (List.mem_append_right _ hxm)
     unfold MV.val at hcall
     have HCB : Hid (∀ V, Below w.heap.size w V → Calls Tryz.prog 51 #[.agg #[.int .i64 x.k, .int .i64 x.n, .string x.s, .slice x.lA x.l.length x.lc, .slice x.mA x.m.length x.mc]] V fun e w' => PF (OwP x.pv.sort V) e w') := Ld (fun V hV => hcall V (HB0.out.trans (hV.mono HB0.out.size)))
     have HTK : Hid (tgt.take (j + 1) = tgt.take j ++ [(x.key, x.pv.sort)]) := Ld (by
      have h1 : j < tgt.length := by rw [HTG.out, List.length_map]; exact hil
      rw [List.take_succ_eq_append_getElem h1]
      congr 2
      simp only [HTG.out, List.getElem_map]
      rw [← hx])
     have HJ2 : Hid (j ≤ 3001) := Ld (by omega)
     have hjj : (j : Int) < (nm : Int) := by omega
     have hj0 : (0 : Int) ≤ (j : Int) := by omega
     obtain ⟨c0, c1', c2', c3, c4⟩ := five_cells HC.out.box
     clear hc hxm hx hcall hbl hil
     go_wp2
     clear b0 b1 b2 b3 b4 c0 c1' c2' c3 c4
     go_loopw [6] (fun z V => ∃ q : Nat, z = .int .i64 (q : Int) ∧ q ≤ j ∧ Hid (∀ b ∈ m'.drop q, bl x.key b.key = true) ∧ Hid (Below wo.heap.size wo V)) (fun z _ => (intOf z).toNat)
     case atStart => exact ⟨j, rfl, Nat.le_refl _, Ld (fun b hb => by rw [List.drop_of_length_le (by rw [HLM.out]; exact Nat.le_refl _)] at hb; cases hb), Ld (Below.refl _ _)⟩
     case round =>
      obtain ⟨q, rfl, hqj, HGT, HW⟩ := hrel
      have HCV := Ld (HC.out.below HW.out)
      have HCS3 : Hid (∀ V, Below wr.heap.size wr V → V.cell? ⟨w.heap.size, 4, none⟩ = some (.slice (some ⟨b, o, none⟩) nm mc) ∧ V.cell? ⟨w.heap.size + 1 + 1, 4, none⟩ = some (.slice A2 j c2) ∧ V.cell? ⟨b, o + j * 6, none⟩ = some (.string x.key)) := Ld (fun V hV => ⟨(HCV.out.src.below hV HCV.out.src.lt).cell 4, (HCV.out.box.below hV HCV.out.box.lt).cell 4, (HXC.out V (HCV.out.below hV).bel).1⟩)
      have HQJ : Hid (q ≤ j) := Ld hqj
      rcases (show q = 0 ∨ ∃ p, q = p + 1 from by cases q with | zero => exact .inl rfl | succ p => exact .inr ⟨p, rfl⟩) with hq | ⟨p, hp⟩
      ·have q6 : decide ((0 : Int) < (q : Int)) = false := by rw [decide_eq_false_iff_not]; omega
       have q6' : decide (0 < q) = false := by rw [decide_eq_false_iff_not]; omega
       have HLT : Hid (∀ a ∈ m'.take q, bl x.key a.key = false) := Ld (fun a ha => by rw [hq] at ha; cases ha)
       clear hq
       go_wp2
       go_region
       go_wp2
       have hwd : Below wo.heap.size wo wr.drew := HW.out.drew
       have HRT : Hid (RSt w w.heap.size W3.heap.size k n s #[.int .i64 k, .int .i64 n, .string s, .slice lA nl lc, .slice (some ⟨b, o, none⟩) nm mc] (.slice A1 n1 c1) (.slice A2 j c2) l' m' wr.drew) := Ld (HCV.out.below (Below.refl _ _).drew)
       generalize wr.drew = w3 at HRT hwd ⊢
       have HSV : Hid (∀ V, Below w3.heap.size w3 V → V.cell? ⟨w.heap.size, 4, none⟩ = some (.slice (some ⟨b, o, none⟩) nm mc) ∧ (V.cell? ⟨b, o + j * 6, none⟩ = some (.string x.key) ∧ V.cell? ⟨b, o + j * 6 + 1, none⟩ = some (.int .i64 x.k) ∧ V.cell? ⟨b, o + j * 6 + 1 + 1, none⟩ = some (.int .i64 x.n) ∧ V.cell? ⟨b, o + j * 6 + 1 + 2, none⟩ = some (.string x.s) ∧ V.cell? ⟨b, o + j * 6 + 1 + 3, none⟩ = some (.slice x.lA x.l.length x.lc) ∧ V.cell? ⟨b, o + j * 6 + 1 + 4, none⟩ = some (.slice x.mA x.m.length x.mc)) ∧ True) := Ld (fun V hV => ⟨(HRT.out.src.below hV HRT.out.src.lt).cell 4, HXC.out V (HRT.out.below hV).bel, trivial⟩)
       have HCC : Hid (∀ V, Below w3.heap.size w3 V → Calls Tryz.prog 51 #[.agg #[.int .i64 x.k, .int .i64 x.n, .string x.s, .slice x.lA x.l.length x.lc, .slice x.mA x.m.length x.mc]] V fun e w' => PF (OwP x.pv.sort V) e w') := Ld (fun V hV => HCB.out V (HRT.out.below hV).bel)
       obtain ⟨A9, HCS⟩ : ∃ A9, Hid ((c2 = q ∧ A9 = A2) ∨ (¬ c2 = q ∧ A9 = A2.map fun x => x.add (q * 6))) := by
        by_cases h : c2 = q
        ·exact ⟨A2, Ld (.inl ⟨h, rfl⟩)⟩
        ·exact ⟨_, Ld (.inr ⟨h, rfl⟩)⟩
       obtain ⟨A8, c8, hv8, hc8, hc9, _, _⟩ := HRT.out.rm.shape
       injection hv8 with hz1 hz2 hz3
       have HJC : Hid (j ≤ c2) := Ld (by rw [hz3, hz2]; exact hc8)
       have hc10 : c2 ≤ 9223372036854775807 := by rw [hz3]; simpa [maxLen] using hc9
       have hqn' : q ≤ j := HQJ.out
       have hqc : q ≤ c2 := Nat.le_trans HQJ.out HJC.out
       have hjc : j ≤ c2 := HJC.out
       have hqi : (q : Int) ≤ (j : Int) := by omega
       have hqi0 : (0 : Int) ≤ (q : Int) := by omega
       clear hz1 hz2 hz3 hc8 hc9 hwd
       refine wp_region_last (S := fun V => Below w3.heap.size w3 V) (st := 15) (n := 15) (by kernel_rfl) rfl (by kernel_rfl) rfl ((Below.refl _ _).drew) (fun hS1 => ?_)
       generalize w3.drew = W1 at hS1 ⊢
       refine tk 0 (some 63) (.pointer (some ⟨w.heap.size, 4, none⟩)) rfl (fun V hS => by go_simp) hS1 ?_
       simp only [nf]
       refine tk 1 (some 64) (.slice (some ⟨b, o, none⟩) nm mc) rfl (fun V hS => by obtain ⟨h0, ⟨h1, h2, h3, h4, h5, h6⟩, h7⟩ := HSV.out V hS; go_simp) hS1 ?_
       simp only [nf]
       refine tk 2 (some 65) (.int .i64 (j : Int)) rfl (fun V hS => by go_simp) hS1 ?_
       simp only [nf]
       refine tk 3 (some 66) (.pointer (some ⟨b, o + j * 6, none⟩)) rfl (fun V hS => by go_simp) hS1 ?_
       simp only [nf]
       refine tk 4 (some 67) (.pointer (some ⟨b, o + j * 6, none⟩)) rfl (fun V hS => by go_simp) hS1 ?_
       simp only [nf]
       refine tk 5 (some 68) (.string x.key) rfl (fun V hS => by obtain ⟨h0, ⟨h1, h2, h3, h4, h5, h6⟩, h7⟩ := HSV.out V hS; go_simp) hS1 ?_
       simp only [nf]
       refine tk 6 (some 69) (.pointer (some ⟨w.heap.size, 4, none⟩)) rfl (fun V hS => by go_simp) hS1 ?_
       simp only [nf]
       refine tk 7 (some 70) (.slice (some ⟨b, o, none⟩) nm mc) rfl (fun V hS => by obtain ⟨h0, ⟨h1, h2, h3, h4, h5, h6⟩, h7⟩ := HSV.out V hS; go_simp) hS1 ?_
       simp only [nf]
       refine tk 8 (some 71) (.int .i64 (j : Int)) rfl (fun V hS => by go_simp) hS1 ?_
       simp only [nf]
       refine tk 9 (some 72) (.pointer (some ⟨b, o + j * 6, none⟩)) rfl (fun V hS => by go_simp) hS1 ?_
       simp only [nf]
       refine tk 10 (some 73) (.pointer (some ⟨b, o + j * 6 + 1, none⟩)) rfl (fun V hS => by go_simp) hS1 ?_
       simp only [nf]
       refine tk 11 (some 74) (.agg #[.int .i64 x.k, .int .i64 x.n, .string x.s, .slice x.lA x.l.length x.lc, .slice x.mA x.m.length x.mc]) rfl (fun V hS => by obtain ⟨h0, ⟨h1, h2, h3, h4, h5, h6⟩, h7⟩ := HSV.out V hS; go_simp) hS1 ?_
       simp only [nf]
       refine wpAnyH_ready (rs := [12, 14]) (by kernel_rfl) (by simp) ?_
       refine AllReadyH.cons rfl (fun K' hK => ?_) (AllReadyH.cons rfl (fun K' hK => ?_) AllReadyH.nil)
       ·go_simp
        refine (HCC.out _ hS1).mono ?_
        rintro e w5 ⟨x', rfl, hpv, hvo, hb5⟩
        unfold MV.val
        have HPV := Ld hpv
        have HVO := Ld hvo
        have HBV := Ld hS1.size
        clear hpv hvo
        go_simp
        refine hK.out _ _ (hS1.trans (hb5.mono hS1.size)) (fun hS2 => ?_)
        clear hK K' hS1
        refine tk 13 (some 76) (.agg #[.string x.key, .int .i64 x'.k, .int .i64 x'.n, .string x'.s, .slice x'.lA x'.l.length x'.lc, .slice x'.mA x'.m.length x'.mc]) rfl (fun V hS => by go_simp) hS2 ?_
        simp only [nf]
        refine rd1 14 rfl (fun K' hK => ?_)
        go_simp
        have HZ : Hid (Blk (w5.alloc (.cells #[.string ⟨#[]⟩, .int .i64 0, .int .i64 0, .string ⟨#[]⟩, .slice none 0 0, .slice none 0 0] 73)) w5.heap.size 73 #[.string ⟨#[]⟩, .int .i64 0, .int .i64 0, .string ⟨#[]⟩, .slice none 0 0, .slice none 0 0]) := Ld (Blk.new _ _ _)
        have HGE : Hid (w3.heap.size ≤ w5.heap.size) := Ld hS2.size
        have HXA : Hid (VAt (w5.alloc (.cells #[.string ⟨#[]⟩, .int .i64 0, .int .i64 0, .string ⟨#[]⟩, .slice none 0 0, .slice none 0 0] 73)) x' ∧ BlkP (fun b => ¬ b = w5.heap.size) x' ∧ BlkP (w3.heap.size ≤ ·) x') := Ld ⟨HVO.out.at_.bel (below_new _ _), HVO.out.at_.lt.mono (fun b hb => Nat.ne_of_lt hb), HVO.out.fr.mono (fun b hb => Nat.le_trans HBV.out hb)⟩
        refine hK.out _ _ (hS2.alloc hS2.size _) (fun hS3 => ?_)
        clear hK K' hS2
        generalize w5.alloc (.cells #[.string ⟨#[]⟩, .int .i64 0, .int .i64 0, .string ⟨#[]⟩, .slice none 0 0, .slice none 0 0] 73) = w5b at HZ HXA hS3 ⊢
        generalize HG7E : w5.heap.size = g7 at HZ HGE HXA ⊢
        clear HG7E
        refine wpAnyH_done (by kernel_rfl) ?_ _
        refine lastQ_normal (wpOp_step rfl (fun K' hK => ?_))
        obtain ⟨z0, z1, z2, z3, z4, z5⟩ := six_cells HZ.out
        obtain ⟨y0, y1, y2, y3, y4, y5⟩ := six_fr HZ.out
        have HZ6 := Ld (blk_six (a := Value.string x.key) (b := Value.int .i64 x'.k) (c := Value.int .i64 x'.n) (d := Value.string x'.s) (e := Value.slice x'.lA x'.l.length x'.lc) (f := Value.slice x'.mA x'.m.length x'.mc) HZ.out)
        have HF6 := Ld (fr_six (w := w5b) (g := g7) (a := Value.string x.key) (b := Value.int .i64 x'.k) (c := Value.int .i64 x'.n) (d := Value.string x'.s) (e := Value.slice x'.lA x'.l.length x'.lc) (f := Value.slice x'.mA x'.m.length x'.mc))
        have HB6 := Ld (Fr.below_trans hS3 HF6.out hS3.size (fun k e => by rw [show k = g7 from e]; exact HGE.out))
        go_simp
        refine hK _ _ ?_
        clear hK K' hS3 z0 z1 z2 z3 z4 z5 y0 y1 y2 y3 y4 y5
        have HX6 := Ld (HXA.out.1.fr HF6.out HXA.out.2.1)
        generalize ((((((w5b.setCell ⟨g7, 0, none⟩ (Value.string x.key)).setCell ⟨g7, 1, none⟩ (Value.int .i64 x'.k)).setCell ⟨g7, 2, none⟩ (Value.int .i64 x'.n)).setCell ⟨g7, 3, none⟩ (Value.string x'.s)).setCell ⟨g7, 4, none⟩ (Value.slice x'.lA x'.l.length x'.lc)).setCell ⟨g7, 5, none⟩ (Value.slice x'.mA x'.m.length x'.mc)) = w6 at HZ6 HF6 HB6 HX6 ⊢
        obtain ⟨x'', hx''⟩ : ∃ x'' : MV, x'' = .mk x.key x'.k x'.n x'.s x'.lA x'.lc x'.l x'.mA x'.mc x'.m := ⟨_, rfl⟩
        have HX2 : Hid (x''.key = x.key ∧ x''.pv = x'.pv ∧ (MV.pcs x'').toArray = #[.string x.key, .int .i64 x'.k, .int .i64 x'.n, .string x'.s, .slice x'.lA x'.l.length x'.lc, .slice x'.mA x'.m.length x'.mc]) := Ld (by rw [hx'']; exact ⟨rfl, by cases x'; rfl, rfl⟩)
        have HX3 : Hid (VAt w6 x'' ∧ BlkP (w3.heap.size ≤ ·) x'') := Ld (by rw [hx'']; exact ⟨HX6.out.rekey, HXA.out.2.2.rekey⟩)
        clear hx''
        have HR6 := Ld (HRT.out.below HB6.out)
        have HSW : Hid (∀ V, Below w6.heap.size w6 V → (V.cell? ⟨g7, 0, none⟩ = some (.string x.key) ∧ V.cell? ⟨g7, 1, none⟩ = some (.int .i64 x'.k) ∧ V.cell? ⟨g7, 2, none⟩ = some (.int .i64 x'.n) ∧ V.cell? ⟨g7, 3, none⟩ = some (.string x'.s) ∧ V.cell? ⟨g7, 4, none⟩ = some (.slice x'.lA x'.l.length x'.lc) ∧ V.cell? ⟨g7, 5, none⟩ = some (.slice x'.mA x'.m.length x'.mc)) ∧ V.cell? ⟨w.heap.size + 1 + 1, 4, none⟩ = some (.slice A2 j c2)) := Ld (fun V hV => ⟨six_cells (HZ6.out.below hV HZ6.out.lt), (HR6.out.box.below hV HR6.out.box.lt).cell 4⟩)
        have HRD : Hid (∀ V, Below w6.heap.size w6 V → Reads V V.heap.size 6 A2 q ((m'.take q).flatMap MV.pcs) ∧ Reads V V.heap.size 6 A9 (j - q) ((m'.drop q).flatMap MV.pcs)) := Ld (fun V hV => by
         have h9 := (HR6.out.below hV).rm.reads HLM.out
         refine ⟨?_, ?_⟩
         ·rw [← flat_take (size := 6) (fun _ => rfl)]
          exact Reads.head h9 (by have := HQJ.out; omega)
         ·rw [← flat_drop (size := 6) (fun _ => rfl)]
          have h8 := Reads.cut (k := q) (cap := c2) h9 HQJ.out HJC.out
          rcases HCS.out with ⟨e1, e2⟩ | ⟨e1, e2⟩
          ·rw [if_pos e1] at h8; rw [e2]; exact h8
          ·rw [if_neg e1] at h8; rw [e2]; exact h8)
        have HTL : Hid ((m'.take q).length = q) := Ld (by rw [List.length_take, HLM.out]; have := HQJ.out; omega)
        have HDL : Hid ((m'.drop q).length = j - q) := Ld (by rw [List.length_drop, HLM.out])
        have HLN : Hid (Hid ((((([] : List MV) ++ m'.take q) ++ [x'']) ++ m'.drop q).length = j + 1)) := Ld (Ld (by
         have h1 := HTL.out
         have h2 := HDL.out
         have h3 := HQJ.out
         simp only [List.nil_append, List.length_append, List.length_cons, List.length_nil, h1, h2]
         omega))
        have HPN : Hid (Hid (((((([] : List MV) ++ m'.take q) ++ [x'']) ++ m'.drop q).map (fun x => (x.key, x.pv))).Perm (tgt.take (j + 1)))) := Ld (Ld (by
         rw [List.nil_append]
         refine ((perm_ins (t := m'.take q) (d := m'.drop q) (x := x'')).map (fun x => (x.key, x.pv))).trans ?_
         rw [List.take_append_drop, List.map_append, HTK.out]
         refine List.Perm.append HPM.out ?_
         simp only [List.map_cons, List.map_nil]
         rw [HX2.out.1, HX2.out.2.1, HPV.out]))
        have HSN : Hid (Hid ((((([] : List MV) ++ m'.take q) ++ [x'']) ++ m'.drop q).Pairwise (fun a b => bl b.key a.key = false))) := Ld (Ld (by
         rw [List.nil_append]
         refine ins_rising (by rw [List.take_append_drop]; exact HPW.out) (fun b hb => ?_) (fun a ha => ?_)
         ·rw [HX2.out.1]; exact HGT.out b hb
         ·rw [HX2.out.1]; exact HLT.out a ha))
        have HEND : Hid (∀ v W, W.ownsRow w6.heap.size 73 6 v (((([] : List MV) ++ m'.take q) ++ [x'']) ++ m'.drop q).length ((((([] : List MV) ++ m'.take q) ++ [x'']) ++ m'.drop q).flatMap MV.pcs) → Below w6.heap.size w6 W → ∃ g9 c9, v = .slice (some ⟨g9, 0, none⟩) (j + 1) c9 ∧ RSt w w.heap.size W3.heap.size k n s #[.int .i64 k, .int .i64 n, .string s, .slice lA nl lc, .slice (some ⟨b, o, none⟩) nm mc] (.slice A1 n1 c1) (.slice (some ⟨g9, 0, none⟩) (j + 1) c9) l' (((([] : List MV) ++ m'.take q) ++ [x'']) ++ m'.drop q) (W.setCell ⟨w.heap.size + 1 + 1, 4, none⟩ (.slice (some ⟨g9, 0, none⟩) (j + 1) c9)) ∧ Blk W (w.heap.size + 1 + 1) 30 #[.int .i64 k, .int .i64 n, .string s, (.slice A1 n1 c1), .slice A2 j c2]) := Ld (fun v W hrow hW => by
         rw [HLN.out.out] at hrow
         obtain ⟨g9, c9, hv, _, _⟩ := hrow.form (by omega)
         refine ⟨g9, c9, hv, ?_⟩
         rw [hv, ← HLN.out.out] at hrow
         have hm9 : ∀ y ∈ ((([] : List MV) ++ m'.take q) ++ [x'']) ++ m'.drop q, VAt w6 y ∧ BlkP (W3.heap.size ≤ ·) y ∧ BlkP (fun b => ¬ (Value.slice A1 n1 c1).ownBlock = some b) y := fun y hy => by
          rw [List.nil_append, List.mem_append, List.mem_append, List.mem_singleton] at hy
          rcases hy with (hy | hy) | hy
          ·have hy := List.mem_of_mem_take hy
           exact ⟨HR6.out.rm.at_ y hy, HR6.out.rm.fr y hy, HR6.out.ml y hy⟩
          ·subst hy
           exact ⟨HX3.out.1, HX3.out.2.mono (fun b hb => Nat.le_trans HRT.out.bs.2 hb), HX3.out.2.mono (fun b hb e => by have hb' : w3.heap.size ≤ b := hb; have := HRT.out.rl.ltS b e; omega)⟩
          ·have hy := List.mem_of_mem_drop hy
           exact ⟨HR6.out.rm.at_ y hy, HR6.out.rm.fr y hy, HR6.out.ml y hy⟩
         obtain ⟨k1, k2⟩ := HR6.out.newM hW hrow hm9 (Nat.le_refl _)
         rw [HLN.out.out] at k1
         exact ⟨k1, k2⟩)
        clear HF6 HB6 HX6 HZ HXA HGE HVO HBV HRT HZ6
        go_wp2_with fail
        refine wp_region_last (S := fun V => Below w6.heap.size w6 V) (st := 15) (n := 15) (by kernel_rfl) rfl (by kernel_rfl) rfl ((Below.refl _ _).drew) (fun hS1 => ?_)
        generalize w6.drew = W0 at hS1 ⊢
        refine tk 1 (some 78) (.pointer (some ⟨w.heap.size + 1 + 1, 4, none⟩)) rfl (fun V hS => by go_simp) hS1 ?_
        simp only [nf]
        refine tk 2 (some 79) (.slice A2 j c2) rfl (fun V hS => by obtain ⟨⟨h0, h1, h2, h3, h4, h5⟩, h6⟩ := HSW.out V hS; go_simp) hS1 ?_
        simp only [nf]
        refine tk 3 (some 80) (.int .i64 (q : Int)) rfl (fun V hS => by go_simp) hS1 ?_
        simp only [nf]
        refine tk 4 (some 81) (.slice A2 q c2) rfl (fun V hS => by go_simp) hS1 ?_
        simp only [nf]
        refine tk 6 (some 83) (.agg #[.string x.key, .int .i64 x'.k, .int .i64 x'.n, .string x'.s, .slice x'.lA x'.l.length x'.lc, .slice x'.mA x'.m.length x'.mc]) rfl (fun V hS => by obtain ⟨⟨h0, h1, h2, h3, h4, h5⟩, h6⟩ := HSW.out V hS; go_simp) hS1 ?_
        simp only [nf]
        refine tk 9 (some 86) (.pointer (some ⟨w.heap.size + 1 + 1, 4, none⟩)) rfl (fun V hS => by go_simp) hS1 ?_
        simp only [nf]
        refine tk 10 (some 87) (.slice A2 j c2) rfl (fun V hS => by obtain ⟨⟨h0, h1, h2, h3, h4, h5⟩, h6⟩ := HSW.out V hS; go_simp) hS1 ?_
        simp only [nf]
        refine tk 11 (some 88) (.int .i64 (q : Int)) rfl (fun V hS => by go_simp) hS1 ?_
        simp only [nf]
        refine tk 12 (some 89) (.slice A9 (j - q) (c2 - q)) rfl (fun V hS => by rcases HCS.out with ⟨e1, e2⟩ | ⟨e1, e2⟩ <;> (rw [e2]; go_simp)) hS1 ?_
        simp only [nf]
        refine wpAnyH_ready (rs := [0, 7]) (by kernel_rfl) (by simp) ?_
        refine AllReadyH.cons rfl (fun K' hK => ?_) (AllReadyH.cons rfl (fun K' hK => ?_) AllReadyH.nil)
        ·go_simp
         have HO := Ld (own_empty W0 w6.heap.size hS1.size)
         refine hK.out _ _ (hS1.alloc hS1.size _) (fun hS2 => ?_)
         clear hK K' hS1
         generalize W0.alloc (.cells #[] 73) = X1 at HO hS2 ⊢
         refine wpAnyH_ready (rs := [5, 7]) (by kernel_rfl) (by simp) ?_
         refine AllReadyH.cons rfl (fun K' hK => ?_) (AllReadyH.cons rfl (fun K' hK => ?_) AllReadyH.nil)
         ·refine step_app_pairs X1 rfl (some 82) rfl _ _ rfl w6.heap.size (.slice (some ⟨W0.heap.size, 0, none⟩) 0 0) ([]) rfl HO.out A2 q c2 (m'.take q) rfl ((HRD.out _ hS2).1) (HTL.out) (by have := HJ2.out; simp; omega) hS2.size ?_
          intro v2 X2 ho hg
          have hs := hS2.grown hg hS2.size (fun k e => (World.ownsRow.lt HO.out k e).1)
          refine hK.out _ _ hs (fun hS3 => ?_)
          clear hK K' hs hS2
          have HO := Ld ho
          clear ho hg
          simp only [nf]
          refine rd1 7 rfl (fun K' hK => ?_)
          go_simp
          have HQ : Hid (Reads (X2.alloc (.cells #[.string x.key, .int .i64 x'.k, .int .i64 x'.n, .string x'.s, .slice x'.lA x'.l.length x'.lc, .slice x'.mA x'.m.length x'.mc] 73)) (X2.alloc (.cells #[.string x.key, .int .i64 x'.k, .int .i64 x'.n, .string x'.s, .slice x'.lA x'.l.length x'.lc, .slice x'.mA x'.m.length x'.mc] 73)).heap.size 6 (some ⟨X2.heap.size, 0, none⟩) 1 ([x''].flatMap MV.pcs)) := Ld (one_reads HX2.out.2.2)
          have HO := Ld (own_above HO.out (below_new X2 (.cells #[.string x.key, .int .i64 x'.k, .int .i64 x'.n, .string x'.s, .slice x'.lA x'.l.length x'.lc, .slice x'.mA x'.m.length x'.mc] 73)))
          refine hK.out _ _ (hS3.alloc hS3.size _) (fun hS4 => ?_)
          clear hK K' hS3
          generalize X2.alloc (.cells #[.string x.key, .int .i64 x'.k, .int .i64 x'.n, .string x'.s, .slice x'.lA x'.l.length x'.lc, .slice x'.mA x'.m.length x'.mc] 73) = X3 at HQ HO hS4 ⊢
          refine rd1 8 rfl (fun K' hK => ?_)
          refine step_app_pairs X3 rfl (some 85) rfl _ _ rfl w6.heap.size (v2) ([] ++ m'.take q) rfl HO.out (some ⟨X2.heap.size, 0, none⟩) 1 1 ([x'']) rfl (HQ.out) (rfl) (by have := HJ2.out; simp; omega) hS4.size ?_
          intro v4 X4 ho hg
          have hs := hS4.grown hg hS4.size (fun k e => (World.ownsRow.lt HO.out k e).1)
          refine hK.out _ _ hs (fun hS5 => ?_)
          clear hK K' hs hS4
          have HO := Ld ho
          clear ho hg
          simp only [nf]
          refine rd1 13 rfl (fun K' hK => ?_)
          refine step_app_pairs X4 rfl (some 90) rfl _ _ rfl w6.heap.size (v4) (([] ++ m'.take q) ++ [x'']) rfl HO.out A9 (j - q) (c2 - q) (m'.drop q) rfl ((HRD.out _ hS5).2) (HDL.out) (by have := HJ2.out; simp; omega) hS5.size ?_
          intro v5 X5 ho hg
          have hs := hS5.grown hg hS5.size (fun k e => (World.ownsRow.lt HO.out k e).1)
          refine hK.out _ _ hs (fun hS6 => ?_)
          clear hK K' hs hS5
          have HO := Ld ho
          clear ho hg
          simp only [nf]
          refine tk 14 (some 91) (.pointer (some ⟨w.heap.size + 1 + 1, 4, none⟩)) rfl (fun V hS => by go_simp) hS6 ?_
          simp only [nf]
          refine wpAnyH_done (by kernel_rfl) ?_ _
          refine lastQ_normal (wpOp_step rfl (fun K' hK => ?_))
          obtain ⟨g9, c9, hv9, hrs, hbx⟩ := HEND.out _ _ HO.out hS6
          subst hv9
          have HRS := Ld hrs
          have hz := hbx.frozen 4
          have hd := hbx.cell 4
          simp only [gz] at hd
          go_simp
          refine hK _ _ ?_
          clear hK K' hS6 hz hd hbx hrs HO
          go_wp2
          go_roundw
          case rel => exact ⟨j + 1, _, _, _, _, _, by go_num, rfl, rfl, by omega, HLN.out, HPN.out, HSN.out, HRS⟩
          case measure => simp [intOf]; omega
         ·go_simp
          have HQ : Hid (Reads (X1.alloc (.cells #[.string x.key, .int .i64 x'.k, .int .i64 x'.n, .string x'.s, .slice x'.lA x'.l.length x'.lc, .slice x'.mA x'.m.length x'.mc] 73)) (X1.alloc (.cells #[.string x.key, .int .i64 x'.k, .int .i64 x'.n, .string x'.s, .slice x'.lA x'.l.length x'.lc, .slice x'.mA x'.m.length x'.mc] 73)).heap.size 6 (some ⟨X1.heap.size, 0, none⟩) 1 ([x''].flatMap MV.pcs)) := Ld (one_reads HX2.out.2.2)
          have HOB := HO
          have HO := Ld (own_above HO.out (below_new X1 (.cells #[.string x.key, .int .i64 x'.k, .int .i64 x'.n, .string x'.s, .slice x'.lA x'.l.length x'.lc, .slice x'.mA x'.m.length x'.mc] 73)))
          refine hK.out _ _ (hS2.alloc hS2.size _) (fun hS3 => ?_)
          clear hK K' hS2
          generalize X1.alloc (.cells #[.string x.key, .int .i64 x'.k, .int .i64 x'.n, .string x'.s, .slice x'.lA x'.l.length x'.lc, .slice x'.mA x'.m.length x'.mc] 73) = X2 at HQ HO hS3 ⊢
          have HNQ : Hid (¬ X1.heap.size = W0.heap.size) := Ld (fun e => Nat.lt_irrefl _ (by have h9 := (World.ownsRow.lt HOB.out W0.heap.size rfl).2; rw [← e] at h9; exact h9))
          clear HOB
          refine rd1 5 rfl (fun K' hK => ?_)
          refine step_app_pairs X2 rfl (some 82) rfl _ _ rfl w6.heap.size (.slice (some ⟨W0.heap.size, 0, none⟩) 0 0) ([]) rfl HO.out A2 q c2 (m'.take q) rfl ((HRD.out _ hS3).1) (HTL.out) (by have := HJ2.out; simp; omega) hS3.size ?_
          intro v3 X3 ho hg
          have hs := hS3.grown hg hS3.size (fun k e => (World.ownsRow.lt HO.out k e).1)
          have HQ := Ld (reads_grown HQ.out hg (fun e => HNQ.out (by injection e)))
          refine hK.out _ _ hs (fun hS4 => ?_)
          clear hK K' hs hS3
          have HO := Ld ho
          clear ho hg
          simp only [nf]
          refine rd1 8 rfl (fun K' hK => ?_)
          refine step_app_pairs X3 rfl (some 85) rfl _ _ rfl w6.heap.size (v3) ([] ++ m'.take q) rfl HO.out (some ⟨X1.heap.size, 0, none⟩) 1 1 ([x'']) rfl (HQ.out) (rfl) (by have := HJ2.out; simp; omega) hS4.size ?_
          intro v4 X4 ho hg
          have hs := hS4.grown hg hS4.size (fun k e => (World.ownsRow.lt HO.out k e).1)
          refine hK.out _ _ hs (fun hS5 => ?_)
          clear hK K' hs hS4
          have HO := Ld ho
          clear ho hg
          simp only [nf]
          refine rd1 13 rfl (fun K' hK => ?_)
          refine step_app_pairs X4 rfl (some 90) rfl _ _ rfl w6.heap.size (v4) (([] ++ m'.take q) ++ [x'']) rfl HO.out A9 (j - q) (c2 - q) (m'.drop q) rfl ((HRD.out _ hS5).2) (HDL.out) (by have := HJ2.out; simp; omega) hS5.size ?_
          intro v5 X5 ho hg
          have hs := hS5.grown hg hS5.size (fun k e => (World.ownsRow.lt HO.out k e).1)
          refine hK.out _ _ hs (fun hS6 => ?_)
          clear hK K' hs hS5
          have HO := Ld ho
          clear ho hg
          simp only [nf]
          refine tk 14 (some 91) (.pointer (some ⟨w.heap.size + 1 + 1, 4, none⟩)) rfl (fun V hS => by go_simp) hS6 ?_
          simp only [nf]
          refine wpAnyH_done (by kernel_rfl) ?_ _
          refine lastQ_normal (wpOp_step rfl (fun K' hK => ?_))
          obtain ⟨g9, c9, hv9, hrs, hbx⟩ := HEND.out _ _ HO.out hS6
          subst hv9
          have HRS := Ld hrs
          have hz := hbx.frozen 4
          have hd := hbx.cell 4
          simp only [gz] at hd
          go_simp
          refine hK _ _ ?_
          clear hK K' hS6 hz hd hbx hrs HO
          go_wp2
          go_roundw
          case rel => exact ⟨j + 1, _, _, _, _, _, by go_num, rfl, rfl, by omega, HLN.out, HPN.out, HSN.out, HRS⟩
          case measure => simp [intOf]; omega
        ·go_simp
         have HQ : Hid (Reads (W0.alloc (.cells #[.string x.key, .int .i64 x'.k, .int .i64 x'.n, .string x'.s, .slice x'.lA x'.l.length x'.lc, .slice x'.mA x'.m.length x'.mc] 73)) (W0.alloc (.cells #[.string x.key, .int .i64 x'.k, .int .i64 x'.n, .string x'.s, .slice x'.lA x'.l.length x'.lc, .slice x'.mA x'.m.length x'.mc] 73)).heap.size 6 (some ⟨W0.heap.size, 0, none⟩) 1 ([x''].flatMap MV.pcs)) := Ld (one_reads HX2.out.2.2)
         refine hK.out _ _ (hS1.alloc hS1.size _) (fun hS2 => ?_)
         clear hK K' hS1
         generalize W0.alloc (.cells #[.string x.key, .int .i64 x'.k, .int .i64 x'.n, .string x'.s, .slice x'.lA x'.l.length x'.lc, .slice x'.mA x'.m.length x'.mc] 73) = X1 at HQ hS2 ⊢
         refine rd1 0 rfl (fun K' hK => ?_)
         go_simp
         have HO := Ld (own_empty X1 w6.heap.size hS2.size)
         have HQB := HQ
         have HQ : Hid (Reads (X1.alloc (.cells #[] 73)) (X1.alloc (.cells #[] 73)).heap.size 6 (some ⟨W0.heap.size, 0, none⟩) 1 ([x''].flatMap MV.pcs)) := Ld ((Reads.below HQ.out (below_new _ _)).more (below_new _ _).size)
         refine hK.out _ _ (hS2.alloc hS2.size _) (fun hS3 => ?_)
         clear hK K' hS2
         generalize X1.alloc (.cells #[] 73) = X2 at HO HQ hS3 ⊢
         have HNQ : Hid (¬ W0.heap.size = X1.heap.size) := Ld (one_lt HQB.out)
         clear HQB
         refine rd1 5 rfl (fun K' hK => ?_)
         refine step_app_pairs X2 rfl (some 82) rfl _ _ rfl w6.heap.size (.slice (some ⟨X1.heap.size, 0, none⟩) 0 0) ([]) rfl HO.out A2 q c2 (m'.take q) rfl ((HRD.out _ hS3).1) (HTL.out) (by have := HJ2.out; simp; omega) hS3.size ?_
         intro v3 X3 ho hg
         have hs := hS3.grown hg hS3.size (fun k e => (World.ownsRow.lt HO.out k e).1)
         have HQ := Ld (reads_grown HQ.out hg (fun e => HNQ.out (by injection e)))
         refine hK.out _ _ hs (fun hS4 => ?_)
         clear hK K' hs hS3
         have HO := Ld ho
         clear ho hg
         simp only [nf]
         refine rd1 8 rfl (fun K' hK => ?_)
         refine step_app_pairs X3 rfl (some 85) rfl _ _ rfl w6.heap.size (v3) ([] ++ m'.take q) rfl HO.out (some ⟨W0.heap.size, 0, none⟩) 1 1 ([x'']) rfl (HQ.out) (rfl) (by have := HJ2.out; simp; omega) hS4.size ?_
         intro v4 X4 ho hg
         have hs := hS4.grown hg hS4.size (fun k e => (World.ownsRow.lt HO.out k e).1)
         refine hK.out _ _ hs (fun hS5 => ?_)
         clear hK K' hs hS4
         have HO := Ld ho
         clear ho hg
         simp only [nf]
         refine rd1 13 rfl (fun K' hK => ?_)
         refine step_app_pairs X4 rfl (some 90) rfl _ _ rfl w6.heap.size (v4) (([] ++ m'.take q) ++ [x'']) rfl HO.out A9 (j - q) (c2 - q) (m'.drop q) rfl ((HRD.out _ hS5).2) (HDL.out) (by have := HJ2.out; simp; omega) hS5.size ?_
         intro v5 X5 ho hg
         have hs := hS5.grown hg hS5.size (fun k e => (World.ownsRow.lt HO.out k e).1)
         refine hK.out _ _ hs (fun hS6 => ?_)
         clear hK K' hs hS5
         have HO := Ld ho
         clear ho hg
         simp only [nf]
         refine tk 14 (some 91) (.pointer (some ⟨w.heap.size + 1 + 1, 4, none⟩)) rfl (fun V hS => by go_simp) hS6 ?_
         simp only [nf]
         refine wpAnyH_done (by kernel_rfl) ?_ _
         refine lastQ_normal (wpOp_step rfl (fun K' hK => ?_))
         obtain ⟨g9, c9, hv9, hrs, hbx⟩ := HEND.out _ _ HO.out hS6
         subst hv9
         have HRS := Ld hrs
         have hz := hbx.frozen 4
         have hd := hbx.cell 4
         simp only [gz] at hd
         go_simp
         refine hK _ _ ?_
         clear hK K' hS6 hz hd hbx hrs HO
         go_wp2
         go_roundw
         case rel => exact ⟨j + 1, _, _, _, _, _, by go_num, rfl, rfl, by omega, HLN.out, HPN.out, HSN.out, HRS⟩
         case measure => simp [intOf]; omega
       ·go_simp
        have HZ : Hid (Blk (W1.alloc (.cells #[.string ⟨#[]⟩, .int .i64 0, .int .i64 0, .string ⟨#[]⟩, .slice none 0 0, .slice none 0 0] 73)) W1.heap.size 73 #[.string ⟨#[]⟩, .int .i64 0, .int .i64 0, .string ⟨#[]⟩, .slice none 0 0, .slice none 0 0]) := Ld (Blk.new _ _ _)
        have HGE : Hid (w3.heap.size ≤ W1.heap.size) := Ld hS1.size
        refine hK.out _ _ (hS1.alloc hS1.size _) (fun hS2 => ?_)
        clear hK K' hS1
        generalize W1.alloc (.cells #[.string ⟨#[]⟩, .int .i64 0, .int .i64 0, .string ⟨#[]⟩, .slice none 0 0, .slice none 0 0] 73) = w4 at HZ hS2 ⊢
        generalize HG7E : W1.heap.size = g7 at HZ HGE ⊢
        clear HG7E
        refine rd1 12 rfl (fun K' hK => ?_)
        go_simp
        refine (HCC.out _ hS2).mono ?_
        rintro e w5 ⟨x', rfl, hpv, hvo, hb5⟩
        unfold MV.val
        have HPV := Ld hpv
        have HVO := Ld hvo
        have HBV := Ld hS2.size
        have HZB := HZ
        have HZ := Ld (HZ.out.below hb5 HZ.out.lt)
        have HXA : Hid (VAt w5 x' ∧ BlkP (fun b => ¬ b = g7) x' ∧ BlkP (w3.heap.size ≤ ·) x') := Ld ⟨HVO.out.at_, HVO.out.fr.mono (fun b hb e => by have h1 := HZB.out.lt; have hb' : w4.heap.size ≤ b := hb; omega), HVO.out.fr.mono (fun b hb => Nat.le_trans HBV.out hb)⟩
        clear hpv hvo HZB
        go_simp
        refine hK.out _ _ (hS2.trans (hb5.mono hS2.size)) (fun hS3 => ?_)
        clear hK K' hS2
        refine tk 13 (some 76) (.agg #[.string x.key, .int .i64 x'.k, .int .i64 x'.n, .string x'.s, .slice x'.lA x'.l.length x'.lc, .slice x'.mA x'.m.length x'.mc]) rfl (fun V hS => by go_simp) hS3 ?_
        simp only [nf]
        refine wpAnyH_done (by kernel_rfl) ?_ _
        refine lastQ_normal (wpOp_step rfl (fun K' hK => ?_))
        obtain ⟨z0, z1, z2, z3, z4, z5⟩ := six_cells HZ.out
        obtain ⟨y0, y1, y2, y3, y4, y5⟩ := six_fr HZ.out
        have HZ6 := Ld (blk_six (a := Value.string x.key) (b := Value.int .i64 x'.k) (c := Value.int .i64 x'.n) (d := Value.string x'.s) (e := Value.slice x'.lA x'.l.length x'.lc) (f := Value.slice x'.mA x'.m.length x'.mc) HZ.out)
        have HF6 := Ld (fr_six (w := w5) (g := g7) (a := Value.string x.key) (b := Value.int .i64 x'.k) (c := Value.int .i64 x'.n) (d := Value.string x'.s) (e := Value.slice x'.lA x'.l.length x'.lc) (f := Value.slice x'.mA x'.m.length x'.mc))
        have HB6 := Ld (Fr.below_trans hS3 HF6.out hS3.size (fun k e => by rw [show k = g7 from e]; exact HGE.out))
        go_simp
        refine hK _ _ ?_
        clear hK K' hS3 z0 z1 z2 z3 z4 z5 y0 y1 y2 y3 y4 y5
        have HX6 := Ld (HXA.out.1.fr HF6.out HXA.out.2.1)
        generalize ((((((w5.setCell ⟨g7, 0, none⟩ (Value.string x.key)).setCell ⟨g7, 1, none⟩ (Value.int .i64 x'.k)).setCell ⟨g7, 2, none⟩ (Value.int .i64 x'.n)).setCell ⟨g7, 3, none⟩ (Value.string x'.s)).setCell ⟨g7, 4, none⟩ (Value.slice x'.lA x'.l.length x'.lc)).setCell ⟨g7, 5, none⟩ (Value.slice x'.mA x'.m.length x'.mc)) = w6 at HZ6 HF6 HB6 HX6 ⊢
        obtain ⟨x'', hx''⟩ : ∃ x'' : MV, x'' = .mk x.key x'.k x'.n x'.s x'.lA x'.lc x'.l x'.mA x'.mc x'.m := ⟨_, rfl⟩
        have HX2 : Hid (x''.key = x.key ∧ x''.pv = x'.pv ∧ (MV.pcs x'').toArray = #[.string x.key, .int .i64 x'.k, .int .i64 x'.n, .string x'.s, .slice x'.lA x'.l.length x'.lc, .slice x'.mA x'.m.length x'.mc]) := Ld (by rw [hx'']; exact ⟨rfl, by cases x'; rfl, rfl⟩)
        have HX3 : Hid (VAt w6 x'' ∧ BlkP (w3.heap.size ≤ ·) x'') := Ld (by rw [hx'']; exact ⟨HX6.out.rekey, HXA.out.2.2.rekey⟩)
        clear hx''
        have HR6 := Ld (HRT.out.below HB6.out)
        have HSW : Hid (∀ V, Below w6.heap.size w6 V → (V.cell? ⟨g7, 0, none⟩ = some (.string x.key) ∧ V.cell? ⟨g7, 1, none⟩ = some (.int .i64 x'.k) ∧ V.cell? ⟨g7, 2, none⟩ = some (.int .i64 x'.n) ∧ V.cell? ⟨g7, 3, none⟩ = some (.string x'.s) ∧ V.cell? ⟨g7, 4, none⟩ = some (.slice x'.lA x'.l.length x'.lc) ∧ V.cell? ⟨g7, 5, none⟩ = some (.slice x'.mA x'.m.length x'.mc)) ∧ V.cell? ⟨w.heap.size + 1 + 1, 4, none⟩ = some (.slice A2 j c2)) := Ld (fun V hV => ⟨six_cells (HZ6.out.below hV HZ6.out.lt), (HR6.out.box.below hV HR6.out.box.lt).cell 4⟩)
        have HRD : Hid (∀ V, Below w6.heap.size w6 V → Reads V V.heap.size 6 A2 q ((m'.take q).flatMap MV.pcs) ∧ Reads V V.heap.size 6 A9 (j - q) ((m'.drop q).flatMap MV.pcs)) := Ld (fun V hV => by
         have h9 := (HR6.out.below hV).rm.reads HLM.out
         refine ⟨?_, ?_⟩
         ·rw [← flat_take (size := 6) (fun _ => rfl)]
          exact Reads.head h9 (by have := HQJ.out; omega)
         ·rw [← flat_drop (size := 6) (fun _ => rfl)]
          have h8 := Reads.cut (k := q) (cap := c2) h9 HQJ.out HJC.out
          rcases HCS.out with ⟨e1, e2⟩ | ⟨e1, e2⟩
          ·rw [if_pos e1] at h8; rw [e2]; exact h8
          ·rw [if_neg e1] at h8; rw [e2]; exact h8)
        have HTL : Hid ((m'.take q).length = q) := Ld (by rw [List.length_take, HLM.out]; have := HQJ.out; omega)
        have HDL : Hid ((m'.drop q).length = j - q) := Ld (by rw [List.length_drop, HLM.out])
        have HLN : Hid (Hid ((((([] : List MV) ++ m'.take q) ++ [x'']) ++ m'.drop q).length = j + 1)) := Ld (Ld (by
         have h1 := HTL.out
         have h2 := HDL.out
         have h3 := HQJ.out
         simp only [List.nil_append, List.length_append, List.length_cons, List.length_nil, h1, h2]
         omega))
        have HPN : Hid (Hid (((((([] : List MV) ++ m'.take q) ++ [x'']) ++ m'.drop q).map (fun x => (x.key, x.pv))).Perm (tgt.take (j + 1)))) := Ld (Ld (by
         rw [List.nil_append]
         refine ((perm_ins (t := m'.take q) (d := m'.drop q) (x := x'')).map (fun x => (x.key, x.pv))).trans ?_
         rw [List.take_append_drop, List.map_append, HTK.out]
         refine List.Perm.append HPM.out ?_
         simp only [List.map_cons, List.map_nil]
         rw [HX2.out.1, HX2.out.2.1, HPV.out]))
        have HSN : Hid (Hid ((((([] : List MV) ++ m'.take q) ++ [x'']) ++ m'.drop q).Pairwise (fun a b => bl b.key a.key = false))) := Ld (Ld (by
         rw [List.nil_append]
         refine ins_rising (by rw [List.take_append_drop]; exact HPW.out) (fun b hb => ?_) (fun a ha => ?_)
         ·rw [HX2.out.1]; exact HGT.out b hb
         ·rw [HX2.out.1]; exact HLT.out a ha))
        have HEND : Hid (∀ v W, W.ownsRow w6.heap.size 73 6 v (((([] : List MV) ++ m'.take q) ++ [x'']) ++ m'.drop q).length ((((([] : List MV) ++ m'.take q) ++ [x'']) ++ m'.drop q).flatMap MV.pcs) → Below w6.heap.size w6 W → ∃ g9 c9, v = .slice (some ⟨g9, 0, none⟩) (j + 1) c9 ∧ RSt w w.heap.size W3.heap.size k n s #[.int .i64 k, .int .i64 n, .string s, .slice lA nl lc, .slice (some ⟨b, o, none⟩) nm mc] (.slice A1 n1 c1) (.slice (some ⟨g9, 0, none⟩) (j + 1) c9) l' (((([] : List MV) ++ m'.take q) ++ [x'']) ++ m'.drop q) (W.setCell ⟨w.heap.size + 1 + 1, 4, none⟩ (.slice (some ⟨g9, 0, none⟩) (j + 1) c9)) ∧ Blk W (w.heap.size + 1 + 1) 30 #[.int .i64 k, .int .i64 n, .string s, (.slice A1 n1 c1), .slice A2 j c2]) := Ld (fun v W hrow hW => by
         rw [HLN.out.out] at hrow
         obtain ⟨g9, c9, hv, _, _⟩ := hrow.form (by omega)
         refine ⟨g9, c9, hv, ?_⟩
         rw [hv, ← HLN.out.out] at hrow
         have hm9 : ∀ y ∈ ((([] : List MV) ++ m'.take q) ++ [x'']) ++ m'.drop q, VAt w6 y ∧ BlkP (W3.heap.size ≤ ·) y ∧ BlkP (fun b => ¬ (Value.slice A1 n1 c1).ownBlock = some b) y := fun y hy => by
          rw [List.nil_append, List.mem_append, List.mem_append, List.mem_singleton] at hy
          rcases hy with (hy | hy) | hy
          ·have hy := List.mem_of_mem_take hy
           exact ⟨HR6.out.rm.at_ y hy, HR6.out.rm.fr y hy, HR6.out.ml y hy⟩
          ·subst hy
           exact ⟨HX3.out.1, HX3.out.2.mono (fun b hb => Nat.le_trans HRT.out.bs.2 hb), HX3.out.2.mono (fun b hb e => by have hb' : w3.heap.size ≤ b := hb; have := HRT.out.rl.ltS b e; omega)⟩
          ·have hy := List.mem_of_mem_drop hy
           exact ⟨HR6.out.rm.at_ y hy, HR6.out.rm.fr y hy, HR6.out.ml y hy⟩
         obtain ⟨k1, k2⟩ := HR6.out.newM hW hrow hm9 (Nat.le_refl _)
         rw [HLN.out.out] at k1
         exact ⟨k1, k2⟩)
        clear HF6 HB6 HX6 HZ HXA HGE HVO HBV HRT HZ6
        go_wp2_with fail
        refine wp_region_last (S := fun V => Below w6.heap.size w6 V) (st := 15) (n := 15) (by kernel_rfl) rfl (by kernel_rfl) rfl ((Below.refl _ _).drew) (fun hS1 => ?_)
        generalize w6.drew = W0 at hS1 ⊢
        refine tk 1 (some 78) (.pointer (some ⟨w.heap.size + 1 + 1, 4, none⟩)) rfl (fun V hS => by go_simp) hS1 ?_
        simp only [nf]
        refine tk 2 (some 79) (.slice A2 j c2) rfl (fun V hS => by obtain ⟨⟨h0, h1, h2, h3, h4, h5⟩, h6⟩ := HSW.out V hS; go_simp) hS1 ?_
        simp only [nf]
        refine tk 3 (some 80) (.int .i64 (q : Int)) rfl (fun V hS => by go_simp) hS1 ?_
        simp only [nf]
        refine tk 4 (some 81) (.slice A2 q c2) rfl (fun V hS => by go_simp) hS1 ?_
        simp only [nf]
        refine tk 6 (some 83) (.agg #[.string x.key, .int .i64 x'.k, .int .i64 x'.n, .string x'.s, .slice x'.lA x'.l.length x'.lc, .slice x'.mA x'.m.length x'.mc]) rfl (fun V hS => by obtain ⟨⟨h0, h1, h2, h3, h4, h5⟩, h6⟩ := HSW.out V hS; go_simp) hS1 ?_
        simp only [nf]
        refine tk 9 (some 86) (.pointer (some ⟨w.heap.size + 1 + 1, 4, none⟩)) rfl (fun V hS => by go_simp) hS1 ?_
        simp only [nf]
        refine tk 10 (some 87) (.slice A2 j c2) rfl (fun V hS => by obtain ⟨⟨h0, h1, h2, h3, h4, h5⟩, h6⟩ := HSW.out V hS; go_simp) hS1 ?_
        simp only [nf]
        refine tk 11 (some 88) (.int .i64 (q : Int)) rfl (fun V hS => by go_simp) hS1 ?_
        simp only [nf]
        refine tk 12 (some 89) (.slice A9 (j - q) (c2 - q)) rfl (fun V hS => by rcases HCS.out with ⟨e1, e2⟩ | ⟨e1, e2⟩ <;> (rw [e2]; go_simp)) hS1 ?_
        simp only [nf]
        refine wpAnyH_ready (rs := [0, 7]) (by kernel_rfl) (by simp) ?_
        refine AllReadyH.cons rfl (fun K' hK => ?_) (AllReadyH.cons rfl (fun K' hK => ?_) AllReadyH.nil)
        ·go_simp
         have HO := Ld (own_empty W0 w6.heap.size hS1.size)
         refine hK.out _ _ (hS1.alloc hS1.size _) (fun hS2 => ?_)
         clear hK K' hS1
         generalize W0.alloc (.cells #[] 73) = X1 at HO hS2 ⊢
         refine wpAnyH_ready (rs := [5, 7]) (by kernel_rfl) (by simp) ?_
         refine AllReadyH.cons rfl (fun K' hK => ?_) (AllReadyH.cons rfl (fun K' hK => ?_) AllReadyH.nil)
         ·refine step_app_pairs X1 rfl (some 82) rfl _ _ rfl w6.heap.size (.slice (some ⟨W0.heap.size, 0, none⟩) 0 0) ([]) rfl HO.out A2 q c2 (m'.take q) rfl ((HRD.out _ hS2).1) (HTL.out) (by have := HJ2.out; simp; omega) hS2.size ?_
          intro v2 X2 ho hg
          have hs := hS2.grown hg hS2.size (fun k e => (World.ownsRow.lt HO.out k e).1)
          refine hK.out _ _ hs (fun hS3 => ?_)
          clear hK K' hs hS2
          have HO := Ld ho
          clear ho hg
          simp only [nf]
          refine rd1 7 rfl (fun K' hK => ?_)
          go_simp
          have HQ : Hid (Reads (X2.alloc (.cells #[.string x.key, .int .i64 x'.k, .int .i64 x'.n, .string x'.s, .slice x'.lA x'.l.length x'.lc, .slice x'.mA x'.m.length x'.mc] 73)) (X2.alloc (.cells #[.string x.key, .int .i64 x'.k, .int .i64 x'.n, .string x'.s, .slice x'.lA x'.l.length x'.lc, .slice x'.mA x'.m.length x'.mc] 73)).heap.size 6 (some ⟨X2.heap.size, 0, none⟩) 1 ([x''].flatMap MV.pcs)) := Ld (one_reads HX2.out.2.2)
          have HO := Ld (own_above HO.out (below_new X2 (.cells #[.string x.key, .int .i64 x'.k, .int .i64 x'.n, .string x'.s, .slice x'.lA x'.l.length x'.lc, .slice x'.mA x'.m.length x'.mc] 73)))
          refine hK.out _ _ (hS3.alloc hS3.size _) (fun hS4 => ?_)
          clear hK K' hS3
          generalize X2.alloc (.cells #[.string x.key, .int .i64 x'.k, .int .i64 x'.n, .string x'.s, .slice x'.lA x'.l.length x'.lc, .slice x'.mA x'.m.length x'.mc] 73) = X3 at HQ HO hS4 ⊢
          refine rd1 8 rfl (fun K' hK => ?_)
          refine step_app_pairs X3 rfl (some 85) rfl _ _ rfl w6.heap.size (v2) ([] ++ m'.take q) rfl HO.out (some ⟨X2.heap.size, 0, none⟩) 1 1 ([x'']) rfl (HQ.out) (rfl) (by have := HJ2.out; simp; omega) hS4.size ?_
          intro v4 X4 ho hg
          have hs := hS4.grown hg hS4.size (fun k e => (World.ownsRow.lt HO.out k e).1)
          refine hK.out _ _ hs (fun hS5 => ?_)
          clear hK K' hs hS4
          have HO := Ld ho
          clear ho hg
          simp only [nf]
          refine rd1 13 rfl (fun K' hK => ?_)
          refine step_app_pairs X4 rfl (some 90) rfl _ _ rfl w6.heap.size (v4) (([] ++ m'.take q) ++ [x'']) rfl HO.out A9 (j - q) (c2 - q) (m'.drop q) rfl ((HRD.out _ hS5).2) (HDL.out) (by have := HJ2.out; simp; omega) hS5.size ?_
          intro v5 X5 ho hg
          have hs := hS5.grown hg hS5.size (fun k e => (World.ownsRow.lt HO.out k e).1)
          refine hK.out _ _ hs (fun hS6 => ?_)
          clear hK K' hs hS5
          have HO := Ld ho
          clear ho hg
          simp only [nf]
          refine tk 14 (some 91) (.pointer (some ⟨w.heap.size + 1 + 1, 4, none⟩)) rfl (fun V hS => by go_simp) hS6 ?_
          simp only [nf]
          refine wpAnyH_done (by kernel_rfl) ?_ _
          refine lastQ_normal (wpOp_step rfl (fun K' hK => ?_))
          obtain ⟨g9, c9, hv9, hrs, hbx⟩ := HEND.out _ _ HO.out hS6
          subst hv9
          have HRS := Ld hrs
          have hz := hbx.frozen 4
          have hd := hbx.cell 4
          simp only [gz] at hd
          go_simp
          refine hK _ _ ?_
          clear hK K' hS6 hz hd hbx hrs HO
          go_wp2
          go_roundw
          case rel => exact ⟨j + 1, _, _, _, _, _, by go_num, rfl, rfl, by omega, HLN.out, HPN.out, HSN.out, HRS⟩
          case measure => simp [intOf]; omega
         ·go_simp
          have HQ : Hid (Reads (X1.alloc (.cells #[.string x.key, .int .i64 x'.k, .int .i64 x'.n, .string x'.s, .slice x'.lA x'.l.length x'.lc, .slice x'.mA x'.m.length x'.mc] 73)) (X1.alloc (.cells #[.string x.key, .int .i64 x'.k, .int .i64 x'.n, .string x'.s, .slice x'.lA x'.l.length x'.lc, .slice x'.mA x'.m.length x'.mc] 73)).heap.size 6 (some ⟨X1.heap.size, 0, none⟩) 1 ([x''].flatMap MV.pcs)) := Ld (one_reads HX2.out.2.2)
          have HOB := HO
          have HO := Ld (own_above HO.out (below_new X1 (.cells #[.string x.key, .int .i64 x'.k, .int .i64 x'.n, .string x'.s, .slice x'.lA x'.l.length x'.lc, .slice x'.mA x'.m.length x'.mc] 73)))
          refine hK.out _ _ (hS2.alloc hS2.size _) (fun hS3 => ?_)
          clear hK K' hS2
          generalize X1.alloc (.cells #[.string x.key, .int .i64 x'.k, .int .i64 x'.n, .string x'.s, .slice x'.lA x'.l.length x'.lc, .slice x'.mA x'.m.length x'.mc] 73) = X2 at HQ HO hS3 ⊢
          have HNQ : Hid (¬ X1.heap.size = W0.heap.size) := Ld (fun e => Nat.lt_irrefl _ (by have h9 := (World.ownsRow.lt HOB.out W0.heap.size rfl).2; rw [← e] at h9; exact h9))
          clear HOB
          refine rd1 5 rfl (fun K' hK => ?_)
          refine step_app_pairs X2 rfl (some 82) rfl _ _ rfl w6.heap.size (.slice (some ⟨W0.heap.size, 0, none⟩) 0 0) ([]) rfl HO.out A2 q c2 (m'.take q) rfl ((HRD.out _ hS3).1) (HTL.out) (by have := HJ2.out; simp; omega) hS3.size ?_
          intro v3 X3 ho hg
          have hs := hS3.grown hg hS3.size (fun k e => (World.ownsRow.lt HO.out k e).1)
          have HQ := Ld (reads_grown HQ.out hg (fun e => HNQ.out (by injection e)))
          refine hK.out _ _ hs (fun hS4 => ?_)
          clear hK K' hs hS3
          have HO := Ld ho
          clear ho hg
          simp only [nf]
          refine rd1 8 rfl (fun K' hK => ?_)
          refine step_app_pairs X3 rfl (some 85) rfl _ _ rfl w6.heap.size (v3) ([] ++ m'.take q) rfl HO.out (some ⟨X1.heap.size, 0, none⟩) 1 1 ([x'']) rfl (HQ.out) (rfl) (by have := HJ2.out; simp; omega) hS4.size ?_
          intro v4 X4 ho hg
          have hs := hS4.grown hg hS4.size (fun k e => (World.ownsRow.lt HO.out k e).1)
          refine hK.out _ _ hs (fun hS5 => ?_)
          clear hK K' hs hS4
          have HO := Ld ho
          clear ho hg
          simp only [nf]
          refine rd1 13 rfl (fun K' hK => ?_)
          refine step_app_pairs X4 rfl (some 90) rfl _ _ rfl w6.heap.size (v4) (([] ++ m'.take q) ++ [x'']) rfl HO.out A9 (j - q) (c2 - q) (m'.drop q) rfl ((HRD.out _ hS5).2) (HDL.out) (by have := HJ2.out; simp; omega) hS5.size ?_
          intro v5 X5 ho hg
          have hs := hS5.grown hg hS5.size (fun k e => (World.ownsRow.lt HO.out k e).1)
          refine hK.out _ _ hs (fun hS6 => ?_)
          clear hK K' hs hS5
          have HO := Ld ho
          clear ho hg
          simp only [nf]
          refine tk 14 (some 91) (.pointer (some ⟨w.heap.size + 1 + 1, 4, none⟩)) rfl (fun V hS => by go_simp) hS6 ?_
          simp only [nf]
          refine wpAnyH_done (by kernel_rfl) ?_ _
          refine lastQ_normal (wpOp_step rfl (fun K' hK => ?_))
          obtain ⟨g9, c9, hv9, hrs, hbx⟩ := HEND.out _ _ HO.out hS6
          subst hv9
          have HRS := Ld hrs
          have hz := hbx.frozen 4
          have hd := hbx.cell 4
          simp only [gz] at hd
          go_simp
          refine hK _ _ ?_
          clear hK K' hS6 hz hd hbx hrs HO
          go_wp2
          go_roundw
          case rel => exact ⟨j + 1, _, _, _, _, _, by go_num, rfl, rfl, by omega, HLN.out, HPN.out, HSN.out, HRS⟩
          case measure => simp [intOf]; omega
        ·go_simp
         have HQ : Hid (Reads (W0.alloc (.cells #[.string x.key, .int .i64 x'.k, .int .i64 x'.n, .string x'.s, .slice x'.lA x'.l.length x'.lc, .slice x'.mA x'.m.length x'.mc] 73)) (W0.alloc (.cells #[.string x.key, .int .i64 x'.k, .int .i64 x'.n, .string x'.s, .slice x'.lA x'.l.length x'.lc, .slice x'.mA x'.m.length x'.mc] 73)).heap.size 6 (some ⟨W0.heap.size, 0, none⟩) 1 ([x''].flatMap MV.pcs)) := Ld (one_reads HX2.out.2.2)
         refine hK.out _ _ (hS1.alloc hS1.size _) (fun hS2 => ?_)
         clear hK K' hS1
         generalize W0.alloc (.cells #[.string x.key, .int .i64 x'.k, .int .i64 x'.n, .string x'.s, .slice x'.lA x'.l.length x'.lc, .slice x'.mA x'.m.length x'.mc] 73) = X1 at HQ hS2 ⊢
         refine rd1 0 rfl (fun K' hK => ?_)
         go_simp
         have HO := Ld (own_empty X1 w6.heap.size hS2.size)
         have HQB := HQ
         have HQ : Hid (Reads (X1.alloc (.cells #[] 73)) (X1.alloc (.cells #[] 73)).heap.size 6 (some ⟨W0.heap.size, 0, none⟩) 1 ([x''].flatMap MV.pcs)) := Ld ((Reads.below HQ.out (below_new _ _)).more (below_new _ _).size)
         refine hK.out _ _ (hS2.alloc hS2.size _) (fun hS3 => ?_)
         clear hK K' hS2
         generalize X1.alloc (.cells #[] 73) = X2 at HO HQ hS3 ⊢
         have HNQ : Hid (¬ W0.heap.size = X1.heap.size) := Ld (one_lt HQB.out)
         clear HQB
         refine rd1 5 rfl (fun K' hK => ?_)
         refine step_app_pairs X2 rfl (some 82) rfl _ _ rfl w6.heap.size (.slice (some ⟨X1.heap.size, 0, none⟩) 0 0) ([]) rfl HO.out A2 q c2 (m'.take q) rfl ((HRD.out _ hS3).1) (HTL.out) (by have := HJ2.out; simp; omega) hS3.size ?_
         intro v3 X3 ho hg
         have hs := hS3.grown hg hS3.size (fun k e => (World.ownsRow.lt HO.out k e).1)
         have HQ := Ld (reads_grown HQ.out hg (fun e => HNQ.out (by injection e)))
         refine hK.out _ _ hs (fun hS4 => ?_)
         clear hK K' hs hS3
         have HO := Ld ho
         clear ho hg
         simp only [nf]
         refine rd1 8 rfl (fun K' hK => ?_)
         refine step_app_pairs X3 rfl (some 85) rfl _ _ rfl w6.heap.size (v3) ([] ++ m'.take q) rfl HO.out (some ⟨W0.heap.size, 0, none⟩) 1 1 ([x'']) rfl (HQ.out) (rfl) (by have := HJ2.out; simp; omega) hS4.size ?_
         intro v4 X4 ho hg
         have hs := hS4.grown hg hS4.size (fun k e => (World.ownsRow.lt HO.out k e).1)
         refine hK.out _ _ hs (fun hS5 => ?_)
         clear hK K' hs hS4
         have HO := Ld ho
         clear ho hg
         simp only [nf]
         refine rd1 13 rfl (fun K' hK => ?_)
         refine step_app_pairs X4 rfl (some 90) rfl _ _ rfl w6.heap.size (v4) (([] ++ m'.take q) ++ [x'']) rfl HO.out A9 (j - q) (c2 - q) (m'.drop q) rfl ((HRD.out _ hS5).2) (HDL.out) (by have := HJ2.out; simp; omega) hS5.size ?_
         intro v5 X5 ho hg
         have hs := hS5.grown hg hS5.size (fun k e => (World.ownsRow.lt HO.out k e).1)
         refine hK.out _ _ hs (fun hS6 => ?_)
         clear hK K' hs hS5
         have HO := Ld ho
         clear ho hg
         simp only [nf]
         refine tk 14 (some 91) (.pointer (some ⟨w.heap.size + 1 + 1, 4, none⟩)) rfl (fun V hS => by go_simp) hS6 ?_
         simp only [nf]
         refine wpAnyH_done (by kernel_rfl) ?_ _
         refine lastQ_normal (wpOp_step rfl (fun K' hK => ?_))
         obtain ⟨g9, c9, hv9, hrs, hbx⟩ := HEND.out _ _ HO.out hS6
         subst hv9
         have HRS := Ld hrs
         have hz := hbx.frozen 4
         have hd := hbx.cell 4
         simp only [gz] at hd
         go_simp
         refine hK _ _ ?_
         clear hK K' hS6 hz hd hbx hrs HO
         go_wp2
         go_roundw
         case rel => exact ⟨j + 1, _, _, _, _, _, by go_num, rfl, rfl, by omega, HLN.out, HPN.out, HSN.out, HRS⟩
         case measure => simp [intOf]; omega
      ·obtain ⟨y, hy⟩ : ∃ y, y = m'[p]'(by rw [HLM.out]; omega) := ⟨_, rfl⟩
       have hpl : p < m'.length := by rw [HLM.out]; omega
       obtain ⟨g, c9, hv9, hgl, hyc⟩ := HCV.out.rm.cellM (i := p) hpl
       injection hv9 with hA2 hz1 hz2
       rw [← hy] at hyc
       have e1 : wr.cell? ⟨g, p * 6, none⟩ = some (.string y.key) := hyc 0 (by omega)
       obtain ⟨e2, e3, e4⟩ := HCS3.out wr (Below.refl _ _)
       have hq1 : (0 : Int) < (q : Int) := by omega
       have q6 : decide ((0 : Int) < (q : Int)) = true := by rw [decide_eq_true_iff]; omega
       have q6' : decide (0 < q) = true := by rw [decide_eq_true_iff]; omega
       have hqn : ((q : Int) - 1).toNat = p := by omega
       have hq2 : (q : Int) - 1 < (j : Int) := by omega
       have hq3 : (0 : Int) ≤ (q : Int) - 1 := by omega
       have hq4 : (1 : Int) ≤ (q : Int) := by omega
       have hq5 : (q : Int) ≤ 3001 := by omega
       have HP := Ld hp
       rw [hA2] at e3
       have HA2 := Ld hA2
       have HPL := Ld hpl
       have hyk : ¬ y.key = x.key := fun e => by
        have h1 : (y.key, y.pv) ∈ tgt.take j := HPM.out.mem_iff.1 (List.mem_map.2 ⟨y, by rw [hy]; exact List.getElem_mem _, rfl⟩)
        have h4 : ((tgt.take (j + 1)).map (·.1)).Nodup := by rw [List.map_take]; exact HKN.out.sublist (List.take_sublist _ _)
        rw [HTK.out, List.map_append, List.nodup_append] at h4
        exact h4.2.2 _ (List.mem_map.2 ⟨_, h1, rfl⟩) _ (by simp) e
       cases hcmp : bl x.key y.key with
       | true =>
        have d1 : Op.bytesLess y.key.toList x.key.toList = false := bl_asym hcmp
        have d2 : (y.key.toList == x.key.toList) = false := by rw [nm_beq]; exact decide_eq_false hyk
        have HGN : Hid (∀ b ∈ m'.drop p, bl x.key b.key = true) := Ld (fun b hb => by
         rw [List.drop_eq_getElem_cons hpl, List.mem_cons] at hb
         rcases hb with hb | hb
         ·rw [hb, ← hy]; exact hcmp
         ·rw [← hp] at hb; exact HGT.out b hb)
        clear hp hy hpl hyc hz1 hz2 hyk hcmp hgl hA2
        go_wp2
        go_region
        go_wp2
        go_roundw
        case rel => exact ⟨p, by rw [show ((q : Int) - 1) = (p : Int) from by have := HP.out; omega], by have := HP.out; omega, HGN, Ld HW.out.drew⟩
        case measure => simp [intOf]; have := HP.out; omega
       | false =>
        have d1 : Op.bytesLess y.key.toList x.key.toList = true := by
         cases h : bl y.key x.key
         ·exact absurd (bl_tri h hcmp) hyk
         ·exact h
        have HLT : Hid (∀ a ∈ m'.take q, bl x.key a.key = false) := Ld (by rw [hp]; exact rising_take HPW.out hpl (by rw [← hy]; exact hcmp))
        clear hp hy hpl hyc hz1 hz2 hyk hcmp hgl hA2
        go_wp2
        go_region
        go_wp2
        have hwd : Below wo.heap.size wo wr.drew := HW.out.drew
        have HRT : Hid (RSt w w.heap.size W3.heap.size k n s #[.int .i64 k, .int .i64 n, .string s, .slice lA nl lc, .slice (some ⟨b, o, none⟩) nm mc] (.slice A1 n1 c1) (.slice A2 j c2) l' m' wr.drew) := Ld (HCV.out.below (Below.refl _ _).drew)
        generalize wr.drew = w3 at HRT hwd ⊢
        have HSV : Hid (∀ V, Below w3.heap.size w3 V → V.cell? ⟨w.heap.size, 4, none⟩ = some (.slice (some ⟨b, o, none⟩) nm mc) ∧ (V.cell? ⟨b, o + j * 6, none⟩ = some (.string x.key) ∧ V.cell? ⟨b, o + j * 6 + 1, none⟩ = some (.int .i64 x.k) ∧ V.cell? ⟨b, o + j * 6 + 1 + 1, none⟩ = some (.int .i64 x.n) ∧ V.cell? ⟨b, o + j * 6 + 1 + 2, none⟩ = some (.string x.s) ∧ V.cell? ⟨b, o + j * 6 + 1 + 3, none⟩ = some (.slice x.lA x.l.length x.lc) ∧ V.cell? ⟨b, o + j * 6 + 1 + 4, none⟩ = some (.slice x.mA x.m.length x.mc)) ∧ True) := Ld (fun V hV => ⟨(HRT.out.src.below hV HRT.out.src.lt).cell 4, HXC.out V (HRT.out.below hV).bel, trivial⟩)
        have HCC : Hid (∀ V, Below w3.heap.size w3 V → Calls Tryz.prog 51 #[.agg #[.int .i64 x.k, .int .i64 x.n, .string x.s, .slice x.lA x.l.length x.lc, .slice x.mA x.m.length x.mc]] V fun e w' => PF (OwP x.pv.sort V) e w') := Ld (fun V hV => HCB.out V (HRT.out.below hV).bel)
        obtain ⟨A9, HCS⟩ : ∃ A9, Hid ((c2 = q ∧ A9 = A2) ∨ (¬ c2 = q ∧ A9 = A2.map fun x => x.add (q * 6))) := by
         by_cases h : c2 = q
         ·exact ⟨A2, Ld (.inl ⟨h, rfl⟩)⟩
         ·exact ⟨_, Ld (.inr ⟨h, rfl⟩)⟩
        obtain ⟨A8, c8, hv8, hc8, hc9, _, _⟩ := HRT.out.rm.shape
        injection hv8 with hz1 hz2 hz3
        have HJC : Hid (j ≤ c2) := Ld (by rw [hz3, hz2]; exact hc8)
        have hc10 : c2 ≤ 9223372036854775807 := by rw [hz3]; simpa [maxLen] using hc9
        have hqn' : q ≤ j := HQJ.out
        have hqc : q ≤ c2 := Nat.le_trans HQJ.out HJC.out
        have hjc : j ≤ c2 := HJC.out
        have hqi : (q : Int) ≤ (j : Int) := by omega
        have hqi0 : (0 : Int) ≤ (q : Int) := by omega
        clear hz1 hz2 hz3 hc8 hc9 hwd
        refine wp_region_last (S := fun V => Below w3.heap.size w3 V) (st := 15) (n := 15) (by kernel_rfl) rfl (by kernel_rfl) rfl ((Below.refl _ _).drew) (fun hS1 => ?_)
        generalize w3.drew = W1 at hS1 ⊢
        refine tk 0 (some 63) (.pointer (some ⟨w.heap.size, 4, none⟩)) rfl (fun V hS => by go_simp) hS1 ?_
        simp only [nf]
        refine tk 1 (some 64) (.slice (some ⟨b, o, none⟩) nm mc) rfl (fun V hS => by obtain ⟨h0, ⟨h1, h2, h3, h4, h5, h6⟩, h7⟩ := HSV.out V hS; go_simp) hS1 ?_
        simp only [nf]
        refine tk 2 (some 65) (.int .i64 (j : Int)) rfl (fun V hS => by go_simp) hS1 ?_
        simp only [nf]
        refine tk 3 (some 66) (.pointer (some ⟨b, o + j * 6, none⟩)) rfl (fun V hS => by go_simp) hS1 ?_
        simp only [nf]
        refine tk 4 (some 67) (.pointer (some ⟨b, o + j * 6, none⟩)) rfl (fun V hS => by go_simp) hS1 ?_
        simp only [nf]
        refine tk 5 (some 68) (.string x.key) rfl (fun V hS => by obtain ⟨h0, ⟨h1, h2, h3, h4, h5, h6⟩, h7⟩ := HSV.out V hS; go_simp) hS1 ?_
        simp only [nf]
        refine tk 6 (some 69) (.pointer (some ⟨w.heap.size, 4, none⟩)) rfl (fun V hS => by go_simp) hS1 ?_
        simp only [nf]
        refine tk 7 (some 70) (.slice (some ⟨b, o, none⟩) nm mc) rfl (fun V hS => by obtain ⟨h0, ⟨h1, h2, h3, h4, h5, h6⟩, h7⟩ := HSV.out V hS; go_simp) hS1 ?_
        simp only [nf]
        refine tk 8 (some 71) (.int .i64 (j : Int)) rfl (fun V hS => by go_simp) hS1 ?_
        simp only [nf]
        refine tk 9 (some 72) (.pointer (some ⟨b, o + j * 6, none⟩)) rfl (fun V hS => by go_simp) hS1 ?_
        simp only [nf]
        refine tk 10 (some 73) (.pointer (some ⟨b, o + j * 6 + 1, none⟩)) rfl (fun V hS => by go_simp) hS1 ?_
        simp only [nf]
        refine tk 11 (some 74) (.agg #[.int .i64 x.k, .int .i64 x.n, .string x.s, .slice x.lA x.l.length x.lc, .slice x.mA x.m.length x.mc]) rfl (fun V hS => by obtain ⟨h0, ⟨h1, h2, h3, h4, h5, h6⟩, h7⟩ := HSV.out V hS; go_simp) hS1 ?_
        simp only [nf]
        refine wpAnyH_ready (rs := [12, 14]) (by kernel_rfl) (by simp) ?_
        refine AllReadyH.cons rfl (fun K' hK => ?_) (AllReadyH.cons rfl (fun K' hK => ?_) AllReadyH.nil)
        ·go_simp
         refine (HCC.out _ hS1).mono ?_
         rintro e w5 ⟨x', rfl, hpv, hvo, hb5⟩
         unfold MV.val
         have HPV := Ld hpv
         have HVO := Ld hvo
         have HBV := Ld hS1.size
         clear hpv hvo
         go_simp
         refine hK.out _ _ (hS1.trans (hb5.mono hS1.size)) (fun hS2 => ?_)
         clear hK K' hS1
         refine tk 13 (some 76) (.agg #[.string x.key, .int .i64 x'.k, .int .i64 x'.n, .string x'.s, .slice x'.lA x'.l.length x'.lc, .slice x'.mA x'.m.length x'.mc]) rfl (fun V hS => by go_simp) hS2 ?_
         simp only [nf]
         refine rd1 14 rfl (fun K' hK => ?_)
         go_simp
         have HZ : Hid (Blk (w5.alloc (.cells #[.string ⟨#[]⟩, .int .i64 0, .int .i64 0, .string ⟨#[]⟩, .slice none 0 0, .slice none 0 0] 73)) w5.heap.size 73 #[.string ⟨#[]⟩, .int .i64 0, .int .i64 0, .string ⟨#[]⟩, .slice none 0 0, .slice none 0 0]) := Ld (Blk.new _ _ _)
         have HGE : Hid (w3.heap.size ≤ w5.heap.size) := Ld hS2.size
         have HXA : Hid (VAt (w5.alloc (.cells #[.string ⟨#[]⟩, .int .i64 0, .int .i64 0, .string ⟨#[]⟩, .slice none 0 0, .slice none 0 0] 73)) x' ∧ BlkP (fun b => ¬ b = w5.heap.size) x' ∧ BlkP (w3.heap.size ≤ ·) x') := Ld ⟨HVO.out.at_.bel (below_new _ _), HVO.out.at_.lt.mono (fun b hb => Nat.ne_of_lt hb), HVO.out.fr.mono (fun b hb => Nat.le_trans HBV.out hb)⟩
         refine hK.out _ _ (hS2.alloc hS2.size _) (fun hS3 => ?_)
         clear hK K' hS2
         generalize w5.alloc (.cells #[.string ⟨#[]⟩, .int .i64 0, .int .i64 0, .string ⟨#[]⟩, .slice none 0 0, .slice none 0 0] 73) = w5b at HZ HXA hS3 ⊢
         generalize HG7E : w5.heap.size = g7 at HZ HGE HXA ⊢
         clear HG7E
         refine wpAnyH_done (by kernel_rfl) ?_ _
         refine lastQ_normal (wpOp_step rfl (fun K' hK => ?_))
         obtain ⟨z0, z1, z2, z3, z4, z5⟩ := six_cells HZ.out
         obtain ⟨y0, y1, y2, y3, y4, y5⟩ := six_fr HZ.out
         have HZ6 := Ld (blk_six (a := Value.string x.key) (b := Value.int .i64 x'.k) (c := Value.int .i64 x'.n) (d := Value.string x'.s) (e := Value.slice x'.lA x'.l.length x'.lc) (f := Value.slice x'.mA x'.m.length x'.mc) HZ.out)
         have HF6 := Ld (fr_six (w := w5b) (g := g7) (a := Value.string x.key) (b := Value.int .i64 x'.k) (c := Value.int .i64 x'.n) (d := Value.string x'.s) (e := Value.slice x'.lA x'.l.length x'.lc) (f := Value.slice x'.mA x'.m.length x'.mc))
         have HB6 := Ld (Fr.below_trans hS3 HF6.out hS3.size (fun k e => by rw [show k = g7 from e]; exact HGE.out))
         go_simp
         refine hK _ _ ?_
         clear hK K' hS3 z0 z1 z2 z3 z4 z5 y0 y1 y2 y3 y4 y5
         have HX6 := Ld (HXA.out.1.fr HF6.out HXA.out.2.1)
         generalize ((((((w5b.setCell ⟨g7, 0, none⟩ (Value.string x.key)).setCell ⟨g7, 1, none⟩ (Value.int .i64 x'.k)).setCell ⟨g7, 2, none⟩ (Value.int .i64 x'.n)).setCell ⟨g7, 3, none⟩ (Value.string x'.s)).setCell ⟨g7, 4, none⟩ (Value.slice x'.lA x'.l.length x'.lc)).setCell ⟨g7, 5, none⟩ (Value.slice x'.mA x'.m.length x'.mc)) = w6 at HZ6 HF6 HB6 HX6 ⊢
         obtain ⟨x'', hx''⟩ : ∃ x'' : MV, x'' = .mk x.key x'.k x'.n x'.s x'.lA x'.lc x'.l x'.mA x'.mc x'.m := ⟨_, rfl⟩
         have HX2 : Hid (x''.key = x.key ∧ x''.pv = x'.pv ∧ (MV.pcs x'').toArray = #[.string x.key, .int .i64 x'.k, .int .i64 x'.n, .string x'.s, .slice x'.lA x'.l.length x'.lc, .slice x'.mA x'.m.length x'.mc]) := Ld (by rw [hx'']; exact ⟨rfl, by cases x'; rfl, rfl⟩)
         have HX3 : Hid (VAt w6 x'' ∧ BlkP (w3.heap.size ≤ ·) x'') := Ld (by rw [hx'']; exact ⟨HX6.out.rekey, HXA.out.2.2.rekey⟩)
         clear hx''
         have HR6 := Ld (HRT.out.below HB6.out)
         have HSW : Hid (∀ V, Below w6.heap.size w6 V → (V.cell? ⟨g7, 0, none⟩ = some (.string x.key) ∧ V.cell? ⟨g7, 1, none⟩ = some (.int .i64 x'.k) ∧ V.cell? ⟨g7, 2, none⟩ = some (.int .i64 x'.n) ∧ V.cell? ⟨g7, 3, none⟩ = some (.string x'.s) ∧ V.cell? ⟨g7, 4, none⟩ = some (.slice x'.lA x'.l.length x'.lc) ∧ V.cell? ⟨g7, 5, none⟩ = some (.slice x'.mA x'.m.length x'.mc)) ∧ V.cell? ⟨w.heap.size + 1 + 1, 4, none⟩ = some (.slice A2 j c2)) := Ld (fun V hV => ⟨six_cells (HZ6.out.below hV HZ6.out.lt), (HR6.out.box.below hV HR6.out.box.lt).cell 4⟩)
         have HRD : Hid (∀ V, Below w6.heap.size w6 V → Reads V V.heap.size 6 A2 q ((m'.take q).flatMap MV.pcs) ∧ Reads V V.heap.size 6 A9 (j - q) ((m'.drop q).flatMap MV.pcs)) := Ld (fun V hV => by
          have h9 := (HR6.out.below hV).rm.reads HLM.out
          refine ⟨?_, ?_⟩
          ·rw [← flat_take (size := 6) (fun _ => rfl)]
           exact Reads.head h9 (by have := HQJ.out; omega)
          ·rw [← flat_drop (size := 6) (fun _ => rfl)]
           have h8 := Reads.cut (k := q) (cap := c2) h9 HQJ.out HJC.out
           rcases HCS.out with ⟨e1, e2⟩ | ⟨e1, e2⟩
           ·rw [if_pos e1] at h8; rw [e2]; exact h8
           ·rw [if_neg e1] at h8; rw [e2]; exact h8)
         have HTL : Hid ((m'.take q).length = q) := Ld (by rw [List.length_take, HLM.out]; have := HQJ.out; omega)
         have HDL : Hid ((m'.drop q).length = j - q) := Ld (by rw [List.length_drop, HLM.out])
         have HLN : Hid (Hid ((((([] : List MV) ++ m'.take q) ++ [x'']) ++ m'.drop q).length = j + 1)) := Ld (Ld (by
          have h1 := HTL.out
          have h2 := HDL.out
          have h3 := HQJ.out
          simp only [List.nil_append, List.length_append, List.length_cons, List.length_nil, h1, h2]
          omega))
         have HPN : Hid (Hid (((((([] : List MV) ++ m'.take q) ++ [x'']) ++ m'.drop q).map (fun x => (x.key, x.pv))).Perm (tgt.take (j + 1)))) := Ld (Ld (by
          rw [List.nil_append]
          refine ((perm_ins (t := m'.take q) (d := m'.drop q) (x := x'')).map (fun x => (x.key, x.pv))).trans ?_
          rw [List.take_append_drop, List.map_append, HTK.out]
          refine List.Perm.append HPM.out ?_
          simp only [List.map_cons, List.map_nil]
          rw [HX2.out.1, HX2.out.2.1, HPV.out]))
         have HSN : Hid (Hid ((((([] : List MV) ++ m'.take q) ++ [x'']) ++ m'.drop q).Pairwise (fun a b => bl b.key a.key = false))) := Ld (Ld (by
          rw [List.nil_append]
          refine ins_rising (by rw [List.take_append_drop]; exact HPW.out) (fun b hb => ?_) (fun a ha => ?_)
          ·rw [HX2.out.1]; exact HGT.out b hb
          ·rw [HX2.out.1]; exact HLT.out a ha))
         have HEND : Hid (∀ v W, W.ownsRow w6.heap.size 73 6 v (((([] : List MV) ++ m'.take q) ++ [x'']) ++ m'.drop q).length ((((([] : List MV) ++ m'.take q) ++ [x'']) ++ m'.drop q).flatMap MV.pcs) → Below w6.heap.size w6 W → ∃ g9 c9, v = .slice (some ⟨g9, 0, none⟩) (j + 1) c9 ∧ RSt w w.heap.size W3.heap.size k n s #[.int .i64 k, .int .i64 n, .string s, .slice lA nl lc, .slice (some ⟨b, o, none⟩) nm mc] (.slice A1 n1 c1) (.slice (some ⟨g9, 0, none⟩) (j + 1) c9) l' (((([] : List MV) ++ m'.take q) ++ [x'']) ++ m'.drop q) (W.setCell ⟨w.heap.size + 1 + 1, 4, none⟩ (.slice (some ⟨g9, 0, none⟩) (j + 1) c9)) ∧ Blk W (w.heap.size + 1 + 1) 30 #[.int .i64 k, .int .i64 n, .string s, (.slice A1 n1 c1), .slice A2 j c2]) := Ld (fun v W hrow hW => by
          rw [HLN.out.out] at hrow
          obtain ⟨g9, c9, hv, _, _⟩ := hrow.form (by omega)
          refine ⟨g9, c9, hv, ?_⟩
          rw [hv, ← HLN.out.out] at hrow
          have hm9 : ∀ y ∈ ((([] : List MV) ++ m'.take q) ++ [x'']) ++ m'.drop q, VAt w6 y ∧ BlkP (W3.heap.size ≤ ·) y ∧ BlkP (fun b => ¬ (Value.slice A1 n1 c1).ownBlock = some b) y := fun y hy => by
           rw [List.nil_append, List.mem_append, List.mem_append, List.mem_singleton] at hy
           rcases hy with (hy | hy) | hy
           ·have hy := List.mem_of_mem_take hy
            exact ⟨HR6.out.rm.at_ y hy, HR6.out.rm.fr y hy, HR6.out.ml y hy⟩
           ·subst hy
            exact ⟨HX3.out.1, HX3.out.2.mono (fun b hb => Nat.le_trans HRT.out.bs.2 hb), HX3.out.2.mono (fun b hb e => by have hb' : w3.heap.size ≤ b := hb; have := HRT.out.rl.ltS b e; omega)⟩
           ·have hy := List.mem_of_mem_drop hy
            exact ⟨HR6.out.rm.at_ y hy, HR6.out.rm.fr y hy, HR6.out.ml y hy⟩
          obtain ⟨k1, k2⟩ := HR6.out.newM hW hrow hm9 (Nat.le_refl _)
          rw [HLN.out.out] at k1
          exact ⟨k1, k2⟩)
         clear HF6 HB6 HX6 HZ HXA HGE HVO HBV HRT HZ6
         go_wp2_with fail
         refine wp_region_last (S := fun V => Below w6.heap.size w6 V) (st := 15) (n := 15) (by kernel_rfl) rfl (by kernel_rfl) rfl ((Below.refl _ _).drew) (fun hS1 => ?_)
         generalize w6.drew = W0 at hS1 ⊢
         refine tk 1 (some 78) (.pointer (some ⟨w.heap.size + 1 + 1, 4, none⟩)) rfl (fun V hS => by go_simp) hS1 ?_
         simp only [nf]
         refine tk 2 (some 79) (.slice A2 j c2) rfl (fun V hS => by obtain ⟨⟨h0, h1, h2, h3, h4, h5⟩, h6⟩ := HSW.out V hS; go_simp) hS1 ?_
         simp only [nf]
         refine tk 3 (some 80) (.int .i64 (q : Int)) rfl (fun V hS => by go_simp) hS1 ?_
         simp only [nf]
         refine tk 4 (some 81) (.slice A2 q c2) rfl (fun V hS => by go_simp) hS1 ?_
         simp only [nf]
         refine tk 6 (some 83) (.agg #[.string x.key, .int .i64 x'.k, .int .i64 x'.n, .string x'.s, .slice x'.lA x'.l.length x'.lc, .slice x'.mA x'.m.length x'.mc]) rfl (fun V hS => by obtain ⟨⟨h0, h1, h2, h3, h4, h5⟩, h6⟩ := HSW.out V hS; go_simp) hS1 ?_
         simp only [nf]
         refine tk 9 (some 86) (.pointer (some ⟨w.heap.size + 1 + 1, 4, none⟩)) rfl (fun V hS => by go_simp) hS1 ?_
         simp only [nf]
         refine tk 10 (some 87) (.slice A2 j c2) rfl (fun V hS => by obtain ⟨⟨h0, h1, h2, h3, h4, h5⟩, h6⟩ := HSW.out V hS; go_simp) hS1 ?_
         simp only [nf]
         refine tk 11 (some 88) (.int .i64 (q : Int)) rfl (fun V hS => by go_simp) hS1 ?_
         simp only [nf]
         refine tk 12 (some 89) (.slice A9 (j - q) (c2 - q)) rfl (fun V hS => by rcases HCS.out with ⟨e1, e2⟩ | ⟨e1, e2⟩ <;> (rw [e2]; go_simp)) hS1 ?_
         simp only [nf]
         refine wpAnyH_ready (rs := [0, 7]) (by kernel_rfl) (by simp) ?_
         refine AllReadyH.cons rfl (fun K' hK => ?_) (AllReadyH.cons rfl (fun K' hK => ?_) AllReadyH.nil)
         ·go_simp
          have HO := Ld (own_empty W0 w6.heap.size hS1.size)
          refine hK.out _ _ (hS1.alloc hS1.size _) (fun hS2 => ?_)
          clear hK K' hS1
          generalize W0.alloc (.cells #[] 73) = X1 at HO hS2 ⊢
          refine wpAnyH_ready (rs := [5, 7]) (by kernel_rfl) (by simp) ?_
          refine AllReadyH.cons rfl (fun K' hK => ?_) (AllReadyH.cons rfl (fun K' hK => ?_) AllReadyH.nil)
          ·refine step_app_pairs X1 rfl (some 82) rfl _ _ rfl w6.heap.size (.slice (some ⟨W0.heap.size, 0, none⟩) 0 0) ([]) rfl HO.out A2 q c2 (m'.take q) rfl ((HRD.out _ hS2).1) (HTL.out) (by have := HJ2.out; simp; omega) hS2.size ?_
           intro v2 X2 ho hg
           have hs := hS2.grown hg hS2.size (fun k e => (World.ownsRow.lt HO.out k e).1)
           refine hK.out _ _ hs (fun hS3 => ?_)
           clear hK K' hs hS2
           have HO := Ld ho
           clear ho hg
           simp only [nf]
           refine rd1 7 rfl (fun K' hK => ?_)
           go_simp
           have HQ : Hid (Reads (X2.alloc (.cells #[.string x.key, .int .i64 x'.k, .int .i64 x'.n, .string x'.s, .slice x'.lA x'.l.length x'.lc, .slice x'.mA x'.m.length x'.mc] 73)) (X2.alloc (.cells #[.string x.key, .int .i64 x'.k, .int .i64 x'.n, .string x'.s, .slice x'.lA x'.l.length x'.lc, .slice x'.mA x'.m.length x'.mc] 73)).heap.size 6 (some ⟨X2.heap.size, 0, none⟩) 1 ([x''].flatMap MV.pcs)) := Ld (one_reads HX2.out.2.2)
           have HO := Ld (own_above HO.out (below_new X2 (.cells #[.string x.key, .int .i64 x'.k, .int .i64 x'.n, .string x'.s, .slice x'.lA x'.l.length x'.lc, .slice x'.mA x'.m.length x'.mc] 73)))
           refine hK.out _ _ (hS3.alloc hS3.size _) (fun hS4 => ?_)
           clear hK K' hS3
           generalize X2.alloc (.cells #[.string x.key, .int .i64 x'.k, .int .i64 x'.n, .string x'.s, .slice x'.lA x'.l.length x'.lc, .slice x'.mA x'.m.length x'.mc] 73) = X3 at HQ HO hS4 ⊢
           refine rd1 8 rfl (fun K' hK => ?_)
           refine step_app_pairs X3 rfl (some 85) rfl _ _ rfl w6.heap.size (v2) ([] ++ m'.take q) rfl HO.out (some ⟨X2.heap.size, 0, none⟩) 1 1 ([x'']) rfl (HQ.out) (rfl) (by have := HJ2.out; simp; omega) hS4.size ?_
           intro v4 X4 ho hg
           have hs := hS4.grown hg hS4.size (fun k e => (World.ownsRow.lt HO.out k e).1)
           refine hK.out _ _ hs (fun hS5 => ?_)
           clear hK K' hs hS4
           have HO := Ld ho
           clear ho hg
           simp only [nf]
           refine rd1 13 rfl (fun K' hK => ?_)
           refine step_app_pairs X4 rfl (some 90) rfl _ _ rfl w6.heap.size (v4) (([] ++ m'.take q) ++ [x'']) rfl HO.out A9 (j - q) (c2 - q) (m'.drop q) rfl ((HRD.out _ hS5).2) (HDL.out) (by have := HJ2.out; simp; omega) hS5.size ?_
           intro v5 X5 ho hg
           have hs := hS5.grown hg hS5.size (fun k e => (World.ownsRow.lt HO.out k e).1)
           refine hK.out _ _ hs (fun hS6 => ?_)
           clear hK K' hs hS5
           have HO := Ld ho
           clear ho hg
           simp only [nf]
           refine tk 14 (some 91) (.pointer (some ⟨w.heap.size + 1 + 1, 4, none⟩)) rfl (fun V hS => by go_simp) hS6 ?_
           simp only [nf]
           refine wpAnyH_done (by kernel_rfl) ?_ _
           refine lastQ_normal (wpOp_step rfl (fun K' hK => ?_))
           obtain ⟨g9, c9, hv9, hrs, hbx⟩ := HEND.out _ _ HO.out hS6
           subst hv9
           have HRS := Ld hrs
           have hz := hbx.frozen 4
           have hd := hbx.cell 4
           simp only [gz] at hd
           go_simp
           refine hK _ _ ?_
           clear hK K' hS6 hz hd hbx hrs HO
           go_wp2
           go_roundw
           case rel => exact ⟨j + 1, _, _, _, _, _, by go_num, rfl, rfl, by omega, HLN.out, HPN.out, HSN.out, HRS⟩
           case measure => simp [intOf]; omega
          ·go_simp
           have HQ : Hid (Reads (X1.alloc (.cells #[.string x.key, .int .i64 x'.k, .int .i64 x'.n, .string x'.s, .slice x'.lA x'.l.length x'.lc, .slice x'.mA x'.m.length x'.mc] 73)) (X1.alloc (.cells #[.string x.key, .int .i64 x'.k, .int .i64 x'.n, .string x'.s, .slice x'.lA x'.l.length x'.lc, .slice x'.mA x'.m.length x'.mc] 73)).heap.size 6 (some ⟨X1.heap.size, 0, none⟩) 1 ([x''].flatMap MV.pcs)) := Ld (one_reads HX2.out.2.2)
           have HOB := HO
           have HO := Ld (own_above HO.out (below_new X1 (.cells #[.string x.key, .int .i64 x'.k, .int .i64 x'.n, .string x'.s, .slice x'.lA x'.l.length x'.lc, .slice x'.mA x'.m.length x'.mc] 73)))
           refine hK.out _ _ (hS2.alloc hS2.size _) (fun hS3 => ?_)
           clear hK K' hS2
           generalize X1.alloc (.cells #[.string x.key, .int .i64 x'.k, .int .i64 x'.n, .string x'.s, .slice x'.lA x'.l.length x'.lc, .slice x'.mA x'.m.length x'.mc] 73) = X2 at HQ HO hS3 ⊢
           have HNQ : Hid (¬ X1.heap.size = W0.heap.size) := Ld (fun e => Nat.lt_irrefl _ (by have h9 := (World.ownsRow.lt HOB.out W0.heap.size rfl).2; rw [← e] at h9; exact h9))
           clear HOB
           refine rd1 5 rfl (fun K' hK => ?_)
           refine step_app_pairs X2 rfl (some 82) rfl _ _ rfl w6.heap.size (.slice (some ⟨W0.heap.size, 0, none⟩) 0 0) ([]) rfl HO.out A2 q c2 (m'.take q) rfl ((HRD.out _ hS3).1) (HTL.out) (by have := HJ2.out; simp; omega) hS3.size ?_
           intro v3 X3 ho hg
           have hs := hS3.grown hg hS3.size (fun k e => (World.ownsRow.lt HO.out k e).1)
           have HQ := Ld (reads_grown HQ.out hg (fun e => HNQ.out (by injection e)))
           refine hK.out _ _ hs (fun hS4 => ?_)
           clear hK K' hs hS3
           have HO := Ld ho
           clear ho hg
           simp only [nf]
           refine rd1 8 rfl (fun K' hK => ?_)
           refine step_app_pairs X3 rfl (some 85) rfl _ _ rfl w6.heap.size (v3) ([] ++ m'.take q) rfl HO.out (some ⟨X1.heap.size, 0, none⟩) 1 1 ([x'']) rfl (HQ.out) (rfl) (by have := HJ2.out; simp; omega) hS4.size ?_
           intro v4 X4 ho hg
           have hs := hS4.grown hg hS4.size (fun k e => (World.ownsRow.lt HO.out k e).1)
           refine hK.out _ _ hs (fun hS5 => ?_)
           clear hK K' hs hS4
           have HO := Ld ho
           clear ho hg
           simp only [nf]
           refine rd1 13 rfl (fun K' hK => ?_)
           refine step_app_pairs X4 rfl (some 90) rfl _ _ rfl w6.heap.size (v4) (([] ++ m'.take q) ++ [x'']) rfl HO.out A9 (j - q) (c2 - q) (m'.drop q) rfl ((HRD.out _ hS5).2) (HDL.out) (by have := HJ2.out; simp; omega) hS5.size ?_
           intro v5 X5 ho hg
           have hs := hS5.grown hg hS5.size (fun k e => (World.ownsRow.lt HO.out k e).1)
           refine hK.out _ _ hs (fun hS6 => ?_)
           clear hK K' hs hS5
           have HO := Ld ho
           clear ho hg
           simp only [nf]
           refine tk 14 (some 91) (.pointer (some ⟨w.heap.size + 1 + 1, 4, none⟩)) rfl (fun V hS => by go_simp) hS6 ?_
           simp only [nf]
           refine wpAnyH_done (by kernel_rfl) ?_ _
           refine lastQ_normal (wpOp_step rfl (fun K' hK => ?_))
           obtain ⟨g9, c9, hv9, hrs, hbx⟩ := HEND.out _ _ HO.out hS6
           subst hv9
           have HRS := Ld hrs
           have hz := hbx.frozen 4
           have hd := hbx.cell 4
           simp only [gz] at hd
           go_simp
           refine hK _ _ ?_
           clear hK K' hS6 hz hd hbx hrs HO
           go_wp2
           go_roundw
           case rel => exact ⟨j + 1, _, _, _, _, _, by go_num, rfl, rfl, by omega, HLN.out, HPN.out, HSN.out, HRS⟩
           case measure => simp [intOf]; omega
         ·go_simp
          have HQ : Hid (Reads (W0.alloc (.cells #[.string x.key, .int .i64 x'.k, .int .i64 x'.n, .string x'.s, .slice x'.lA x'.l.length x'.lc, .slice x'.mA x'.m.length x'.mc] 73)) (W0.alloc (.cells #[.string x.key, .int .i64 x'.k, .int .i64 x'.n, .string x'.s, .slice x'.lA x'.l.length x'.lc, .slice x'.mA x'.m.length x'.mc] 73)).heap.size 6 (some ⟨W0.heap.size, 0, none⟩) 1 ([x''].flatMap MV.pcs)) := Ld (one_reads HX2.out.2.2)
          refine hK.out _ _ (hS1.alloc hS1.size _) (fun hS2 => ?_)
          clear hK K' hS1
          generalize W0.alloc (.cells #[.string x.key, .int .i64 x'.k, .int .i64 x'.n, .string x'.s, .slice x'.lA x'.l.length x'.lc, .slice x'.mA x'.m.length x'.mc] 73) = X1 at HQ hS2 ⊢
          refine rd1 0 rfl (fun K' hK => ?_)
          go_simp
          have HO := Ld (own_empty X1 w6.heap.size hS2.size)
          have HQB := HQ
          have HQ : Hid (Reads (X1.alloc (.cells #[] 73)) (X1.alloc (.cells #[] 73)).heap.size 6 (some ⟨W0.heap.size, 0, none⟩) 1 ([x''].flatMap MV.pcs)) := Ld ((Reads.below HQ.out (below_new _ _)).more (below_new _ _).size)
          refine hK.out _ _ (hS2.alloc hS2.size _) (fun hS3 => ?_)
          clear hK K' hS2
          generalize X1.alloc (.cells #[] 73) = X2 at HO HQ hS3 ⊢
          have HNQ : Hid (¬ W0.heap.size = X1.heap.size) := Ld (one_lt HQB.out)
          clear HQB
          refine rd1 5 rfl (fun K' hK => ?_)
          refine step_app_pairs X2 rfl (some 82) rfl _ _ rfl w6.heap.size (.slice (some ⟨X1.heap.size, 0, none⟩) 0 0) ([]) rfl HO.out A2 q c2 (m'.take q) rfl ((HRD.out _ hS3).1) (HTL.out) (by have := HJ2.out; simp; omega) hS3.size ?_
          intro v3 X3 ho hg
          have hs := hS3.grown hg hS3.size (fun k e => (World.ownsRow.lt HO.out k e).1)
          have HQ := Ld (reads_grown HQ.out hg (fun e => HNQ.out (by injection e)))
          refine hK.out _ _ hs (fun hS4 => ?_)
          clear hK K' hs hS3
          have HO := Ld ho
          clear ho hg
          simp only [nf]
          refine rd1 8 rfl (fun K' hK => ?_)
          refine step_app_pairs X3 rfl (some 85) rfl _ _ rfl w6.heap.size (v3) ([] ++ m'.take q) rfl HO.out (some ⟨W0.heap.size, 0, none⟩) 1 1 ([x'']) rfl (HQ.out) (rfl) (by have := HJ2.out; simp; omega) hS4.size ?_
          intro v4 X4 ho hg
          have hs := hS4.grown hg hS4.size (fun k e => (World.ownsRow.lt HO.out k e).1)
          refine hK.out _ _ hs (fun hS5 => ?_)
          clear hK K' hs hS4
          have HO := Ld ho
          clear ho hg
          simp only [nf]
          refine rd1 13 rfl (fun K' hK => ?_)
          refine step_app_pairs X4 rfl (some 90) rfl _ _ rfl w6.heap.size (v4) (([] ++ m'.take q) ++ [x'']) rfl HO.out A9 (j - q) (c2 - q) (m'.drop q) rfl ((HRD.out _ hS5).2) (HDL.out) (by have := HJ2.out; simp; omega) hS5.size ?_
          intro v5 X5 ho hg
          have hs := hS5.grown hg hS5.size (fun k e => (World.ownsRow.lt HO.out k e).1)
          refine hK.out _ _ hs (fun hS6 => ?_)
          clear hK K' hs hS5
          have HO := Ld ho
          clear ho hg
          simp only [nf]
          refine tk 14 (some 91) (.pointer (some ⟨w.heap.size + 1 + 1, 4, none⟩)) rfl (fun V hS => by go_simp) hS6 ?_
          simp only [nf]
          refine wpAnyH_done (by kernel_rfl) ?_ _
          refine lastQ_normal (wpOp_step rfl (fun K' hK => ?_))
          obtain ⟨g9, c9, hv9, hrs, hbx⟩ := HEND.out _ _ HO.out hS6
          subst hv9
          have HRS := Ld hrs
          have hz := hbx.frozen 4
          have hd := hbx.cell 4
          simp only [gz] at hd
          go_simp
          refine hK _ _ ?_
          clear hK K' hS6 hz hd hbx hrs HO
          go_wp2
          go_roundw
          case rel => exact ⟨j + 1, _, _, _, _, _, by go_num, rfl, rfl, by omega, HLN.out, HPN.out, HSN.out, HRS⟩
          case measure => simp [intOf]; omega
        ·go_simp
         have HZ : Hid (Blk (W1.alloc (.cells #[.string ⟨#[]⟩, .int .i64 0, .int .i64 0, .string ⟨#[]⟩, .slice none 0 0, .slice none 0 0] 73)) W1.heap.size 73 #[.string ⟨#[]⟩, .int .i64 0, .int .i64 0, .string ⟨#[]⟩, .slice none 0 0, .slice none 0 0]) := Ld (Blk.new _ _ _)
         have HGE : Hid (w3.heap.size ≤ W1.heap.size) := Ld hS1.size
         refine hK.out _ _ (hS1.alloc hS1.size _) (fun hS2 => ?_)
         clear hK K' hS1
         generalize W1.alloc (.cells #[.string ⟨#[]⟩, .int .i64 0, .int .i64 0, .string ⟨#[]⟩, .slice none 0 0, .slice none 0 0] 73) = w4 at HZ hS2 ⊢
         generalize HG7E : W1.heap.size = g7 at HZ HGE ⊢
         clear HG7E
         refine rd1 12 rfl (fun K' hK => ?_)
         go_simp
         refine (HCC.out _ hS2).mono ?_
         rintro e w5 ⟨x', rfl, hpv, hvo, hb5⟩
         unfold MV.val
         have HPV := Ld hpv
         have HVO := Ld hvo
         have HBV := Ld hS2.size
         have HZB := HZ
         have HZ := Ld (HZ.out.below hb5 HZ.out.lt)
         have HXA : Hid (VAt w5 x' ∧ BlkP (fun b => ¬ b = g7) x' ∧ BlkP (w3.heap.size ≤ ·) x') := Ld ⟨HVO.out.at_, HVO.out.fr.mono (fun b hb e => by have h1 := HZB.out.lt; have hb' : w4.heap.size ≤ b := hb; omega), HVO.out.fr.mono (fun b hb => Nat.le_trans HBV.out hb)⟩
         clear hpv hvo HZB
         go_simp
         refine hK.out _ _ (hS2.trans (hb5.mono hS2.size)) (fun hS3 => ?_)
         clear hK K' hS2
         refine tk 13 (some 76) (.agg #[.string x.key, .int .i64 x'.k, .int .i64 x'.n, .string x'.s, .slice x'.lA x'.l.length x'.lc, .slice x'.mA x'.m.length x'.mc]) rfl (fun V hS => by go_simp) hS3 ?_
         simp only [nf]
         refine wpAnyH_done (by kernel_rfl) ?_ _
         refine lastQ_normal (wpOp_step rfl (fun K' hK => ?_))
         obtain ⟨z0, z1, z2, z3, z4, z5⟩ := six_cells HZ.out
         obtain ⟨y0, y1, y2, y3, y4, y5⟩ := six_fr HZ.out
         have HZ6 := Ld (blk_six (a := Value.string x.key) (b := Value.int .i64 x'.k) (c := Value.int .i64 x'.n) (d := Value.string x'.s) (e := Value.slice x'.lA x'.l.length x'.lc) (f := Value.slice x'.mA x'.m.length x'.mc) HZ.out)
         have HF6 := Ld (fr_six (w := w5) (g := g7) (a := Value.string x.key) (b := Value.int .i64 x'.k) (c := Value.int .i64 x'.n) (d := Value.string x'.s) (e := Value.slice x'.lA x'.l.length x'.lc) (f := Value.slice x'.mA x'.m.length x'.mc))
         have HB6 := Ld (Fr.below_trans hS3 HF6.out hS3.size (fun k e => by rw [show k = g7 from e]; exact HGE.out))
         go_simp
         refine hK _ _ ?_
         clear hK K' hS3 z0 z1 z2 z3 z4 z5 y0 y1 y2 y3 y4 y5
         have HX6 := Ld (HXA.out.1.fr HF6.out HXA.out.2.1)
         generalize ((((((w5.setCell ⟨g7, 0, none⟩ (Value.string x.key)).setCell ⟨g7, 1, none⟩ (Value.int .i64 x'.k)).setCell ⟨g7, 2, none⟩ (Value.int .i64 x'.n)).setCell ⟨g7, 3, none⟩ (Value.string x'.s)).setCell ⟨g7, 4, none⟩ (Value.slice x'.lA x'.l.length x'.lc)).setCell ⟨g7, 5, none⟩ (Value.slice x'.mA x'.m.length x'.mc)) = w6 at HZ6 HF6 HB6 HX6 ⊢
         obtain ⟨x'', hx''⟩ : ∃ x'' : MV, x'' = .mk x.key x'.k x'.n x'.s x'.lA x'.lc x'.l x'.mA x'.mc x'.m := ⟨_, rfl⟩
         have HX2 : Hid (x''.key = x.key ∧ x''.pv = x'.pv ∧ (MV.pcs x'').toArray = #[.string x.key, .int .i64 x'.k, .int .i64 x'.n, .string x'.s, .slice x'.lA x'.l.length x'.lc, .slice x'.mA x'.m.length x'.mc]) := Ld (by rw [hx'']; exact ⟨rfl, by cases x'; rfl, rfl⟩)
         have HX3 : Hid (VAt w6 x'' ∧ BlkP (w3.heap.size ≤ ·) x'') := Ld (by rw [hx'']; exact ⟨HX6.out.rekey, HXA.out.2.2.rekey⟩)
         clear hx''
         have HR6 := Ld (HRT.out.below HB6.out)
         have HSW : Hid (∀ V, Below w6.heap.size w6 V → (V.cell? ⟨g7, 0, none⟩ = some (.string x.key) ∧ V.cell? ⟨g7, 1, none⟩ = some (.int .i64 x'.k) ∧ V.cell? ⟨g7, 2, none⟩ = some (.int .i64 x'.n) ∧ V.cell? ⟨g7, 3, none⟩ = some (.string x'.s) ∧ V.cell? ⟨g7, 4, none⟩ = some (.slice x'.lA x'.l.length x'.lc) ∧ V.cell? ⟨g7, 5, none⟩ = some (.slice x'.mA x'.m.length x'.mc)) ∧ V.cell? ⟨w.heap.size + 1 + 1, 4, none⟩ = some (.slice A2 j c2)) := Ld (fun V hV => ⟨six_cells (HZ6.out.below hV HZ6.out.lt), (HR6.out.box.below hV HR6.out.box.lt).cell 4⟩)
         have HRD : Hid (∀ V, Below w6.heap.size w6 V → Reads V V.heap.size 6 A2 q ((m'.take q).flatMap MV.pcs) ∧ Reads V V.heap.size 6 A9 (j - q) ((m'.drop q).flatMap MV.pcs)) := Ld (fun V hV => by
          have h9 := (HR6.out.below hV).rm.reads HLM.out
          refine ⟨?_, ?_⟩
          ·rw [← flat_take (size := 6) (fun _ => rfl)]
           exact Reads.head h9 (by have := HQJ.out; omega)
          ·rw [← flat_drop (size := 6) (fun _ => rfl)]
           have h8 := Reads.cut (k := q) (cap := c2) h9 HQJ.out HJC.out
           rcases HCS.out with ⟨e1, e2⟩ | ⟨e1, e2⟩
           ·rw [if_pos e1] at h8; rw [e2]; exact h8
           ·rw [if_neg e1] at h8; rw [e2]; exact h8)
         have HTL : Hid ((m'.take q).length = q) := Ld (by rw [List.length_take, HLM.out]; have := HQJ.out; omega)
         have HDL : Hid ((m'.drop q).length = j - q) := Ld (by rw [List.length_drop, HLM.out])
         have HLN : Hid (Hid ((((([] : List MV) ++ m'.take q) ++ [x'']) ++ m'.drop q).length = j + 1)) := Ld (Ld (by
          have h1 := HTL.out
          have h2 := HDL.out
          have h3 := HQJ.out
          simp only [List.nil_append, List.length_append, List.length_cons, List.length_nil, h1, h2]
          omega))
         have HPN : Hid (Hid (((((([] : List MV) ++ m'.take q) ++ [x'']) ++ m'.drop q).map (fun x => (x.key, x.pv))).Perm (tgt.take (j + 1)))) := Ld (Ld (by
          rw [List.nil_append]
          refine ((perm_ins (t := m'.take q) (d := m'.drop q) (x := x'')).map (fun x => (x.key, x.pv))).trans ?_
          rw [List.take_append_drop, List.map_append, HTK.out]
          refine List.Perm.append HPM.out ?_
          simp only [List.map_cons, List.map_nil]
          rw [HX2.out.1, HX2.out.2.1, HPV.out]))
         have HSN : Hid (Hid ((((([] : List MV) ++ m'.take q) ++ [x'']) ++ m'.drop q).Pairwise (fun a b => bl b.key a.key = false))) := Ld (Ld (by
          rw [List.nil_append]
          refine ins_rising (by rw [List.take_append_drop]; exact HPW.out) (fun b hb => ?_) (fun a ha => ?_)
          ·rw [HX2.out.1]; exact HGT.out b hb
          ·rw [HX2.out.1]; exact HLT.out a ha))
         have HEND : Hid (∀ v W, W.ownsRow w6.heap.size 73 6 v (((([] : List MV) ++ m'.take q) ++ [x'']) ++ m'.drop q).length ((((([] : List MV) ++ m'.take q) ++ [x'']) ++ m'.drop q).flatMap MV.pcs) → Below w6.heap.size w6 W → ∃ g9 c9, v = .slice (some ⟨g9, 0, none⟩) (j + 1) c9 ∧ RSt w w.heap.size W3.heap.size k n s #[.int .i64 k, .int .i64 n, .string s, .slice lA nl lc, .slice (some ⟨b, o, none⟩) nm mc] (.slice A1 n1 c1) (.slice (some ⟨g9, 0, none⟩) (j + 1) c9) l' (((([] : List MV) ++ m'.take q) ++ [x'']) ++ m'.drop q) (W.setCell ⟨w.heap.size + 1 + 1, 4, none⟩ (.slice (some ⟨g9, 0, none⟩) (j + 1) c9)) ∧ Blk W (w.heap.size + 1 + 1) 30 #[.int .i64 k, .int .i64 n, .string s, (.slice A1 n1 c1), .slice A2 j c2]) := Ld (fun v W hrow hW => by
          rw [HLN.out.out] at hrow
          obtain ⟨g9, c9, hv, _, _⟩ := hrow.form (by omega)
          refine ⟨g9, c9, hv, ?_⟩
          rw [hv, ← HLN.out.out] at hrow
          have hm9 : ∀ y ∈ ((([] : List MV) ++ m'.take q) ++ [x'']) ++ m'.drop q, VAt w6 y ∧ BlkP (W3.heap.size ≤ ·) y ∧ BlkP (fun b => ¬ (Value.slice A1 n1 c1).ownBlock = some b) y := fun y hy => by
           rw [List.nil_append, List.mem_append, List.mem_append, List.mem_singleton] at hy
           rcases hy with (hy | hy) | hy
           ·have hy := List.mem_of_mem_take hy
            exact ⟨HR6.out.rm.at_ y hy, HR6.out.rm.fr y hy, HR6.out.ml y hy⟩
           ·subst hy
            exact ⟨HX3.out.1, HX3.out.2.mono (fun b hb => Nat.le_trans HRT.out.bs.2 hb), HX3.out.2.mono (fun b hb e => by have hb' : w3.heap.size ≤ b := hb; have := HRT.out.rl.ltS b e; omega)⟩
           ·have hy := List.mem_of_mem_drop hy
            exact ⟨HR6.out.rm.at_ y hy, HR6.out.rm.fr y hy, HR6.out.ml y hy⟩
          obtain ⟨k1, k2⟩ := HR6.out.newM hW hrow hm9 (Nat.le_refl _)
          rw [HLN.out.out] at k1
          exact ⟨k1, k2⟩)
         clear HF6 HB6 HX6 HZ HXA HGE HVO HBV HRT HZ6
         go_wp2_with fail
         refine wp_region_last (S := fun V => Below w6.heap.size w6 V) (st := 15) (n := 15) (by kernel_rfl) rfl (by kernel_rfl) rfl ((Below.refl _ _).drew) (fun hS1 => ?_)
         generalize w6.drew = W0 at hS1 ⊢
         refine tk 1 (some 78) (.pointer (some ⟨w.heap.size + 1 + 1, 4, none⟩)) rfl (fun V hS => by go_simp) hS1 ?_
         simp only [nf]
         refine tk 2 (some 79) (.slice A2 j c2) rfl (fun V hS => by obtain ⟨⟨h0, h1, h2, h3, h4, h5⟩, h6⟩ := HSW.out V hS; go_simp) hS1 ?_
         simp only [nf]
         refine tk 3 (some 80) (.int .i64 (q : Int)) rfl (fun V hS => by go_simp) hS1 ?_
         simp only [nf]
         refine tk 4 (some 81) (.slice A2 q c2) rfl (fun V hS => by go_simp) hS1 ?_
         simp only [nf]
         refine tk 6 (some 83) (.agg #[.string x.key, .int .i64 x'.k, .int .i64 x'.n, .string x'.s, .slice x'.lA x'.l.length x'.lc, .slice x'.mA x'.m.length x'.mc]) rfl (fun V hS => by obtain ⟨⟨h0, h1, h2, h3, h4, h5⟩, h6⟩ := HSW.out V hS; go_simp) hS1 ?_
         simp only [nf]
         refine tk 9 (some 86) (.pointer (some ⟨w.heap.size + 1 + 1, 4, none⟩)) rfl (fun V hS => by go_simp) hS1 ?_
         simp only [nf]
         refine tk 10 (some 87) (.slice A2 j c2) rfl (fun V hS => by obtain ⟨⟨h0, h1, h2, h3, h4, h5⟩, h6⟩ := HSW.out V hS; go_simp) hS1 ?_
         simp only [nf]
         refine tk 11 (some 88) (.int .i64 (q : Int)) rfl (fun V hS => by go_simp) hS1 ?_
         simp only [nf]
         refine tk 12 (some 89) (.slice A9 (j - q) (c2 - q)) rfl (fun V hS => by rcases HCS.out with ⟨e1, e2⟩ | ⟨e1, e2⟩ <;> (rw [e2]; go_simp)) hS1 ?_
         simp only [nf]
         refine wpAnyH_ready (rs := [0, 7]) (by kernel_rfl) (by simp) ?_
         refine AllReadyH.cons rfl (fun K' hK => ?_) (AllReadyH.cons rfl (fun K' hK => ?_) AllReadyH.nil)
         ·go_simp
          have HO := Ld (own_empty W0 w6.heap.size hS1.size)
          refine hK.out _ _ (hS1.alloc hS1.size _) (fun hS2 => ?_)
          clear hK K' hS1
          generalize W0.alloc (.cells #[] 73) = X1 at HO hS2 ⊢
          refine wpAnyH_ready (rs := [5, 7]) (by kernel_rfl) (by simp) ?_
          refine AllReadyH.cons rfl (fun K' hK => ?_) (AllReadyH.cons rfl (fun K' hK => ?_) AllReadyH.nil)
          ·refine step_app_pairs X1 rfl (some 82) rfl _ _ rfl w6.heap.size (.slice (some ⟨W0.heap.size, 0, none⟩) 0 0) ([]) rfl HO.out A2 q c2 (m'.take q) rfl ((HRD.out _ hS2).1) (HTL.out) (by have := HJ2.out; simp; omega) hS2.size ?_
           intro v2 X2 ho hg
           have hs := hS2.grown hg hS2.size (fun k e => (World.ownsRow.lt HO.out k e).1)
           refine hK.out _ _ hs (fun hS3 => ?_)
           clear hK K' hs hS2
           have HO := Ld ho
           clear ho hg
           simp only [nf]
           refine rd1 7 rfl (fun K' hK => ?_)
           go_simp
           have HQ : Hid (Reads (X2.alloc (.cells #[.string x.key, .int .i64 x'.k, .int .i64 x'.n, .string x'.s, .slice x'.lA x'.l.length x'.lc, .slice x'.mA x'.m.length x'.mc] 73)) (X2.alloc (.cells #[.string x.key, .int .i64 x'.k, .int .i64 x'.n, .string x'.s, .slice x'.lA x'.l.length x'.lc, .slice x'.mA x'.m.length x'.mc] 73)).heap.size 6 (some ⟨X2.heap.size, 0, none⟩) 1 ([x''].flatMap MV.pcs)) := Ld (one_reads HX2.out.2.2)
           have HO := Ld (own_above HO.out (below_new X2 (.cells #[.string x.key, .int .i64 x'.k, .int .i64 x'.n, .string x'.s, .slice x'.lA x'.l.length x'.lc, .slice x'.mA x'.m.length x'.mc] 73)))
           refine hK.out _ _ (hS3.alloc hS3.size _) (fun hS4 => ?_)
           clear hK K' hS3
           generalize X2.alloc (.cells #[.string x.key, .int .i64 x'.k, .int .i64 x'.n, .string x'.s, .slice x'.lA x'.l.length x'.lc, .slice x'.mA x'.m.length x'.mc] 73) = X3 at HQ HO hS4 ⊢
           refine rd1 8 rfl (fun K' hK => ?_)
           refine step_app_pairs X3 rfl (some 85) rfl _ _ rfl w6.heap.size (v2) ([] ++ m'.take q) rfl HO.out (some ⟨X2.heap.size, 0, none⟩) 1 1 ([x'']) rfl (HQ.out) (rfl) (by have := HJ2.out; simp; omega) hS4.size ?_
           intro v4 X4 ho hg
           have hs := hS4.grown hg hS4.size (fun k e => (World.ownsRow.lt HO.out k e).1)
           refine hK.out _ _ hs (fun hS5 => ?_)
           clear hK K' hs hS4
           have HO := Ld ho
           clear ho hg
           simp only [nf]
           refine rd1 13 rfl (fun K' hK => ?_)
           refine step_app_pairs X4 rfl (some 90) rfl _ _ rfl w6.heap.size (v4) (([] ++ m'.take q) ++ [x'']) rfl HO.out A9 (j - q) (c2 - q) (m'.drop q) rfl ((HRD.out _ hS5).2) (HDL.out) (by have := HJ2.out; simp; omega) hS5.size ?_
           intro v5 X5 ho hg
           have hs := hS5.grown hg hS5.size (fun k e => (World.ownsRow.lt HO.out k e).1)
           refine hK.out _ _ hs (fun hS6 => ?_)
           clear hK K' hs hS5
           have HO := Ld ho
           clear ho hg
           simp only [nf]
           refine tk 14 (some 91) (.pointer (some ⟨w.heap.size + 1 + 1, 4, none⟩)) rfl (fun V hS => by go_simp) hS6 ?_
           simp only [nf]
           refine wpAnyH_done (by kernel_rfl) ?_ _
           refine lastQ_normal (wpOp_step rfl (fun K' hK => ?_))
           obtain ⟨g9, c9, hv9, hrs, hbx⟩ := HEND.out _ _ HO.out hS6
           subst hv9
           have HRS := Ld hrs
           have hz := hbx.frozen 4
           have hd := hbx.cell 4
           simp only [gz] at hd
           go_simp
           refine hK _ _ ?_
           clear hK K' hS6 hz hd hbx hrs HO
           go_wp2
           go_roundw
           case rel => exact ⟨j + 1, _, _, _, _, _, by go_num, rfl, rfl, by omega, HLN.out, HPN.out, HSN.out, HRS⟩
           case measure => simp [intOf]; omega
          ·go_simp
           have HQ : Hid (Reads (X1.alloc (.cells #[.string x.key, .int .i64 x'.k, .int .i64 x'.n, .string x'.s, .slice x'.lA x'.l.length x'.lc, .slice x'.mA x'.m.length x'.mc] 73)) (X1.alloc (.cells #[.string x.key, .int .i64 x'.k, .int .i64 x'.n, .string x'.s, .slice x'.lA x'.l.length x'.lc, .slice x'.mA x'.m.length x'.mc] 73)).heap.size 6 (some ⟨X1.heap.size, 0, none⟩) 1 ([x''].flatMap MV.pcs)) := Ld (one_reads HX2.out.2.2)
           have HOB := HO
           have HO := Ld (own_above HO.out (below_new X1 (.cells #[.string x.key, .int .i64 x'.k, .int .i64 x'.n, .string x'.s, .slice x'.lA x'.l.length x'.lc, .slice x'.mA x'.m.length x'.mc] 73)))
           refine hK.out _ _ (hS2.alloc hS2.size _) (fun hS3 => ?_)
           clear hK K' hS2
           generalize X1.alloc (.cells #[.string x.key, .int .i64 x'.k, .int .i64 x'.n, .string x'.s, .slice x'.lA x'.l.length x'.lc, .slice x'.mA x'.m.length x'.mc] 73) = X2 at HQ HO hS3 ⊢
           have HNQ : Hid (¬ X1.heap.size = W0.heap.size) := Ld (fun e => Nat.lt_irrefl _ (by have h9 := (World.ownsRow.lt HOB.out W0.heap.size rfl).2; rw [← e] at h9; exact h9))
           clear HOB
           refine rd1 5 rfl (fun K' hK => ?_)
           refine step_app_pairs X2 rfl (some 82) rfl _ _ rfl w6.heap.size (.slice (some ⟨W0.heap.size, 0, none⟩) 0 0) ([]) rfl HO.out A2 q c2 (m'.take q) rfl ((HRD.out _ hS3).1) (HTL.out) (by have := HJ2.out; simp; omega) hS3.size ?_
           intro v3 X3 ho hg
           have hs := hS3.grown hg hS3.size (fun k e => (World.ownsRow.lt HO.out k e).1)
           have HQ := Ld (reads_grown HQ.out hg (fun e => HNQ.out (by injection e)))
           refine hK.out _ _ hs (fun hS4 => ?_)
           clear hK K' hs hS3
           have HO := Ld ho
           clear ho hg
           simp only [nf]
           refine rd1 8 rfl (fun K' hK => ?_)
           refine step_app_pairs X3 rfl (some 85) rfl _ _ rfl w6.heap.size (v3) ([] ++ m'.take q) rfl HO.out (some ⟨X1.heap.size, 0, none⟩) 1 1 ([x'']) rfl (HQ.out) (rfl) (by have := HJ2.out; simp; omega) hS4.size ?_
           intro v4 X4 ho hg
           have hs := hS4.grown hg hS4.size (fun k e => (World.ownsRow.lt HO.out k e).1)
           refine hK.out _ _ hs (fun hS5 => ?_)
           clear hK K' hs hS4
           have HO := Ld ho
           clear ho hg
           simp only [nf]
           refine rd1 13 rfl (fun K' hK => ?_)
           refine step_app_pairs X4 rfl (some 90) rfl _ _ rfl w6.heap.size (v4) (([] ++ m'.take q) ++ [x'']) rfl HO.out A9 (j - q) (c2 - q) (m'.drop q) rfl ((HRD.out _ hS5).2) (HDL.out) (by have := HJ2.out; simp; omega) hS5.size ?_
           intro v5 X5 ho hg
           have hs := hS5.grown hg hS5.size (fun k e => (World.ownsRow.lt HO.out k e).1)
           refine hK.out _ _ hs (fun hS6 => ?_)
           clear hK K' hs hS5
           have HO := Ld ho
           clear ho hg
           simp only [nf]
           refine tk 14 (some 91) (.pointer (some ⟨w.heap.size + 1 + 1, 4, none⟩)) rfl (fun V hS => by go_simp) hS6 ?_
           simp only [nf]
           refine wpAnyH_done (by kernel_rfl) ?_ _
           refine lastQ_normal (wpOp_step rfl (fun K' hK => ?_))
           obtain ⟨g9, c9, hv9, hrs, hbx⟩ := HEND.out _ _ HO.out hS6
           subst hv9
           have HRS := Ld hrs
           have hz := hbx.frozen 4
           have hd := hbx.cell 4
           simp only [gz] at hd
           go_simp
           refine hK _ _ ?_
           clear hK K' hS6 hz hd hbx hrs HO
           go_wp2
           go_roundw
           case rel => exact ⟨j + 1, _, _, _, _, _, by go_num, rfl, rfl, by omega, HLN.out, HPN.out, HSN.out, HRS⟩
           case measure => simp [intOf]; omega
         ·go_simp
          have HQ : Hid (Reads (W0.alloc (.cells #[.string x.key, .int .i64 x'.k, .int .i64 x'.n, .string x'.s, .slice x'.lA x'.l.length x'.lc, .slice x'.mA x'.m.length x'.mc] 73)) (W0.alloc (.cells #[.string x.key, .int .i64 x'.k, .int .i64 x'.n, .string x'.s, .slice x'.lA x'.l.length x'.lc, .slice x'.mA x'.m.length x'.mc] 73)).heap.size 6 (some ⟨W0.heap.size, 0, none⟩) 1 ([x''].flatMap MV.pcs)) := Ld (one_reads HX2.out.2.2)
          refine hK.out _ _ (hS1.alloc hS1.size _) (fun hS2 => ?_)
          clear hK K' hS1
          generalize W0.alloc (.cells #[.string x.key, .int .i64 x'.k, .int .i64 x'.n, .string x'.s, .slice x'.lA x'.l.length x'.lc, .slice x'.mA x'.m.length x'.mc] 73) = X1 at HQ hS2 ⊢
          refine rd1 0 rfl (fun K' hK => ?_)
          go_simp
          have HO := Ld (own_empty X1 w6.heap.size hS2.size)
          have HQB := HQ
          have HQ : Hid (Reads (X1.alloc (.cells #[] 73)) (X1.alloc (.cells #[] 73)).heap.size 6 (some ⟨W0.heap.size, 0, none⟩) 1 ([x''].flatMap MV.pcs)) := Ld ((Reads.below HQ.out (below_new _ _)).more (below_new _ _).size)
          refine hK.out _ _ (hS2.alloc hS2.size _) (fun hS3 => ?_)
          clear hK K' hS2
          generalize X1.alloc (.cells #[] 73) = X2 at HO HQ hS3 ⊢
          have HNQ : Hid (¬ W0.heap.size = X1.heap.size) := Ld (one_lt HQB.out)
          clear HQB
          refine rd1 5 rfl (fun K' hK => ?_)
          refine step_app_pairs X2 rfl (some 82) rfl _ _ rfl w6.heap.size (.slice (some ⟨X1.heap.size, 0, none⟩) 0 0) ([]) rfl HO.out A2 q c2 (m'.take q) rfl ((HRD.out _ hS3).1) (HTL.out) (by have := HJ2.out; simp; omega) hS3.size ?_
          intro v3 X3 ho hg
          have hs := hS3.grown hg hS3.size (fun k e => (World.ownsRow.lt HO.out k e).1)
          have HQ := Ld (reads_grown HQ.out hg (fun e => HNQ.out (by injection e)))
          refine hK.out _ _ hs (fun hS4 => ?_)
          clear hK K' hs hS3
          have HO := Ld ho
          clear ho hg
          simp only [nf]
          refine rd1 8 rfl (fun K' hK => ?_)
          refine step_app_pairs X3 rfl (some 85) rfl _ _ rfl w6.heap.size (v3) ([] ++ m'.take q) rfl HO.out (some ⟨W0.heap.size, 0, none⟩) 1 1 ([x'']) rfl (HQ.out) (rfl) (by have := HJ2.out; simp; omega) hS4.size ?_
          intro v4 X4 ho hg
          have hs := hS4.grown hg hS4.size (fun k e => (World.ownsRow.lt HO.out k e).1)
          refine hK.out _ _ hs (fun hS5 => ?_)
          clear hK K' hs hS4
          have HO := Ld ho
          clear ho hg
          simp only [nf]
          refine rd1 13 rfl (fun K' hK => ?_)
          refine step_app_pairs X4 rfl (some 90) rfl _ _ rfl w6.heap.size (v4) (([] ++ m'.take q) ++ [x'']) rfl HO.out A9 (j - q) (c2 - q) (m'.drop q) rfl ((HRD.out _ hS5).2) (HDL.out) (by have := HJ2.out; simp; omega) hS5.size ?_
          intro v5 X5 ho hg
          have hs := hS5.grown hg hS5.size (fun k e => (World.ownsRow.lt HO.out k e).1)
          refine hK.out _ _ hs (fun hS6 => ?_)
          clear hK K' hs hS5
          have HO := Ld ho
          clear ho hg
          simp only [nf]
          refine tk 14 (some 91) (.pointer (some ⟨w.heap.size + 1 + 1, 4, none⟩)) rfl (fun V hS => by go_simp) hS6 ?_
          simp only [nf]
          refine wpAnyH_done (by kernel_rfl) ?_ _
          refine lastQ_normal (wpOp_step rfl (fun K' hK => ?_))
          obtain ⟨g9, c9, hv9, hrs, hbx⟩ := HEND.out _ _ HO.out hS6
          subst hv9
          have HRS := Ld hrs
          have hz := hbx.frozen 4
          have hd := hbx.cell 4
          simp only [gz] at hd
          go_simp
          refine hK _ _ ?_
          clear hK K' hS6 hz hd hbx hrs HO
          go_wp2
          go_roundw
          case rel => exact ⟨j + 1, _, _, _, _, _, by go_num, rfl, rfl, by omega, HLN.out, HPN.out, HSN.out, HRS⟩
          case measure => simp [intOf]; omega
    ·have q5 : decide ((j : Int) < (nm : Int)) = false := by rw [decide_eq_false_iff_not]; omega
     have q5' : decide (j < nm) = false := by rw [decide_eq_false_iff_not]; omega
     have HEQ : Hid (m'.map (fun x => (x.key, x.pv)) = isortP tgt) := Ld (by
      have h1 := HPM.out
      rw [heq, List.take_of_length_le (by rw [HTG.out, List.length_map, HNM.out]; exact Nat.le_refl _)] at h1
      refine ks_uniq ?_ (isortP_sorted _) (h1.trans (isortP_perm _).symm) ?_
      ·unfold KS
       rw [List.pairwise_map]
       exact HPW.out
      ·exact ((isortP_perm tgt).map (·.1)).nodup_iff.2 HKN.out)
     have HCE := Ld HC.out
     obtain ⟨s0, s1, s2, s3, s4⟩ := five_cells HC.out.box
     obtain ⟨t0, t1, t2, t3, t4⟩ := five_cells HC.out.out
     obtain ⟨z0, z1, z2, z3, z4⟩ := five_fr HC.out.out
     have HFIN := Ld (HC.out.fin (wf := (((((wo.setCell ⟨w.heap.size + 1, 0, none⟩ (.int .i64 k)).setCell ⟨w.heap.size + 1, 1, none⟩ (.int .i64 n)).setCell ⟨w.heap.size + 1, 2, none⟩ (.string s)).setCell ⟨w.heap.size + 1, 3, none⟩ (.slice A1 n1 c1)).setCell ⟨w.heap.size + 1, 4, none⟩ (.slice A2 j c2))) fr_five HWK.out.1 HWK.out.2 (p := (MV.mk key k n s lA lc l mA mc m).pv.sort) (by rw [HSRT.out, ← HEQ.out, List.map_map, List.map_map, HPE.out, pvL_map m']; rfl))
     have HKF := Ld (blk_five (a := .int .i64 k) (b := .int .i64 n) (c := .string s) (d := .slice A1 n1 c1) (e := .slice A2 j c2) HC.out.out)
     clear heq HC
     go_wp2
     generalize (((((wo.setCell ⟨w.heap.size + 1, 0, none⟩ (.int .i64 k)).setCell ⟨w.heap.size + 1, 1, none⟩ (.int .i64 n)).setCell ⟨w.heap.size + 1, 2, none⟩ (.string s)).setCell ⟨w.heap.size + 1, 3, none⟩ (.slice A1 n1 c1)).setCell ⟨w.heap.size + 1, 4, none⟩ (.slice A2 j c2)) = Wf at HKF HFIN ⊢
     obtain ⟨k0, k1, k2, k3, k4⟩ := five_cells HKF.out
     obtain ⟨v9, f1, f2, f3, f4⟩ := HFIN.out
     refine bodyPost_ret (v := .agg #[.int .i64 k, .int .i64 n, .string s, (.slice A1 n1 c1), .slice A2 j c2]) (by simp [results, Tryz.results51, go_sem, k0, k1, k2, k3, k4]) rfl ?_
     exact ⟨v9, by rw [f1], f2, f3, f4⟩
theorem rsort_any {w0 : World} {v : MV} (h : VAt w0 v) : OkP v.pv → v.pv.right = true → ∀ (w : World), Below w0.heap.size w0 w → Calls Tryz.prog 51 #[v.val] w fun e w' => PF (OwP v.pv.sort w) e w' := by
 induction h with
 | mk a b c d e f g h i j ih1 ih2 =>
  intro hok hr
  have hr' := hr
  rw [MV.pv] at hr'
  have hp := rightP hr'
  rw [rightL_all, rightL_all, List.all_eq_true, List.all_eq_true] at hp
  exact rsort_one (.mk a b c d e f g h i j) hok hr (fun x hx => (List.mem_append.1 hx).elim (fun hx => ih1 x hx (hok.l x hx) (hp.2.2.2.1 _ (pvL_mem.2 ⟨x, hx, rfl⟩))) (fun hx => ih2 x hx (hok.m x hx) (hp.2.2.2.2 _ (pvL_mem.2 ⟨x, hx, rfl⟩))))
set_option maxRecDepth 100000 in
set_option maxHeartbeats 2000000 in
theorem rsame_any {a b : MV} {w : World} (h : Fine w a) (h' : Fine w b) : Calls Tryz.prog 17 #[a.val, b.val] w fun e w' => PF (RiP (sameP a.pv b.pv) w) e w' := by
 obtain ⟨WX, hWX⟩ : ∃ WX, WX = ((w.alloc (.cells #[.int .i64 a.k, .int .i64 a.n, .string a.s, .slice a.lA a.l.length a.lc, .slice a.mA a.m.length a.mc] 30)).alloc (.cells #[.int .i64 b.k, .int .i64 b.n, .string b.s, .slice b.lA b.l.length b.lc, .slice b.mA b.m.length b.mc] 30)) := ⟨_, rfl⟩
 have hb2 : Below w.heap.size w WX := by rw [hWX]; exact below_al _ (below_new _ _)
 have hkx : Blk WX w.heap.size 30 #[.int .i64 a.k, .int .i64 a.n, .string a.s, .slice a.lA a.l.length a.lc, .slice a.mA a.m.length a.mc] := by rw [hWX]; exact (Blk.new _ _ _).alloc _
 have hky : Blk WX (w.heap.size + 1) 30 #[.int .i64 b.k, .int .i64 b.n, .string b.s, .slice b.lA b.l.length b.lc, .slice b.mA b.m.length b.mc] := by
  rw [hWX]
  have h2 := Blk.new (w.alloc (.cells #[.int .i64 a.k, .int .i64 a.n, .string a.s, .slice a.lA a.l.length a.lc, .slice a.mA a.m.length a.mc] 30)) 30 #[.int .i64 b.k, .int .i64 b.n, .string b.s, .slice b.lA b.l.length b.lc, .slice b.mA b.m.length b.mc]
  simpa using h2
 have hc := fun V (hV : Below WX.heap.size WX V) => rcheck_any ((h.bel hb2).bel hV)
 have hc' := fun V (hV : Below WX.heap.size WX V) => rcheck_any ((h'.bel hb2).bel hV)
 obtain ⟨C, hC⟩ : ∃ C, C = a.pv.chk := ⟨_, rfl⟩
 obtain ⟨D, hD⟩ : ∃ D, D = b.pv.chk := ⟨_, rfl⟩
 have hs : C = 0 → ∀ V (hV : Below WX.heap.size WX V), Calls Tryz.prog 51 #[a.val] V fun e w' => PF (OwP a.pv.sort V) e w' := fun e V hV => rsort_any ((h.at_.bel hb2).bel hV) h.ok (chk_zero.1 (hC.symm.trans e)).2.2 V (Below.refl _ _)
 have hs' : D = 0 → ∀ V (hV : Below WX.heap.size WX V), Calls Tryz.prog 51 #[b.val] V fun e w' => PF (OwP b.pv.sort V) e w' := fun e V hV => rsort_any ((h'.at_.bel hb2).bel hV) h'.ok (chk_zero.1 (hD.symm.trans e)).2.2 V (Below.refl _ _)
 obtain ⟨R, hR⟩ : ∃ R, R = sameP a.pv b.pv := ⟨_, rfl⟩
 rw [← hC] at hc
 rw [← hD] at hc'
 rw [← hR]
 have HR : Hid (R = (decide (C = 0) && (decide (D = 0) && decide (a.pv.sort = b.pv.sort)))) := Ld (by rw [hR, hC, hD]; rfl)
 unfold MV.val at hc hc' hs hs' ⊢
 have HC := Ld hc
 have HD := Ld hc'
 have HS := Ld hs
 have HS' := Ld hs'
 have HBX := Ld hb2
 have HWX := Ld hWX
 have HSV : Hid (∀ V, Below WX.heap.size WX V → (V.cell? ⟨w.heap.size, 0, none⟩ = some (.int .i64 a.k) ∧ V.cell? ⟨w.heap.size, 1, none⟩ = some (.int .i64 a.n) ∧ V.cell? ⟨w.heap.size, 2, none⟩ = some (.string a.s) ∧ V.cell? ⟨w.heap.size, 3, none⟩ = some (.slice a.lA a.l.length a.lc) ∧ V.cell? ⟨w.heap.size, 4, none⟩ = some (.slice a.mA a.m.length a.mc)) ∧ (V.cell? ⟨w.heap.size + 1, 0, none⟩ = some (.int .i64 b.k) ∧ V.cell? ⟨w.heap.size + 1, 1, none⟩ = some (.int .i64 b.n) ∧ V.cell? ⟨w.heap.size + 1, 2, none⟩ = some (.string b.s) ∧ V.cell? ⟨w.heap.size + 1, 3, none⟩ = some (.slice b.lA b.l.length b.lc) ∧ V.cell? ⟨w.heap.size + 1, 4, none⟩ = some (.slice b.mA b.m.length b.mc))) := Ld (fun V hV => ⟨five_cells (hkx.below hV hkx.lt), five_cells (hky.below hV hky.lt)⟩)
 clear hc hc' hs hs' h h' hC hD hR hb2 hWX hkx hky
 by_cases h0 : C = 0
 rotate_left
 ·have q1 : (C == 0) = false := by rw [beq_eq_false_iff_ne]; exact h0
  have HF : Hid (R = false) := Ld (by rw [HR.out, decide_eq_false h0]; rfl)
  clear h0
  go_enter Tryz.func17, Tryz.ntmps17
  go_wp2
  rw [← HWX.out]
  refine wp_region_held_drew (S := fun V => Below WX.heap.size WX V) (by kernel_rfl) ((Below.refl _ _).drew) (fun hS1 => ?_)
  refine tk 0 (some 5) (.agg #[.int .i64 a.k, .int .i64 a.n, .string a.s, .slice a.lA a.l.length a.lc, .slice a.mA a.m.length a.mc]) rfl (fun V hS => by obtain ⟨⟨h0, h1, h2, h3, h4⟩, _⟩ := HSV.out V hS; go_simp) hS1 ?_
  simp only [nf]
  refine rd1 1 rfl (fun K' hK => ?_)
  go_simp
  refine (HC.out _ hS1).mono ?_
  rintro e w3 ⟨rfl, hb3⟩
  go_simp
  refine hK.out _ _ ((hS1).trans (hb3.mono (hS1).size)) (fun hS2 => ?_)
  clear hK K' hS1
  refine tk 2 (some 7) (.bool false) rfl (fun V hS => by go_simp) hS2 ?_
  simp only [nf]
  refine tk 3 (some 8) (.bool false) rfl (fun V hS => by go_simp) hS2 ?_
  simp only [nf]
  refine tk0 4 (some 9) rfl hS2 ?_
  simp only [nf]
  refine tk0 5 (some 10) rfl hS2 ?_
  simp only [nf]
  refine tk0 6 (some 11) rfl hS2 ?_
  simp only [nf]
  refine tk 7 (some 12) (.bool false) rfl (fun V hS => by go_simp) hS2 ?_
  simp only [nf]
  refine tk 8 (some 13) (.bool false) rfl (fun V hS => by go_simp) hS2 ?_
  simp only [nf]
  refine tk0 9 (some 14) rfl hS2 ?_
  simp only [nf]
  refine tk0 10 (some 15) rfl hS2 ?_
  simp only [nf]
  refine tk0 11 (some 16) rfl hS2 ?_
  simp only [nf]
  refine tk0 12 (some 17) rfl hS2 ?_
  simp only [nf]
  refine tk0 13 (some 18) rfl hS2 ?_
  simp only [nf]
  refine tk 14 (some 19) (.bool false) rfl (fun V hS => by go_simp) hS2 ?_
  simp only [nf]
  refine tk 15 (some 4) (.bool false) rfl (fun V hS => by go_simp) hS2 ?_
  simp only [nf]
  refine wpAnyH_done (by kernel_rfl) ?_ _
  have HBE : Hid (Below w.heap.size w _) := Ld (HBX.out.trans (hS2.mono HBX.out.size))
  clear hS2
  go_wp2
  go_ret
  exact ⟨by rw [HF.out]; rfl, HBE.out⟩
 have q1 : (C == 0) = true := by rw [h0]; rfl
 have HSA := Ld (HS.out h0)
 have H0 := Ld h0
 clear h0
 by_cases h1 : D = 0
 rotate_left
 ·have q3 : (D == 0) = false := by rw [beq_eq_false_iff_ne]; exact h1
  have HF : Hid (R = false) := Ld (by rw [HR.out, decide_eq_false h1]; simp)
  clear h1
  go_enter Tryz.func17, Tryz.ntmps17
  go_wp2
  rw [← HWX.out]
  refine wp_region_held_drew (S := fun V => Below WX.heap.size WX V) (by kernel_rfl) ((Below.refl _ _).drew) (fun hS1 => ?_)
  refine tk 0 (some 5) (.agg #[.int .i64 a.k, .int .i64 a.n, .string a.s, .slice a.lA a.l.length a.lc, .slice a.mA a.m.length a.mc]) rfl (fun V hS => by obtain ⟨⟨h0, h1, h2, h3, h4⟩, _⟩ := HSV.out V hS; go_simp) hS1 ?_
  simp only [nf]
  refine rd1 1 rfl (fun K' hK => ?_)
  go_simp
  refine (HC.out _ hS1).mono ?_
  rintro e w3 ⟨rfl, hb3⟩
  go_simp
  refine hK.out _ _ ((hS1).trans (hb3.mono (hS1).size)) (fun hS2 => ?_)
  clear hK K' hS1
  refine tk 2 (some 7) (.bool true) rfl (fun V hS => by go_simp) hS2 ?_
  simp only [nf]
  refine tk 3 (some 8) (.bool true) rfl (fun V hS => by go_simp) hS2 ?_
  simp only [nf]
  refine tk 4 (some 9) (.agg #[.int .i64 b.k, .int .i64 b.n, .string b.s, .slice b.lA b.l.length b.lc, .slice b.mA b.m.length b.mc]) rfl (fun V hS => by obtain ⟨_, ⟨h0, h1, h2, h3, h4⟩⟩ := HSV.out V hS; go_simp) hS2 ?_
  simp only [nf]
  refine rd1 5 rfl (fun K' hK => ?_)
  go_simp
  refine (HD.out _ hS2).mono ?_
  rintro e w4 ⟨rfl, hb4⟩
  go_simp
  refine hK.out _ _ ((hS2).trans (hb4.mono (hS2).size)) (fun hS3 => ?_)
  clear hK K' hS2
  refine tk 6 (some 11) (.bool false) rfl (fun V hS => by go_simp) hS3 ?_
  simp only [nf]
  refine tk 7 (some 12) (.bool false) rfl (fun V hS => by go_simp) hS3 ?_
  simp only [nf]
  refine tk 8 (some 13) (.bool false) rfl (fun V hS => by go_simp) hS3 ?_
  simp only [nf]
  refine tk0 9 (some 14) rfl hS3 ?_
  simp only [nf]
  refine tk0 10 (some 15) rfl hS3 ?_
  simp only [nf]
  refine tk0 11 (some 16) rfl hS3 ?_
  simp only [nf]
  refine tk0 12 (some 17) rfl hS3 ?_
  simp only [nf]
  refine tk0 13 (some 18) rfl hS3 ?_
  simp only [nf]
  refine tk 14 (some 19) (.bool false) rfl (fun V hS => by go_simp) hS3 ?_
  simp only [nf]
  refine tk 15 (some 4) (.bool false) rfl (fun V hS => by go_simp) hS3 ?_
  simp only [nf]
  refine wpAnyH_done (by kernel_rfl) ?_ _
  have HBE : Hid (Below w.heap.size w _) := Ld (HBX.out.trans (hS3.mono HBX.out.size))
  clear hS3
  go_wp2
  go_ret
  exact ⟨by rw [HF.out]; rfl, HBE.out⟩
 have q3 : (D == 0) = true := by rw [h1]; rfl
 have HSB := Ld (HS'.out h1)
 have HRR : Hid (R = decide (a.pv.sort = b.pv.sort)) := Ld (by rw [HR.out, decide_eq_true H0.out, decide_eq_true h1]; rfl)
 clear h1
 go_enter Tryz.func17, Tryz.ntmps17
 go_wp2
 rw [← HWX.out]
 refine wp_region_held_drew (S := fun V => Below WX.heap.size WX V) (by kernel_rfl) ((Below.refl _ _).drew) (fun hS1 => ?_)
 refine tk 0 (some 5) (.agg #[.int .i64 a.k, .int .i64 a.n, .string a.s, .slice a.lA a.l.length a.lc, .slice a.mA a.m.length a.mc]) rfl (fun V hS => by obtain ⟨⟨h0, h1, h2, h3, h4⟩, _⟩ := HSV.out V hS; go_simp) hS1 ?_
 simp only [nf]
 refine rd1 1 rfl (fun K' hK => ?_)
 go_simp
 refine (HC.out _ hS1).mono ?_
 rintro e w3 ⟨rfl, hb3⟩
 go_simp
 refine hK.out _ _ ((hS1).trans (hb3.mono (hS1).size)) (fun hS2 => ?_)
 clear hK K' hS1
 refine tk 2 (some 7) (.bool true) rfl (fun V hS => by go_simp) hS2 ?_
 simp only [nf]
 refine tk 3 (some 8) (.bool true) rfl (fun V hS => by go_simp) hS2 ?_
 simp only [nf]
 refine tk 4 (some 9) (.agg #[.int .i64 b.k, .int .i64 b.n, .string b.s, .slice b.lA b.l.length b.lc, .slice b.mA b.m.length b.mc]) rfl (fun V hS => by obtain ⟨_, ⟨h0, h1, h2, h3, h4⟩⟩ := HSV.out V hS; go_simp) hS2 ?_
 simp only [nf]
 refine rd1 5 rfl (fun K' hK => ?_)
 go_simp
 refine (HD.out _ hS2).mono ?_
 rintro e w4 ⟨rfl, hb4⟩
 go_simp
 refine hK.out _ _ ((hS2).trans (hb4.mono (hS2).size)) (fun hS3 => ?_)
 clear hK K' hS2
 refine tk 6 (some 11) (.bool true) rfl (fun V hS => by go_simp) hS3 ?_
 simp only [nf]
 refine tk 7 (some 12) (.bool true) rfl (fun V hS => by go_simp) hS3 ?_
 simp only [nf]
 refine tk 8 (some 13) (.bool true) rfl (fun V hS => by go_simp) hS3 ?_
 simp only [nf]
 refine tk 9 (some 14) (.agg #[.int .i64 a.k, .int .i64 a.n, .string a.s, .slice a.lA a.l.length a.lc, .slice a.mA a.m.length a.mc]) rfl (fun V hS => by obtain ⟨⟨h0, h1, h2, h3, h4⟩, _⟩ := HSV.out V hS; go_simp) hS3 ?_
 simp only [nf]
 refine tk 11 (some 16) (.agg #[.int .i64 b.k, .int .i64 b.n, .string b.s, .slice b.lA b.l.length b.lc, .slice b.mA b.m.length b.mc]) rfl (fun V hS => by obtain ⟨_, ⟨h0, h1, h2, h3, h4⟩⟩ := HSV.out V hS; go_simp) hS3 ?_
 simp only [nf]
 refine rd1 10 rfl (fun K' hK => ?_)
 go_simp
 refine (HSA.out _ hS3).mono ?_
 rintro e w5 ⟨a', rfl, hpa, hva, hb5⟩
 unfold MV.val
 have HPA := Ld hpa
 have HVA := Ld hva
 clear hpa hva
 go_simp
 refine hK.out _ _ ((hS3).trans (hb5.mono (hS3).size)) (fun hS4 => ?_)
 clear hK K' hS3
 refine rd1 12 rfl (fun K' hK => ?_)
 go_simp
 refine (HSB.out _ hS4).mono ?_
 rintro e w6 ⟨b', rfl, hpb, hvb, hb6⟩
 unfold MV.val
 have HPB := Ld hpb
 have HVB := Ld hvb
 have HVA6 := Ld (HVA.out.at_.bel hb6)
 clear hpb hvb
 go_simp
 refine hK.out _ _ ((hS4).trans (hb6.mono (hS4).size)) (fun hS5 => ?_)
 clear hK K' hS4
 refine rd1 13 rfl (fun K' hK => ?_)
 go_simp
 have hcall := rexact_any HVA6.out b' w6 (Below.refl _ _) HVB.out.at_
 unfold ExP MV.val at hcall
 obtain ⟨r9, hr9⟩ : ∃ r9, r9 = decide (a'.pv = b'.pv) := ⟨_, rfl⟩
 rw [← hr9] at hcall
 have HR9 := Ld hr9
 clear hr9
 refine hcall.mono ?_
 clear hcall
 rintro e w7 ⟨rfl, hb7⟩
 go_simp
 refine hK.out _ _ ((hS5).trans (hb7.mono (hS5).size)) (fun hS6 => ?_)
 clear hK K' hS5
 refine tk 14 (some 19) ((.bool r9)) rfl (fun V hS => by go_simp) hS6 ?_
 simp only [nf]
 refine tk 15 (some 4) ((.bool r9)) rfl (fun V hS => by go_simp) hS6 ?_
 simp only [nf]
 refine wpAnyH_done (by kernel_rfl) ?_ _
 have HE9 : Hid (r9 = R) := Ld (by rw [HRR.out, HR9.out, HPA.out, HPB.out])
 have HBE : Hid (Below w.heap.size w _) := Ld (HBX.out.trans (hS6.mono HBX.out.size))
 clear hS6
 go_wp2
 go_ret
 exact ⟨by rw [HE9.out]; rfl, HBE.out⟩
end Go.Proofs.YtefkpphahimkgaaGreatDoor
