/-
 listing.Value.
-/
import Derived.Test.YtefkpphahimkgaaGreatDoorTk
import Derived.Test.YtefkpphahimkgaaGreatDoorLiV3
import Derived.Test.YtefkpphahimkgaaGreatDoorLiW8
namespace Go.Proofs.YtefkpphahimkgaaGreatDoor
open Go.RowKit
attribute [local go_sem ↓] Go.wp_at_zero Go.wp_at_succ
set_option linter.unusedVariables false
set_option linter.unusedSimpArgs false
def meK : ByteArray := ⟨#[109, 101, 116, 97]⟩
def metaL (l : List ME) : PV := mpV (l.map ME.name) (l.map fileP)
def valP (kind : ByteArray) (v : Int) (tx : ByteArray) (l : List ME) : PV := mpV [tyK, spK, veK, exK, meK] [txV kind, txV spT, inV v, txV tx, metaL l]
theorem file_form (m : ME) : fileP m = if m.hash = ⟨#[]⟩ then (if 0 ≤ m.len then mpV [veK, lnK] [inV m.ver, inV m.len] else mpV [veK] [inV m.ver]) else (if 0 ≤ m.len then mpV [veK, lnK, haK] [inV m.ver, inV m.len, mpV [shK] [txV m.hash]] else mpV [veK, haK] [inV m.ver, mpV [shK] [txV m.hash]]) := by
 unfold fileP fileP1
 split
 ·rfl
 ·split
  ·unfold mpV PV.withP
   simp only [if_true, List.zip_cons_cons, List.zip_nil_left, withM]
   rw [if_neg (by decide), if_neg (by decide)]
   rfl
  ·unfold mpV PV.withP
   simp only [if_true, List.zip_cons_cons, List.zip_nil_left, withM]
   rw [if_neg (by decide)]
   rfl
theorem cnt_file (m : ME) : (fileP m).cnt ≤ 5 := by
 rw [file_form]
 split <;> split <;> simp [mpV, inV, txV, PV.cnt, PV.cntL]
theorem cnt_files (l : List ME) : PV.cntL (l.map fileP) ≤ 5 * l.length := by
 induction l with
 | nil => simp [PV.cntL]
 | cons m r ih => rw [List.map_cons, PV.cntL, List.length_cons]; have := cnt_file m; omega
theorem cnt_meta (l : List ME) : (metaL l).cnt ≤ 5 * l.length + 1 := by
 unfold metaL mpV
 rw [PV.cnt, PV.cntL]
 have := cnt_files l
 omega
theorem withP_miss {ks : List ByteArray} {ps : List PV} {key : ByteArray} {x : PV} (hl : ks.length = ps.length) (h : key ∉ ks) : (mpV ks ps).withP key x = mpV (ks ++ [key]) (ps ++ [x]) := by
 unfold mpV PV.withP
 simp only [if_true]
 rw [withM_miss (fun p hp e => h (by rw [← e]; exact (List.of_mem_zip hp).1)), List.map_append, List.map_append, List.map_fst_zip (by omega), List.map_snd_zip (by omega)]
 rfl
theorem meta_snoc {l : List ME} (h : allB l = true) {k : Nat} (hk : k < l.length) : (metaL (l.take k)).withP l[k].name (fileP l[k]) = metaL (l.take (k + 1)) := by
 unfold metaL
 rw [withP_miss (by simp) (fun h2 => by
  obtain ⟨m, hm, he⟩ := List.mem_map.1 h2
  obtain ⟨i, hi, rfl⟩ := List.getElem_of_mem hm
  rw [List.length_take] at hi
  rw [List.getElem_take] at he
  have := allB_inj h (show i < l.length by omega) hk he
  omega), List.take_succ_eq_append_getElem hk, List.map_append, List.map_append]
 rfl
theorem head_with (kind : ByteArray) (v : Int) (tx : ByteArray) (p : PV) : (headP kind v tx).withP meK p = mpV [tyK, spK, veK, exK, meK] [txV kind, txV spT, inV v, txV tx, p] := by
 unfold headP
 rw [withP_miss rfl (by
  simp only [List.mem_cons, List.mem_nil_iff, or_false, not_or]
  exact ⟨by decide, by decide, by decide, by decide⟩)]
 rfl
theorem may_all {kind : ByteArray} {v e : Int} {l : List ME} (h : mayL kind v e l = true) : allB l = true ∧ l.length ≤ 64 ∧ headOk kind v e = true := by
 refine ⟨?_, ?_, ?_⟩
 ·cases hr : allB l with
  | true => rfl
  | false =>
   rw [may_ris (by unfold risB; rw [hr]; rfl)] at h
   cases h
 ·rcases Nat.lt_or_ge 64 l.length with h2 | h2
  ·rw [may_l h2] at h; cases h
  ·exact h2
 ·cases hr : headOk kind v e with
  | true => rfl
  | false => rw [may_head hr] at h; cases h
structure BxS (w : World) (B : Nat) (t : TypeId) (cs : Array Value) (x : MV) (V : World) : Prop where
 bel : Below w.heap.size w V
 fst : Blk V w.heap.size t cs
 res : Blk V (w.heap.size + 1) 30 #[.int .i64 0, .int .i64 0, .string ⟨#[]⟩, .slice none 0 0, .slice none 0 0]
 box : Blk V B 30 #[.int .i64 x.k, .int .i64 x.n, .string x.s, .slice x.lA x.l.length x.lc, .slice x.mA x.m.length x.mc]
 hB : w.heap.size + 2 ≤ B
 own : ∃ base, w.heap.size + 2 ≤ base ∧ VOwn base V x
section
variable {w V V' : World} {B base : Nat} {t : TypeId} {cs : Array Value} {x x' : MV} {p : PV}
theorem BxS.below (h : BxS w B t cs x V) (hb : Below V.heap.size V V') : BxS w B t cs x V' := by
 obtain ⟨base, h1, h2⟩ := h.own
 exact ⟨h.bel.trans (hb.mono h.bel.size), h.fst.below hb h.fst.lt, h.res.below hb h.res.lt, h.box.below hb h.box.lt, h.hB, base, h1, h2.below hb⟩
theorem BxS.store (h : BxS w B t cs x V) (hb : Below V.heap.size V V') (hB : B < base) (ho : VOwn base V' x') : BxS w B t cs x' (((((V'.setCell ⟨B, 0, none⟩ (.int .i64 x'.k)).setCell ⟨B, 1, none⟩ (.int .i64 x'.n)).setCell ⟨B, 2, none⟩ (.string x'.s)).setCell ⟨B, 3, none⟩ (.slice x'.lA x'.l.length x'.lc)).setCell ⟨B, 4, none⟩ (.slice x'.mA x'.m.length x'.mc)) := by
 have hB2 := h.hB
 have hf : Fr (· = B) V' (((((V'.setCell ⟨B, 0, none⟩ (.int .i64 x'.k)).setCell ⟨B, 1, none⟩ (.int .i64 x'.n)).setCell ⟨B, 2, none⟩ (.string x'.s)).setCell ⟨B, 3, none⟩ (.slice x'.lA x'.l.length x'.lc)).setCell ⟨B, 4, none⟩ (.slice x'.mA x'.m.length x'.mc)) := fr_five
 refine ⟨Fr.below_trans (h.bel.trans (hb.mono h.bel.size)) hf (Nat.le_trans h.bel.size hb.size) (fun b e => by have e' : b = B := e; omega), (h.fst.below hb h.fst.lt).fr hf (fun e => by have e' : w.heap.size = B := e; omega), (h.res.below hb h.res.lt).fr hf (fun e => by have e' : w.heap.size + 1 = B := e; omega), blk_five (h.box.below hb h.box.lt), hB2, base, by omega, ho.fr_low hf (fun k e => by have e' : k = B := e; omega)⟩
theorem BxS.at_ (h : BxS w B t cs x V) : VAt V x := by
 obtain ⟨base, _, h2⟩ := h.own
 exact h2.at_
end
set_option maxRecDepth 100000 in
set_option maxHeartbeats 4000000 in
theorem value_no {w : World} (ht : tabU w) (hp : tabP w) (kind : ByteArray) (v e0 : Int) {A : Option Addr} {c : Nat} {l : List ME} (h : MAt w A c l) (hm : mayL kind v e0 l = false) :
  Calls Tryz.prog 9 #[.string kind, .agg #[.int .i64 v, .int .i64 e0, .slice A l.length c]] w fun e w' => PF (OwP PV.none_ w) e w' := by
 obtain ⟨n, hn⟩ : ∃ n, n = l.length := ⟨_, rfl⟩
 obtain ⟨W2, hW2⟩ : ∃ W2, W2 = (w.alloc (.cells #[.int .i64 v, .int .i64 e0, .slice A n c] 24)).alloc (.cells #[.int .i64 0, .int .i64 0, .string ⟨#[]⟩, .slice none 0 0, .slice none 0 0] 30) := ⟨_, rfl⟩
 obtain ⟨hb2, hk1, hk2, hs2⟩ := new2_ w _ _ _ _ W2 hW2
 have hmay := may_any15 (ht.below hb2) (hp.below hb2) kind v e0 (h.bel hb2)
 rw [hm, ← hn] at hmay
 rw [← hn]
 have HM := Ld hmay
 have HW2 := Ld hW2
 have HB2 := Ld hb2
 have HK2 := Ld hk2
 clear hmay hW2 hb2 hk1 hk2 hs2 h hm hn ht hp
 go_enter Tryz.func9, Tryz.ntmps9
 go_wp2_with fail
 rw [← HW2.out]
 refine HM.out.mono ?_
 rintro e w3 ⟨rfl, hb3⟩
 have HB3 : Hid (Below w.heap.size w w3) := Ld (HB2.out.trans (hb3.mono HB2.out.size))
 have HK3 := Ld (HK2.out.below hb3 HK2.out.lt)
 clear hb3
 obtain ⟨t0, t1, t2, t3, t4⟩ := five_cells HK3.out
 obtain ⟨z0, z1, z2, z3, z4⟩ := five_fr HK3.out
 have HF := Ld (own_stored (w := w) (v' := MV.none_) HK3.out (Nat.le_succ _) HK3.out.lt (VOwn.none_ _ _) HB3.out HB3.out.size rfl)
 unfold MV.none_ at HF
 unfold MV.val at HF
 simp only [MV.k, MV.n, MV.s, MV.lA, MV.lc, MV.l, MV.mA, MV.mc, MV.m, List.length_nil] at HF
 go_wp2
 obtain ⟨k0, k1, k2, k3, k4⟩ := five_cells HF.out.1
 refine bodyPost_ret (v := MV.none_.val) (by simp [results, Tryz.results9, go_sem, k0, k1, k2, k3, k4, MV.val, MV.none_, MV.k, MV.n, MV.s, MV.lA, MV.lc, MV.l, MV.mA, MV.mc, MV.m]) rfl ?_
 exact HF.out.2
set_option maxRecDepth 100000 in
set_option maxHeartbeats 8000000 in
theorem value_yes {w : World} (ht : tabU w) (hp : tabP w) (kind : ByteArray) (v e0 : Int) {A : Option Addr} {c : Nat} {l : List ME} (h : MAt w A c l) (hm : mayL kind v e0 l = true) (tx : ByteArray) (hd : DT e0 tx) :
  Calls Tryz.prog 9 #[.string kind, .agg #[.int .i64 v, .int .i64 e0, .slice A l.length c]] w fun e w' => PF (OwP (valP kind v tx l) w) e w' := by
 obtain ⟨n, hn⟩ : ∃ n, n = l.length := ⟨_, rfl⟩
 obtain ⟨W2, hW2⟩ : ∃ W2, W2 = (w.alloc (.cells #[.int .i64 v, .int .i64 e0, .slice A n c] 24)).alloc (.cells #[.int .i64 0, .int .i64 0, .string ⟨#[]⟩, .slice none 0 0, .slice none 0 0] 30) := ⟨_, rfl⟩
 obtain ⟨hb2, hk1, hk2, hs2⟩ := new2_ w _ _ _ _ W2 hW2
 have hmay := may_any15 (ht.below hb2) (hp.below hb2) kind v e0 (h.bel hb2)
 rw [hm, ← hn] at hmay
 rw [← hn]
 obtain ⟨hall, h64, hok⟩ := may_all hm
 have HALL := Ld hall
 have HL64 := Ld h64
 have HHV0 := Ld (fun V (hV : Below w.heap.size w V) => headValue_yes kind v e0 tx (ht.below hV) (hp.below hV) hd hok)
 have HMAP := Ld (fun V => map_any (w := V) (key := ⟨#[]⟩) (A := none) (c := 0) (m := []) (.mk rfl rfl Reads.none_ (Nat.le_refl _) (by simp [maxLen]) Reads.none_ (Nat.le_refl _) (by simp [maxLen]) (fun x hx => by cases hx) (fun x hx => by cases hx)) (fit_cnt (by rw [MV.pv]; simp [MV.pvL, PV.cnt, PV.cntL])))
 have hbig : n ≤ 64 := by rw [hn]; exact h64
 have HM := Ld hmay
 have HW2 := Ld hW2
 have HB2 := Ld hb2
 have HK1 := Ld hk1
 have HK2 := Ld hk2
 have HS2 := Ld hs2
 have HF := Ld h
 have HN : Hid (l.length = n) := Ld hn.symm
 clear hmay hW2 hb2 hk1 hk2 hs2 h hm hn ht hp hd hall h64 hok
 go_enter Tryz.func9, Tryz.ntmps9
 go_wp2_with fail
 rw [← HW2.out]
 refine HM.out.mono ?_
 rintro e w3 ⟨rfl, hb3⟩
 have HB3 : Hid (Below W2.heap.size W2 w3) := Ld hb3
 clear hb3
 go_wp2_with fail
 refine (HMAP.out _).mono ?_
 rintro e w4 ⟨x, rfl, hpx, hox, hb4⟩
 unfold MV.val
 obtain ⟨B, hB⟩ : ∃ B, B = w4.heap.size := ⟨_, rfl⟩
 obtain ⟨WC, hWC⟩ : ∃ WC, WC = w4.alloc (.cells #[.int .i64 x.k, .int .i64 x.n, .string x.s, .slice x.lA x.l.length x.lc, .slice x.mA x.m.length x.mc] 30) := ⟨_, rfl⟩
 have hbc : Below w4.heap.size w4 WC := by rw [hWC]; exact below_new _ _
 have HPx : Hid (x.pv = metaL (l.take 0)) := Ld (hpx.trans rfl)
 have HSa : Hid (BxS w B 24 #[.int .i64 v, .int .i64 e0, .slice A n c] x WC) := Ld (by
  have h34 : Below W2.heap.size W2 w4 := HB3.out.trans (hb4.mono HB3.out.size)
  have h2C : Below W2.heap.size W2 WC := h34.trans (hbc.mono h34.size)
  have h9 := HS2.out
  have h8 := h34.size
  exact ⟨HB2.out.trans (h2C.mono HB2.out.size), HK1.out.below h2C HK1.out.lt, HK2.out.below h2C HK2.out.lt, by rw [hWC, hB]; exact Blk.new _ _ _, by omega, _, (by have h7 := HB3.out.size; omega), hox.below hbc⟩)
 have HWC := Ld hWC
 have HBB := Ld hB
 have b2 := HSa.out.fst.cell 2
 simp only [gz] at b2
 clear hpx hox hb4 hbc hWC hB
 go_upto_region 4 with (fail)
 rw [← HWC.out, ← HBB.out]
 go_wp2
 go_loopw [17] (fun y wr => ∃ (k : Nat) (x : MV), k ≤ n ∧ y = .int .i64 (k : Int) ∧ Hid (BxS w B 24 #[.int .i64 v, .int .i64 e0, .slice A n c] x wr) ∧ Hid (x.pv = metaL (l.take k))) (fun y _ => n - (intOf y).toNat)
 case atStart => exact ⟨0, x, Nat.zero_le _, rfl, HSa, HPx⟩
 case round =>
  clear HPx HSa b2
  obtain ⟨k, x, hk, rfl, HS, HP⟩ := hrel
  rcases (by omega : k < n ∨ k = n) with hlt | heq
  ·have q0 : decide ((k : Int) < (n : Int)) = true := by rw [decide_eq_true_iff]; omega
   have q0' : decide (k < n) = true := by rw [decide_eq_true_iff]; omega
   have hkl : k < l.length := by rw [HN.out]; exact hlt
   obtain ⟨b, o, hA, hbl, c0, c1, c2, c3⟩ := (HF.out.bel HS.out.bel).four hkl
   subst hA
   obtain ⟨m, hmm⟩ : ∃ m, m = l[k] := ⟨_, rfl⟩
   rw [← hmm] at c0 c1 c2 c3
   have hwf := HF.out.wf m (by rw [hmm]; exact List.getElem_mem hkl)
   have hfv := fun V => fileValue_any m V hwf
   unfold ME.val at hfv
   have HFV := Ld hfv
   have HMM := Ld hmm
   have HKL := Ld hkl
   obtain ⟨WR, hWR⟩ : ∃ WR, WR = wr.alloc (.cells #[.string m.name, .int .i64 m.ver, .int .i64 m.len, .string m.hash] 44) := ⟨_, rfl⟩
   have hbr : Below wr.heap.size wr WR := by rw [hWR]; exact below_new _ _
   have hkr : Blk WR wr.heap.size 44 #[.string m.name, .int .i64 m.ver, .int .i64 m.len, .string m.hash] := by rw [hWR]; exact Blk.new _ _ _
   have HSR := Ld (HS.out.below hbr)
   have HBX : Hid (∀ V, Below WR.heap.size WR V → V.cell? ⟨B, 0, none⟩ = some (.int .i64 x.k) ∧ V.cell? ⟨B, 1, none⟩ = some (.int .i64 x.n) ∧ V.cell? ⟨B, 2, none⟩ = some (.string x.s) ∧ V.cell? ⟨B, 3, none⟩ = some (.slice x.lA x.l.length x.lc) ∧ V.cell? ⟨B, 4, none⟩ = some (.slice x.mA x.m.length x.mc)) := Ld (fun V hV => five_cells (HSR.out.below hV).box)
   have HMX : Hid (∀ V, Below WR.heap.size WR V → V.cell? ⟨wr.heap.size, 0, none⟩ = some (.string m.name) ∧ V.cell? ⟨wr.heap.size, 1, none⟩ = some (.int .i64 m.ver) ∧ V.cell? ⟨wr.heap.size, 2, none⟩ = some (.int .i64 m.len) ∧ V.cell? ⟨wr.heap.size, 3, none⟩ = some (.string m.hash)) := Ld (fun V hV => by
    have h9 := hkr.below hV hkr.lt
    exact ⟨h9.cell 0, h9.cell 1, h9.cell 2, h9.cell 3⟩)
   have HWR := Ld hWR
   have hki : (k : Int) < (n : Int) := by omega
   have hk0 : (0 : Int) ≤ (k : Int) := by omega
   clear hbl hmm hwf hfv hWR hbr hkr HS
   go_wp2
   rw [← HWR.out]
   clear c0 c1 c2 c3
   refine wp_region_last (S := fun V => Below WR.heap.size WR V) (st := 6) (n := 6) (by kernel_rfl) rfl (by kernel_rfl) rfl ((Below.refl _ _).drew) (fun hS1 => ?_)
   refine tk 0 (some 21) (.agg #[.int .i64 x.k, .int .i64 x.n, .string x.s, .slice x.lA x.l.length x.lc, .slice x.mA x.m.length x.mc]) rfl (fun V hS => by obtain ⟨h0, h1, h2, h3, h4⟩ := HBX.out V hS; go_simp) hS1 ?_
   simp only [nf]
   refine tk 1 (some 22) (.pointer (some ⟨wr.heap.size, 0, none⟩)) rfl (fun V hS => by go_simp) hS1 ?_
   simp only [nf]
   refine tk 2 (some 23) (.string m.name) rfl (fun V hS => by obtain ⟨h0, h1, h2, h3⟩ := HMX.out V hS; go_simp) hS1 ?_
   simp only [nf]
   refine tk 3 (some 24) (.agg #[.string m.name, .int .i64 m.ver, .int .i64 m.len, .string m.hash]) rfl (fun V hS => by obtain ⟨h0, h1, h2, h3⟩ := HMX.out V hS; go_simp) hS1 ?_
   simp only [nf]
   refine rd1 4 rfl (fun K' hK => ?_)
   go_simp
   refine (HFV.out _).mono ?_
   rintro e wy ⟨y, rfl, hpy, hoy, hby⟩
   unfold MV.val
   have HY : Hid (VAt wy y ∧ y.pv = fileP m) := Ld ⟨hoy.at_, hpy⟩
   clear hpy hoy
   go_simp
   refine hK.out _ _ ((hS1).trans (hby.mono (hS1).size)) (fun hS2 => ?_)
   clear hK K' hS1
   refine rd1 5 rfl (fun K' hK => ?_)
   go_simp
   have hwi := with_any (HSR.out.at_.bel hS2) (fit_cnt (by rw [HP.out]; have := cnt_meta (l.take k); rw [List.length_take] at this; have := HL64.out; omega)) HY.out.1 (fit_cnt (by rw [HY.out.2]; have := cnt_file m; omega)) m.name
   unfold MV.val at hwi
   refine hwi.mono ?_
   clear hwi
   rintro e wj ⟨x', rfl, hpv', hvo', hbj⟩
   unfold MV.val
   have HP' : Hid (x'.pv = metaL (l.take (k + 1))) := Ld (hpv'.trans (by rw [HP.out, HY.out.2, HMM.out]; exact meta_snoc HALL.out HKL.out))
   have HVO : Hid (VOwn wy.heap.size wj x' ∧ B < wy.heap.size) := Ld ⟨hvo', Nat.lt_of_lt_of_le HSR.out.box.lt (hS2).size⟩
   clear hpv' hvo'
   go_simp
   refine hK.out _ _ ((hS2).trans (hbj.mono (hS2).size)) (fun hS3 => ?_)
   clear hK K' hS2
   refine wpAnyH_done (by kernel_rfl) ?_ _
   refine lastQ_normal (wpOp_step rfl (fun K' hK => ?_))
   have h9 := HSR.out.below hS3
   obtain ⟨t0, t1, t2, t3, t4⟩ := five_cells h9.box
   obtain ⟨z0, z1, z2, z3, z4⟩ := five_fr h9.box
   have HN2 : Hid (BxS w B 24 #[.int .i64 v, .int .i64 e0, .slice (some ⟨b, o, none⟩) n c] x' (((((wj.setCell ⟨B, 0, none⟩ (.int .i64 x'.k)).setCell ⟨B, 1, none⟩ (.int .i64 x'.n)).setCell ⟨B, 2, none⟩ (.string x'.s)).setCell ⟨B, 3, none⟩ (.slice x'.lA x'.l.length x'.lc)).setCell ⟨B, 4, none⟩ (.slice x'.mA x'.m.length x'.mc))) := Ld (HSR.out.store hS3 HVO.out.2 HVO.out.1)
   clear h9
   go_simp
   refine hK _ _ ?_
   clear hK K' hS3 z0 z1 z2 z3 z4 t0 t1 t2 t3 t4
   generalize (((((wj.setCell ⟨B, 0, none⟩ (.int .i64 x'.k)).setCell ⟨B, 1, none⟩ (.int .i64 x'.n)).setCell ⟨B, 2, none⟩ (.string x'.s)).setCell ⟨B, 3, none⟩ (.slice x'.lA x'.l.length x'.lc)).setCell ⟨B, 4, none⟩ (.slice x'.mA x'.m.length x'.mc)) = WD at HN2 ⊢
   go_wp2
   go_roundw
   case rel => exact ⟨k + 1, x', by omega, by go_num, HN2, HP'⟩
   case measure => simp [intOf]; omega
  ·have q0 : decide ((k : Int) < (n : Int)) = false := by rw [decide_eq_false_iff_not]; omega
   have q0' : decide (k < n) = false := by rw [decide_eq_false_iff_not]; omega
   have HSR := HS
   have HP2 : Hid (x.pv = metaL l) := Ld (by rw [HP.out, heq, ← HN.out, List.take_length])
   clear heq HP HS
   have HP := HP2
   clear HP2
   have HHV : Hid (∀ V, Below wr.heap.size wr V → Calls Tryz.prog 29 #[.string kind, .int .i64 v, .int .i64 e0] V fun r w' => PF (OwP (headP kind v tx) V) r w') := Ld (fun V hV => HHV0.out V (HSR.out.bel.trans (hV.mono HSR.out.bel.size)))
   have HBX : Hid (∀ V, Below wr.heap.size wr V → V.cell? ⟨B, 0, none⟩ = some (.int .i64 x.k) ∧ V.cell? ⟨B, 1, none⟩ = some (.int .i64 x.n) ∧ V.cell? ⟨B, 2, none⟩ = some (.string x.s) ∧ V.cell? ⟨B, 3, none⟩ = some (.slice x.lA x.l.length x.lc) ∧ V.cell? ⟨B, 4, none⟩ = some (.slice x.mA x.m.length x.mc) ∧ V.cell? ⟨w.heap.size, 0, none⟩ = some (.int .i64 v) ∧ V.cell? ⟨w.heap.size, 1, none⟩ = some (.int .i64 e0)) := Ld (fun V hV => by
    have h9 := HSR.out.below hV
    obtain ⟨k0, k1, k2, k3, k4⟩ := five_cells h9.box
    exact ⟨k0, k1, k2, k3, k4, h9.fst.cell 0, h9.fst.cell 1⟩)
   go_wp2
   refine wp_region_last (S := fun V => Below wr.heap.size wr V) (st := 8) (n := 8) (by kernel_rfl) rfl (by kernel_rfl) rfl ((Below.refl _ _).drew) (fun hS1 => ?_)
   refine tk 0 (some 28) (.string kind) rfl (fun V hS => by go_simp) hS1 ?_
   simp only [nf]
   refine tk 1 (some 29) (.pointer (some ⟨w.heap.size, 0, none⟩)) rfl (fun V hS => by go_simp) hS1 ?_
   simp only [nf]
   refine tk 2 (some 30) (.int .i64 v) rfl (fun V hS => by obtain ⟨h0, h1, h2, h3, h4, h5, h6⟩ := HBX.out V hS; go_simp) hS1 ?_
   simp only [nf]
   refine tk 3 (some 31) (.pointer (some ⟨w.heap.size, 1, none⟩)) rfl (fun V hS => by go_simp) hS1 ?_
   simp only [nf]
   refine tk 4 (some 32) (.int .i64 e0) rfl (fun V hS => by obtain ⟨h0, h1, h2, h3, h4, h5, h6⟩ := HBX.out V hS; go_simp) hS1 ?_
   simp only [nf]
   refine tk 6 (some 34) (.agg #[.int .i64 x.k, .int .i64 x.n, .string x.s, .slice x.lA x.l.length x.lc, .slice x.mA x.m.length x.mc]) rfl (fun V hS => by obtain ⟨h0, h1, h2, h3, h4, h5, h6⟩ := HBX.out V hS; go_simp) hS1 ?_
   simp only [nf]
   refine rd1 5 rfl (fun K' hK => ?_)
   go_simp
   refine (HHV.out _ hS1).mono ?_
   rintro e wy ⟨y, rfl, hpy, hoy, hby⟩
   unfold MV.val
   have HY : Hid (VAt wy y ∧ y.pv = headP kind v tx) := Ld ⟨hoy.at_, hpy⟩
   clear hpy hoy
   go_simp
   refine hK.out _ _ ((hS1).trans (hby.mono (hS1).size)) (fun hS2 => ?_)
   clear hK K' hS1
   refine rd1 7 rfl (fun K' hK => ?_)
   go_simp
   have hwi := with_any HY.out.1 (fit_cnt (by rw [HY.out.2]; simp [headP, mpV, inV, txV, PV.cnt, PV.cntL])) (HSR.out.at_.bel hS2) (fit_cnt (by rw [HP.out]; have := cnt_meta l; have := HL64.out; omega)) meK
   unfold MV.val at hwi
   refine hwi.mono ?_
   clear hwi
   rintro e wj ⟨x', rfl, hpv', hvo', hbj⟩
   unfold MV.val
   have HP' : Hid (x'.pv = valP kind v tx l) := Ld (hpv'.trans (by rw [HP.out, HY.out.2]; exact head_with _ _ _ _))
   have HVO : Hid (VOwn wy.heap.size wj x' ∧ w.heap.size + 1 < wy.heap.size) := Ld ⟨hvo', Nat.lt_of_lt_of_le HSR.out.res.lt (hS2).size⟩
   clear hpv' hvo'
   go_simp
   refine hK.out _ _ ((hS2).trans (hbj.mono (hS2).size)) (fun hS3 => ?_)
   clear hK K' hS2
   refine wpAnyH_done (by kernel_rfl) ?_ _
   refine lastQ_normal (wpOp_step rfl (fun K' hK => ?_))
   have h9 := HSR.out.below hS3
   obtain ⟨t0, t1, t2, t3, t4⟩ := five_cells h9.res
   obtain ⟨z0, z1, z2, z3, z4⟩ := five_fr h9.res
   have HN2 := Ld (own_st (w := w) (p := valP kind v tx l) h9.res (Nat.le_succ _) HVO.out.2 HVO.out.1 h9.bel (Nat.le_of_lt (Nat.lt_of_le_of_lt (Nat.le_succ _) HVO.out.2)) HP'.out)
   clear h9
   go_simp
   refine hK _ _ ?_
   clear hK K' hS3 z0 z1 z2 z3 z4 t0 t1 t2 t3 t4
   generalize (((((wj.setCell ⟨w.heap.size + 1, 0, none⟩ (.int .i64 x'.k)).setCell ⟨w.heap.size + 1, 1, none⟩ (.int .i64 x'.n)).setCell ⟨w.heap.size + 1, 2, none⟩ (.string x'.s)).setCell ⟨w.heap.size + 1, 3, none⟩ (.slice x'.lA x'.l.length x'.lc)).setCell ⟨w.heap.size + 1, 4, none⟩ (.slice x'.mA x'.m.length x'.mc)) = WE at HN2 ⊢
   go_wp2
   obtain ⟨k0, k1, k2, k3, k4⟩ := five_cells HN2.out.1
   refine bodyPost_ret (v := x'.val) (by simp [results, Tryz.results9, go_sem, k0, k1, k2, k3, k4, MV.val]) rfl ?_
   exact HN2.out.2
end Go.Proofs.YtefkpphahimkgaaGreatDoor
