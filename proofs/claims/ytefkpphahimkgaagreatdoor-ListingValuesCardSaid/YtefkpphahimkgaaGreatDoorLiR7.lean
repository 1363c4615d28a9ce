/-
 listing.Read of a listing's value.
-/
import Derived.Test.YtefkpphahimkgaaGreatDoorTk
import Derived.Test.YtefkpphahimkgaaGreatDoorLiR6
namespace Go.Proofs.YtefkpphahimkgaaGreatDoor
open Go.RowKit
attribute [local go_sem ↓] Go.wp_at_zero Go.wp_at_succ
set_option linter.unusedVariables false
set_option linter.unusedSimpArgs false
theorem OMe.form {base : Nat} {w : World} {v : Value} {l : List ME} (h : OMe w base v l) : ∃ A n c, v = .slice A n c := by
 rcases h.2 with ⟨hv, _⟩ | ⟨g, cap, cur, hv, _⟩
 ·exact ⟨_, _, _, hv⟩
 ·exact ⟨_, _, _, hv⟩
set_option maxRecDepth 100000 in
set_option maxHeartbeats 16000000 in
theorem read_yes {v : MV} {w : World} (ht : tabM w) (hu : tabU w) (hp10 : tabP w) (h : VAt w v) (kd : ByteArray) (n e : Int) (tx : ByteArray) (l : List ME) (hpv : v.pv = valP kd n tx l) (hm : mayL kd n e l = true) (hd : DT e tx)
  (hwf : ∀ m ∈ l, (Lit.int .i64 m.ver).wf = true ∧ (Lit.int .i64 m.len).wf = true) (hsz : ∀ m ∈ l, m.name.size ≤ 140737488351232 ∧ m.hash.size ≤ 140737488351232) :
  Calls Tryz.prog 15 #[.string kd, v.val] w fun r w' => PF (RdP n e l w) r w' := by
 obtain ⟨W2, hW2⟩ : ∃ W2, W2 = (w.alloc (.cells #[.int .i64 v.k, .int .i64 v.n, .string v.s, .slice v.lA v.l.length v.lc, .slice v.mA v.m.length v.mc] 30)).alloc (.cells #[.int .i64 0, .int .i64 0, .slice none 0 0] 24) := ⟨_, rfl⟩
 obtain ⟨hb2, hk1, hk2, hs2⟩ := new2_ w _ _ _ _ W2 hW2
 obtain ⟨t0, t1, t2, t3, t4⟩ := five_cells hk1
 obtain ⟨hall, hl64, _⟩ := may_all hm
 obtain ⟨n1, n2, n3, n4⟩ := may_nums hm
 have hrh := readHead_any (ht.below hb2) (h.bel hb2) kd kd n e tx l hpv hl64 n4 n1 n2 hd
 rw [decide_eq_true rfl] at hrh
 unfold MV.val at hrh
 obtain ⟨N, hN⟩ : ∃ N, N = l.length := ⟨_, rfl⟩
 have HN := Ld hN
 have HRH := Ld hrh
 have HW2 := Ld hW2
 have HB2 := Ld hb2
 have HK1 := Ld hk1
 have HK2 := Ld hk2
 have HM := Ld hm
 have HALL := Ld hall
 have HL64 := Ld hl64
 have HA0 := Ld h
 have HPV := Ld hpv
 have HWF := Ld (And.intro hwf hsz)
 have HTU := Ld (And.intro hu hp10)
 have HKK : Hid ((v.k != 6) = false) := Ld (by rw [← pv_kd, hpv]; rfl)
 have HFI : Hid (FitV v) := Ld (fit_cnt (by rw [hpv]; exact cnt_val hl64))
 have HS2 := Ld hs2
 clear hW2 hb2 hk1 hk2 hs2 hl64 n1 n2 n3 n4 hrh ht h hpv hm hd hu hp10 hwf hsz hall hN
 unfold MV.val
 go_enter Tryz.func15, Tryz.ntmps15
 go_upto_region 1 with (fail)
 rw [← HW2.out]
 go_wp2_with fail
 refine HRH.out.mono ?_
 rintro r w3 ⟨rfl, hb3⟩
 simp only [if_true]
 clear t0 t1 t2 t3 t4
 -- the listing
 obtain ⟨W4, hW4⟩ : ∃ W4, W4 = w3.alloc (.cells #[.int .i64 n, .int .i64 e, .slice none 0 0] 24) := ⟨_, rfl⟩
 obtain ⟨L, hL⟩ : ∃ L, L = w3.heap.size := ⟨_, rfl⟩
 have hb4 : Below w3.heap.size w3 W4 := by rw [hW4]; exact below_new _ _
 have hk4 : Blk W4 L 24 #[.int .i64 n, .int .i64 e, .slice none 0 0] := by rw [hW4, hL]; exact Blk.new _ _ _
 have hb23 := HB2.out.trans (hb3.mono HB2.out.size)
 have HB4 := Ld (hb23.trans (hb4.mono hb23.size))
 have hk13 := HK1.out.below hb3 HK1.out.lt
 have hk23 := HK2.out.below hb3 HK2.out.lt
 have HK14 := Ld (hk13.below hb4 hk13.lt)
 have HK24 := Ld (hk23.below hb4 hk23.lt)
 have HK4 := Ld hk4
 have HLG : Hid (w.heap.size + 2 ≤ L) := Ld (by rw [hL, ← HS2.out]; exact hb3.size)
 have HW4 := Ld hW4
 have HL := Ld hL
 clear hb3 hb4 hk4 hb23 hk13 hk23 hW4 hL
 obtain ⟨t0, t1, t2, t3, t4⟩ := five_cells HK14.out
 go_upto_region 5 with (fail)
 rw [← HL.out]
 rw [← HW4.out]
 have hof := fof_any (HA0.out.bel HB4.out)
 unfold MV.val at hof
 have HOF := Ld hof
 clear hof
 go_wp2_with fail
 refine HOF.out.mono ?_
 rintro r w5 ⟨F, rfl, hF, hfa, hb5⟩
 rw [HKK.out] at hfa
 have HFA := Ld hfa
 have HFL : Hid (L < F) := Ld (Nat.lt_of_lt_of_le HK4.out.lt hF)
 have HB5 := Ld (HB4.out.trans (hb5.mono HB4.out.size))
 have HK25 := Ld (HK24.out.below hb5 HK24.out.lt)
 have HK5 := Ld (HK4.out.below hb5 HK4.out.lt)
 clear hb5 hfa hF t0 t1 t2 t3 t4 HOF
 have RF : ∀ (v0 v1 v2 v3 v4 : Value) W, (Instr.field 30 (.agg #[v0, v1, v2, v3, v4]) 4).run Tryz.prog W = .ok v4 W := fun v0 v1 v2 v3 v4 W => rfl
 go_wp2_with fail
 refine (fmap_any HFA.out HFI.out meK (metaL l) (by rw [HPV.out]; exact look_me ..) rfl).mono ?_
 rintro r W6 ⟨x, rfl, hpx, hox, hb6⟩
 have HFA6 := Ld (HFA.out.bel hb6)
 have HB6 := Ld (HB5.out.trans (hb6.mono HB5.out.size))
 have HK26 := Ld (HK25.out.below hb6 HK25.out.lt)
 have HK6 := Ld (HK5.out.below hb6 HK5.out.lt)
 have HXF : Hid (BlkP (fun b => ¬ b = L) x) := Ld (hox.fr.mono (fun b hb => by have := HK5.out.lt; omega))
 have HX := Ld hox.at_
 have HMP := Ld (meta_parts hpx)
 have HFL6 : Hid (F < W6.heap.size) := Ld HFA6.out.blk.lt
 have HS0 : Hid (RdS w W6 L n e W6 (.slice none 0 0) (l.take 0)) := Ld ⟨HB6.out, Fr.refl _ _, HK6.out, OMe.nil _ _, HK6.out.lt, HLG.out⟩
 obtain ⟨A, hA⟩ : ∃ A, A = x.mA := ⟨_, rfl⟩
 have HAX := Ld hA
 have hxn : x.m.length = N := by rw [HN.out]; exact HMP.out.1
 have HXN := Ld hxn
 unfold MV.val
 rw [← hA, hxn]
 clear hb6 hpx hox hA hxn
 have HFB : Hid (∀ V rv l', RdS w W6 L n e V rv l' → Blk V F 119 _) := Ld (fun V rv l' hr => HFA6.out.blk.fr hr.fr (fun e' => by have e2 : F = L := e'; have := HFL.out; omega))
 have HRB : Hid (∀ V rv l', RdS w W6 L n e V rv l' → Blk V (w.heap.size + 1) 24 _) := Ld (fun V rv l' hr => HK26.out.fr hr.fr (fun e' => by have e2 : w.heap.size + 1 = L := e'; have := HLG.out; omega))
 clear HK26 HK6 HK4 HK5 HK25 HK24 HFA HB5
 go_wp2
 go_loopw [35] (fun iv wr => ∃ (k : Nat) (rv : Value), k ≤ N ∧ iv = .int .i64 (k : Int) ∧ Hid (RdS w W6 L n e wr rv (l.take k))) (fun iv _ => N - (intOf iv).toNat)
 case atStart => exact ⟨0, _, Nat.zero_le _, rfl, HS0⟩
 case round =>
  obtain ⟨k, rv, hk, rfl, HR⟩ := hrel
  have hk0 : (0 : Int) ≤ (k : Int) := by omega
  have hN64 : (N : Int) ≤ 64 := by have := HL64.out; have := HN.out; omega
  rcases (by omega : k < N ∨ k = N) with hlt | heq
  ·have q0 : decide ((k : Int) < (N : Int)) = true := by rw [decide_eq_true_iff]; omega
   have q0' : decide (k < N) = true := by rw [decide_eq_true_iff]; omega
   have hki : (k : Int) < (N : Int) := by omega
   have hkx : k < x.m.length := by rw [HXN.out]; exact hlt
   have hkl : k < l.length := by rw [← HN.out]; exact hlt
   have hxr : VAt wr x := HX.out.fr HR.out.fr HXF.out
   obtain ⟨b, o, hA0, hbl, hc0⟩ := hxr.ma hkx
   rw [← HAX.out] at hA0
   have hyr : VAt wr x.m[k] := hxr.kidM _ (List.getElem_mem hkx)
   obtain ⟨hkey, hypv⟩ := HMP.out.2 k hkx hkl
   have hok := allB_ok HALL.out l[k] (List.getElem_mem hkl)
   have htk : l.take (k + 1) = l.take k ++ [l[k]] := List.take_succ_eq_append_getElem hkl
   obtain ⟨y, hy⟩ : ∃ y, y = x.m[k] := ⟨_, rfl⟩
   obtain ⟨m, hmm⟩ : ∃ m, m = l[k] := ⟨_, rfl⟩
   rw [← hy] at hc0 hyr hkey hypv
   rw [← hmm] at hkey hypv hok htk
   have d0 : wr.cell? ⟨b, o + k * 6, none⟩ = some (.string m.name) := by rw [← hkey]; exact hc0 0 (by omega)
   have d1 : wr.cell? ⟨b, o + k * 6 + 1, none⟩ = some (.int .i64 y.k) := hc0 1 (by omega)
   have d2 : wr.cell? ⟨b, o + k * 6 + 2, none⟩ = some (.int .i64 y.n) := hc0 2 (by omega)
   have d3 : wr.cell? ⟨b, o + k * 6 + 3, none⟩ = some (.string y.s) := hc0 3 (by omega)
   have d4 : wr.cell? ⟨b, o + k * 6 + 4, none⟩ = some (.slice y.lA y.l.length y.lc) := hc0 4 (by omega)
   have d5 : wr.cell? ⟨b, o + k * 6 + 5, none⟩ = some (.slice y.mA y.m.length y.mc) := hc0 5 (by omega)
   obtain ⟨WP, hWP⟩ : ∃ WP, WP = wr.alloc (.cells #[.string m.name, .int .i64 y.k, .int .i64 y.n, .string y.s, .slice y.lA y.l.length y.lc, .slice y.mA y.m.length y.mc] 73) := ⟨_, rfl⟩
   have hbp : Below wr.heap.size wr WP := by rw [hWP]; exact below_new _ _
   have hkp : Blk WP wr.heap.size 73 #[.string m.name, .int .i64 y.k, .int .i64 y.n, .string y.s, .slice y.lA y.l.length y.lc, .slice y.mA y.m.length y.mc] := by rw [hWP]; exact Blk.new _ _ _
   have hrf := readFile_any (hyr.bel hbp) m hypv hok
   unfold MV.val at hrf
   have HRF := Ld hrf
   have HKP := Ld hkp
   have HWP := Ld hWP
   have HRP := Ld (HR.out.below hbp)
   have HTK := Ld htk
   have HLT := Ld hlt
   clear hbp hkp hrf hWP htk hc0 hyr hkey hypv hok hmm hy hbl hxr hkx hkl hk hlt
   subst hA0
   obtain ⟨p0, p1, p2, p3, p4, p5⟩ := six_cells HKP.out
   go_upto_region 9 with (fail)
   rw [← HWP.out]
   clear d0 d1 d2 d3 d4 d5
   go_wp2_with fail
   refine HRF.out.mono ?_
   rintro r w8 ⟨rfl, hb8⟩
   unfold ME.val
   obtain ⟨W9, hW9⟩ : ∃ W9, W9 = w8.alloc (.cells #[.string m.name, .int .i64 m.ver, .int .i64 m.len, .string m.hash] 44) := ⟨_, rfl⟩
   have hb9 : Below w8.heap.size w8 W9 := by rw [hW9]; exact below_new _ _
   have hk9 : Blk W9 w8.heap.size 44 #[.string m.name, .int .i64 m.ver, .int .i64 m.len, .string m.hash] := by rw [hW9]; exact Blk.new _ _ _
   have HR9 := Ld ((HRP.out.below hb8).below hb9)
   have HW9 := Ld hW9
   clear hb8 hb9 hW9 p0 p1 p2 p3 p4 p5
   obtain ⟨m0, m1, m2, m3⟩ := four_cells hk9
   obtain ⟨l0, l1, l2⟩ := three_cells HR9.out.blk
   clear hk9
   go_upto_region 10 with (fail)
   rw [← HW9.out]
   go_wp2_with (at_builtin; refine app_meta W9 rfl _ _ rfl W6.heap.size rv _ rfl HR9.out.own m rfl (by rw [List.length_take]; have := HL64.out; omega) HR9.out.fr.size ?_)
   intro v' w' hO hG hv'
   obtain ⟨vA, vn, vc, hvf⟩ := hO.form
   subst hvf
   have HR' : Hid (RdS w W6 L n e (w'.setCell ⟨L, 2, none⟩ (.slice vA vn vc)) (.slice vA vn vc) (l.take (k + 1))) := Ld (by rw [HTK.out]; exact HR9.out.app hO hG)
   have hLB : Blk w' L 24 #[.int .i64 n, .int .i64 e, rv] := (HR9.out.blk.alloc _).grown hG (fun e' => by have := HR9.out.own.ge L e'.symm; have := HR9.out.lt; omega)
   obtain ⟨z0, z1, z2⟩ := three_cells hLB
   obtain ⟨f0, f1, f2⟩ := three_fr hLB
   clear hO hG hv' hLB m0 m1 m2 m3 l0 l1 l2
   go_wp2
   go_roundw
   case rel => exact ⟨k + 1, _, HLT.out, by go_num, HR'⟩
   case measure => have := HLT.out; simp [intOf]; omega
  ·have q0 : decide ((k : Int) < (N : Int)) = false := by rw [decide_eq_false_iff_not]; omega
   have q0' : decide (k < N) = false := by rw [decide_eq_false_iff_not]; omega
   have hll : l.take k = l := List.take_of_length_le (by rw [← HN.out]; omega)
   have hr := HR.out
   rw [hll] at hr
   obtain ⟨A', c', hrv, hmat⟩ := hr.own.mat HWF.out.1 HWF.out.2
   rw [← HN.out] at hrv
   have hso := sortE_any hmat (ris_of HALL.out) (may_pos HM.out) HL64.out
   rw [← HN.out] at hso
   subst hrv
   have HSO := Ld hso
   have HR1 := Ld hr
   have HMT := Ld hmat
   obtain ⟨l0, l1, l2⟩ := three_cells hr.blk
   clear hso hr hmat hll heq hk HR
   go_wp2_with fail
   refine HSO.out.mono ?_
   rintro r w8 ⟨rfl, hb8⟩
   have HR8 := Ld (HR1.out.below hb8)
   have HMT8 := Ld (HMT.out.bel hb8)
   clear hb8 l0 l1 l2
   have hd8 := fdonec_any ((HFB.out _ _ _ HR8.out).cell 5)
   go_wp2_with fail
   refine hd8.mono ?_
   clear hd8
   rintro r w9 ⟨rfl, hb9⟩
   have HR9 := Ld (HR8.out.below hb9)
   have HMT9 := Ld (HMT8.out.bel hb9)
   clear hb9
   have hmay := may_any15 (HTU.out.1.below HR9.out.bel) (HTU.out.2.below HR9.out.bel) kd n e HMT9.out
   rw [HM.out, ← HN.out] at hmay
   have HMY := Ld hmay
   obtain ⟨l0, l1, l2⟩ := three_cells HR9.out.blk
   clear hmay
   go_wp2_with fail
   refine HMY.out.mono ?_
   rintro r w10 ⟨rfl, hb10⟩
   have HR10 := Ld (HR9.out.below hb10)
   have HMT10 := Ld (HMT9.out.bel hb10)
   clear hb10 l0 l1 l2
   obtain ⟨l0, l1, l2⟩ := three_cells HR10.out.blk
   have hRB := HRB.out _ _ _ HR10.out
   obtain ⟨z0, z1, z2⟩ := three_cells hRB
   obtain ⟨y0, y1, y2⟩ := three_fr hRB
   have hfr : Fr (· = w.heap.size + 1) w10 (((w10.setCell ⟨w.heap.size + 1, 0, none⟩ (.int .i64 n)).setCell ⟨w.heap.size + 1, 1, none⟩ (.int .i64 e)).setCell ⟨w.heap.size + 1, 2, none⟩ (.slice A' N c')) := (((Fr.refl (· = w.heap.size + 1) w10).setCell (p := ⟨w.heap.size + 1, 0, none⟩) (fun _ => rfl) _).setCell (p := ⟨w.heap.size + 1, 1, none⟩) (fun _ => rfl) _).setCell (p := ⟨w.heap.size + 1, 2, none⟩) (fun _ => rfl) _
   have HF : Hid (Blk (((w10.setCell ⟨w.heap.size + 1, 0, none⟩ (.int .i64 n)).setCell ⟨w.heap.size + 1, 1, none⟩ (.int .i64 e)).setCell ⟨w.heap.size + 1, 2, none⟩ (.slice A' N c')) (w.heap.size + 1) 24 #[.int .i64 n, .int .i64 e, .slice A' N c']) := Ld (by
    have := ((hRB.set_ 0 (.int .i64 n)).set_ 1 (.int .i64 e)).set_ 2 (.slice A' N c')
    simpa using this)
   have HFR := Ld hfr
   have HOW : Hid (OMe (((w10.setCell ⟨w.heap.size + 1, 0, none⟩ (.int .i64 n)).setCell ⟨w.heap.size + 1, 1, none⟩ (.int .i64 e)).setCell ⟨w.heap.size + 1, 2, none⟩ (.slice A' N c')) W6.heap.size (.slice A' N c') l) := Ld (HR10.out.own.fr hfr (fun g hg e' => by
    have h8 := HR10.out.own.ge g hg
    have h9 := HR10.out.lt
    have h7 := HLG.out
    have e2 : g = w.heap.size + 1 := e'
    omega))
   clear hRB hfr
   go_wp2
   obtain ⟨k0, k1, k2⟩ := three_cells HF.out
   refine bodyPost_ret (v := .tuple #[.agg #[.int .i64 n, .int .i64 e, .slice A' N c'], .int .i64 0]) (by simp [results, Tryz.results15, go_sem, k0, k1, k2]) rfl ?_
   obtain ⟨A2, c2, e2, hm2⟩ := HOW.out.mat HWF.out.1 HWF.out.2
   rw [← HN.out] at e2
   injection e2 with e3 e4 e5
   subst e3 e5
   exact ⟨A', c', by rw [← HN.out], hm2, Fr.below_trans HR10.out.bel HFR.out HR10.out.bel.size (fun b e' => by have e2 : b = w.heap.size + 1 := e'; omega)⟩
end Go.Proofs.YtefkpphahimkgaaGreatDoor
