/-
 role.HeadValue.
-/
import Derived.Test.YtefkpphahimkgaaGreatDoorTk
import Derived.Test.YtefkpphahimkgaaGreatDoorLiV1
namespace Go.Proofs.YtefkpphahimkgaaGreatDoor
open Go.RowKit
attribute [local go_sem ↓] Go.wp_at_zero Go.wp_at_succ
set_option linter.unusedVariables false
set_option linter.unusedSimpArgs false
theorem wf_small {n : Int} (h1 : -9223372036854775808 ≤ n) (h2 : n ≤ 9223372036854775807) : (Lit.int .i64 n).wf = true := by
 simp only [Lit.wf, IntKind.min, IntKind.max, IntKind.signed, IntKind.bits, Bool.and_eq_true, decide_eq_true_eq, if_true]
 omega
set_option maxRecDepth 100000 in
set_option maxHeartbeats 4000000 in
theorem headValue_no {w : World} (kind : ByteArray) (v e : Int) (ht : tabU w) (hp : tabP w) (h : headOk kind v e = false) :
  Calls Tryz.prog 29 #[.string kind, .int .i64 v, .int .i64 e] w fun r w' => PF (OwP PV.none_ w) r w' := by
 obtain ⟨W1, hW1⟩ : ∃ W1, W1 = w.alloc (.cells #[.int .i64 0, .int .i64 0, .string ⟨#[]⟩, .slice none 0 0, .slice none 0 0] 30) := ⟨_, rfl⟩
 have hb1 : Below w.heap.size w W1 := by rw [hW1]; exact below_new _ _
 have hk1 : Blk W1 w.heap.size 30 #[.int .i64 0, .int .i64 0, .string ⟨#[]⟩, .slice none 0 0, .slice none 0 0] := by rw [hW1]; exact Blk.new _ _ _
 have HW1 := Ld hW1
 have HB1 := Ld hb1
 have HK1 := Ld hk1
 cases hm : mayB e with
 | false =>
  have HT := Ld (fun V => text_no e V hm)
  clear h ht hp hW1 hb1 hk1 hm
  go_enter Tryz.func29, Tryz.ntmps29
  go_wp2_with fail
  rw [← HW1.out]
  refine (HT.out _).mono ?_
  rintro r w2 ⟨rfl, hb2⟩
  have HB2 : Hid (Below w.heap.size w w2) := Ld (HB1.out.trans (hb2.mono HB1.out.size))
  have HK2 := Ld (HK1.out.below hb2 HK1.out.lt)
  clear hb2
  obtain ⟨t0, t1, t2, t3, t4⟩ := five_cells HK2.out
  obtain ⟨z0, z1, z2, z3, z4⟩ := five_fr HK2.out
  have HF := Ld (own_stored (w := w) (v' := MV.none_) HK2.out (Nat.le_refl _) HK2.out.lt (VOwn.none_ _ _) HB2.out HB2.out.size rfl)
  unfold MV.none_ at HF
  unfold MV.val at HF
  simp only [MV.k, MV.n, MV.s, MV.lA, MV.lc, MV.l, MV.mA, MV.mc, MV.m, List.length_nil] at HF
  go_wp2
  obtain ⟨k0, k1, k2, k3, k4⟩ := five_cells HF.out.1
  refine bodyPost_ret (v := MV.none_.val) (by simp [results, Tryz.results29, go_sem, k0, k1, k2, k3, k4, MV.val, MV.none_, MV.k, MV.n, MV.s, MV.lA, MV.lc, MV.l, MV.mA, MV.mc, MV.m]) rfl ?_
  exact HF.out.2
 | true =>
  obtain ⟨tx, hd⟩ := DT.ex hm
  have HT := Ld (fun V (hV : Below w.heap.size w V) => hd.text V (hp.below hV))
  unfold headOk at h
  rw [hm, Bool.true_and] at h
  have HV := Ld (fun V (hV : Below w.heap.size w V) (hs : kind.size ≤ 64) => valid_any kind V (ht.below hV) (by omega))
  clear ht hp hW1 hb1 hk1 hm hd
  go_enter Tryz.func29, Tryz.ntmps29
  go_wp2_with fail
  rw [← HW1.out]
  refine (HT.out _ HB1.out).mono ?_
  rintro r w2 ⟨rfl, hb2⟩
  have HB2 : Hid (Below w.heap.size w w2) := Ld (HB1.out.trans (hb2.mono HB1.out.size))
  have HK2 := Ld (HK1.out.below hb2 HK1.out.lt)
  clear hb2
  by_cases h1 : v < 1
  ·have d1 : decide (v < 1) = true := decide_eq_true h1
   clear h h1
   obtain ⟨t0, t1, t2, t3, t4⟩ := five_cells HK2.out
   obtain ⟨z0, z1, z2, z3, z4⟩ := five_fr HK2.out
   have HF := Ld (own_stored (w := w) (v' := MV.none_) HK2.out (Nat.le_refl _) HK2.out.lt (VOwn.none_ _ _) HB2.out HB2.out.size rfl)
   unfold MV.none_ at HF
   unfold MV.val at HF
   simp only [MV.k, MV.n, MV.s, MV.lA, MV.lc, MV.l, MV.mA, MV.mc, MV.m, List.length_nil] at HF
   go_wp2
   obtain ⟨k0, k1, k2, k3, k4⟩ := five_cells HF.out.1
   refine bodyPost_ret (v := MV.none_.val) (by simp [results, Tryz.results29, go_sem, k0, k1, k2, k3, k4, MV.val, MV.none_, MV.k, MV.n, MV.s, MV.lA, MV.lc, MV.l, MV.mA, MV.mc, MV.m]) rfl ?_
   exact HF.out.2
  have d1 : decide (v < 1) = false := decide_eq_false h1
  by_cases h2 : 1099511627776 < v
  ·have d2 : decide (v > 1099511627776) = true := decide_eq_true h2
   have d2' : decide (1099511627776 < v) = true := decide_eq_true h2
   clear h h1 h2
   obtain ⟨t0, t1, t2, t3, t4⟩ := five_cells HK2.out
   obtain ⟨z0, z1, z2, z3, z4⟩ := five_fr HK2.out
   have HF := Ld (own_stored (w := w) (v' := MV.none_) HK2.out (Nat.le_refl _) HK2.out.lt (VOwn.none_ _ _) HB2.out HB2.out.size rfl)
   unfold MV.none_ at HF
   unfold MV.val at HF
   simp only [MV.k, MV.n, MV.s, MV.lA, MV.lc, MV.l, MV.mA, MV.mc, MV.m, List.length_nil] at HF
   go_wp2
   obtain ⟨k0, k1, k2, k3, k4⟩ := five_cells HF.out.1
   refine bodyPost_ret (v := MV.none_.val) (by simp [results, Tryz.results29, go_sem, k0, k1, k2, k3, k4, MV.val, MV.none_, MV.k, MV.n, MV.s, MV.lA, MV.lc, MV.l, MV.mA, MV.mc, MV.m]) rfl ?_
   exact HF.out.2
  have d2 : decide (v > 1099511627776) = false := decide_eq_false h2
  have d2' : decide (1099511627776 < v) = false := decide_eq_false h2
  by_cases h3 : 64 < kind.size
  ·have d3 : decide ((kind.size : Int) > 64) = true := decide_eq_true (by omega)
   have d3' : decide ((64 : Int) < (kind.size : Int)) = true := decide_eq_true (by omega)
   have d3n : decide (64 < kind.size) = true := decide_eq_true (by omega)
   clear h h1 h2 h3
   obtain ⟨t0, t1, t2, t3, t4⟩ := five_cells HK2.out
   obtain ⟨z0, z1, z2, z3, z4⟩ := five_fr HK2.out
   have HF := Ld (own_stored (w := w) (v' := MV.none_) HK2.out (Nat.le_refl _) HK2.out.lt (VOwn.none_ _ _) HB2.out HB2.out.size rfl)
   unfold MV.none_ at HF
   unfold MV.val at HF
   simp only [MV.k, MV.n, MV.s, MV.lA, MV.lc, MV.l, MV.mA, MV.mc, MV.m, List.length_nil] at HF
   go_wp2
   obtain ⟨k0, k1, k2, k3, k4⟩ := five_cells HF.out.1
   refine bodyPost_ret (v := MV.none_.val) (by simp [results, Tryz.results29, go_sem, k0, k1, k2, k3, k4, MV.val, MV.none_, MV.k, MV.n, MV.s, MV.lA, MV.lc, MV.l, MV.mA, MV.mc, MV.m]) rfl ?_
   exact HF.out.2
  have d3 : decide ((kind.size : Int) > 64) = false := decide_eq_false (by omega)
  have d3' : decide ((64 : Int) < (kind.size : Int)) = false := decide_eq_false (by omega)
  have d3n : decide (64 < kind.size) = false := decide_eq_false (by omega)
  have hv : Lib.validD kind.data.toList = false := by
   rw [decide_eq_true (show 1 ≤ v by omega), decide_eq_true (show v ≤ 1099511627776 by omega), decide_eq_true (show kind.size ≤ 64 by omega)] at h
   simpa using h
  have hvv := HV.out w2 HB2.out (by omega)
  rw [hv] at hvv
  have HVV := Ld hvv
  clear h h1 h2 h3 hv hvv
  go_wp2_with fail
  refine HVV.out.mono ?_
  rintro r w3 ⟨rfl, hb3⟩
  have HB3 : Hid (Below w.heap.size w w3) := Ld (HB2.out.trans (hb3.mono HB2.out.size))
  have HK3 := Ld (HK2.out.below hb3 HK2.out.lt)
  clear hb3
  obtain ⟨t0, t1, t2, t3, t4⟩ := five_cells HK3.out
  obtain ⟨z0, z1, z2, z3, z4⟩ := five_fr HK3.out
  have HF := Ld (own_stored (w := w) (v' := MV.none_) HK3.out (Nat.le_refl _) HK3.out.lt (VOwn.none_ _ _) HB3.out HB3.out.size rfl)
  unfold MV.none_ at HF
  unfold MV.val at HF
  simp only [MV.k, MV.n, MV.s, MV.lA, MV.lc, MV.l, MV.mA, MV.mc, MV.m, List.length_nil] at HF
  go_wp2
  obtain ⟨k0, k1, k2, k3, k4⟩ := five_cells HF.out.1
  refine bodyPost_ret (v := MV.none_.val) (by simp [results, Tryz.results29, go_sem, k0, k1, k2, k3, k4, MV.val, MV.none_, MV.k, MV.n, MV.s, MV.lA, MV.lc, MV.l, MV.mA, MV.mc, MV.m]) rfl ?_
  exact HF.out.2
set_option maxRecDepth 100000 in
set_option maxHeartbeats 8000000 in
theorem headValue_yes {w : World} (kind : ByteArray) (v e : Int) (tx : ByteArray) (ht : tabU w) (hp : tabP w) (hd : DT e tx) (h : headOk kind v e = true) :
  Calls Tryz.prog 29 #[.string kind, .int .i64 v, .int .i64 e] w fun r w' => PF (OwP (headP kind v tx) w) r w' := by
 obtain ⟨W1, hW1⟩ : ∃ W1, W1 = w.alloc (.cells #[.int .i64 0, .int .i64 0, .string ⟨#[]⟩, .slice none 0 0, .slice none 0 0] 30) := ⟨_, rfl⟩
 have hb1 : Below w.heap.size w W1 := by rw [hW1]; exact below_new _ _
 have hk1 : Blk W1 w.heap.size 30 #[.int .i64 0, .int .i64 0, .string ⟨#[]⟩, .slice none 0 0, .slice none 0 0] := by rw [hW1]; exact Blk.new _ _ _
 have HW1 := Ld hW1
 have HB1 := Ld hb1
 have HK1 := Ld hk1
 have HT := Ld (fun V (hV : Below w.heap.size w V) => hd.text V (hp.below hV))
 unfold headOk at h
 simp only [Bool.and_eq_true, decide_eq_true_eq] at h
 obtain ⟨hm, h1, h2, h3, hv⟩ := h
 have hvd := fun V (hV : Below w.heap.size w V) => valid_any kind V (ht.below hV) (by omega)
 rw [hv] at hvd
 have HV := Ld hvd
 have d1 : decide (v < 1) = false := decide_eq_false (by omega)
 have d2 : decide (v > 1099511627776) = false := decide_eq_false (by omega)
 have d2' : decide (1099511627776 < v) = false := decide_eq_false (by omega)
 have d3 : decide ((kind.size : Int) > 64) = false := decide_eq_false (by omega)
 have d3' : decide ((64 : Int) < (kind.size : Int)) = false := decide_eq_false (by omega)
 have d3n : decide (64 < kind.size) = false := decide_eq_false (by omega)
 have HI := Ld (fun V => int_any v V (wf_small (by omega) (by omega)))
 clear ht hp hW1 hb1 hk1 hm hd h1 h2 h3 hv hvd
 go_enter Tryz.func29, Tryz.ntmps29
 go_wp2_with fail
 rw [← HW1.out]
 refine (HT.out _ HB1.out).mono ?_
 rintro r w2 ⟨rfl, hb2⟩
 have HB2 : Hid (Below w.heap.size w w2) := Ld (HB1.out.trans (hb2.mono HB1.out.size))
 have HK2 := Ld (HK1.out.below hb2 HK1.out.lt)
 clear hb2
 go_wp2_with fail
 refine (HV.out _ HB2.out).mono ?_
 rintro r w3 ⟨rfl, hb3⟩
 have HB3 : Hid (Below w.heap.size w w3) := Ld (HB2.out.trans (hb3.mono HB2.out.size))
 have HK3 := Ld (HK2.out.below hb3 HK2.out.lt)
 clear hb3 d1 d2 d2' d3 d3' d3n
 go_wp2_with fail
 refine (text_any kind _).mono ?_
 rintro r w4 ⟨xa, rfl, hpa, hoa, hb4⟩
 unfold MV.val
 have HB4 : Hid (Below w.heap.size w w4) := Ld (HB3.out.trans (hb4.mono HB3.out.size))
 have HK4 := Ld (HK3.out.below hb4 HK3.out.lt)
 clear hb4 
 have HAa4 := Ld hoa.at_
 have HPa : Hid (xa.pv = txV kind) := Ld hpa
 clear hoa hpa
 go_wp2_with fail
 have hqa := pair_any xa tyK w4
 unfold MV.val at hqa
 refine hqa.mono ?_
 clear hqa
 rintro r w5 ⟨rfl, hb5⟩
 have HB5 : Hid (Below w.heap.size w w5) := Ld (HB4.out.trans (hb5.mono HB4.out.size))
 have HK5 := Ld (HK4.out.below hb5 HK4.out.lt)
 have HAa5 := Ld (HAa4.out.bel hb5)
 clear hb5 HAa4
 go_wp2_with fail
 refine (text_any spT _).mono ?_
 rintro r w6 ⟨xb, rfl, hpb, hob, hb6⟩
 unfold MV.val
 have HB6 : Hid (Below w.heap.size w w6) := Ld (HB5.out.trans (hb6.mono HB5.out.size))
 have HK6 := Ld (HK5.out.below hb6 HK5.out.lt)
 have HAa6 := Ld (HAa5.out.bel hb6)
 clear hb6 HAa5
 have HAb6 := Ld hob.at_
 have HPb : Hid (xb.pv = txV spT) := Ld hpb
 clear hob hpb
 go_wp2_with fail
 have hqb := pair_any xb spK w6
 unfold MV.val at hqb
 refine hqb.mono ?_
 clear hqb
 rintro r w7 ⟨rfl, hb7⟩
 have HB7 : Hid (Below w.heap.size w w7) := Ld (HB6.out.trans (hb7.mono HB6.out.size))
 have HK7 := Ld (HK6.out.below hb7 HK6.out.lt)
 have HAa7 := Ld (HAa6.out.bel hb7)
 have HAb7 := Ld (HAb6.out.bel hb7)
 clear hb7 HAa6 HAb6
 go_wp2_with fail
 refine (HI.out _).mono ?_
 rintro r w8 ⟨xc, rfl, hpc, hoc, hb8⟩
 unfold MV.val
 have HB8 : Hid (Below w.heap.size w w8) := Ld (HB7.out.trans (hb8.mono HB7.out.size))
 have HK8 := Ld (HK7.out.below hb8 HK7.out.lt)
 have HAa8 := Ld (HAa7.out.bel hb8)
 have HAb8 := Ld (HAb7.out.bel hb8)
 clear hb8 HAa7 HAb7
 have HAc8 := Ld hoc.at_
 have HPc : Hid (xc.pv = inV v) := Ld hpc
 clear hoc hpc
 go_wp2_with fail
 have hqc := pair_any xc veK w8
 unfold MV.val at hqc
 refine hqc.mono ?_
 clear hqc
 rintro r w9 ⟨rfl, hb9⟩
 have HB9 : Hid (Below w.heap.size w w9) := Ld (HB8.out.trans (hb9.mono HB8.out.size))
 have HK9 := Ld (HK8.out.below hb9 HK8.out.lt)
 have HAa9 := Ld (HAa8.out.bel hb9)
 have HAb9 := Ld (HAb8.out.bel hb9)
 have HAc9 := Ld (HAc8.out.bel hb9)
 clear hb9 HAa8 HAb8 HAc8
 go_wp2_with fail
 refine (text_any tx _).mono ?_
 rintro r w10 ⟨xd, rfl, hpd, hod, hb10⟩
 unfold MV.val
 have HB10 : Hid (Below w.heap.size w w10) := Ld (HB9.out.trans (hb10.mono HB9.out.size))
 have HK10 := Ld (HK9.out.below hb10 HK9.out.lt)
 have HAa10 := Ld (HAa9.out.bel hb10)
 have HAb10 := Ld (HAb9.out.bel hb10)
 have HAc10 := Ld (HAc9.out.bel hb10)
 clear hb10 HAa9 HAb9 HAc9
 have HAd10 := Ld hod.at_
 have HPd : Hid (xd.pv = txV tx) := Ld hpd
 clear hod hpd
 go_wp2_with fail
 have hqd := pair_any xd exK w10
 unfold MV.val at hqd
 refine hqd.mono ?_
 clear hqd
 rintro r w11 ⟨rfl, hb11⟩
 have HB11 : Hid (Below w.heap.size w w11) := Ld (HB10.out.trans (hb11.mono HB10.out.size))
 have HK11 := Ld (HK10.out.below hb11 HK10.out.lt)
 have HAa11 := Ld (HAa10.out.bel hb11)
 have HAb11 := Ld (HAb10.out.bel hb11)
 have HAc11 := Ld (HAc10.out.bel hb11)
 have HAd11 := Ld (HAd10.out.bel hb11)
 clear hb11 HAa10 HAb10 HAc10 HAd10
 have hmap := map_any (pairs_new w11 [xa.keyed tyK, xb.keyed spK, xc.keyed veK, xd.keyed exK] #[.string tyK, .int .i64 xa.k, .int .i64 xa.n, .string xa.s, .slice xa.lA xa.l.length xa.lc, .slice xa.mA xa.m.length xa.mc, .string spK, .int .i64 xb.k, .int .i64 xb.n, .string xb.s, .slice xb.lA xb.l.length xb.lc, .slice xb.mA xb.m.length xb.mc, .string veK, .int .i64 xc.k, .int .i64 xc.n, .string xc.s, .slice xc.lA xc.l.length xc.lc, .slice xc.mA xc.m.length xc.mc, .string exK, .int .i64 xd.k, .int .i64 xd.n, .string xd.s, .slice xd.lA xd.l.length xd.lc, .slice xd.mA xd.m.length xd.mc] (by simp [keyed_pcs]) (fun x hx => by
  simp only [List.mem_cons, List.mem_nil_iff, or_false] at hx
  rcases hx with rfl | rfl | rfl | rfl
  ·exact HAa11.out.keyed _
  ·exact HAb11.out.keyed _
  ·exact HAc11.out.keyed _
  ·exact HAd11.out.keyed _) (by simp) ⟨#[]⟩) (fit_cnt (by
  rw [MV.pv]
  simp only [MV.pvL, keyed_pv, HPa.out, HPb.out, HPc.out, HPd.out, PV.cnt, PV.cntL, txV, inV]
  omega))
 have HMP := Ld hmap
 have HBN : Hid (Below w11.heap.size w11 (w11.alloc (.cells #[.string tyK, .int .i64 xa.k, .int .i64 xa.n, .string xa.s, .slice xa.lA xa.l.length xa.lc, .slice xa.mA xa.m.length xa.mc, .string spK, .int .i64 xb.k, .int .i64 xb.n, .string xb.s, .slice xb.lA xb.l.length xb.lc, .slice xb.mA xb.m.length xb.mc, .string veK, .int .i64 xc.k, .int .i64 xc.n, .string xc.s, .slice xc.lA xc.l.length xc.lc, .slice xc.mA xc.m.length xc.mc, .string exK, .int .i64 xd.k, .int .i64 xd.n, .string xd.s, .slice xd.lA xd.l.length xd.lc, .slice xd.mA xd.m.length xd.mc] 73))) := Ld (below_new _ _)
 clear hmap
 go_wp2_with fail
 refine HMP.out.mono ?_
 rintro r w20 ⟨v', rfl, hpv, hvo, hb20⟩
 have HB20 : Hid (Below w.heap.size w w20) := Ld (HB11.out.trans ((HBN.out.trans (hb20.mono HBN.out.size)).mono HB11.out.size))
 have hy := (HK11.out.below HBN.out HK11.out.lt).below hb20 (Nat.lt_of_lt_of_le HK11.out.lt HBN.out.size)
 have HF := Ld (own_stored (w := w) hy (Nat.le_refl _) (Nat.lt_of_lt_of_le HK11.out.lt HBN.out.size) hvo HB20.out (Nat.le_trans HB11.out.size HBN.out.size) (hpv.trans (show _ = headP kind v tx by
  simp only [List.map_cons, List.map_nil, keyed_key, MV.pvL, keyed_pv, HPa.out, HPb.out, HPc.out, HPd.out]
  rfl)))
 obtain ⟨t0, t1, t2, t3, t4⟩ := five_cells hy
 obtain ⟨z0, z1, z2, z3, z4⟩ := five_fr hy
 unfold MV.val
 clear hpv hvo hb20 hy
 go_wp2
 obtain ⟨k0, k1, k2, k3, k4⟩ := five_cells HF.out.1
 refine bodyPost_ret (v := v'.val) (by simp [results, Tryz.results29, go_sem, k0, k1, k2, k3, k4, MV.val]) rfl ?_
 exact HF.out.2
end Go.Proofs.YtefkpphahimkgaaGreatDoor
