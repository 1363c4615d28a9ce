/-
  The document's both: cells, four.
-/
import Derived.Test.YtodkjhbnodcbhaaDoorGlobT2
namespace Go.Proofs.YtodkjhbnodcbhaaDoor
open Go.RowKit Glob
set_option linter.unusedVariables false

set_option maxRecDepth 100000 in
set_option maxHeartbeats 4000000 in
theorem cell_oo011 (p q : ByteArray) (w0 wr : World) (G R i k B : Nat) (u : Nat → Value) (Q0 : Exit → Act → World → Prop) (hp : p.size ≤ 1000) (hq : q.size ≤ 1000) (HPL : Hid (p.data.toList.length = p.size)) (HQL : Hid (q.data.toList.length = q.size)) (hip : i ≤ p.size) (hkq : k ≤ q.size)
    (HJ : Hid (InP p.data.toList q.data.toList w0 G R i (k + 1) B wr)) (hi : i < p.size) (hk : k < q.size) (hpi : p[i] ≠ 42) (hqk : q[k] ≠ 42) (g1 : (p[i] == q[k]) = false) (g2 : (p[i] == 63) = true) (g3 : (q[k] == 63) = true) :
    Code.wp Tryd.prog body2 (Exit.then (fun a' w' => WI p q w0 G R i B u a' w' ∧ mu2 a' w' < k + 1) Q0) (fr2 p q G (i : Int) (k : Int) u) wr := by
  have hi0 : (0 : Int) ≤ (i : Int) := by omega
  have hi1 : (i : Int) < (p.size : Int) + 1 := by omega
  have hk0 : (0 : Int) ≤ (k : Int) := by omega
  have hk1 : (k : Int) < (q.size : Int) + 1 := by omega
  have hkl : k ≤ q.data.toList.length := by rw [HQL.out]; exact hkq
  have hrow := HJ.out.row
  have hhere := HJ.out.here hkl
  rw [HQL.out] at hrow
  obtain ⟨hhere, hfr⟩ := hhere
  have hik : k < q.size + 1 := by omega
  have hii : i < p.size + 1 := by omega
  have hieq : ((i : Int) == (p.size : Int)) = false := by rw [beq_eq_false_iff_ne]; omega
  have hilt : decide ((i : Int) < (p.size : Int)) = true := by rw [decide_eq_true_iff]; omega
  have hilt2 : decide (i < p.size) = true := by rw [decide_eq_true_iff]; omega
  have hinx := HJ.out.next (by rw [HPL.out]; exact hi)
  have hx := HJ.out.below_ (by rw [HPL.out]; exact hi) k hkl
  rw [HQL.out] at hinx
  have hi2 : (i : Int) + 1 < (p.size : Int) + 1 := by omega
  have hi3 : (0 : Int) ≤ (i : Int) + 1 := by omega
  have hiI : (i : Int) < (p.size : Int) := by omega
  have hwi : IntKind.i64.wrap ((i : Int) + 1) = (i : Int) + 1 := IntWalk.i64_in _ (by omega)
  have hti : ((i : Int) + 1).toNat = i + 1 := by omega
  have hkeq : ((k : Int) == (q.size : Int)) = false := by rw [beq_eq_false_iff_ne]; omega
  have hklt : decide ((k : Int) < (q.size : Int)) = true := by rw [decide_eq_true_iff]; omega
  have hklt2 : decide (k < q.size) = true := by rw [decide_eq_true_iff]; omega
  have hy := HJ.out.right (by rw [HQL.out]; exact hk)
  have hk2 : (k : Int) + 1 < (q.size : Int) + 1 := by omega
  have hk3 : (0 : Int) ≤ (k : Int) + 1 := by omega
  have hkI : (k : Int) < (q.size : Int) := by omega
  have hwk : IntKind.i64.wrap ((k : Int) + 1) = (k : Int) + 1 := IntWalk.i64_in _ (by omega)
  have htk : ((k : Int) + 1).toNat = k + 1 := by omega
  obtain ⟨a, ha⟩ : ∃ a, a = p[i] := ⟨_, rfl⟩
  have hpa : p[i] = a := ha.symm
  have ha42 : a ≠ 42 := by rw [ha]; exact hpi
  have hsp : star p.data.toList i = false := star_not (hi := by rw [HPL.out]; exact hi) hpi
  have hb1 : ((a.toNat : Int) == 42) = false := by rw [beq_eq_false_iff_ne]; intro e; exact ha42 (UInt8.toNat_inj.1 (by show _ = 42; omega))
  have hb2 : ((a.toNat : Int) != 42) = true := by rw [bne_iff_ne]; intro e; exact ha42 (UInt8.toNat_inj.1 (by show _ = 42; omega))
  obtain ⟨b, hb⟩ : ∃ b, b = q[k] := ⟨_, rfl⟩
  have hqb : q[k] = b := hb.symm
  have hb42 : b ≠ 42 := by rw [hb]; exact hqk
  have hsq : star q.data.toList k = false := star_not (hi := by rw [HQL.out]; exact hk) hqk
  have hb3 : ((b.toNat : Int) == 42) = false := by rw [beq_eq_false_iff_ne]; intro e; exact hb42 (UInt8.toNat_inj.1 (by show _ = 42; omega))
  have hb4 : ((b.toNat : Int) != 42) = true := by rw [bne_iff_ne]; intro e; exact hb42 (UInt8.toNat_inj.1 (by show _ = 42; omega))
  have HSP := Lib.hid hsp
  have HSQ := Lib.hid hsq
  clear hsp hsq
  have hzc := HJ.out.below_ (by rw [HPL.out]; exact hi) (k + 1) (by rw [HQL.out]; exact hk)
  obtain ⟨z, hzv⟩ : ∃ z, z = ovB p.data.toList q.data.toList (i + 1) (k + 1) := ⟨_, rfl⟩
  rw [← hzv] at hzc
  have hsg : signL p.data.toList q.data.toList i k = signB a b := by rw [ha, hb]; exact sign_L _ _ _ _ (by rw [HPL.out]; exact hi) (by rw [HQL.out]; exact hk)
  rw [← ha] at g1 g2
  rw [← hb] at g1 g3
  have HSG := Lib.hid hsg
  have HZV := Lib.hid hzv.symm
  clear hsg hzv ha hb hpi hqk ha42 hb42
  have s1 : ((a.toNat : Int) == (b.toNat : Int)) = (a == b) := by
    rw [Bool.eq_iff_iff, beq_iff_eq, beq_iff_eq]; exact ⟨fun e => UInt8.toNat_inj.1 (by omega), fun e => by rw [e]⟩
  have s2 : ((a.toNat : Int) == 63) = (a == 63) := by
    rw [Bool.eq_iff_iff, beq_iff_eq, beq_iff_eq]; exact ⟨fun e => UInt8.toNat_inj.1 (by show _ = 63; omega), fun e => by rw [e]; rfl⟩
  have s3 : ((b.toNat : Int) == 63) = (b == 63) := by
    rw [Bool.eq_iff_iff, beq_iff_eq, beq_iff_eq]; exact ⟨fun e => UInt8.toNat_inj.1 (by show _ = 63; omega), fun e => by rw [e]; rfl⟩
  have HSB : Hid (signB a b = (a == b || (a == 63 || b == 63))) := rfl
  rw [g1] at s1 HSB
  rw [g2] at s2 HSB
  rw [g3] at s3 HSB
  clear g1 g2 g3
  have HSV : Hid (signL p.data.toList q.data.toList i k = true) := by show _ = _; rw [HSG.out, HSB.out]; rfl
  clear HSB
  have hcell := ovB_cell p.data.toList q.data.toList i k (by rw [HPL.out, HQL.out]; omega)
  rw [HPL.out, HQL.out] at hcell
  have HV : Hid (ovB p.data.toList q.data.toList i k = z) := by show _ = _; rw [hcell]; simp [HSP.out, HSQ.out, HSV.out, hi, hk, HZV.out]
  clear hcell
  have HN := Lib.hid (HJ.out.drew.put hkl z HV.out)
  clear HJ HV
  unfold fr2
  conv => arg 2; whnf
  go_wp2
  refine wp_region_still_tail 36 (by kernel_rfl) (by kernel_rfl) ?_
  simp only [List.take_succ_cons, List.take_zero, List.drop_succ_cons, List.drop_zero]
  repeat (with_reducible refine wpStill_step (fun K hK => ?_); go_simp; with_reducible refine hK _ ?_; clear hK K)
  with_reducible refine wpStill_nil ?_
  change wpList _ _ _ _ _ (World.drew _)
  go_wp2
  exact ⟨⟨by intro n hn; simp only [List.mem_cons, List.not_mem_nil, or_false] at hn; rcases hn with rfl | rfl | rfl | rfl | rfl | rfl | rfl | rfl | rfl | rfl | rfl | rfl | rfl | rfl <;> rfl, rfl, rfl, rfl, rfl, rfl, rfl, k, by omega, rfl, HN.out⟩, by show ((k : Int) - 1 + 1).toNat < k + 1; omega⟩

set_option maxRecDepth 100000 in
set_option maxHeartbeats 4000000 in
theorem cell_oo010 (p q : ByteArray) (w0 wr : World) (G R i k B : Nat) (u : Nat → Value) (Q0 : Exit → Act → World → Prop) (hp : p.size ≤ 1000) (hq : q.size ≤ 1000) (HPL : Hid (p.data.toList.length = p.size)) (HQL : Hid (q.data.toList.length = q.size)) (hip : i ≤ p.size) (hkq : k ≤ q.size)
    (HJ : Hid (InP p.data.toList q.data.toList w0 G R i (k + 1) B wr)) (hi : i < p.size) (hk : k < q.size) (hpi : p[i] ≠ 42) (hqk : q[k] ≠ 42) (g1 : (p[i] == q[k]) = false) (g2 : (p[i] == 63) = true) (g3 : (q[k] == 63) = false) :
    Code.wp Tryd.prog body2 (Exit.then (fun a' w' => WI p q w0 G R i B u a' w' ∧ mu2 a' w' < k + 1) Q0) (fr2 p q G (i : Int) (k : Int) u) wr := by
  have hi0 : (0 : Int) ≤ (i : Int) := by omega
  have hi1 : (i : Int) < (p.size : Int) + 1 := by omega
  have hk0 : (0 : Int) ≤ (k : Int) := by omega
  have hk1 : (k : Int) < (q.size : Int) + 1 := by omega
  have hkl : k ≤ q.data.toList.length := by rw [HQL.out]; exact hkq
  have hrow := HJ.out.row
  have hhere := HJ.out.here hkl
  rw [HQL.out] at hrow
  obtain ⟨hhere, hfr⟩ := hhere
  have hik : k < q.size + 1 := by omega
  have hii : i < p.size + 1 := by omega
  have hieq : ((i : Int) == (p.size : Int)) = false := by rw [beq_eq_false_iff_ne]; omega
  have hilt : decide ((i : Int) < (p.size : Int)) = true := by rw [decide_eq_true_iff]; omega
  have hilt2 : decide (i < p.size) = true := by rw [decide_eq_true_iff]; omega
  have hinx := HJ.out.next (by rw [HPL.out]; exact hi)
  have hx := HJ.out.below_ (by rw [HPL.out]; exact hi) k hkl
  rw [HQL.out] at hinx
  have hi2 : (i : Int) + 1 < (p.size : Int) + 1 := by omega
  have hi3 : (0 : Int) ≤ (i : Int) + 1 := by omega
  have hiI : (i : Int) < (p.size : Int) := by omega
  have hwi : IntKind.i64.wrap ((i : Int) + 1) = (i : Int) + 1 := IntWalk.i64_in _ (by omega)
  have hti : ((i : Int) + 1).toNat = i + 1 := by omega
  have hkeq : ((k : Int) == (q.size : Int)) = false := by rw [beq_eq_false_iff_ne]; omega
  have hklt : decide ((k : Int) < (q.size : Int)) = true := by rw [decide_eq_true_iff]; omega
  have hklt2 : decide (k < q.size) = true := by rw [decide_eq_true_iff]; omega
  have hy := HJ.out.right (by rw [HQL.out]; exact hk)
  have hk2 : (k : Int) + 1 < (q.size : Int) + 1 := by omega
  have hk3 : (0 : Int) ≤ (k : Int) + 1 := by omega
  have hkI : (k : Int) < (q.size : Int) := by omega
  have hwk : IntKind.i64.wrap ((k : Int) + 1) = (k : Int) + 1 := IntWalk.i64_in _ (by omega)
  have htk : ((k : Int) + 1).toNat = k + 1 := by omega
  obtain ⟨a, ha⟩ : ∃ a, a = p[i] := ⟨_, rfl⟩
  have hpa : p[i] = a := ha.symm
  have ha42 : a ≠ 42 := by rw [ha]; exact hpi
  have hsp : star p.data.toList i = false := star_not (hi := by rw [HPL.out]; exact hi) hpi
  have hb1 : ((a.toNat : Int) == 42) = false := by rw [beq_eq_false_iff_ne]; intro e; exact ha42 (UInt8.toNat_inj.1 (by show _ = 42; omega))
  have hb2 : ((a.toNat : Int) != 42) = true := by rw [bne_iff_ne]; intro e; exact ha42 (UInt8.toNat_inj.1 (by show _ = 42; omega))
  obtain ⟨b, hb⟩ : ∃ b, b = q[k] := ⟨_, rfl⟩
  have hqb : q[k] = b := hb.symm
  have hb42 : b ≠ 42 := by rw [hb]; exact hqk
  have hsq : star q.data.toList k = false := star_not (hi := by rw [HQL.out]; exact hk) hqk
  have hb3 : ((b.toNat : Int) == 42) = false := by rw [beq_eq_false_iff_ne]; intro e; exact hb42 (UInt8.toNat_inj.1 (by show _ = 42; omega))
  have hb4 : ((b.toNat : Int) != 42) = true := by rw [bne_iff_ne]; intro e; exact hb42 (UInt8.toNat_inj.1 (by show _ = 42; omega))
  have HSP := Lib.hid hsp
  have HSQ := Lib.hid hsq
  clear hsp hsq
  have hzc := HJ.out.below_ (by rw [HPL.out]; exact hi) (k + 1) (by rw [HQL.out]; exact hk)
  obtain ⟨z, hzv⟩ : ∃ z, z = ovB p.data.toList q.data.toList (i + 1) (k + 1) := ⟨_, rfl⟩
  rw [← hzv] at hzc
  have hsg : signL p.data.toList q.data.toList i k = signB a b := by rw [ha, hb]; exact sign_L _ _ _ _ (by rw [HPL.out]; exact hi) (by rw [HQL.out]; exact hk)
  rw [← ha] at g1 g2
  rw [← hb] at g1 g3
  have HSG := Lib.hid hsg
  have HZV := Lib.hid hzv.symm
  clear hsg hzv ha hb hpi hqk ha42 hb42
  have s1 : ((a.toNat : Int) == (b.toNat : Int)) = (a == b) := by
    rw [Bool.eq_iff_iff, beq_iff_eq, beq_iff_eq]; exact ⟨fun e => UInt8.toNat_inj.1 (by omega), fun e => by rw [e]⟩
  have s2 : ((a.toNat : Int) == 63) = (a == 63) := by
    rw [Bool.eq_iff_iff, beq_iff_eq, beq_iff_eq]; exact ⟨fun e => UInt8.toNat_inj.1 (by show _ = 63; omega), fun e => by rw [e]; rfl⟩
  have s3 : ((b.toNat : Int) == 63) = (b == 63) := by
    rw [Bool.eq_iff_iff, beq_iff_eq, beq_iff_eq]; exact ⟨fun e => UInt8.toNat_inj.1 (by show _ = 63; omega), fun e => by rw [e]; rfl⟩
  have HSB : Hid (signB a b = (a == b || (a == 63 || b == 63))) := rfl
  rw [g1] at s1 HSB
  rw [g2] at s2 HSB
  rw [g3] at s3 HSB
  clear g1 g2 g3
  have HSV : Hid (signL p.data.toList q.data.toList i k = true) := by show _ = _; rw [HSG.out, HSB.out]; rfl
  clear HSB
  have hcell := ovB_cell p.data.toList q.data.toList i k (by rw [HPL.out, HQL.out]; omega)
  rw [HPL.out, HQL.out] at hcell
  have HV : Hid (ovB p.data.toList q.data.toList i k = z) := by show _ = _; rw [hcell]; simp [HSP.out, HSQ.out, HSV.out, hi, hk, HZV.out]
  clear hcell
  have HN := Lib.hid (HJ.out.drew.put hkl z HV.out)
  clear HJ HV
  unfold fr2
  conv => arg 2; whnf
  go_wp2
  refine wp_region_still_tail 36 (by kernel_rfl) (by kernel_rfl) ?_
  simp only [List.take_succ_cons, List.take_zero, List.drop_succ_cons, List.drop_zero]
  repeat (with_reducible refine wpStill_step (fun K hK => ?_); go_simp; with_reducible refine hK _ ?_; clear hK K)
  with_reducible refine wpStill_nil ?_
  change wpList _ _ _ _ _ (World.drew _)
  go_wp2
  exact ⟨⟨by intro n hn; simp only [List.mem_cons, List.not_mem_nil, or_false] at hn; rcases hn with rfl | rfl | rfl | rfl | rfl | rfl | rfl | rfl | rfl | rfl | rfl | rfl | rfl | rfl <;> rfl, rfl, rfl, rfl, rfl, rfl, rfl, k, by omega, rfl, HN.out⟩, by show ((k : Int) - 1 + 1).toNat < k + 1; omega⟩

set_option maxRecDepth 100000 in
set_option maxHeartbeats 4000000 in
theorem cell_oo001 (p q : ByteArray) (w0 wr : World) (G R i k B : Nat) (u : Nat → Value) (Q0 : Exit → Act → World → Prop) (hp : p.size ≤ 1000) (hq : q.size ≤ 1000) (HPL : Hid (p.data.toList.length = p.size)) (HQL : Hid (q.data.toList.length = q.size)) (hip : i ≤ p.size) (hkq : k ≤ q.size)
    (HJ : Hid (InP p.data.toList q.data.toList w0 G R i (k + 1) B wr)) (hi : i < p.size) (hk : k < q.size) (hpi : p[i] ≠ 42) (hqk : q[k] ≠ 42) (g1 : (p[i] == q[k]) = false) (g2 : (p[i] == 63) = false) (g3 : (q[k] == 63) = true) :
    Code.wp Tryd.prog body2 (Exit.then (fun a' w' => WI p q w0 G R i B u a' w' ∧ mu2 a' w' < k + 1) Q0) (fr2 p q G (i : Int) (k : Int) u) wr := by
  have hi0 : (0 : Int) ≤ (i : Int) := by omega
  have hi1 : (i : Int) < (p.size : Int) + 1 := by omega
  have hk0 : (0 : Int) ≤ (k : Int) := by omega
  have hk1 : (k : Int) < (q.size : Int) + 1 := by omega
  have hkl : k ≤ q.data.toList.length := by rw [HQL.out]; exact hkq
  have hrow := HJ.out.row
  have hhere := HJ.out.here hkl
  rw [HQL.out] at hrow
  obtain ⟨hhere, hfr⟩ := hhere
  have hik : k < q.size + 1 := by omega
  have hii : i < p.size + 1 := by omega
  have hieq : ((i : Int) == (p.size : Int)) = false := by rw [beq_eq_false_iff_ne]; omega
  have hilt : decide ((i : Int) < (p.size : Int)) = true := by rw [decide_eq_true_iff]; omega
  have hilt2 : decide (i < p.size) = true := by rw [decide_eq_true_iff]; omega
  have hinx := HJ.out.next (by rw [HPL.out]; exact hi)
  have hx := HJ.out.below_ (by rw [HPL.out]; exact hi) k hkl
  rw [HQL.out] at hinx
  have hi2 : (i : Int) + 1 < (p.size : Int) + 1 := by omega
  have hi3 : (0 : Int) ≤ (i : Int) + 1 := by omega
  have hiI : (i : Int) < (p.size : Int) := by omega
  have hwi : IntKind.i64.wrap ((i : Int) + 1) = (i : Int) + 1 := IntWalk.i64_in _ (by omega)
  have hti : ((i : Int) + 1).toNat = i + 1 := by omega
  have hkeq : ((k : Int) == (q.size : Int)) = false := by rw [beq_eq_false_iff_ne]; omega
  have hklt : decide ((k : Int) < (q.size : Int)) = true := by rw [decide_eq_true_iff]; omega
  have hklt2 : decide (k < q.size) = true := by rw [decide_eq_true_iff]; omega
  have hy := HJ.out.right (by rw [HQL.out]; exact hk)
  have hk2 : (k : Int) + 1 < (q.size : Int) + 1 := by omega
  have hk3 : (0 : Int) ≤ (k : Int) + 1 := by omega
  have hkI : (k : Int) < (q.size : Int) := by omega
  have hwk : IntKind.i64.wrap ((k : Int) + 1) = (k : Int) + 1 := IntWalk.i64_in _ (by omega)
  have htk : ((k : Int) + 1).toNat = k + 1 := by omega
  obtain ⟨a, ha⟩ : ∃ a, a = p[i] := ⟨_, rfl⟩
  have hpa : p[i] = a := ha.symm
  have ha42 : a ≠ 42 := by rw [ha]; exact hpi
  have hsp : star p.data.toList i = false := star_not (hi := by rw [HPL.out]; exact hi) hpi
  have hb1 : ((a.toNat : Int) == 42) = false := by rw [beq_eq_false_iff_ne]; intro e; exact ha42 (UInt8.toNat_inj.1 (by show _ = 42; omega))
  have hb2 : ((a.toNat : Int) != 42) = true := by rw [bne_iff_ne]; intro e; exact ha42 (UInt8.toNat_inj.1 (by show _ = 42; omega))
  obtain ⟨b, hb⟩ : ∃ b, b = q[k] := ⟨_, rfl⟩
  have hqb : q[k] = b := hb.symm
  have hb42 : b ≠ 42 := by rw [hb]; exact hqk
  have hsq : star q.data.toList k = false := star_not (hi := by rw [HQL.out]; exact hk) hqk
  have hb3 : ((b.toNat : Int) == 42) = false := by rw [beq_eq_false_iff_ne]; intro e; exact hb42 (UInt8.toNat_inj.1 (by show _ = 42; omega))
  have hb4 : ((b.toNat : Int) != 42) = true := by rw [bne_iff_ne]; intro e; exact hb42 (UInt8.toNat_inj.1 (by show _ = 42; omega))
  have HSP := Lib.hid hsp
  have HSQ := Lib.hid hsq
  clear hsp hsq
  have hzc := HJ.out.below_ (by rw [HPL.out]; exact hi) (k + 1) (by rw [HQL.out]; exact hk)
  obtain ⟨z, hzv⟩ : ∃ z, z = ovB p.data.toList q.data.toList (i + 1) (k + 1) := ⟨_, rfl⟩
  rw [← hzv] at hzc
  have hsg : signL p.data.toList q.data.toList i k = signB a b := by rw [ha, hb]; exact sign_L _ _ _ _ (by rw [HPL.out]; exact hi) (by rw [HQL.out]; exact hk)
  rw [← ha] at g1 g2
  rw [← hb] at g1 g3
  have HSG := Lib.hid hsg
  have HZV := Lib.hid hzv.symm
  clear hsg hzv ha hb hpi hqk ha42 hb42
  have s1 : ((a.toNat : Int) == (b.toNat : Int)) = (a == b) := by
    rw [Bool.eq_iff_iff, beq_iff_eq, beq_iff_eq]; exact ⟨fun e => UInt8.toNat_inj.1 (by omega), fun e => by rw [e]⟩
  have s2 : ((a.toNat : Int) == 63) = (a == 63) := by
    rw [Bool.eq_iff_iff, beq_iff_eq, beq_iff_eq]; exact ⟨fun e => UInt8.toNat_inj.1 (by show _ = 63; omega), fun e => by rw [e]; rfl⟩
  have s3 : ((b.toNat : Int) == 63) = (b == 63) := by
    rw [Bool.eq_iff_iff, beq_iff_eq, beq_iff_eq]; exact ⟨fun e => UInt8.toNat_inj.1 (by show _ = 63; omega), fun e => by rw [e]; rfl⟩
  have HSB : Hid (signB a b = (a == b || (a == 63 || b == 63))) := rfl
  rw [g1] at s1 HSB
  rw [g2] at s2 HSB
  rw [g3] at s3 HSB
  clear g1 g2 g3
  have HSV : Hid (signL p.data.toList q.data.toList i k = true) := by show _ = _; rw [HSG.out, HSB.out]; rfl
  clear HSB
  have hcell := ovB_cell p.data.toList q.data.toList i k (by rw [HPL.out, HQL.out]; omega)
  rw [HPL.out, HQL.out] at hcell
  have HV : Hid (ovB p.data.toList q.data.toList i k = z) := by show _ = _; rw [hcell]; simp [HSP.out, HSQ.out, HSV.out, hi, hk, HZV.out]
  clear hcell
  have HN := Lib.hid (HJ.out.drew.put hkl z HV.out)
  clear HJ HV
  unfold fr2
  conv => arg 2; whnf
  go_wp2
  refine wp_region_still_tail 36 (by kernel_rfl) (by kernel_rfl) ?_
  simp only [List.take_succ_cons, List.take_zero, List.drop_succ_cons, List.drop_zero]
  repeat (with_reducible refine wpStill_step (fun K hK => ?_); go_simp; with_reducible refine hK _ ?_; clear hK K)
  with_reducible refine wpStill_nil ?_
  change wpList _ _ _ _ _ (World.drew _)
  go_wp2
  exact ⟨⟨by intro n hn; simp only [List.mem_cons, List.not_mem_nil, or_false] at hn; rcases hn with rfl | rfl | rfl | rfl | rfl | rfl | rfl | rfl | rfl | rfl | rfl | rfl | rfl | rfl <;> rfl, rfl, rfl, rfl, rfl, rfl, rfl, k, by omega, rfl, HN.out⟩, by show ((k : Int) - 1 + 1).toNat < k + 1; omega⟩

set_option maxRecDepth 100000 in
set_option maxHeartbeats 4000000 in
theorem cell_oo000 (p q : ByteArray) (w0 wr : World) (G R i k B : Nat) (u : Nat → Value) (Q0 : Exit → Act → World → Prop) (hp : p.size ≤ 1000) (hq : q.size ≤ 1000) (HPL : Hid (p.data.toList.length = p.size)) (HQL : Hid (q.data.toList.length = q.size)) (hip : i ≤ p.size) (hkq : k ≤ q.size)
    (HJ : Hid (InP p.data.toList q.data.toList w0 G R i (k + 1) B wr)) (hi : i < p.size) (hk : k < q.size) (hpi : p[i] ≠ 42) (hqk : q[k] ≠ 42) (g1 : (p[i] == q[k]) = false) (g2 : (p[i] == 63) = false) (g3 : (q[k] == 63) = false) :
    Code.wp Tryd.prog body2 (Exit.then (fun a' w' => WI p q w0 G R i B u a' w' ∧ mu2 a' w' < k + 1) Q0) (fr2 p q G (i : Int) (k : Int) u) wr := by
  have hi0 : (0 : Int) ≤ (i : Int) := by omega
  have hi1 : (i : Int) < (p.size : Int) + 1 := by omega
  have hk0 : (0 : Int) ≤ (k : Int) := by omega
  have hk1 : (k : Int) < (q.size : Int) + 1 := by omega
  have hkl : k ≤ q.data.toList.length := by rw [HQL.out]; exact hkq
  have hrow := HJ.out.row
  have hhere := HJ.out.here hkl
  rw [HQL.out] at hrow
  obtain ⟨hhere, hfr⟩ := hhere
  have hik : k < q.size + 1 := by omega
  have hii : i < p.size + 1 := by omega
  have hieq : ((i : Int) == (p.size : Int)) = false := by rw [beq_eq_false_iff_ne]; omega
  have hilt : decide ((i : Int) < (p.size : Int)) = true := by rw [decide_eq_true_iff]; omega
  have hilt2 : decide (i < p.size) = true := by rw [decide_eq_true_iff]; omega
  have hinx := HJ.out.next (by rw [HPL.out]; exact hi)
  have hx := HJ.out.below_ (by rw [HPL.out]; exact hi) k hkl
  rw [HQL.out] at hinx
  have hi2 : (i : Int) + 1 < (p.size : Int) + 1 := by omega
  have hi3 : (0 : Int) ≤ (i : Int) + 1 := by omega
  have hiI : (i : Int) < (p.size : Int) := by omega
  have hwi : IntKind.i64.wrap ((i : Int) + 1) = (i : Int) + 1 := IntWalk.i64_in _ (by omega)
  have hti : ((i : Int) + 1).toNat = i + 1 := by omega
  have hkeq : ((k : Int) == (q.size : Int)) = false := by rw [beq_eq_false_iff_ne]; omega
  have hklt : decide ((k : Int) < (q.size : Int)) = true := by rw [decide_eq_true_iff]; omega
  have hklt2 : decide (k < q.size) = true := by rw [decide_eq_true_iff]; omega
  have hy := HJ.out.right (by rw [HQL.out]; exact hk)
  have hk2 : (k : Int) + 1 < (q.size : Int) + 1 := by omega
  have hk3 : (0 : Int) ≤ (k : Int) + 1 := by omega
  have hkI : (k : Int) < (q.size : Int) := by omega
  have hwk : IntKind.i64.wrap ((k : Int) + 1) = (k : Int) + 1 := IntWalk.i64_in _ (by omega)
  have htk : ((k : Int) + 1).toNat = k + 1 := by omega
  obtain ⟨a, ha⟩ : ∃ a, a = p[i] := ⟨_, rfl⟩
  have hpa : p[i] = a := ha.symm
  have ha42 : a ≠ 42 := by rw [ha]; exact hpi
  have hsp : star p.data.toList i = false := star_not (hi := by rw [HPL.out]; exact hi) hpi
  have hb1 : ((a.toNat : Int) == 42) = false := by rw [beq_eq_false_iff_ne]; intro e; exact ha42 (UInt8.toNat_inj.1 (by show _ = 42; omega))
  have hb2 : ((a.toNat : Int) != 42) = true := by rw [bne_iff_ne]; intro e; exact ha42 (UInt8.toNat_inj.1 (by show _ = 42; omega))
  obtain ⟨b, hb⟩ : ∃ b, b = q[k] := ⟨_, rfl⟩
  have hqb : q[k] = b := hb.symm
  have hb42 : b ≠ 42 := by rw [hb]; exact hqk
  have hsq : star q.data.toList k = false := star_not (hi := by rw [HQL.out]; exact hk) hqk
  have hb3 : ((b.toNat : Int) == 42) = false := by rw [beq_eq_false_iff_ne]; intro e; exact hb42 (UInt8.toNat_inj.1 (by show _ = 42; omega))
  have hb4 : ((b.toNat : Int) != 42) = true := by rw [bne_iff_ne]; intro e; exact hb42 (UInt8.toNat_inj.1 (by show _ = 42; omega))
  have HSP := Lib.hid hsp
  have HSQ := Lib.hid hsq
  clear hsp hsq
  have hzc := HJ.out.below_ (by rw [HPL.out]; exact hi) (k + 1) (by rw [HQL.out]; exact hk)
  obtain ⟨z, hzv⟩ : ∃ z, z = ovB p.data.toList q.data.toList (i + 1) (k + 1) := ⟨_, rfl⟩
  rw [← hzv] at hzc
  have hsg : signL p.data.toList q.data.toList i k = signB a b := by rw [ha, hb]; exact sign_L _ _ _ _ (by rw [HPL.out]; exact hi) (by rw [HQL.out]; exact hk)
  rw [← ha] at g1 g2
  rw [← hb] at g1 g3
  have HSG := Lib.hid hsg
  have HZV := Lib.hid hzv.symm
  clear hsg hzv ha hb hpi hqk ha42 hb42
  have s1 : ((a.toNat : Int) == (b.toNat : Int)) = (a == b) := by
    rw [Bool.eq_iff_iff, beq_iff_eq, beq_iff_eq]; exact ⟨fun e => UInt8.toNat_inj.1 (by omega), fun e => by rw [e]⟩
  have s2 : ((a.toNat : Int) == 63) = (a == 63) := by
    rw [Bool.eq_iff_iff, beq_iff_eq, beq_iff_eq]; exact ⟨fun e => UInt8.toNat_inj.1 (by show _ = 63; omega), fun e => by rw [e]; rfl⟩
  have s3 : ((b.toNat : Int) == 63) = (b == 63) := by
    rw [Bool.eq_iff_iff, beq_iff_eq, beq_iff_eq]; exact ⟨fun e => UInt8.toNat_inj.1 (by show _ = 63; omega), fun e => by rw [e]; rfl⟩
  have HSB : Hid (signB a b = (a == b || (a == 63 || b == 63))) := rfl
  rw [g1] at s1 HSB
  rw [g2] at s2 HSB
  rw [g3] at s3 HSB
  clear g1 g2 g3
  have HSV : Hid (signL p.data.toList q.data.toList i k = false) := by show _ = _; rw [HSG.out, HSB.out]; rfl
  clear HSB
  have hcell := ovB_cell p.data.toList q.data.toList i k (by rw [HPL.out, HQL.out]; omega)
  rw [HPL.out, HQL.out] at hcell
  have HV : Hid (ovB p.data.toList q.data.toList i k = false) := by show _ = _; rw [hcell]; simp [HSP.out, HSQ.out, HSV.out, hi, hk]
  clear hcell
  have HN := Lib.hid (HJ.out.drew.put hkl false HV.out)
  clear HJ HV
  unfold fr2
  conv => arg 2; whnf
  go_wp2
  refine wp_region_still_tail 36 (by kernel_rfl) (by kernel_rfl) ?_
  simp only [List.take_succ_cons, List.take_zero, List.drop_succ_cons, List.drop_zero]
  repeat (with_reducible refine wpStill_step (fun K hK => ?_); go_simp; with_reducible refine hK _ ?_; clear hK K)
  with_reducible refine wpStill_nil ?_
  change wpList _ _ _ _ _ (World.drew _)
  go_wp2
  exact ⟨⟨by intro n hn; simp only [List.mem_cons, List.not_mem_nil, or_false] at hn; rcases hn with rfl | rfl | rfl | rfl | rfl | rfl | rfl | rfl | rfl | rfl | rfl | rfl | rfl | rfl <;> rfl, rfl, rfl, rfl, rfl, rfl, rfl, k, by omega, rfl, HN.out⟩, by show ((k : Int) - 1 + 1).toNat < k + 1; omega⟩
end Go.Proofs.YtodkjhbnodcbhaaDoor
