/-
  The document's both: cells, one.
-/
import Derived.Test.YtodkjhbnodcbhaaDoorGlobT2
namespace Go.Proofs.YtodkjhbnodcbhaaDoor
open Go.RowKit Glob
set_option linter.unusedVariables false

set_option maxRecDepth 100000 in
set_option maxHeartbeats 4000000 in
theorem cell_nn (p q : ByteArray) (w0 wr : World) (G R i k B : Nat) (u : Nat → Value) (Q0 : Exit → Act → World → Prop) (hp : p.size ≤ 1000) (hq : q.size ≤ 1000) (HPL : Hid (p.data.toList.length = p.size)) (HQL : Hid (q.data.toList.length = q.size)) (hip : i ≤ p.size) (hkq : k ≤ q.size)
    (HJ : Hid (InP p.data.toList q.data.toList w0 G R i (k + 1) B wr)) (hi : i = p.size) (hk : k = q.size) :
    Code.wp Tryd.prog body2 (Exit.then (fun a' w' => WI p q w0 G R i B u a' w' ∧ mu2 a' w' < k + 1) Q0) (fr2 p q G (i : Int) (k : Int) u) wr := by
  have hi0 : (0 : Int) ≤ (i : Int) := by omega
  have hi1 : (i : Int) < (p.size : Int) + 1 := by omega
  have hk0 : (0 : Int) ≤ (k : Int) := by omega
  have hk1 : (k : Int) < (q.size : Int) + 1 := by omega
  have hkl : k ≤ q.data.toList.length := by rw [HQL.out]; exact hkq
  have hrow := HJ.out.row
  have hhere := HJ.out.here hkl
  rw [HQL.out] at hrow
  obtain ⟨hhere, hfr⟩ := hhere
  have hik : k < q.size + 1 := by omega
  have hii : i < p.size + 1 := by omega
  have hieq : ((i : Int) == (p.size : Int)) = true := by rw [beq_iff_eq]; omega
  have hilt : decide ((i : Int) < (p.size : Int)) = false := by rw [decide_eq_false_iff_not]; omega
  have hilt2 : decide (i < p.size) = false := by rw [decide_eq_false_iff_not]; omega
  have hsp : star p.data.toList i = false := by unfold star; rw [List.getElem?_eq_none (by rw [HPL.out]; omega)]; rfl
  have hkeq : ((k : Int) == (q.size : Int)) = true := by rw [beq_iff_eq]; omega
  have hklt : decide ((k : Int) < (q.size : Int)) = false := by rw [decide_eq_false_iff_not]; omega
  have hklt2 : decide (k < q.size) = false := by rw [decide_eq_false_iff_not]; omega
  have HV : Hid (ovB p.data.toList q.data.toList i k = true) := by show _ = _; rw [hi, hk, ← HPL.out, ← HQL.out]; exact ovB_end _ _
  have HN := Lib.hid (HJ.out.put hkl true HV.out)
  clear HJ HV hi hk hsp
  unfold fr2
  conv => arg 2; whnf
  go_wp2
  exact ⟨⟨by intro n hn; simp only [List.mem_cons, List.not_mem_nil, or_false] at hn; rcases hn with rfl | rfl | rfl | rfl | rfl | rfl | rfl | rfl | rfl | rfl | rfl | rfl | rfl | rfl <;> rfl, rfl, rfl, rfl, rfl, rfl, rfl, k, by omega, rfl, HN.out⟩, by show ((k : Int) - 1 + 1).toNat < k + 1; omega⟩

set_option maxRecDepth 100000 in
set_option maxHeartbeats 4000000 in
theorem cell_nsT (p q : ByteArray) (w0 wr : World) (G R i k B : Nat) (u : Nat → Value) (Q0 : Exit → Act → World → Prop) (hp : p.size ≤ 1000) (hq : q.size ≤ 1000) (HPL : Hid (p.data.toList.length = p.size)) (HQL : Hid (q.data.toList.length = q.size)) (hip : i ≤ p.size) (hkq : k ≤ q.size)
    (HJ : Hid (InP p.data.toList q.data.toList w0 G R i (k + 1) B wr)) (hi : i = p.size) (hk : k < q.size) (hqk : q[k] = 42) (hyv : ovB p.data.toList q.data.toList i (k + 1) = true) :
    Code.wp Tryd.prog body2 (Exit.then (fun a' w' => WI p q w0 G R i B u a' w' ∧ mu2 a' w' < k + 1) Q0) (fr2 p q G (i : Int) (k : Int) u) wr := by
  have hi0 : (0 : Int) ≤ (i : Int) := by omega
  have hi1 : (i : Int) < (p.size : Int) + 1 := by omega
  have hk0 : (0 : Int) ≤ (k : Int) := by omega
  have hk1 : (k : Int) < (q.size : Int) + 1 := by omega
  have hkl : k ≤ q.data.toList.length := by rw [HQL.out]; exact hkq
  have hrow := HJ.out.row
  have hhere := HJ.out.here hkl
  rw [HQL.out] at hrow
  obtain ⟨hhere, hfr⟩ := hhere
  have hik : k < q.size + 1 := by omega
  have hii : i < p.size + 1 := by omega
  have hiN : ¬ i < p.size := by omega
  have hieq : ((i : Int) == (p.size : Int)) = true := by rw [beq_iff_eq]; omega
  have hilt : decide ((i : Int) < (p.size : Int)) = false := by rw [decide_eq_false_iff_not]; omega
  have hilt2 : decide (i < p.size) = false := by rw [decide_eq_false_iff_not]; omega
  have hsp : star p.data.toList i = false := by unfold star; rw [List.getElem?_eq_none (by rw [HPL.out]; omega)]; rfl
  have hkeq : ((k : Int) == (q.size : Int)) = false := by rw [beq_eq_false_iff_ne]; omega
  have hklt : decide ((k : Int) < (q.size : Int)) = true := by rw [decide_eq_true_iff]; omega
  have hklt2 : decide (k < q.size) = true := by rw [decide_eq_true_iff]; omega
  have hy := HJ.out.right (by rw [HQL.out]; exact hk)
  have hk2 : (k : Int) + 1 < (q.size : Int) + 1 := by omega
  have hk3 : (0 : Int) ≤ (k : Int) + 1 := by omega
  have hkI : (k : Int) < (q.size : Int) := by omega
  have hwk : IntKind.i64.wrap ((k : Int) + 1) = (k : Int) + 1 := IntWalk.i64_in _ (by omega)
  have htk : ((k : Int) + 1).toNat = k + 1 := by omega
  have HIN := Lib.hid hiN
  clear hi hiN
  have hqb : q[k] = 42 := hqk
  have hsq : star q.data.toList k = true := star_of (hi := by rw [HQL.out]; exact hk) hqk
  have HSP := Lib.hid hsp
  have HSQ := Lib.hid hsq
  clear hsp hsq
  clear hqk
  rw [hyv] at hy
  have hcell := ovB_cell p.data.toList q.data.toList i k (by rw [HPL.out, HQL.out]; omega)
  rw [HPL.out, HQL.out] at hcell
  have HV : Hid (ovB p.data.toList q.data.toList i k = true) := by show _ = _; rw [hcell]; simp [HSP.out, HSQ.out, hyv]
  clear hcell
  have HN := Lib.hid (HJ.out.put hkl true HV.out)
  clear HJ HV
  unfold fr2
  conv => arg 2; whnf
  go_wp2
  exact ⟨⟨by intro n hn; simp only [List.mem_cons, List.not_mem_nil, or_false] at hn; rcases hn with rfl | rfl | rfl | rfl | rfl | rfl | rfl | rfl | rfl | rfl | rfl | rfl | rfl | rfl <;> rfl, rfl, rfl, rfl, rfl, rfl, rfl, k, by omega, rfl, HN.out⟩, by show ((k : Int) - 1 + 1).toNat < k + 1; omega⟩

set_option maxRecDepth 100000 in
set_option maxHeartbeats 4000000 in
theorem cell_nsF (p q : ByteArray) (w0 wr : World) (G R i k B : Nat) (u : Nat → Value) (Q0 : Exit → Act → World → Prop) (hp : p.size ≤ 1000) (hq : q.size ≤ 1000) (HPL : Hid (p.data.toList.length = p.size)) (HQL : Hid (q.data.toList.length = q.size)) (hip : i ≤ p.size) (hkq : k ≤ q.size)
    (HJ : Hid (InP p.data.toList q.data.toList w0 G R i (k + 1) B wr)) (hi : i = p.size) (hk : k < q.size) (hqk : q[k] = 42) (hyv : ovB p.data.toList q.data.toList i (k + 1) = false) :
    Code.wp Tryd.prog body2 (Exit.then (fun a' w' => WI p q w0 G R i B u a' w' ∧ mu2 a' w' < k + 1) Q0) (fr2 p q G (i : Int) (k : Int) u) wr := by
  have hi0 : (0 : Int) ≤ (i : Int) := by omega
  have hi1 : (i : Int) < (p.size : Int) + 1 := by omega
  have hk0 : (0 : Int) ≤ (k : Int) := by omega
  have hk1 : (k : Int) < (q.size : Int) + 1 := by omega
  have hkl : k ≤ q.data.toList.length := by rw [HQL.out]; exact hkq
  have hrow := HJ.out.row
  have hhere := HJ.out.here hkl
  rw [HQL.out] at hrow
  obtain ⟨hhere, hfr⟩ := hhere
  have hik : k < q.size + 1 := by omega
  have hii : i < p.size + 1 := by omega
  have hiN : ¬ i < p.size := by omega
  have hieq : ((i : Int) == (p.size : Int)) = true := by rw [beq_iff_eq]; omega
  have hilt : decide ((i : Int) < (p.size : Int)) = false := by rw [decide_eq_false_iff_not]; omega
  have hilt2 : decide (i < p.size) = false := by rw [decide_eq_false_iff_not]; omega
  have hsp : star p.data.toList i = false := by unfold star; rw [List.getElem?_eq_none (by rw [HPL.out]; omega)]; rfl
  have hkeq : ((k : Int) == (q.size : Int)) = false := by rw [beq_eq_false_iff_ne]; omega
  have hklt : decide ((k : Int) < (q.size : Int)) = true := by rw [decide_eq_true_iff]; omega
  have hklt2 : decide (k < q.size) = true := by rw [decide_eq_true_iff]; omega
  have hy := HJ.out.right (by rw [HQL.out]; exact hk)
  have hk2 : (k : Int) + 1 < (q.size : Int) + 1 := by omega
  have hk3 : (0 : Int) ≤ (k : Int) + 1 := by omega
  have hkI : (k : Int) < (q.size : Int) := by omega
  have hwk : IntKind.i64.wrap ((k : Int) + 1) = (k : Int) + 1 := IntWalk.i64_in _ (by omega)
  have htk : ((k : Int) + 1).toNat = k + 1 := by omega
  have HIN := Lib.hid hiN
  clear hi hiN
  have hqb : q[k] = 42 := hqk
  have hsq : star q.data.toList k = true := star_of (hi := by rw [HQL.out]; exact hk) hqk
  have HSP := Lib.hid hsp
  have HSQ := Lib.hid hsq
  clear hsp hsq
  clear hqk
  rw [hyv] at hy
  have hcell := ovB_cell p.data.toList q.data.toList i k (by rw [HPL.out, HQL.out]; omega)
  rw [HPL.out, HQL.out] at hcell
  have HV : Hid (ovB p.data.toList q.data.toList i k = false) := by show _ = _; rw [hcell]; simp [HSP.out, HSQ.out, hyv, HIN.out]
  clear hcell
  have HN := Lib.hid (HJ.out.skip hkl HV.out)
  clear HJ HV
  unfold fr2
  conv => arg 2; whnf
  go_wp2
  exact ⟨⟨by intro n hn; simp only [List.mem_cons, List.not_mem_nil, or_false] at hn; rcases hn with rfl | rfl | rfl | rfl | rfl | rfl | rfl | rfl | rfl | rfl | rfl | rfl | rfl | rfl <;> rfl, rfl, rfl, rfl, rfl, rfl, rfl, k, by omega, rfl, HN.out⟩, by show ((k : Int) - 1 + 1).toNat < k + 1; omega⟩

set_option maxRecDepth 100000 in
set_option maxHeartbeats 4000000 in
theorem cell_no (p q : ByteArray) (w0 wr : World) (G R i k B : Nat) (u : Nat → Value) (Q0 : Exit → Act → World → Prop) (hp : p.size ≤ 1000) (hq : q.size ≤ 1000) (HPL : Hid (p.data.toList.length = p.size)) (HQL : Hid (q.data.toList.length = q.size)) (hip : i ≤ p.size) (hkq : k ≤ q.size)
    (HJ : Hid (InP p.data.toList q.data.toList w0 G R i (k + 1) B wr)) (hi : i = p.size) (hk : k < q.size) (hqk : q[k] ≠ 42) :
    Code.wp Tryd.prog body2 (Exit.then (fun a' w' => WI p q w0 G R i B u a' w' ∧ mu2 a' w' < k + 1) Q0) (fr2 p q G (i : Int) (k : Int) u) wr := by
  have hi0 : (0 : Int) ≤ (i : Int) := by omega
  have hi1 : (i : Int) < (p.size : Int) + 1 := by omega
  have hk0 : (0 : Int) ≤ (k : Int) := by omega
  have hk1 : (k : Int) < (q.size : Int) + 1 := by omega
  have hkl : k ≤ q.data.toList.length := by rw [HQL.out]; exact hkq
  have hrow := HJ.out.row
  have hhere := HJ.out.here hkl
  rw [HQL.out] at hrow
  obtain ⟨hhere, hfr⟩ := hhere
  have hik : k < q.size + 1 := by omega
  have hii : i < p.size + 1 := by omega
  have hiN : ¬ i < p.size := by omega
  have hieq : ((i : Int) == (p.size : Int)) = true := by rw [beq_iff_eq]; omega
  have hilt : decide ((i : Int) < (p.size : Int)) = false := by rw [decide_eq_false_iff_not]; omega
  have hilt2 : decide (i < p.size) = false := by rw [decide_eq_false_iff_not]; omega
  have hsp : star p.data.toList i = false := by unfold star; rw [List.getElem?_eq_none (by rw [HPL.out]; omega)]; rfl
  have hkeq : ((k : Int) == (q.size : Int)) = false := by rw [beq_eq_false_iff_ne]; omega
  have hklt : decide ((k : Int) < (q.size : Int)) = true := by rw [decide_eq_true_iff]; omega
  have hklt2 : decide (k < q.size) = true := by rw [decide_eq_true_iff]; omega
  have hy := HJ.out.right (by rw [HQL.out]; exact hk)
  have hk2 : (k : Int) + 1 < (q.size : Int) + 1 := by omega
  have hk3 : (0 : Int) ≤ (k : Int) + 1 := by omega
  have hkI : (k : Int) < (q.size : Int) := by omega
  have hwk : IntKind.i64.wrap ((k : Int) + 1) = (k : Int) + 1 := IntWalk.i64_in _ (by omega)
  have htk : ((k : Int) + 1).toNat = k + 1 := by omega
  have HIN := Lib.hid hiN
  clear hi hiN
  obtain ⟨b, hb⟩ : ∃ b, b = q[k] := ⟨_, rfl⟩
  have hqb : q[k] = b := hb.symm
  have hb42 : b ≠ 42 := by rw [hb]; exact hqk
  have hsq : star q.data.toList k = false := star_not (hi := by rw [HQL.out]; exact hk) hqk
  have hb3 : ((b.toNat : Int) == 42) = false := by rw [beq_eq_false_iff_ne]; intro e; exact hb42 (UInt8.toNat_inj.1 (by show _ = 42; omega))
  have hb4 : ((b.toNat : Int) != 42) = true := by rw [bne_iff_ne]; intro e; exact hb42 (UInt8.toNat_inj.1 (by show _ = 42; omega))
  have HSP := Lib.hid hsp
  have HSQ := Lib.hid hsq
  clear hsp hsq
  clear hb hqk hb42
  have hcell := ovB_cell p.data.toList q.data.toList i k (by rw [HPL.out, HQL.out]; omega)
  rw [HPL.out, HQL.out] at hcell
  have HV : Hid (ovB p.data.toList q.data.toList i k = false) := by show _ = _; rw [hcell]; simp [HSP.out, HSQ.out, HIN.out]
  clear hcell
  have HN := Lib.hid (HJ.out.skip hkl HV.out)
  clear HJ HV
  unfold fr2
  conv => arg 2; whnf
  go_wp2
  exact ⟨⟨by intro n hn; simp only [List.mem_cons, List.not_mem_nil, or_false] at hn; rcases hn with rfl | rfl | rfl | rfl | rfl | rfl | rfl | rfl | rfl | rfl | rfl | rfl | rfl | rfl <;> rfl, rfl, rfl, rfl, rfl, rfl, rfl, k, by omega, rfl, HN.out⟩, by show ((k : Int) - 1 + 1).toNat < k + 1; omega⟩

set_option maxRecDepth 100000 in
set_option maxHeartbeats 4000000 in
theorem cell_snT (p q : ByteArray) (w0 wr : World) (G R i k B : Nat) (u : Nat → Value) (Q0 : Exit → Act → World → Prop) (hp : p.size ≤ 1000) (hq : q.size ≤ 1000) (HPL : Hid (p.data.toList.length = p.size)) (HQL : Hid (q.data.toList.length = q.size)) (hip : i ≤ p.size) (hkq : k ≤ q.size)
    (HJ : Hid (InP p.data.toList q.data.toList w0 G R i (k + 1) B wr)) (hi : i < p.size) (hk : k = q.size) (hpi : p[i] = 42) (hxv : ovB p.data.toList q.data.toList (i + 1) k = true) :
    Code.wp Tryd.prog body2 (Exit.then (fun a' w' => WI p q w0 G R i B u a' w' ∧ mu2 a' w' < k + 1) Q0) (fr2 p q G (i : Int) (k : Int) u) wr := by
  have hi0 : (0 : Int) ≤ (i : Int) := by omega
  have hi1 : (i : Int) < (p.size : Int) + 1 := by omega
  have hk0 : (0 : Int) ≤ (k : Int) := by omega
  have hk1 : (k : Int) < (q.size : Int) + 1 := by omega
  have hkl : k ≤ q.data.toList.length := by rw [HQL.out]; exact hkq
  have hrow := HJ.out.row
  have hhere := HJ.out.here hkl
  rw [HQL.out] at hrow
  obtain ⟨hhere, hfr⟩ := hhere
  have hik : k < q.size + 1 := by omega
  have hii : i < p.size + 1 := by omega
  have hkN : ¬ k < q.size := by omega
  have hieq : ((i : Int) == (p.size : Int)) = false := by rw [beq_eq_false_iff_ne]; omega
  have hilt : decide ((i : Int) < (p.size : Int)) = true := by rw [decide_eq_true_iff]; omega
  have hilt2 : decide (i < p.size) = true := by rw [decide_eq_true_iff]; omega
  have hinx := HJ.out.next (by rw [HPL.out]; exact hi)
  have hx := HJ.out.below_ (by rw [HPL.out]; exact hi) k hkl
  rw [HQL.out] at hinx
  have hi2 : (i : Int) + 1 < (p.size : Int) + 1 := by omega
  have hi3 : (0 : Int) ≤ (i : Int) + 1 := by omega
  have hiI : (i : Int) < (p.size : Int) := by omega
  have hwi : IntKind.i64.wrap ((i : Int) + 1) = (i : Int) + 1 := IntWalk.i64_in _ (by omega)
  have hti : ((i : Int) + 1).toNat = i + 1 := by omega
  have hkeq : ((k : Int) == (q.size : Int)) = true := by rw [beq_iff_eq]; omega
  have hklt : decide ((k : Int) < (q.size : Int)) = false := by rw [decide_eq_false_iff_not]; omega
  have hklt2 : decide (k < q.size) = false := by rw [decide_eq_false_iff_not]; omega
  have hsq : star q.data.toList k = false := by unfold star; rw [List.getElem?_eq_none (by rw [HQL.out]; omega)]; rfl
  have HKN := Lib.hid hkN
  clear hk hkN
  have hpa : p[i] = 42 := hpi
  have hsp : star p.data.toList i = true := star_of (hi := by rw [HPL.out]; exact hi) hpi
  have HSP := Lib.hid hsp
  have HSQ := Lib.hid hsq
  clear hsp hsq
  clear hpi
  rw [hxv] at hx
  have hcell := ovB_cell p.data.toList q.data.toList i k (by rw [HPL.out, HQL.out]; omega)
  rw [HPL.out, HQL.out] at hcell
  have HV : Hid (ovB p.data.toList q.data.toList i k = true) := by show _ = _; rw [hcell]; simp [HSP.out, HSQ.out, hxv]
  clear hcell
  have HN := Lib.hid (HJ.out.put hkl true HV.out)
  clear HJ HV
  unfold fr2
  conv => arg 2; whnf
  go_wp2
  exact ⟨⟨by intro n hn; simp only [List.mem_cons, List.not_mem_nil, or_false] at hn; rcases hn with rfl | rfl | rfl | rfl | rfl | rfl | rfl | rfl | rfl | rfl | rfl | rfl | rfl | rfl <;> rfl, rfl, rfl, rfl, rfl, rfl, rfl, k, by omega, rfl, HN.out⟩, by show ((k : Int) - 1 + 1).toNat < k + 1; omega⟩

set_option maxRecDepth 100000 in
set_option maxHeartbeats 4000000 in
theorem cell_snF (p q : ByteArray) (w0 wr : World) (G R i k B : Nat) (u : Nat → Value) (Q0 : Exit → Act → World → Prop) (hp : p.size ≤ 1000) (hq : q.size ≤ 1000) (HPL : Hid (p.data.toList.length = p.size)) (HQL : Hid (q.data.toList.length = q.size)) (hip : i ≤ p.size) (hkq : k ≤ q.size)
    (HJ : Hid (InP p.data.toList q.data.toList w0 G R i (k + 1) B wr)) (hi : i < p.size) (hk : k = q.size) (hpi : p[i] = 42) (hxv : ovB p.data.toList q.data.toList (i + 1) k = false) :
    Code.wp Tryd.prog body2 (Exit.then (fun a' w' => WI p q w0 G R i B u a' w' ∧ mu2 a' w' < k + 1) Q0) (fr2 p q G (i : Int) (k : Int) u) wr := by
  have hi0 : (0 : Int) ≤ (i : Int) := by omega
  have hi1 : (i : Int) < (p.size : Int) + 1 := by omega
  have hk0 : (0 : Int) ≤ (k : Int) := by omega
  have hk1 : (k : Int) < (q.size : Int) + 1 := by omega
  have hkl : k ≤ q.data.toList.length := by rw [HQL.out]; exact hkq
  have hrow := HJ.out.row
  have hhere := HJ.out.here hkl
  rw [HQL.out] at hrow
  obtain ⟨hhere, hfr⟩ := hhere
  have hik : k < q.size + 1 := by omega
  have hii : i < p.size + 1 := by omega
  have hkN : ¬ k < q.size := by omega
  have hieq : ((i : Int) == (p.size : Int)) = false := by rw [beq_eq_false_iff_ne]; omega
  have hilt : decide ((i : Int) < (p.size : Int)) = true := by rw [decide_eq_true_iff]; omega
  have hilt2 : decide (i < p.size) = true := by rw [decide_eq_true_iff]; omega
  have hinx := HJ.out.next (by rw [HPL.out]; exact hi)
  have hx := HJ.out.below_ (by rw [HPL.out]; exact hi) k hkl
  rw [HQL.out] at hinx
  have hi2 : (i : Int) + 1 < (p.size : Int) + 1 := by omega
  have hi3 : (0 : Int) ≤ (i : Int) + 1 := by omega
  have hiI : (i : Int) < (p.size : Int) := by omega
  have hwi : IntKind.i64.wrap ((i : Int) + 1) = (i : Int) + 1 := IntWalk.i64_in _ (by omega)
  have hti : ((i : Int) + 1).toNat = i + 1 := by omega
  have hkeq : ((k : Int) == (q.size : Int)) = true := by rw [beq_iff_eq]; omega
  have hklt : decide ((k : Int) < (q.size : Int)) = false := by rw [decide_eq_false_iff_not]; omega
  have hklt2 : decide (k < q.size) = false := by rw [decide_eq_false_iff_not]; omega
  have hsq : star q.data.toList k = false := by unfold star; rw [List.getElem?_eq_none (by rw [HQL.out]; omega)]; rfl
  have HKN := Lib.hid hkN
  clear hk hkN
  have hpa : p[i] = 42 := hpi
  have hsp : star p.data.toList i = true := star_of (hi := by rw [HPL.out]; exact hi) hpi
  have HSP := Lib.hid hsp
  have HSQ := Lib.hid hsq
  clear hsp hsq
  clear hpi
  rw [hxv] at hx
  have hcell := ovB_cell p.data.toList q.data.toList i k (by rw [HPL.out, HQL.out]; omega)
  rw [HPL.out, HQL.out] at hcell
  have HV : Hid (ovB p.data.toList q.data.toList i k = false) := by show _ = _; rw [hcell]; simp [HSP.out, HSQ.out, hxv, HKN.out]
  clear hcell
  have HN := Lib.hid (HJ.out.skip hkl HV.out)
  clear HJ HV
  unfold fr2
  conv => arg 2; whnf
  go_wp2
  exact ⟨⟨by intro n hn; simp only [List.mem_cons, List.not_mem_nil, or_false] at hn; rcases hn with rfl | rfl | rfl | rfl | rfl | rfl | rfl | rfl | rfl | rfl | rfl | rfl | rfl | rfl <;> rfl, rfl, rfl, rfl, rfl, rfl, rfl, k, by omega, rfl, HN.out⟩, by show ((k : Int) - 1 + 1).toNat < k + 1; omega⟩

set_option maxRecDepth 100000 in
set_option maxHeartbeats 4000000 in
theorem cell_on (p q : ByteArray) (w0 wr : World) (G R i k B : Nat) (u : Nat → Value) (Q0 : Exit → Act → World → Prop) (hp : p.size ≤ 1000) (hq : q.size ≤ 1000) (HPL : Hid (p.data.toList.length = p.size)) (HQL : Hid (q.data.toList.length = q.size)) (hip : i ≤ p.size) (hkq : k ≤ q.size)
    (HJ : Hid (InP p.data.toList q.data.toList w0 G R i (k + 1) B wr)) (hi : i < p.size) (hk : k = q.size) (hpi : p[i] ≠ 42) :
    Code.wp Tryd.prog body2 (Exit.then (fun a' w' => WI p q w0 G R i B u a' w' ∧ mu2 a' w' < k + 1) Q0) (fr2 p q G (i : Int) (k : Int) u) wr := by
  have hi0 : (0 : Int) ≤ (i : Int) := by omega
  have hi1 : (i : Int) < (p.size : Int) + 1 := by omega
  have hk0 : (0 : Int) ≤ (k : Int) := by omega
  have hk1 : (k : Int) < (q.size : Int) + 1 := by omega
  have hkl : k ≤ q.data.toList.length := by rw [HQL.out]; exact hkq
  have hrow := HJ.out.row
  have hhere := HJ.out.here hkl
  rw [HQL.out] at hrow
  obtain ⟨hhere, hfr⟩ := hhere
  have hik : k < q.size + 1 := by omega
  have hii : i < p.size + 1 := by omega
  have hkN : ¬ k < q.size := by omega
  have hieq : ((i : Int) == (p.size : Int)) = false := by rw [beq_eq_false_iff_ne]; omega
  have hilt : decide ((i : Int) < (p.size : Int)) = true := by rw [decide_eq_true_iff]; omega
  have hilt2 : decide (i < p.size) = true := by rw [decide_eq_true_iff]; omega
  have hinx := HJ.out.next (by rw [HPL.out]; exact hi)
  have hx := HJ.out.below_ (by rw [HPL.out]; exact hi) k hkl
  rw [HQL.out] at hinx
  have hi2 : (i : Int) + 1 < (p.size : Int) + 1 := by omega
  have hi3 : (0 : Int) ≤ (i : Int) + 1 := by omega
  have hiI : (i : Int) < (p.size : Int) := by omega
  have hwi : IntKind.i64.wrap ((i : Int) + 1) = (i : Int) + 1 := IntWalk.i64_in _ (by omega)
  have hti : ((i : Int) + 1).toNat = i + 1 := by omega
  have hkeq : ((k : Int) == (q.size : Int)) = true := by rw [beq_iff_eq]; omega
  have hklt : decide ((k : Int) < (q.size : Int)) = false := by rw [decide_eq_false_iff_not]; omega
  have hklt2 : decide (k < q.size) = false := by rw [decide_eq_false_iff_not]; omega
  have hsq : star q.data.toList k = false := by unfold star; rw [List.getElem?_eq_none (by rw [HQL.out]; omega)]; rfl
  have HKN := Lib.hid hkN
  clear hk hkN
  obtain ⟨a, ha⟩ : ∃ a, a = p[i] := ⟨_, rfl⟩
  have hpa : p[i] = a := ha.symm
  have ha42 : a ≠ 42 := by rw [ha]; exact hpi
  have hsp : star p.data.toList i = false := star_not (hi := by rw [HPL.out]; exact hi) hpi
  have hb1 : ((a.toNat : Int) == 42) = false := by rw [beq_eq_false_iff_ne]; intro e; exact ha42 (UInt8.toNat_inj.1 (by show _ = 42; omega))
  have hb2 : ((a.toNat : Int) != 42) = true := by rw [bne_iff_ne]; intro e; exact ha42 (UInt8.toNat_inj.1 (by show _ = 42; omega))
  have HSP := Lib.hid hsp
  have HSQ := Lib.hid hsq
  clear hsp hsq
  clear ha hpi ha42
  have hcell := ovB_cell p.data.toList q.data.toList i k (by rw [HPL.out, HQL.out]; omega)
  rw [HPL.out, HQL.out] at hcell
  have HV : Hid (ovB p.data.toList q.data.toList i k = false) := by show _ = _; rw [hcell]; simp [HSP.out, HSQ.out, HKN.out]
  clear hcell
  have HN := Lib.hid (HJ.out.skip hkl HV.out)
  clear HJ HV
  unfold fr2
  conv => arg 2; whnf
  go_wp2
  exact ⟨⟨by intro n hn; simp only [List.mem_cons, List.not_mem_nil, or_false] at hn; rcases hn with rfl | rfl | rfl | rfl | rfl | rfl | rfl | rfl | rfl | rfl | rfl | rfl | rfl | rfl <;> rfl, rfl, rfl, rfl, rfl, rfl, rfl, k, by omega, rfl, HN.out⟩, by show ((k : Int) - 1 + 1).toNat < k + 1; omega⟩
end Go.Proofs.YtodkjhbnodcbhaaDoor
