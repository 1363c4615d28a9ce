/-
  The document's both: the loops.
-/
import Derived.Test.YtodkjhbnodcbhaaDoorGlobT3
import Derived.Test.YtodkjhbnodcbhaaDoorGlobT4
import Derived.Test.YtodkjhbnodcbhaaDoorGlobT5
import Derived.Test.YtodkjhbnodcbhaaDoorGlobT6
namespace Go.Proofs.YtodkjhbnodcbhaaDoor
open Go.RowKit Glob
set_option linter.unusedVariables false

theorem cell_any (p q : ByteArray) (w0 wr : World) (G R i k B : Nat) (u : Nat → Value) (Q0 : Exit → Act → World → Prop) (hp : p.size ≤ 1000) (hq : q.size ≤ 1000) (HPL : Hid (p.data.toList.length = p.size)) (HQL : Hid (q.data.toList.length = q.size)) (hip : i ≤ p.size) (hkq : k ≤ q.size)
    (HJ : Hid (InP p.data.toList q.data.toList w0 G R i (k + 1) B wr)) :
    Code.wp Tryd.prog body2 (Exit.then (fun a' w' => WI p q w0 G R i B u a' w' ∧ mu2 a' w' < k + 1) Q0) (fr2 p q G (i : Int) (k : Int) u) wr := by
  rcases (by omega : i = p.size ∨ i < p.size) with hi | hi <;> rcases (by omega : k = q.size ∨ k < q.size) with hk | hk
  · exact cell_nn p q w0 wr G R i k B u Q0 hp hq HPL HQL hip hkq HJ hi hk
  · by_cases hqk : q[k] = 42
    · cases hyv : ovB p.data.toList q.data.toList i (k + 1) with
      | true => exact cell_nsT p q w0 wr G R i k B u Q0 hp hq HPL HQL hip hkq HJ hi hk hqk hyv
      | false => exact cell_nsF p q w0 wr G R i k B u Q0 hp hq HPL HQL hip hkq HJ hi hk hqk hyv
    · exact cell_no p q w0 wr G R i k B u Q0 hp hq HPL HQL hip hkq HJ hi hk hqk
  · by_cases hpi : p[i] = 42
    · cases hxv : ovB p.data.toList q.data.toList (i + 1) k with
      | true => exact cell_snT p q w0 wr G R i k B u Q0 hp hq HPL HQL hip hkq HJ hi hk hpi hxv
      | false => exact cell_snF p q w0 wr G R i k B u Q0 hp hq HPL HQL hip hkq HJ hi hk hpi hxv
    · exact cell_on p q w0 wr G R i k B u Q0 hp hq HPL HQL hip hkq HJ hi hk hpi
  · by_cases hpi : p[i] = 42 <;> by_cases hqk : q[k] = 42
    · cases hxv : ovB p.data.toList q.data.toList (i + 1) k with
      | true => exact cell_ssT p q w0 wr G R i k B u Q0 hp hq HPL HQL hip hkq HJ hi hk hpi hqk hxv
      | false =>
        cases hyv : ovB p.data.toList q.data.toList i (k + 1) with
        | true => exact cell_ssFT p q w0 wr G R i k B u Q0 hp hq HPL HQL hip hkq HJ hi hk hpi hqk hxv hyv
        | false => exact cell_ssFF p q w0 wr G R i k B u Q0 hp hq HPL HQL hip hkq HJ hi hk hpi hqk hxv hyv
    · cases hxv : ovB p.data.toList q.data.toList (i + 1) k with
      | true => exact cell_soT p q w0 wr G R i k B u Q0 hp hq HPL HQL hip hkq HJ hi hk hpi hqk hxv
      | false => exact cell_soF p q w0 wr G R i k B u Q0 hp hq HPL HQL hip hkq HJ hi hk hpi hqk hxv
    · cases hyv : ovB p.data.toList q.data.toList i (k + 1) with
      | true => exact cell_osT p q w0 wr G R i k B u Q0 hp hq HPL HQL hip hkq HJ hi hk hpi hqk hyv
      | false => exact cell_osF p q w0 wr G R i k B u Q0 hp hq HPL HQL hip hkq HJ hi hk hpi hqk hyv
    · cases g1 : (p[i] == q[k]) <;> cases g2 : (p[i] == 63) <;> cases g3 : (q[k] == 63)
      · exact cell_oo000 p q w0 wr G R i k B u Q0 hp hq HPL HQL hip hkq HJ hi hk hpi hqk g1 g2 g3
      · exact cell_oo001 p q w0 wr G R i k B u Q0 hp hq HPL HQL hip hkq HJ hi hk hpi hqk g1 g2 g3
      · exact cell_oo010 p q w0 wr G R i k B u Q0 hp hq HPL HQL hip hkq HJ hi hk hpi hqk g1 g2 g3
      · exact cell_oo011 p q w0 wr G R i k B u Q0 hp hq HPL HQL hip hkq HJ hi hk hpi hqk g1 g2 g3
      · exact cell_oo100 p q w0 wr G R i k B u Q0 hp hq HPL HQL hip hkq HJ hi hk hpi hqk g1 g2 g3
      · exact cell_oo101 p q w0 wr G R i k B u Q0 hp hq HPL HQL hip hkq HJ hi hk hpi hqk g1 g2 g3
      · exact cell_oo110 p q w0 wr G R i k B u Q0 hp hq HPL HQL hip hkq HJ hi hk hpi hqk g1 g2 g3
      · exact cell_oo111 p q w0 wr G R i k B u Q0 hp hq HPL HQL hip hkq HJ hi hk hpi hqk g1 g2 g3
set_option maxRecDepth 100000 in
set_option maxHeartbeats 4000000 in
theorem cell_out (p q : ByteArray) (wr : World) (G i : Nat) (u : Nat → Value) (I : Act → World → Prop) (Q0 : Exit → Act → World → Prop) (h : Q0 (.exit 2) (fr2 p q G (i : Int) (-1) (fun n => if n = 27 then .int .i64 (-1) else if n = 28 then .bool false else u n)) wr) :
    Code.wp Tryd.prog body2 (Exit.then I Q0) (fr2 p q G (i : Int) (-1) u) wr := by
  have H := Lib.hid h
  clear h
  unfold fr2
  conv => arg 2; whnf
  go_wp2
  exact H.out
end Go.Proofs.YtodkjhbnodcbhaaDoor
