/-
  store.code: a text, and files, are written behind what is there.
-/
import Derived.Test.YtgpcinfhcamgpaaGreatDoorStM2
import Derived.Test.YtgpcinfhcamgpaaGreatDoorGA
import Derived.Test.YtgpcinfhcamgpaaGreatDoorStP
import Derived.Deep.DrawnRows
namespace Go.Proofs.YtgpcinfhcamgpaaGreatDoor
open Go.RowKit
attribute [local go_sem ↓] Go.wp_at_zero Go.wp_at_succ
set_option linter.unusedVariables false
set_option linter.unusedSimpArgs false

theorem run_append_types {P : Program} (w : World) (t t2 ty e e2 : TypeId) (ht : P.underlying t = some (.slice e)) (ht2 : P.underlying t2 = some (.slice e2)) (A : Option Addr) (n c : Nat) (x : Value) :
    (Builtin.append_ #[t, t2] ty #[.slice A n c, x]).run P w = (Builtin.append_ #[t, t] ty #[.slice A n c, x]).run P w := by
  simp [Builtin.append_, run_underlying ht, run_underlying ht2]
theorem app_code (w : World) {ops : Array Oper} {rest : List Oper} {o : Oper} {a : Act} {Q : Exit → Act → World → Prop} (hgd : o.guard = none) (s x : Operand)
    (ho : o.op = .call { callee := .builtin .append, args := #[s, x], argTypes := #[63, 22] })
    (base : Nat) (v : Value) (l : List UInt8) (hs : a.eval s = v) (hown : OB w base v l) (A : Option Addr) (n c : Nat) (l2 : List UInt8) (hx : a.eval x = .slice A n c) (hn : l2.length = n) (hr : RB w A l2)
    (hlen : l.length + n ≤ 140737488355328) (hbase : base ≤ w.heap.size)
    (h : ∀ v' w', OB w' base v' (l ++ l2) → w.grownBy w' v.ownBlock → wpList Tryz.prog ops Q rest (a.put o.dst v') w') : wpList Tryz.prog ops Q (o :: rest) a w := by
  obtain ⟨i0, hi0, hz0, hz1, hz2⟩ := info_parts infoByte
  subst hn
  refine wpList_plain hgd fun K hK => ?_
  obtain ⟨v', w', hrun, h2, h3, _⟩ := run_append_any (P := Tryz.prog) w base 63 o.type 5 i0 _ 1 1 Tryz.underlying63 hi0 hz0 hz1 hz2 rfl (by omega) v l.length (Lib.byteCells l) hown w.heap.size A l2.length c (Lib.byteCells l2) hr (oneCell_bytes l2) (by simp only [maxLen]; omega) (by omega) hbase
  obtain ⟨A0, c0, rfl, _, _, _, _⟩ := hown.shape
  rw [← run_append_types (P := Tryz.prog) w 63 22 o.type 5 5 Tryz.underlying63 Tryz.underlying22] at hrun
  unfold Oper.wp execOp
  simp only [ho, resolve, invoke, builtin, Sem.run_bind, Sem.run_pure, Result.andThen_ok, List.map_toArray, List.map_cons, List.map_nil, hs, hx, hrun]
  refine hK _ _ (h v' w' ?_ h3)
  unfold OB
  rw [Lib.byteCells_append, List.length_append]
  exact h2
/-- the code that is being written: its box, and what is there -/
def CB (w : World) (base g : Nat) (l : List UInt8) : Prop := ∃ v, Blk w g 63 #[v] ∧ OB w base v l ∧ base ≤ g
theorem CB.below {w w' : World} {base g : Nat} {l : List UInt8} (h : CB w base g l) (hb : Below w.heap.size w w') : CB w' base g l := by
  obtain ⟨v, h1, h2, h3⟩ := h
  exact ⟨v, h1.below hb h1.lt, h2.below hb, h3⟩
/-- blocks that hold neither bytes nor a code stay -/
def KeptC (w w' : World) : Prop := ∀ k t cs, t ≠ 63 → t ≠ 5 → Blk w k t cs → Blk w' k t cs
theorem KeptC.refl (w : World) : KeptC w w := fun _ _ _ _ _ h => h
theorem KeptC.trans {a b c : World} (h : KeptC a b) (h2 : KeptC b c) : KeptC a c := fun k t cs h3 h4 h5 => h2 k t cs h3 h4 (h k t cs h3 h4 h5)
theorem KeptC.of_below {w w' : World} (h : Below w.heap.size w w') : KeptC w w' := fun k t cs _ _ hb => hb.below h hb.lt
set_option maxRecDepth 100000 in
set_option maxHeartbeats 2000000 in
theorem ctext_any (base g : Nat) (l : List UInt8) (s : ByteArray) (w : World) (h : CB w base g l) (hb : base ≤ w.heap.size) (hs : s.size ≤ 1048576) (hl : l.length + s.size ≤ 140737488000000) :
    Calls Tryz.prog 35 #[.pointer (some ⟨g, 0, none⟩), .string s] w fun e w' => e = .returned (.tuple #[]) ∧ CB w' base g (l ++ textBytes s.data.toList) ∧ Below base w w' ∧ KeptC w w' := by
  have HT := Lib.hid (text_ok s w hs)
  have H := Lib.hid h
  have hsl : s.data.toList.length = s.size := by cases s; simp [ByteArray.size]
  have HTL : Hid ((textBytes s.data.toList).length = 4 + s.size) := by show _ = _; rw [textBytes_length, hsl]
  clear h hsl
  go_enter Tryz.func35, Tryz.ntmps35
  go_wp2_with fail
  refine HT.out.mono ?_
  rintro e w1 ⟨v1, rfl, hv1, hb1⟩
  obtain ⟨A1, c1, rfl, h11, h12, h13, _⟩ := hv1.shape_n HTL.out
  obtain ⟨v, hB, hO, hg⟩ := H.out.below hb1
  have c0 := hB.cell 0
  have f0 := hB.frozen 0
  have HB := Lib.hid hB
  have HO := Lib.hid hO
  have HR := Lib.hid h13
  have HB1 := Lib.hid hb1
  have hbw1 : base ≤ w1.heap.size := Nat.le_trans hb hb1.size
  have hvg : v.ownBlock ≠ some g := own_blk_ne hO hB (by decide)
  have HVG := Lib.hid hvg
  clear hB hO h13 hb1 hv1 hvg
  go_wp2_with (at_builtin; refine app_code _ rfl _ _ rfl base _ l rfl HO.out A1 (4 + s.size) c1 (textBytes s.data.toList) rfl HTL.out HR.out (by omega) hbw1 ?_; intro v2 w2 ho2 hg2; obtain ⟨A2, c22, rfl, _, _, _, _⟩ := ho2.shape_n (n := l.length + (4 + s.size)) (by rw [List.length_append, HTL.out]); have hB2 : Blk w2 g 63 #[v] := HB.out.grown hg2 (fun e => HVG.out e.symm); have c2 := hB2.cell 0; have f2 := hB2.frozen 0; have HB2 := Lib.hid hB2; have HO2 := Lib.hid ho2; have HG2 := Lib.hid hg2; clear hB2 ho2 hg2 c0 f0)
  go_end0
  refine ⟨rfl, ⟨_, HB2.out.set_ 0 _, ?_, hg⟩, ?_, ?_⟩
  · refine HO2.out.fr (S := (· = g)) (fr_cell _) (fun k hk e => ?_)
    subst e
    exact own_blk_ne HO2.out HB2.out (by decide) hk
  · exact (((HB1.out.mono hb).grown HG2.out hbw1 (fun k hk => HO.out.grown_ge k hk))).setCell hg _
  · intro k t cs h1 h2 hk
    have k1 := hk.below HB1.out hk.lt
    have k2 : Blk w2 k t cs := k1.grown HG2.out (fun e => own_blk_ne HO.out k1 (fun e => h2 e.symm) e.symm)
    exact k2.far (by exact k2.ne_ HB2.out h1) _
end Go.Proofs.YtgpcinfhcamgpaaGreatDoor
