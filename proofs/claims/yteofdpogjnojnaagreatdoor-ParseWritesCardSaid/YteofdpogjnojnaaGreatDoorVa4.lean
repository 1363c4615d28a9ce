/-
  value.Clone.
-/
import Derived.Test.YteofdpogjnojnaaGreatDoorVa3
import Derived.Test.YteofdpogjnojnaaGreatDoorLastOp
namespace Go.Proofs.YteofdpogjnojnaaGreatDoor
open Go.RowKit
attribute [local go_sem ↓] Go.wp_at_zero Go.wp_at_succ
set_option linter.unusedVariables false
set_option linter.unusedSimpArgs false

theorem lastQ_normal {P : Program} {ops : Array Oper} {Q : Exit → Act → World → Prop} {st : Nat} {a : Act} {w : World} (h : wpOp P ops Q st (fun a w => Q .normal a w) a w) : lastQ P ops Q st .normal a w := h
theorem five_cells {w : World} {b : Nat} {t : TypeId} {v0 v1 v2 v3 v4 : Value} (h : Blk w b t #[v0, v1, v2, v3, v4]) : w.cell? ⟨b, 0, none⟩ = some v0 ∧ w.cell? ⟨b, 1, none⟩ = some v1 ∧ w.cell? ⟨b, 2, none⟩ = some v2 ∧ w.cell? ⟨b, 3, none⟩ = some v3 ∧ w.cell? ⟨b, 4, none⟩ = some v4 :=
  ⟨h.cell 0, h.cell 1, h.cell 2, h.cell 3, h.cell 4⟩
theorem five_fr {w : World} {b : Nat} {t : TypeId} {v0 v1 v2 v3 v4 : Value} (h : Blk w b t #[v0, v1, v2, v3, v4]) : w.frozen? ⟨b, 0, none⟩ = false ∧ w.frozen? ⟨b, 1, none⟩ = false ∧ w.frozen? ⟨b, 2, none⟩ = false ∧ w.frozen? ⟨b, 3, none⟩ = false ∧ w.frozen? ⟨b, 4, none⟩ = false :=
  ⟨h.frozen 0, h.frozen 1, h.frozen 2, h.frozen 3, h.frozen 4⟩
/-- a value all of whose rows are one's own, from block base on -/
structure VOwn (base : Nat) (w : World) (v : MV) : Prop where
  at_ : VAt w v
  fr : BlkP (base ≤ ·) v
  l : ROwn 25 5 MV.cs base w (.slice v.lA v.l.length v.lc) v.l
  m : ROwn 40 6 MV.pcs base w (.slice v.mA v.m.length v.mc) v.m
  lm : ∀ x ∈ v.l, BlkP (fun b => ¬ (Value.slice v.mA v.m.length v.mc).ownBlock = some b) x
  ml : ∀ x ∈ v.m, BlkP (fun b => ¬ (Value.slice v.lA v.l.length v.lc).ownBlock = some b) x
theorem ROwn.base_le {t : TypeId} {size : Nat} {cs : MV → List Value} {base base' : Nat} {w : World} {v : Value} {l : List MV} (h : ROwn t size cs base w v l) (hb : base' ≤ base) : ROwn t size cs base' w v l := by
  refine ⟨⟨h.own.1, ?_⟩, h.at_, fun x hx => (h.fr x hx).mono (fun b hb' => Nat.le_trans hb hb'), h.av⟩
  rcases h.own.2 with h0 | ⟨g, cap, cur, hv, hg, hh, hn⟩
  · exact .inl h0
  · exact .inr ⟨g, cap, cur, hv, Nat.le_trans hb hg, hh, hn⟩
theorem ROwn.shape {t : TypeId} {size : Nat} {cs : MV → List Value} {base : Nat} {w : World} {v : Value} {l : List MV} (h : ROwn t size cs base w v l) : ∃ A c, v = .slice A l.length c ∧ l.length ≤ c ∧ c ≤ maxLen ∧ Reads w w.heap.size size A l.length (l.flatMap cs) ∧ ∀ ad, l ≠ [] → A = some ad → base ≤ ad.block := by
  rcases h.own.2 with ⟨hv, h0⟩ | ⟨g, cap, cur, hv, hg, hh, hn, hm, hcs⟩
  · have : l = [] := List.eq_nil_of_length_eq_zero h0
    subst this
    exact ⟨none, 0, hv, by simp, by simp [maxLen], Reads.none_, fun ad h1 _ => absurd rfl h1⟩
  · have ho := h.own
    rw [hv] at ho
    refine ⟨_, _, hv, hn, hm, Reads.of_own ho, fun ad _ e => ?_⟩
    injection e with e
    rw [← e]
    exact hg
theorem VOwn.mk' {base : Nat} {w : World} {k n : Int} {s : ByteArray} {vl vm : Value} {l m : List MV} (hk : (Lit.int .i64 k).wf = true) (hn : (Lit.int .i64 n).wf = true) (hl : ROwn 25 5 MV.cs base w vl l) (hm : ROwn 40 6 MV.pcs base w vm m) (hlm : ∀ x ∈ l, BlkP (fun b => ¬ vm.ownBlock = some b) x) (hml : ∀ x ∈ m, BlkP (fun b => ¬ vl.ownBlock = some b) x) :
    ∃ v : MV, v.k = k ∧ v.n = n ∧ v.s = s ∧ v.l = l ∧ v.m = m ∧ vl = .slice v.lA l.length v.lc ∧ vm = .slice v.mA m.length v.mc ∧ v.pv = .mk k n s (MV.pvL l) (m.map MV.key) (MV.pvL m) ∧ VOwn base w v := by
  obtain ⟨A, c, rfl, h1, h2, h3, h4⟩ := hl.shape
  obtain ⟨A2, c2, rfl, k1, k2, k3, k4⟩ := hm.shape
  refine ⟨.mk ⟨#[]⟩ k n s A c l A2 c2 m, rfl, rfl, rfl, rfl, rfl, rfl, rfl, by rw [MV.pv], ⟨.mk hk hn h3 h1 h2 k3 k1 k2 hl.at_ hm.at_, .mk (fun h ad e => h4 ad h e) (fun h ad e => k4 ad h e) hl.fr hm.fr, hl, hm, hlm, hml⟩⟩
def CloP (v : MV) (w : World) (e : Ending) (w' : World) : Prop := ∃ v' : MV, e = .returned v'.val ∧ v'.pv = v.pv ∧ VOwn w.heap.size w' v' ∧ Below w.heap.size w w'
theorem pvL_snoc (l : List MV) (x : MV) : MV.pvL (l ++ [x]) = MV.pvL l ++ [x.pv] := by
  rw [pvL_map, pvL_map, List.map_append]
  rfl
theorem pvL_next (l : List MV) (i : Nat) (hi : i < l.length) : MV.pvL (l.take (i + 1)) = MV.pvL (l.take i) ++ [l[i].pv] := by
  rw [List.take_succ_eq_append_getElem hi, pvL_snoc]
/-- what the loops keep: the box of what is made holds two rows of copies -/
structure CL (w : World) (H base : Nat) (k n : Int) (s : ByteArray) (orig : Array Value) (l : List MV) (i : Nat) (m : List MV) (j : Nat) (vl : Value) (l' : List MV) (vm : Value) (m' : List MV) (wr : World) : Prop where
  bel : Below w.heap.size w wr
  src : Blk wr H 25 orig
  out : Blk wr (H + 1) 25 #[.int .i64 0, .int .i64 0, .string ⟨#[]⟩, .slice none 0 0, .slice none 0 0]
  box : Blk wr (H + 1 + 1) 25 #[.int .i64 k, .int .i64 n, .string s, vl, vm]
  bs : H + 3 ≤ base ∧ base ≤ wr.heap.size
  rl : ROwn 25 5 MV.cs base wr vl l'
  rm : ROwn 40 6 MV.pcs base wr vm m'
  ll : l'.length = i
  lp : MV.pvL l' = MV.pvL (l.take i)
  ml : m'.length = j
  mp : MV.pvL m' = MV.pvL (m.take j)
  my : m'.map MV.key = (m.take j).map MV.key
  xlm : ∀ x ∈ l', BlkP (fun b => ¬ vm.ownBlock = some b) x
  xml : ∀ x ∈ m', BlkP (fun b => ¬ vl.ownBlock = some b) x
  ne : ∀ g, vl.ownBlock = some g → ¬ vm.ownBlock = some g
theorem CL.below {w : World} {H base : Nat} {k n : Int} {s : ByteArray} {orig : Array Value} {l : List MV} {i : Nat} {m : List MV} {j : Nat} {vl : Value} {l' : List MV} {vm : Value} {m' : List MV} {wr w' : World} (h : CL w H base k n s orig l i m j vl l' vm m' wr) (hb : Below wr.heap.size wr w') : CL w H base k n s orig l i m j vl l' vm m' w' :=
  ⟨h.bel.trans (hb.mono h.bel.size), h.src.below hb h.src.lt, h.out.below hb h.out.lt, h.box.below hb h.box.lt, ⟨h.bs.1, Nat.le_trans h.bs.2 hb.size⟩, h.rl.below hb, h.rm.below hb, h.ll, h.lp, h.ml, h.mp, h.my, h.xlm, h.xml, h.ne⟩
theorem CL.withM {w : World} {H base : Nat} {k n : Int} {s : ByteArray} {orig : Array Value} {l : List MV} {i : Nat} {vl vm : Value} {l' : List MV} {wr : World} (m : List MV) (h : CL w H base k n s orig l i [] 0 vl l' vm [] wr) : CL w H base k n s orig l i m 0 vl l' vm [] wr :=
  ⟨h.bel, h.src, h.out, h.box, h.bs, h.rl, h.rm, h.ll, h.lp, rfl, rfl, rfl, h.xlm, h.xml, h.ne⟩
/-- one more in its list -/
theorem CL.more {w : World} {H base : Nat} {k n : Int} {s : ByteArray} {orig : Array Value} {l : List MV} {i : Nat} {vl : Value} {l' : List MV} {w2 w4 : World} {x' : MV} {A : Option Addr} {N c : Nat} (h : CL w H base k n s orig l i [] 0 vl l' (.slice none 0 0) [] w2) (hi : i < l.length) (hpv : x'.pv = l[i].pv) (hrow : ROwn 25 5 MV.cs base w4 (.slice A N c) (l' ++ [x'])) (hg : w2.grownBy w4 vl.ownBlock) (hHb : w.heap.size ≤ H) :
    CL w H base k n s orig l (i + 1) [] 0 (.slice A N c) (l' ++ [x']) (.slice none 0 0) [] (w4.setCell ⟨H + 1 + 1, 3, none⟩ (.slice A N c)) ∧ Blk w4 (H + 1 + 1) 25 #[.int .i64 k, .int .i64 n, .string s, vl, .slice none 0 0] := by
  have hge := h.rl.ge
  have hbs := h.bs
  have hne : ∀ b, b < base → ¬ some b = vl.ownBlock := fun b hb e => by have := hge b e.symm; omega
  have hk4 := h.box.grown hg (hne _ (by omega))
  have hsz := hg.size
  have hff : Fr (· = H + 1 + 1) w4 (w4.setCell ⟨H + 1 + 1, 3, none⟩ (.slice A N c)) := (Fr.refl (· = H + 1 + 1) w4).setCell (p := ⟨H + 1 + 1, 3, none⟩) (fun _ => rfl) _
  have hfa : Fr (fun b => H ≤ b) w2 (w4.setCell ⟨H + 1 + 1, 3, none⟩ (.slice A N c)) := ((Fr.of_grown (S := fun b => H ≤ b) hg (fun b e => by have := hge b e; omega))).trans (hff.mono (fun b _ e => by rw [show b = H + 1 + 1 from e]; omega))
  have hrow' : ∀ y ∈ l' ++ [x'], BlkP (fun b => ¬ b = H + 1 + 1) y := fun y hy => (hrow.fr y hy).mono (fun b hb => by omega)
  refine ⟨⟨Fr.below_trans h.bel hfa h.bel.size (fun b hb => Nat.le_trans hHb hb), ?_, ?_, ?_, ⟨hbs.1, Nat.le_trans hbs.2 hfa.size⟩, ?_, ROwn.nil _ _, by rw [List.length_append, h.ll]; rfl, by rw [pvL_snoc, pvL_next l i hi, h.lp, hpv], rfl, rfl, rfl, fun y hy => ?_, (fun y hy => by cases hy), fun g _ e => by cases e⟩, hk4⟩
  · exact ((h.src.grown hg (hne _ (by omega))).fr hff (by omega))
  · exact ((h.out.grown hg (hne _ (by omega))).fr hff (by omega))
  · exact hk4.set_ 3 _
  · exact hrow.frS hff (fun g hg' e => by have := hrow.ge g hg'; have e' : g = H + 1 + 1 := e; omega) hrow'
  · exact (hrow.fr y hy).mono (fun b _ e => by cases e)
/-- one more in its pairs -/
theorem CL.moreM {w : World} {H base : Nat} {k n : Int} {s : ByteArray} {orig : Array Value} {l m : List MV} {i j : Nat} {vl vm : Value} {l' m' : List MV} {w2 w4 : World} {x' : MV} {A : Option Addr} {N c : Nat} (h : CL w H base k n s orig l i m j vl l' vm m' w2) (hj : j < m.length) (hpv : x'.pv = m[j].pv) (hky : x'.key = m[j].key) (hav : BlkP (fun b => ¬ vl.ownBlock = some b) x') (hrow : ROwn 40 6 MV.pcs base w4 (.slice A N c) (m' ++ [x'])) (hg : w2.grownBy w4 vm.ownBlock) (hat : (Value.slice A N c).ownBlock = vm.ownBlock ∨ (Value.slice A N c).ownBlock = some w2.heap.size) (hHb : w.heap.size ≤ H) :
    CL w H base k n s orig l i m (j + 1) vl l' (.slice A N c) (m' ++ [x']) (w4.setCell ⟨H + 1 + 1, 4, none⟩ (.slice A N c)) ∧ Blk w4 (H + 1 + 1) 25 #[.int .i64 k, .int .i64 n, .string s, vl, vm] := by
  have hge := h.rm.ge
  have hbs := h.bs
  have hne : ∀ b, b < base → ¬ some b = vm.ownBlock := fun b hb e => by have := hge b e.symm; omega
  have hk4 := h.box.grown hg (hne _ (by omega))
  have hff : Fr (· = H + 1 + 1) w4 (w4.setCell ⟨H + 1 + 1, 4, none⟩ (.slice A N c)) := (Fr.refl (· = H + 1 + 1) w4).setCell (p := ⟨H + 1 + 1, 4, none⟩) (fun _ => rfl) _
  have hfa : Fr (fun b => H ≤ b) w2 (w4.setCell ⟨H + 1 + 1, 4, none⟩ (.slice A N c)) := ((Fr.of_grown (S := fun b => H ≤ b) hg (fun b e => by have := hge b e; omega))).trans (hff.mono (fun b _ e => by rw [show b = H + 1 + 1 from e]; omega))
  have hrow' : ∀ y ∈ m' ++ [x'], BlkP (fun b => ¬ b = H + 1 + 1) y := fun y hy => (hrow.fr y hy).mono (fun b hb => by omega)
  have hl4 : ROwn 25 5 MV.cs base w4 vl l' := h.rl.frS (S := fun b => vm.ownBlock = some b) (Fr.of_grown hg (fun b e => e)) (fun g h1 h2 => h.ne g h1 h2) h.xlm
  have hlo : ∀ y ∈ l', BlkP (fun b => ¬ b = H + 1 + 1) y := fun y hy => (h.rl.fr y hy).mono (fun b hb => by omega)
  refine ⟨⟨Fr.below_trans h.bel hfa h.bel.size (fun b hb => Nat.le_trans hHb hb), ?_, ?_, ?_, ⟨hbs.1, Nat.le_trans hbs.2 hfa.size⟩, ?_, ?_, h.ll, h.lp, by rw [List.length_append, h.ml]; rfl, by rw [pvL_snoc, pvL_next m j hj, h.mp, hpv], ?_, fun y hy => ?_, fun y hy => ?_, fun g h1 => ?_⟩, hk4⟩
  · exact ((h.src.grown hg (hne _ (by omega))).fr hff (by omega))
  · exact ((h.out.grown hg (hne _ (by omega))).fr hff (by omega))
  · exact hk4.set_ 4 _
  · exact hl4.frS hff (fun g hg' e => by have := hl4.ge g hg'; have e' : g = H + 1 + 1 := e; omega) hlo
  · exact hrow.frS hff (fun g hg' e => by have := hrow.ge g hg'; have e' : g = H + 1 + 1 := e; omega) hrow'
  · rw [List.take_succ_eq_append_getElem hj, List.map_append, List.map_append, h.my]
    simp [hky]
  · rcases hat with e | e
    · rw [e]; exact h.xlm y hy
    · rw [e]
      exact (h.rl.at_ y hy).lt.mono (fun b hb e => by injection e with e; omega)
  · rcases List.mem_append.1 hy with hy | hy
    · exact h.xml y hy
    · rw [List.mem_singleton] at hy
      subst hy
      exact hav
  · rcases hat with e | e
    · rw [e]; exact h.ne g h1
    · rw [e]
      intro e2
      injection e2 with e2
      have := h.rl.ltS g h1
      omega
end Go.Proofs.YteofdpogjnojnaaGreatDoor
