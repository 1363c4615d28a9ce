/-
  value.Clone.
-/
import Derived.Test.YteodigdcdhceiaaDoorVa3
import Derived.Test.YteodigdcdhceiaaDoorLastOp
namespace Go.Proofs.YteodigdcdhceiaaDoor
open Go.RowKit
attribute [local go_sem ↓] Go.wp_at_zero Go.wp_at_succ
set_option linter.unusedVariables false
set_option linter.unusedSimpArgs false

theorem lastQ_normal {P : Program} {ops : Array Oper} {Q : Exit → Act → World → Prop} {st : Nat} {a : Act} {w : World} (h : wpOp P ops Q st (fun a w => Q .normal a w) a w) : lastQ P ops Q st .normal a w := h
theorem five_cells {w : World} {b : Nat} {t : TypeId} {v0 v1 v2 v3 v4 : Value} (h : Blk w b t #[v0, v1, v2, v3, v4]) : w.cell? ⟨b, 0, none⟩ = some v0 ∧ w.cell? ⟨b, 1, none⟩ = some v1 ∧ w.cell? ⟨b, 2, none⟩ = some v2 ∧ w.cell? ⟨b, 3, none⟩ = some v3 ∧ w.cell? ⟨b, 4, none⟩ = some v4 :=
  ⟨h.cell 0, h.cell 1, h.cell 2, h.cell 3, h.cell 4⟩
theorem five_fr {w : World} {b : Nat} {t : TypeId} {v0 v1 v2 v3 v4 : Value} (h : Blk w b t #[v0, v1, v2, v3, v4]) : w.frozen? ⟨b, 0, none⟩ = false ∧ w.frozen? ⟨b, 1, none⟩ = false ∧ w.frozen? ⟨b, 2, none⟩ = false ∧ w.frozen? ⟨b, 3, none⟩ = false ∧ w.frozen? ⟨b, 4, none⟩ = false :=
  ⟨h.frozen 0, h.frozen 1, h.frozen 2, h.frozen 3, h.frozen 4⟩
/-- a value all of whose rows are one's own, from block base on -/
structure VOwn (base : Nat) (w : World) (v : MV) : Prop where
  at_ : VAt w v
  fr : BlkP (base ≤ ·) v
  l : ROwn 25 5 MV.cs base w (.slice v.lA v.l.length v.lc) v.l
  m : ROwn 33 6 MV.pcs base w (.slice v.mA v.m.length v.mc) v.m
  lm : ∀ x ∈ v.l, BlkP (fun b => ¬ (Value.slice v.mA v.m.length v.mc).ownBlock = some b) x
  ml : ∀ x ∈ v.m, BlkP (fun b => ¬ (Value.slice v.lA v.l.length v.lc).ownBlock = some b) x
theorem ROwn.base_le {t : TypeId} {size : Nat} {cs : MV → List Value} {base base' : Nat} {w : World} {v : Value} {l : List MV} (h : ROwn t size cs base w v l) (hb : base' ≤ base) : ROwn t size cs base' w v l := by
  refine ⟨⟨h.own.1, ?_⟩, h.at_, fun x hx => (h.fr x hx).mono (fun b hb' => Nat.le_trans hb hb'), h.av⟩
  rcases h.own.2 with h0 | ⟨g, cap, cur, hv, hg, hh, hn⟩
  · exact .inl h0
  · exact .inr ⟨g, cap, cur, hv, Nat.le_trans hb hg, hh, hn⟩
theorem ROwn.shape {t : TypeId} {size : Nat} {cs : MV → List Value} {base : Nat} {w : World} {v : Value} {l : List MV} (h : ROwn t size cs base w v l) : ∃ A c, v = .slice A l.length c ∧ l.length ≤ c ∧ c ≤ maxLen ∧ Reads w w.heap.size size A l.length (l.flatMap cs) ∧ ∀ ad, l ≠ [] → A = some ad → base ≤ ad.block := by
  rcases h.own.2 with ⟨hv, h0⟩ | ⟨g, cap, cur, hv, hg, hh, hn, hm, hcs⟩
  · have : l = [] := List.eq_nil_of_length_eq_zero h0
    subst this
    exact ⟨none, 0, hv, by simp, by simp [maxLen], Reads.none_, fun ad h1 _ => absurd rfl h1⟩
  · have ho := h.own
    rw [hv] at ho
    refine ⟨_, _, hv, hn, hm, Reads.of_own ho, fun ad _ e => ?_⟩
    injection e with e
    rw [← e]
    exact hg
theorem VOwn.mk' {base : Nat} {w : World} {k n : Int} {s : ByteArray} {vl vm : Value} {l m : List MV} (hk : (Lit.int .i64 k).wf = true) (hn : (Lit.int .i64 n).wf = true) (hl : ROwn 25 5 MV.cs base w vl l) (hm : ROwn 33 6 MV.pcs base w vm m) (hlm : ∀ x ∈ l, BlkP (fun b => ¬ vm.ownBlock = some b) x) (hml : ∀ x ∈ m, BlkP (fun b => ¬ vl.ownBlock = some b) x) :
    ∃ v : MV, v.k = k ∧ v.n = n ∧ v.s = s ∧ v.l = l ∧ v.m = m ∧ vl = .slice v.lA l.length v.lc ∧ vm = .slice v.mA m.length v.mc ∧ v.pv = .mk k n s (MV.pvL l) (m.map MV.key) (MV.pvL m) ∧ VOwn base w v := by
  obtain ⟨A, c, rfl, h1, h2, h3, h4⟩ := hl.shape
  obtain ⟨A2, c2, rfl, k1, k2, k3, k4⟩ := hm.shape
  refine ⟨.mk ⟨#[]⟩ k n s A c l A2 c2 m, rfl, rfl, rfl, rfl, rfl, rfl, rfl, by rw [MV.pv], ⟨.mk hk hn h3 h1 h2 k3 k1 k2 hl.at_ hm.at_, .mk (fun h ad e => h4 ad h e) (fun h ad e => k4 ad h e) hl.fr hm.fr, hl, hm, hlm, hml⟩⟩
def CloP (v : MV) (w : World) (e : Ending) (w' : World) : Prop := ∃ v' : MV, e = .returned v'.val ∧ v'.pv = v.pv ∧ VOwn w.heap.size w' v' ∧ Below w.heap.size w w'
theorem pvL_snoc (l : List MV) (x : MV) : MV.pvL (l ++ [x]) = MV.pvL l ++ [x.pv] := by
  rw [pvL_map, pvL_map, List.map_append]
  rfl
theorem pvL_next (l : List MV) (i : Nat) (hi : i < l.length) : MV.pvL (l.take (i + 1)) = MV.pvL (l.take i) ++ [l[i].pv] := by
  rw [List.take_succ_eq_append_getElem hi, pvL_snoc]
/-- what the loops keep: the box of what is made holds two rows of copies -/
structure CL (w : World) (H base : Nat) (k n : Int) (s : ByteArray) (orig : Array Value) (l : List MV) (i : Nat) (m : List MV) (j : Nat) (vl : Value) (l' : List MV) (vm : Value) (m' : List MV) (wr : World) : Prop where
  bel : Below w.heap.size w wr
  src : Blk wr H 25 orig
  out : Blk wr (H + 1) 25 #[.int .i64 0, .int .i64 0, .string ⟨#[]⟩, .slice none 0 0, .slice none 0 0]
  box : Blk wr (H + 1 + 1) 25 #[.int .i64 k, .int .i64 n, .string s, vl, vm]
  bs : H + 3 ≤ base ∧ base ≤ wr.heap.size
  rl : ROwn 25 5 MV.cs base wr vl l'
  rm : ROwn 33 6 MV.pcs base wr vm m'
  ll : l'.length = i
  lp : MV.pvL l' = MV.pvL (l.take i)
  ml : m'.length = j
  mp : MV.pvL m' = MV.pvL (m.take j)
  my : m'.map MV.key = (m.take j).map MV.key
  xlm : ∀ x ∈ l', BlkP (fun b => ¬ vm.ownBlock = some b) x
  xml : ∀ x ∈ m', BlkP (fun b => ¬ vl.ownBlock = some b) x
  ne : ∀ g, vl.ownBlock = some g → ¬ vm.ownBlock = some g
theorem CL.below {w : World} {H base : Nat} {k n : Int} {s : ByteArray} {orig : Array Value} {l : List MV} {i : Nat} {m : List MV} {j : Nat} {vl : Value} {l' : List MV} {vm : Value} {m' : List MV} {wr w' : World} (h : CL w H base k n s orig l i m j vl l' vm m' wr) (hb : Below wr.heap.size wr w') : CL w H base k n s orig l i m j vl l' vm m' w' :=
  ⟨h.bel.trans (hb.mono h.bel.size), h.src.below hb h.src.lt, h.out.below hb h.out.lt, h.box.below hb h.box.lt, ⟨h.bs.1, Nat.le_trans h.bs.2 hb.size⟩, h.rl.below hb, h.rm.below hb, h.ll, h.lp, h.ml, h.mp, h.my, h.xlm, h.xml, h.ne⟩
theorem CL.withM {w : World} {H base : Nat} {k n : Int} {s : ByteArray} {orig : Array Value} {l : List MV} {i : Nat} {vl vm : Value} {l' : List MV} {wr : World} (m : List MV) (h : CL w H base k n s orig l i [] 0 vl l' vm [] wr) : CL w H base k n s orig l i m 0 vl l' vm [] wr :=
  ⟨h.bel, h.src, h.out, h.box, h.bs, h.rl, h.rm, h.ll, h.lp, rfl, rfl, rfl, h.xlm, h.xml, h.ne⟩
/-- one more in its list -/
theorem CL.more {w : World} {H base : Nat} {k n : Int} {s : ByteArray} {orig : Array Value} {l : List MV} {i : Nat} {vl : Value} {l' : List MV} {w2 w4 : World} {x' : MV} {A : Option Addr} {N c : Nat} (h : CL w H base k n s orig l i [] 0 vl l' (.slice none 0 0) [] w2) (hi : i < l.length) (hpv : x'.pv = l[i].pv) (hrow : ROwn 25 5 MV.cs base w4 (.slice A N c) (l' ++ [x'])) (hg : w2.grownBy w4 vl.ownBlock) (hHb : w.heap.size ≤ H) :
    CL w H base k n s orig l (i + 1) [] 0 (.slice A N c) (l' ++ [x']) (.slice none 0 0) [] (w4.setCell ⟨H + 1 + 1, 3, none⟩ (.slice A N c)) ∧ Blk w4 (H + 1 + 1) 25 #[.int .i64 k, .int .i64 n, .string s, vl, .slice none 0 0] := by
  have hge := h.rl.ge
  have hbs := h.bs
  have hne : ∀ b, b < base → ¬ some b = vl.ownBlock := fun b hb e => by have := hge b e.symm; omega
  have hk4 := h.box.grown hg (hne _ (by omega))
  have hsz := hg.size
  have hff : Fr (· = H + 1 + 1) w4 (w4.setCell ⟨H + 1 + 1, 3, none⟩ (.slice A N c)) := (Fr.refl (· = H + 1 + 1) w4).setCell (p := ⟨H + 1 + 1, 3, none⟩) (fun _ => rfl) _
  have hfa : Fr (fun b => H ≤ b) w2 (w4.setCell ⟨H + 1 + 1, 3, none⟩ (.slice A N c)) := ((Fr.of_grown (S := fun b => H ≤ b) hg (fun b e => by have := hge b e; omega))).trans (hff.mono (fun b _ e => by rw [show b = H + 1 + 1 from e]; omega))
  have hrow' : ∀ y ∈ l' ++ [x'], BlkP (fun b => ¬ b = H + 1 + 1) y := fun y hy => (hrow.fr y hy).mono (fun b hb => by omega)
  refine ⟨⟨Fr.below_trans h.bel hfa h.bel.size (fun b hb => Nat.le_trans hHb hb), ?_, ?_, ?_, ⟨hbs.1, Nat.le_trans hbs.2 hfa.size⟩, ?_, ROwn.nil _ _, by rw [List.length_append, h.ll]; rfl, by rw [pvL_snoc, pvL_next l i hi, h.lp, hpv], rfl, rfl, rfl, fun y hy => ?_, (fun y hy => by cases hy), fun g _ e => by cases e⟩, hk4⟩
  · exact ((h.src.grown hg (hne _ (by omega))).fr hff (by omega))
  · exact ((h.out.grown hg (hne _ (by omega))).fr hff (by omega))
  · exact hk4.set_ 3 _
  · exact hrow.frS hff (fun g hg' e => by have := hrow.ge g hg'; have e' : g = H + 1 + 1 := e; omega) hrow'
  · exact (hrow.fr y hy).mono (fun b _ e => by cases e)
/-- one more in its pairs -/
theorem CL.moreM {w : World} {H base : Nat} {k n : Int} {s : ByteArray} {orig : Array Value} {l m : List MV} {i j : Nat} {vl vm : Value} {l' m' : List MV} {w2 w4 : World} {x' : MV} {A : Option Addr} {N c : Nat} (h : CL w H base k n s orig l i m j vl l' vm m' w2) (hj : j < m.length) (hpv : x'.pv = m[j].pv) (hky : x'.key = m[j].key) (hav : BlkP (fun b => ¬ vl.ownBlock = some b) x') (hrow : ROwn 33 6 MV.pcs base w4 (.slice A N c) (m' ++ [x'])) (hg : w2.grownBy w4 vm.ownBlock) (hat : (Value.slice A N c).ownBlock = vm.ownBlock ∨ (Value.slice A N c).ownBlock = some w2.heap.size) (hHb : w.heap.size ≤ H) :
    CL w H base k n s orig l i m (j + 1) vl l' (.slice A N c) (m' ++ [x']) (w4.setCell ⟨H + 1 + 1, 4, none⟩ (.slice A N c)) ∧ Blk w4 (H + 1 + 1) 25 #[.int .i64 k, .int .i64 n, .string s, vl, vm] := by
  have hge := h.rm.ge
  have hbs := h.bs
  have hne : ∀ b, b < base → ¬ some b = vm.ownBlock := fun b hb e => by have := hge b e.symm; omega
  have hk4 := h.box.grown hg (hne _ (by omega))
  have hff : Fr (· = H + 1 + 1) w4 (w4.setCell ⟨H + 1 + 1, 4, none⟩ (.slice A N c)) := (Fr.refl (· = H + 1 + 1) w4).setCell (p := ⟨H + 1 + 1, 4, none⟩) (fun _ => rfl) _
  have hfa : Fr (fun b => H ≤ b) w2 (w4.setCell ⟨H + 1 + 1, 4, none⟩ (.slice A N c)) := ((Fr.of_grown (S := fun b => H ≤ b) hg (fun b e => by have := hge b e; omega))).trans (hff.mono (fun b _ e => by rw [show b = H + 1 + 1 from e]; omega))
  have hrow' : ∀ y ∈ m' ++ [x'], BlkP (fun b => ¬ b = H + 1 + 1) y := fun y hy => (hrow.fr y hy).mono (fun b hb => by omega)
  have hl4 : ROwn 25 5 MV.cs base w4 vl l' := h.rl.frS (S := fun b => vm.ownBlock = some b) (Fr.of_grown hg (fun b e => e)) (fun g h1 h2 => h.ne g h1 h2) h.xlm
  have hlo : ∀ y ∈ l', BlkP (fun b => ¬ b = H + 1 + 1) y := fun y hy => (h.rl.fr y hy).mono (fun b hb => by omega)
  refine ⟨⟨Fr.below_trans h.bel hfa h.bel.size (fun b hb => Nat.le_trans hHb hb), ?_, ?_, ?_, ⟨hbs.1, Nat.le_trans hbs.2 hfa.size⟩, ?_, ?_, h.ll, h.lp, by rw [List.length_append, h.ml]; rfl, by rw [pvL_snoc, pvL_next m j hj, h.mp, hpv], ?_, fun y hy => ?_, fun y hy => ?_, fun g h1 => ?_⟩, hk4⟩
  · exact ((h.src.grown hg (hne _ (by omega))).fr hff (by omega))
  · exact ((h.out.grown hg (hne _ (by omega))).fr hff (by omega))
  · exact hk4.set_ 4 _
  · exact hl4.frS hff (fun g hg' e => by have := hl4.ge g hg'; have e' : g = H + 1 + 1 := e; omega) hlo
  · exact hrow.frS hff (fun g hg' e => by have := hrow.ge g hg'; have e' : g = H + 1 + 1 := e; omega) hrow'
  · rw [List.take_succ_eq_append_getElem hj, List.map_append, List.map_append, h.my]
    simp [hky]
  · rcases hat with e | e
    · rw [e]; exact h.xlm y hy
    · rw [e]
      exact (h.rl.at_ y hy).lt.mono (fun b hb e => by injection e with e; omega)
  · rcases List.mem_append.1 hy with hy | hy
    · exact h.xml y hy
    · rw [List.mem_singleton] at hy
      subst hy
      exact hav
  · rcases hat with e | e
    · rw [e]; exact h.ne g h1
    · rw [e]
      intro e2
      injection e2 with e2
      have := h.rl.ltS g h1
      omega
set_option maxRecDepth 100000 in
set_option maxHeartbeats 16000000 in
theorem clone_any {w0 : World} {v : MV} (h : VAt w0 v) : ∀ (w : World), Below w0.heap.size w0 w → FitV v →
    Calls Tryd.prog 33 #[v.val] w fun e w' => CloP v w e w' := by
  induction h with
  | mk wk wn rl cl1 cl2 rm cm1 cm2 hl hm ih1 ih2 =>
  rename_i key k n s lA lc l mA mc m
  intro w hb hfit
  show Calls Tryd.prog 33 #[_] w fun e w' => PF (CloP (.mk key k n s lA lc l mA mc m) w) e w'
  have HV : Hid (VAt w (.mk key k n s lA lc l mA mc m)) := Lib.hid ((VAt.mk wk wn rl cl1 cl2 rm cm1 cm2 hl hm).bel hb)
  have HB0 := Lib.hid hb
  have HWF := Lib.hid (And.intro wk wn)
  have HI1 := Lib.hid ih1
  have HI2 := Lib.hid ih2
  cases hfit with
  | mk hf1 hf2 hf3 =>
  have HFL := Lib.hid hf2
  have HFM := Lib.hid hf3
  unfold MV.val
  simp only [MV.k, MV.n, MV.s, MV.lA, MV.lc, MV.l, MV.mA, MV.mc, MV.m]
  obtain ⟨nl, hnl⟩ : ∃ nl, nl = l.length := ⟨_, rfl⟩
  obtain ⟨nm, hnm⟩ : ∃ nm, nm = m.length := ⟨_, rfl⟩
  rw [← hnl, ← hnm] at hf1 ⊢
  have HNL : Hid (l.length = nl) := Lib.hid hnl.symm
  have HNM : Hid (m.length = nm) := Lib.hid hnm.symm
  have hnl3 : (nl : Int) ≤ 3001 := by omega
  have hnm3 : (nm : Int) ≤ 3001 := by omega
  obtain ⟨W3, hW3⟩ : ∃ W3, W3 = (((w.alloc (.cells #[.int .i64 k, .int .i64 n, .string s, .slice lA nl lc, .slice mA nm mc] 25)).alloc (.cells #[.int .i64 0, .int .i64 0, .string ⟨#[]⟩, .slice none 0 0, .slice none 0 0] 25)).alloc (.cells #[.int .i64 k, .int .i64 n, .string s, .slice none 0 0, .slice none 0 0] 25)) := ⟨_, rfl⟩
  have HC0 : Hid (CL w w.heap.size W3.heap.size k n s #[.int .i64 k, .int .i64 n, .string s, .slice lA nl lc, .slice mA nm mc] l 0 [] 0 (.slice none 0 0) [] (.slice none 0 0) [] W3) := by
    have hk1 : Blk (w.alloc (.cells #[.int .i64 k, .int .i64 n, .string s, .slice lA nl lc, .slice mA nm mc] 25)) w.heap.size 25 #[.int .i64 k, .int .i64 n, .string s, .slice lA nl lc, .slice mA nm mc] := Blk.new _ _ _
    have hb1 : Below w.heap.size w W3 := by rw [hW3]; exact ((((Below.refl _ _).alloc (Nat.le_refl _) _).alloc (by simp) _).alloc (by simp; omega) _)
    have hs3 : W3.heap.size = w.heap.size + 3 := by rw [hW3]; simp
    refine Lib.hid ⟨hb1, ?_, ?_, ?_, ⟨by omega, Nat.le_refl _⟩, ROwn.nil _ _, ROwn.nil _ _, rfl, rfl, rfl, rfl, rfl, (fun y hy => by cases hy), (fun y hy => by cases hy), (fun g e => by cases e)⟩
    · rw [hW3]; exact (hk1.alloc _).alloc _
    · rw [hW3]
      have h2 := (Blk.new (w.alloc (.cells #[.int .i64 k, .int .i64 n, .string s, .slice lA nl lc, .slice mA nm mc] 25)) 25 #[.int .i64 0, .int .i64 0, .string ⟨#[]⟩, .slice none 0 0, .slice none 0 0]).alloc (.cells #[.int .i64 k, .int .i64 n, .string s, .slice none 0 0, .slice none 0 0] 25)
      simpa using h2
    · rw [hW3]
      have h2 := (Blk.new ((w.alloc (.cells #[.int .i64 k, .int .i64 n, .string s, .slice lA nl lc, .slice mA nm mc] 25)).alloc (.cells #[.int .i64 0, .int .i64 0, .string ⟨#[]⟩, .slice none 0 0, .slice none 0 0] 25)) 25 #[.int .i64 k, .int .i64 n, .string s, .slice none 0 0, .slice none 0 0])
      simpa using h2
  have HFIN : Hid (∀ (vl vm : Value) (l' m' : List MV) (wr wf : World), CL w w.heap.size W3.heap.size k n s #[.int .i64 k, .int .i64 n, .string s, .slice lA nl lc, .slice mA nm mc] l nl m nm vl l' vm m' wr → Fr (· = w.heap.size + 1) wr wf → PF (CloP (.mk key k n s lA lc l mA mc m) w) (.returned (.agg #[.int .i64 k, .int .i64 n, .string s, vl, vm])) wf) := Lib.hid (fun vl vm l' m' wr wf h hf => by
    have hav : ∀ y, BlkP (W3.heap.size ≤ ·) y → BlkP (fun b => ¬ b = w.heap.size + 1) y := fun y hy => hy.mono (fun b hb => by have := h.bs; omega)
    obtain ⟨v', e1, e2, e3, e4, e5, e6, e7, e8, e9⟩ := VOwn.mk' (base := W3.heap.size) HWF.out.1 HWF.out.2 (h.rl.frS hf (fun g hg e => by have := h.rl.ge g hg; have e' : g = w.heap.size + 1 := e; have := h.bs; omega) (fun y hy => hav y (h.rl.fr y hy))) (h.rm.frS hf (fun g hg e => by have := h.rm.ge g hg; have e' : g = w.heap.size + 1 := e; have := h.bs; omega) (fun y hy => hav y (h.rm.fr y hy))) h.xlm h.xml (s := s)
    have hle : w.heap.size ≤ W3.heap.size := by have := h.bs; omega
    refine ⟨v', ?_, ?_, ⟨e9.at_, e9.fr.mono (fun b hb => Nat.le_trans hle hb), ?_, ?_, e9.lm, e9.ml⟩, Fr.below_trans h.bel hf h.bel.size (fun b e => by rw [show b = w.heap.size + 1 from e]; omega)⟩
    · rw [MV.val, e1, e2, e3, e4, e5, ← e6, ← e7]
    · rw [e8, MV.pv, h.lp, h.mp, h.my, List.take_of_length_le (by rw [HNL.out]; exact Nat.le_refl _), List.take_of_length_le (l := m) (by rw [HNM.out]; exact Nat.le_refl _)]
    · exact e9.l.base_le hle
    · exact e9.m.base_le hle)
  clear hb ih1 ih2 hl hm rl rm wk wn hnl hnm cl1 cl2 cm1 cm2 hf2 hf3
  go_enter Tryd.func33, Tryd.ntmps33
  go_wp2_with fail
  rw [← hW3]
  clear hW3
  go_loopw [14] (fun y wr => ∃ (i : Nat) (A1 : Option Addr) (n1 c1 : Nat) (l' : List MV), y = .int .i64 (i : Int) ∧ i ≤ nl ∧ Hid (CL w w.heap.size W3.heap.size k n s #[.int .i64 k, .int .i64 n, .string s, .slice lA nl lc, .slice mA nm mc] l i [] 0 (.slice A1 n1 c1) l' (.slice none 0 0) [] wr)) (fun y _ => nl - (intOf y).toNat)
  case atStart => exact ⟨0, none, 0, 0, [], rfl, Nat.zero_le _, HC0⟩
  case round =>
    clear HC0
    obtain ⟨i, A1, n1, c1, l', rfl, hi, HC⟩ := hrel
    rcases (by omega : i < nl ∨ i = nl) with hlt | heq
    · have q0 : decide ((i : Int) < (nl : Int)) = true := by rw [decide_eq_true_iff]; omega
      have q0' : decide (i < nl) = true := by rw [decide_eq_true_iff]; omega
      have hil : i < l.length := by rw [HNL.out]; exact hlt
      obtain ⟨b, o, hA0, hbl, hc0⟩ := (HV.out.bel HC.out.bel).la (i := i) hil
      have hA : lA = some ⟨b, o, none⟩ := hA0
      have hc : ∀ j, j < 5 → wr.cell? ⟨b, o + i * 5 + j, none⟩ = l[i].cs[j]? := hc0
      clear hA0 hc0
      subst hA
      obtain ⟨x, hx⟩ : ∃ x, x = l[i] := ⟨_, rfl⟩
      have hxm : x ∈ l := by rw [hx]; exact List.getElem_mem hil
      rw [← hx] at hc
      have d0 : wr.cell? ⟨b, o + i * 5, none⟩ = some (.int .i64 x.k) := hc 0 (by omega)
      have d1 : wr.cell? ⟨b, o + i * 5 + 1, none⟩ = some (.int .i64 x.n) := hc 1 (by omega)
      have d2 : wr.cell? ⟨b, o + i * 5 + 2, none⟩ = some (.string x.s) := hc 2 (by omega)
      have d3 : wr.cell? ⟨b, o + i * 5 + 3, none⟩ = some (.slice x.lA x.l.length x.lc) := hc 3 (by omega)
      have d4 : wr.cell? ⟨b, o + i * 5 + 4, none⟩ = some (.slice x.mA x.m.length x.mc) := hc 4 (by omega)
      obtain ⟨W5, hW5⟩ : ∃ W5, W5 = wr.alloc (.cells #[.int .i64 x.k, .int .i64 x.n, .string x.s, .slice x.lA x.l.length x.lc, .slice x.mA x.m.length x.mc] 25) := ⟨_, rfl⟩
      have hb5 : Below wr.heap.size wr W5 := by rw [hW5]; exact (Below.refl _ _).alloc (Nat.le_refl _) _
      have hk5 : Blk W5 wr.heap.size 25 #[.int .i64 x.k, .int .i64 x.n, .string x.s, .slice x.lA x.l.length x.lc, .slice x.mA x.m.length x.mc] := by rw [hW5]; exact Blk.new _ _ _
      have HC5 := Lib.hid (HC.out.below hb5)
      have HK5 := Lib.hid hk5
      have HLT5 : Hid (∀ g, (Value.slice A1 n1 c1).ownBlock = some g → g < wr.heap.size) := Lib.hid HC.out.rl.ltS
      have HSV : Hid (∀ V, Fr (fun g => (Value.slice A1 n1 c1).ownBlock = some g) W5 V → V.cell? ⟨w.heap.size + 1 + 1, 3, none⟩ = some (.slice A1 n1 c1) ∧ (V.cell? ⟨wr.heap.size, 0, none⟩ = some (.int .i64 x.k) ∧ V.cell? ⟨wr.heap.size, 1, none⟩ = some (.int .i64 x.n) ∧ V.cell? ⟨wr.heap.size, 2, none⟩ = some (.string x.s) ∧ V.cell? ⟨wr.heap.size, 3, none⟩ = some (.slice x.lA x.l.length x.lc) ∧ V.cell? ⟨wr.heap.size, 4, none⟩ = some (.slice x.mA x.m.length x.mc))) := Lib.hid (fun V hV => by
        have h1 := (HC5.out.box.fr hV (fun e => by have := HC5.out.rl.ge _ e; have := HC5.out.bs; omega)).cell 3
        have h2 := HK5.out.fr hV (fun e => by have := HLT5.out _ e; omega)
        simp only [List.getElem?_toArray, List.getElem?_cons_zero, List.getElem?_cons_succ] at h1
        exact ⟨h1, h2.cell 0, h2.cell 1, h2.cell 2, h2.cell 3, h2.cell 4⟩)
      have hcall := HI1.out x hxm
      unfold MV.val at hcall
      have HCC : Hid (∀ V, Fr (fun g => (Value.slice A1 n1 c1).ownBlock = some g) W5 V → Calls Tryd.prog 33 #[.agg #[.int .i64 x.k, .int .i64 x.n, .string x.s, .slice x.lA x.l.length x.lc, .slice x.mA x.m.length x.mc]] V fun e w' => CloP x V e w') := Lib.hid (fun V hV => hcall V (HB0.out.trans ((Fr.below_trans HC5.out.bel hV HC5.out.bel.size (fun g e => by have := HC5.out.rl.ge _ e; have := HC5.out.bs; omega)).mono HB0.out.size)) (HFL.out x hxm))
      have HXX := Lib.hid hx
      have HIL := Lib.hid hil
      have hii : (i : Int) < (nl : Int) := by omega
      have hi0 : (0 : Int) ≤ (i : Int) := by omega
      clear hc hxm hx hcall hbl hb5 hk5
      go_wp2_with fail
      rw [← hW5]
      clear hW5 d0 d1 d2 d3 d4
      refine wp_region_last (S := fun V => Fr (fun g => (Value.slice A1 n1 c1).ownBlock = some g) W5 V) (st := 7) (n := 7) (by kernel_rfl) rfl (by kernel_rfl) rfl ((Fr.refl _ _).drew) (fun hS1 => ?_)
      refine wpAnyH_take (i := 0) (oi := ⟨some 18, _, _, _, _, _⟩) (v := .pointer (some ⟨w.heap.size + 1 + 1, 3, none⟩)) rfl (by kernel_rfl) (by kernel_rfl) (by kernel_rfl) (fun _ _ _ h => h) (.inl ⟨by kernel_rfl, fun V hS => by go_simp⟩) hS1 ?_
      simp only [Act.put, List.setIfInBounds_toArray, List.set_cons_zero, List.set_cons_succ]
      refine wpAnyH_take (i := 1) (oi := ⟨some 19, _, _, _, _, _⟩) (v := .slice A1 n1 c1) rfl (by kernel_rfl) (by kernel_rfl) (by kernel_rfl) (fun _ _ _ h => h) (.inl ⟨by kernel_rfl, fun V hS => by obtain ⟨h0, h1, h2, h3, h4, h5⟩ := HSV.out V hS; go_simp⟩) hS1 ?_
      simp only [Act.put, List.setIfInBounds_toArray, List.set_cons_zero, List.set_cons_succ]
      refine wpAnyH_take (i := 2) (oi := ⟨some 20, _, _, _, _, _⟩) (v := .agg #[.int .i64 x.k, .int .i64 x.n, .string x.s, .slice x.lA x.l.length x.lc, .slice x.mA x.m.length x.mc]) rfl (by kernel_rfl) (by kernel_rfl) (by kernel_rfl) (fun _ _ _ h => h) (.inl ⟨by kernel_rfl, fun V hS => by obtain ⟨h0, h1, h2, h3, h4, h5⟩ := HSV.out V hS; go_simp⟩) hS1 ?_
      simp only [Act.put, List.setIfInBounds_toArray, List.set_cons_zero, List.set_cons_succ]
      refine wpAnyH_ready (rs := [3]) (by kernel_rfl) (by simp) ?_
      refine AllReadyH.cons rfl (fun K' hK => ?_) AllReadyH.nil
      go_simp
      refine (HCC.out _ hS1).mono ?_
      rintro e w2 ⟨x', rfl, hpv, hvo, hb2⟩
      unfold MV.val
      have HPV := Lib.hid hpv
      have HVO := Lib.hid hvo
      have HC6 := Lib.hid ((HC5.out.below ((Below.refl _ _).drew)).below hb2)
      clear hpv hvo
      go_simp
      refine hK.out _ _ ((hS1).below hb2) (fun hS2 => ?_)
      clear hK K' hS1
      refine wpAnyH_ready (rs := [4]) (by kernel_rfl) (by simp) ?_
      refine AllReadyH.cons rfl (fun K' hK => ?_) AllReadyH.nil
      go_simp
      have HK7 : Hid (Blk (w2.alloc (.cells #[.int .i64 x'.k, .int .i64 x'.n, .string x'.s, .slice x'.lA x'.l.length x'.lc, .slice x'.mA x'.m.length x'.mc] 25)) w2.heap.size 25 (MV.cs x').toArray) := Lib.hid (Blk.new _ _ _)
      have HC7 := Lib.hid (HC6.out.below ((Below.refl _ _).alloc (Nat.le_refl _) (.cells #[.int .i64 x'.k, .int .i64 x'.n, .string x'.s, .slice x'.lA x'.l.length x'.lc, .slice x'.mA x'.m.length x'.mc] 25)))
      have HV7 := Lib.hid (HVO.out.at_.bel ((Below.refl _ _).alloc (Nat.le_refl _) (.cells #[.int .i64 x'.k, .int .i64 x'.n, .string x'.s, .slice x'.lA x'.l.length x'.lc, .slice x'.mA x'.m.length x'.mc] 25)))
      have HG7 : Hid (wr.heap.size ≤ W5.drew.heap.size) := Lib.hid (by have := HK5.out.lt; show wr.heap.size ≤ W5.heap.size; omega)
      refine hK.out _ _ ((hS2).alloc _) (fun hS3 => ?_)
      clear hK K' hS2
      refine wpAnyH_ready (rs := [5]) (by kernel_rfl) (by simp) ?_
      refine AllReadyH.cons rfl (fun K' hK => ?_) AllReadyH.nil
      generalize w2.alloc (.cells #[.int .i64 x'.k, .int .i64 x'.n, .string x'.s, .slice x'.lA x'.l.length x'.lc, .slice x'.mA x'.m.length x'.mc] 25) = w3 at HK7 HC7 HV7 hS3 ⊢
      refine step_app_row w3 infoValue Tryd.underlying22 rfl (by omega) (by omega) (fun _ => rfl) oneC_cs rfl (some 23) rfl _ _ rfl W3.heap.size (.slice A1 n1 c1) l' rfl HC7.out.rl w2.heap.size rfl x' HK7.out HV7.out (HVO.out.fr.mono (fun g hg => Nat.le_trans HC5.out.bs.2 hg)) (HVO.out.fr.mono (fun g hg e => by have := HLT5.out g e; have := HG7.out; omega)) (by rw [HC7.out.ll]; omega) HC7.out.bs.2 ?_
      intro v4 w4 hrow hg hat
      have hs4 := (hS3).grown hg (fun g e _ => e)
      obtain ⟨A9, c9, rfl, _, _, _⟩ := hrow.shape
      generalize (l' ++ [x']).length = N9 at hrow hat ⊢
      refine hK.out _ _ (hs4) (fun hS4 => ?_)
      clear hK K' hS3
      simp only [Act.put, List.setIfInBounds_toArray, List.set_cons_zero, List.set_cons_succ]
      refine wpAnyH_take (i := 6) (oi := ⟨some 24, _, _, _, _, _⟩) (v := .pointer (some ⟨w.heap.size + 1 + 1, 3, none⟩)) rfl (by kernel_rfl) (by kernel_rfl) (by kernel_rfl) (fun _ _ _ h => h) (.inl ⟨by kernel_rfl, fun V hS => by go_simp⟩) hS4 ?_
      simp only [Act.put, List.setIfInBounds_toArray, List.set_cons_zero, List.set_cons_succ]
      refine wpAnyH_done (by kernel_rfl) ?_ _
      refine lastQ_normal (wpOp_step rfl (fun K' hK => ?_))
      obtain ⟨hcn, hbx⟩ := HC7.out.more HIL.out (HPV.out.trans (by rw [HXX.out])) hrow hg (Nat.le_refl _)
      have hz := hbx.frozen 3
      have hd := hbx.cell 3
      simp only [List.getElem?_toArray, List.getElem?_cons_zero, List.getElem?_cons_succ] at hd
      go_simp
      refine hK _ _ ?_
      clear hK K' hS4 hz hd hbx hrow hg hat
      have HCN := Lib.hid hcn
      clear hcn
      go_wp2
      go_roundw
      case rel => exact ⟨i + 1, A9, N9, c9, l' ++ [x'], by go_num, by omega, HCN⟩
      case measure => simp [intOf]; omega
    · have q0 : decide ((i : Int) < (nl : Int)) = false := by rw [decide_eq_false_iff_not]; omega
      have q0' : decide (i < nl) = false := by rw [decide_eq_false_iff_not]; omega
      have HCM : Hid (CL w w.heap.size W3.heap.size k n s #[.int .i64 k, .int .i64 n, .string s, .slice lA nl lc, .slice mA nm mc] l nl m 0 (.slice A1 n1 c1) l' (.slice none 0 0) [] wr) := Lib.hid (by
        have h := HC.out.withM m
        rw [heq] at h
        exact h)
      have b4 := HCM.out.src.cell 4
      simp only [List.getElem?_toArray, List.getElem?_cons_zero, List.getElem?_cons_succ] at b4
      clear heq HC
      go_wp2
      clear b4
      go_loopw [29] (fun y wr => ∃ (j : Nat) (A2 : Option Addr) (n2 c2 : Nat) (m' : List MV), y = .int .i64 (j : Int) ∧ j ≤ nm ∧ Hid (CL w w.heap.size W3.heap.size k n s #[.int .i64 k, .int .i64 n, .string s, .slice lA nl lc, .slice mA nm mc] l nl m j (.slice A1 n1 c1) l' (.slice A2 n2 c2) m' wr)) (fun y _ => nm - (intOf y).toNat)
      case atStart => exact ⟨0, none, 0, 0, [], rfl, Nat.zero_le _, HCM⟩
      case round =>
        clear HCM
        obtain ⟨j, A2, n2, c2, m', rfl, hj, HC⟩ := hrel
        rcases (by omega : j < nm ∨ j = nm) with hlt | heq
        · have q5 : decide ((j : Int) < (nm : Int)) = true := by rw [decide_eq_true_iff]; omega
          have q5' : decide (j < nm) = true := by rw [decide_eq_true_iff]; omega
          have hil : j < m.length := by rw [HNM.out]; exact hlt
          obtain ⟨b, o, hA0, hbl, hc0⟩ := (HV.out.bel HC.out.bel).ma (i := j) hil
          have hA : mA = some ⟨b, o, none⟩ := hA0
          have hc : ∀ t, t < 6 → wr.cell? ⟨b, o + j * 6 + t, none⟩ = m[j].pcs[t]? := hc0
          clear hA0 hc0
          subst hA
          obtain ⟨x, hx⟩ : ∃ x, x = m[j] := ⟨_, rfl⟩
          have hxm : x ∈ m := by rw [hx]; exact List.getElem_mem hil
          rw [← hx] at hc
          have d0 : wr.cell? ⟨b, o + j * 6, none⟩ = some (.string x.key) := hc 0 (by omega)
          have d1 : wr.cell? ⟨b, o + j * 6 + 1, none⟩ = some (.int .i64 x.k) := hc 1 (by omega)
          have d2 : wr.cell? ⟨b, o + j * 6 + 2, none⟩ = some (.int .i64 x.n) := hc 2 (by omega)
          have d3 : wr.cell? ⟨b, o + j * 6 + 3, none⟩ = some (.string x.s) := hc 3 (by omega)
          have d4 : wr.cell? ⟨b, o + j * 6 + 4, none⟩ = some (.slice x.lA x.l.length x.lc) := hc 4 (by omega)
          have d5 : wr.cell? ⟨b, o + j * 6 + 5, none⟩ = some (.slice x.mA x.m.length x.mc) := hc 5 (by omega)
          obtain ⟨W5, hW5⟩ : ∃ W5, W5 = wr.alloc (.cells #[.string x.key, .int .i64 x.k, .int .i64 x.n, .string x.s, .slice x.lA x.l.length x.lc, .slice x.mA x.m.length x.mc] 33) := ⟨_, rfl⟩
          have hb5 : Below wr.heap.size wr W5 := by rw [hW5]; exact (Below.refl _ _).alloc (Nat.le_refl _) _
          have hk5 : Blk W5 wr.heap.size 33 #[.string x.key, .int .i64 x.k, .int .i64 x.n, .string x.s, .slice x.lA x.l.length x.lc, .slice x.mA x.m.length x.mc] := by rw [hW5]; exact Blk.new _ _ _
          have HC5 := Lib.hid (HC.out.below hb5)
          have HK5 := Lib.hid hk5
          have HLT5 : Hid (∀ g, (Value.slice A2 n2 c2).ownBlock = some g → g < wr.heap.size) := Lib.hid HC.out.rm.ltS
          have HLT6 : Hid (∀ g, (Value.slice A1 n1 c1).ownBlock = some g → g < wr.heap.size) := Lib.hid HC.out.rl.ltS
          have HSV : Hid (∀ V, Fr (fun g => (Value.slice A2 n2 c2).ownBlock = some g) W5 V → V.cell? ⟨w.heap.size + 1 + 1, 4, none⟩ = some (.slice A2 n2 c2) ∧ V.cell? ⟨wr.heap.size, 0, none⟩ = some (.string x.key) ∧ (V.cell? ⟨wr.heap.size, 1, none⟩ = some (.int .i64 x.k) ∧ V.cell? ⟨wr.heap.size, 1 + 1, none⟩ = some (.int .i64 x.n) ∧ V.cell? ⟨wr.heap.size, 1 + 2, none⟩ = some (.string x.s) ∧ V.cell? ⟨wr.heap.size, 1 + 3, none⟩ = some (.slice x.lA x.l.length x.lc) ∧ V.cell? ⟨wr.heap.size, 1 + 4, none⟩ = some (.slice x.mA x.m.length x.mc))) := Lib.hid (fun V hV => by
            have h1 := (HC5.out.box.fr hV (fun e => by have := HC5.out.rm.ge _ e; have := HC5.out.bs; omega)).cell 4
            have h2 := HK5.out.fr hV (fun e => by have := HLT5.out _ e; omega)
            simp only [List.getElem?_toArray, List.getElem?_cons_zero, List.getElem?_cons_succ] at h1
            exact ⟨h1, h2.cell 0, h2.cell 1, h2.cell 2, h2.cell 3, h2.cell 4, h2.cell 5⟩)
          have hcall := HI2.out x hxm
          unfold MV.val at hcall
          have HCC : Hid (∀ V, Fr (fun g => (Value.slice A2 n2 c2).ownBlock = some g) W5 V → Calls Tryd.prog 33 #[.agg #[.int .i64 x.k, .int .i64 x.n, .string x.s, .slice x.lA x.l.length x.lc, .slice x.mA x.m.length x.mc]] V fun e w' => CloP x V e w') := Lib.hid (fun V hV => hcall V (HB0.out.trans ((Fr.below_trans HC5.out.bel hV HC5.out.bel.size (fun g e => by have := HC5.out.rm.ge _ e; have := HC5.out.bs; omega)).mono HB0.out.size)) (HFM.out x hxm))
          have HXX := Lib.hid hx
          have HIL := Lib.hid hil
          have hii : (j : Int) < (nm : Int) := by omega
          have hi0 : (0 : Int) ≤ (j : Int) := by omega
          clear hc hxm hx hcall hbl hb5 hk5
          go_wp2_with fail
          rw [← hW5]
          clear hW5 d0 d1 d2 d3 d4 d5
          refine wp_region_last (S := fun V => Fr (fun g => (Value.slice A2 n2 c2).ownBlock = some g) W5 V) (st := 11) (n := 11) (by kernel_rfl) rfl (by kernel_rfl) rfl ((Fr.refl _ _).drew) (fun hS1 => ?_)
          refine wpAnyH_take (i := 0) (oi := ⟨some 33, _, _, _, _, _⟩) (v := .pointer (some ⟨w.heap.size + 1 + 1, 4, none⟩)) rfl (by kernel_rfl) (by kernel_rfl) (by kernel_rfl) (fun _ _ _ h => h) (.inl ⟨by kernel_rfl, fun V hS => by go_simp⟩) hS1 ?_
          simp only [Act.put, List.setIfInBounds_toArray, List.set_cons_zero, List.set_cons_succ]
          refine wpAnyH_take (i := 1) (oi := ⟨some 34, _, _, _, _, _⟩) (v := .slice A2 n2 c2) rfl (by kernel_rfl) (by kernel_rfl) (by kernel_rfl) (fun _ _ _ h => h) (.inl ⟨by kernel_rfl, fun V hS => by obtain ⟨h0, h1, h2, h3, h4, h5, h6⟩ := HSV.out V hS; go_simp⟩) hS1 ?_
          simp only [Act.put, List.setIfInBounds_toArray, List.set_cons_zero, List.set_cons_succ]
          refine wpAnyH_take (i := 2) (oi := ⟨some 35, _, _, _, _, _⟩) (v := .pointer (some ⟨wr.heap.size, 0, none⟩)) rfl (by kernel_rfl) (by kernel_rfl) (by kernel_rfl) (fun _ _ _ h => h) (.inl ⟨by kernel_rfl, fun V hS => by go_simp⟩) hS1 ?_
          simp only [Act.put, List.setIfInBounds_toArray, List.set_cons_zero, List.set_cons_succ]
          refine wpAnyH_take (i := 3) (oi := ⟨some 36, _, _, _, _, _⟩) (v := .string x.key) rfl (by kernel_rfl) (by kernel_rfl) (by kernel_rfl) (fun _ _ _ h => h) (.inl ⟨by kernel_rfl, fun V hS => by obtain ⟨h0, h1, h2, h3, h4, h5, h6⟩ := HSV.out V hS; go_simp⟩) hS1 ?_
          simp only [Act.put, List.setIfInBounds_toArray, List.set_cons_zero, List.set_cons_succ]
          refine wpAnyH_take (i := 4) (oi := ⟨some 37, _, _, _, _, _⟩) (v := .pointer (some ⟨wr.heap.size, 1, none⟩)) rfl (by kernel_rfl) (by kernel_rfl) (by kernel_rfl) (fun _ _ _ h => h) (.inl ⟨by kernel_rfl, fun V hS => by go_simp⟩) hS1 ?_
          simp only [Act.put, List.setIfInBounds_toArray, List.set_cons_zero, List.set_cons_succ]
          refine wpAnyH_take (i := 5) (oi := ⟨some 38, _, _, _, _, _⟩) (v := .agg #[.int .i64 x.k, .int .i64 x.n, .string x.s, .slice x.lA x.l.length x.lc, .slice x.mA x.m.length x.mc]) rfl (by kernel_rfl) (by kernel_rfl) (by kernel_rfl) (fun _ _ _ h => h) (.inl ⟨by kernel_rfl, fun V hS => by obtain ⟨h0, h1, h2, h3, h4, h5, h6⟩ := HSV.out V hS; go_simp⟩) hS1 ?_
          simp only [Act.put, List.setIfInBounds_toArray, List.set_cons_zero, List.set_cons_succ]
          refine wpAnyH_ready (rs := [6]) (by kernel_rfl) (by simp) ?_
          refine AllReadyH.cons rfl (fun K' hK => ?_) AllReadyH.nil
          go_simp
          refine (HCC.out _ hS1).mono ?_
          rintro e w2 ⟨x', rfl, hpv, hvo, hb2⟩
          unfold MV.val
          have HPV := Lib.hid hpv
          have HVO := Lib.hid hvo
          have HC6 := Lib.hid ((HC5.out.below ((Below.refl _ _).drew)).below hb2)
          clear hpv hvo
          go_simp
          refine hK.out _ _ ((hS1).below hb2) (fun hS2 => ?_)
          clear hK K' hS1
          refine wpAnyH_take (i := 7) (oi := ⟨some 40, _, _, _, _, _⟩) (v := (.agg #[.string x.key, .int .i64 x'.k, .int .i64 x'.n, .string x'.s, .slice x'.lA x'.l.length x'.lc, .slice x'.mA x'.m.length x'.mc])) rfl (by kernel_rfl) (by kernel_rfl) (by kernel_rfl) (fun _ _ _ h => h) (.inl ⟨by kernel_rfl, fun V hS => by go_simp⟩) hS2 ?_
          simp only [Act.put, List.setIfInBounds_toArray, List.set_cons_zero, List.set_cons_succ]
          refine wpAnyH_ready (rs := [8]) (by kernel_rfl) (by simp) ?_
          refine AllReadyH.cons rfl (fun K' hK => ?_) AllReadyH.nil
          go_simp
          obtain ⟨x'', hx''⟩ : ∃ x'' : MV, x'' = .mk x.key x'.k x'.n x'.s x'.lA x'.lc x'.l x'.mA x'.mc x'.m := ⟨_, rfl⟩
          have HX2 : Hid (x''.key = x.key ∧ x''.pv = x'.pv ∧ (MV.pcs x'').toArray = #[.string x.key, .int .i64 x'.k, .int .i64 x'.n, .string x'.s, .slice x'.lA x'.l.length x'.lc, .slice x'.mA x'.m.length x'.mc] ∧ VAt w2 x'' ∧ BlkP (W5.drew.heap.size ≤ ·) x'') := Lib.hid (by rw [hx'']; exact ⟨rfl, by cases x'; rfl, rfl, HVO.out.at_.rekey, HVO.out.fr.rekey⟩)
          clear hx''
          have HK7 : Hid (Blk (w2.alloc (.cells #[.string x.key, .int .i64 x'.k, .int .i64 x'.n, .string x'.s, .slice x'.lA x'.l.length x'.lc, .slice x'.mA x'.m.length x'.mc] 33)) w2.heap.size 33 (MV.pcs x'').toArray) := Lib.hid (by rw [HX2.out.2.2.1]; exact Blk.new _ _ _)
          have HC7 := Lib.hid (HC6.out.below ((Below.refl _ _).alloc (Nat.le_refl _) (.cells #[.string x.key, .int .i64 x'.k, .int .i64 x'.n, .string x'.s, .slice x'.lA x'.l.length x'.lc, .slice x'.mA x'.m.length x'.mc] 33)))
          have HV7 := Lib.hid (HX2.out.2.2.2.1.bel ((Below.refl _ _).alloc (Nat.le_refl _) (.cells #[.string x.key, .int .i64 x'.k, .int .i64 x'.n, .string x'.s, .slice x'.lA x'.l.length x'.lc, .slice x'.mA x'.m.length x'.mc] 33)))
          have HG7 : Hid (wr.heap.size ≤ W5.drew.heap.size) := Lib.hid (by have := HK5.out.lt; show wr.heap.size ≤ W5.heap.size; omega)
          refine hK.out _ _ ((hS2).alloc _) (fun hS3 => ?_)
          clear hK K' hS2
          refine wpAnyH_ready (rs := [9]) (by kernel_rfl) (by simp) ?_
          refine AllReadyH.cons rfl (fun K' hK => ?_) AllReadyH.nil
          generalize w2.alloc (.cells #[.string x.key, .int .i64 x'.k, .int .i64 x'.n, .string x'.s, .slice x'.lA x'.l.length x'.lc, .slice x'.mA x'.m.length x'.mc] 33) = w3 at HK7 HC7 HV7 hS3 ⊢
          refine step_app_row w3 infoPair Tryd.underlying23 rfl (by omega) (by omega) (fun _ => rfl) oneC_pcs rfl (some 42) rfl _ _ rfl W3.heap.size (.slice A2 n2 c2) m' rfl HC7.out.rm w2.heap.size rfl x'' HK7.out HV7.out (HX2.out.2.2.2.2.mono (fun g hg => Nat.le_trans HC5.out.bs.2 hg)) (HX2.out.2.2.2.2.mono (fun g hg e => by have := HLT5.out g e; have := HG7.out; omega)) (by rw [HC7.out.ml]; omega) HC7.out.bs.2 ?_
          intro v4 w4 hrow hg hat
          have hs4 := (hS3).grown hg (fun g e _ => e)
          obtain ⟨A9, c9, rfl, _, _, _⟩ := hrow.shape
          generalize (m' ++ [x'']).length = N9 at hrow hat ⊢
          refine hK.out _ _ (hs4) (fun hS4 => ?_)
          clear hK K' hS3
          simp only [Act.put, List.setIfInBounds_toArray, List.set_cons_zero, List.set_cons_succ]
          refine wpAnyH_take (i := 10) (oi := ⟨some 43, _, _, _, _, _⟩) (v := .pointer (some ⟨w.heap.size + 1 + 1, 4, none⟩)) rfl (by kernel_rfl) (by kernel_rfl) (by kernel_rfl) (fun _ _ _ h => h) (.inl ⟨by kernel_rfl, fun V hS => by go_simp⟩) hS4 ?_
          simp only [Act.put, List.setIfInBounds_toArray, List.set_cons_zero, List.set_cons_succ]
          refine wpAnyH_done (by kernel_rfl) ?_ _
          refine lastQ_normal (wpOp_step rfl (fun K' hK => ?_))
          obtain ⟨hcn, hbx⟩ := HC7.out.moreM HIL.out (HX2.out.2.1.trans (HPV.out.trans (by rw [HXX.out]))) (HX2.out.1.trans (by rw [HXX.out])) (HX2.out.2.2.2.2.mono (fun g hg e => by have := HLT6.out g e; have := HG7.out; omega)) hrow hg hat (Nat.le_refl _)
          have hz := hbx.frozen 4
          have hd := hbx.cell 4
          simp only [List.getElem?_toArray, List.getElem?_cons_zero, List.getElem?_cons_succ] at hd
          go_simp
          refine hK _ _ ?_
          clear hK K' hS4 hz hd hbx hrow hg hat
          have HCN := Lib.hid hcn
          clear hcn
          go_wp2
          go_roundw
          case rel => exact ⟨j + 1, A9, N9, c9, m' ++ [x''], by go_num, by omega, HCN⟩
          case measure => simp [intOf]; omega
        · have q5 : decide ((j : Int) < (nm : Int)) = false := by rw [decide_eq_false_iff_not]; omega
          have q5' : decide (j < nm) = false := by rw [decide_eq_false_iff_not]; omega
          have HCE : Hid (CL w w.heap.size W3.heap.size k n s #[.int .i64 k, .int .i64 n, .string s, .slice lA nl lc, .slice mA nm mc] l nl m nm (.slice A1 n1 c1) l' (.slice A2 n2 c2) m' wr) := Lib.hid (by
            have h := HC.out
            rw [heq] at h
            exact h)
          obtain ⟨s0, s1, s2, s3, s4⟩ := five_cells HCE.out.box
          obtain ⟨t0, t1, t2, t3, t4⟩ := five_cells HCE.out.out
          obtain ⟨z0, z1, z2, z3, z4⟩ := five_fr HCE.out.out
          clear heq HC
          have HR := Lib.hid (HFIN.out _ _ l' m' wr (((((wr.setCell ⟨w.heap.size + 1, 0, none⟩ (.int .i64 k)).setCell ⟨w.heap.size + 1, 1, none⟩ (.int .i64 n)).setCell ⟨w.heap.size + 1, 2, none⟩ (.string s)).setCell ⟨w.heap.size + 1, 3, none⟩ (.slice A1 n1 c1)).setCell ⟨w.heap.size + 1, 4, none⟩ (.slice A2 n2 c2)) HCE.out ((((((Fr.refl (· = w.heap.size + 1) wr).setCell (p := ⟨w.heap.size + 1, 0, none⟩) (fun _ => rfl) _).setCell (p := ⟨w.heap.size + 1, 1, none⟩) (fun _ => rfl) _).setCell (p := ⟨w.heap.size + 1, 2, none⟩) (fun _ => rfl) _).setCell (p := ⟨w.heap.size + 1, 3, none⟩) (fun _ => rfl) _).setCell (p := ⟨w.heap.size + 1, 4, none⟩) (fun _ => rfl) _))
          have HKF : Hid (Blk (((((wr.setCell ⟨w.heap.size + 1, 0, none⟩ (.int .i64 k)).setCell ⟨w.heap.size + 1, 1, none⟩ (.int .i64 n)).setCell ⟨w.heap.size + 1, 2, none⟩ (.string s)).setCell ⟨w.heap.size + 1, 3, none⟩ (.slice A1 n1 c1)).setCell ⟨w.heap.size + 1, 4, none⟩ (.slice A2 n2 c2)) (w.heap.size + 1) 25 #[.int .i64 k, .int .i64 n, .string s, .slice A1 n1 c1, .slice A2 n2 c2]) := Lib.hid (((((HCE.out.out.set_ 0 _).set_ 1 _).set_ 2 _).set_ 3 _).set_ 4 _)
          go_wp2
          generalize (((((wr.setCell ⟨w.heap.size + 1, 0, none⟩ (.int .i64 k)).setCell ⟨w.heap.size + 1, 1, none⟩ (.int .i64 n)).setCell ⟨w.heap.size + 1, 2, none⟩ (.string s)).setCell ⟨w.heap.size + 1, 3, none⟩ (.slice A1 n1 c1)).setCell ⟨w.heap.size + 1, 4, none⟩ (.slice A2 n2 c2)) = Wf at HKF HR ⊢
          obtain ⟨k0, k1, k2, k3, k4⟩ := five_cells HKF.out
          refine bodyPost_ret (v := .agg #[.int .i64 k, .int .i64 n, .string s, .slice A1 n1 c1, .slice A2 n2 c2]) (by simp [results, Tryd.results33, go_sem, k0, k1, k2, k3, k4]) rfl ?_
          exact HR.out
end Go.Proofs.YteodigdcdhceiaaDoor
