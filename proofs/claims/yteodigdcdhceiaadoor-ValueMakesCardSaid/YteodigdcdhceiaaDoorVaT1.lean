/-
  The document's Sort: what its loops keep.
-/
import Derived.Test.YteodigdcdhceiaaDoorVaW
namespace Go.Proofs.YteodigdcdhceiaaDoor
open Go.RowKit
set_option linter.unusedVariables false
set_option linter.unusedSimpArgs false

/-- the box of what is made, and its two rows -/
structure RSt (w : World) (H base : Nat) (k n : Int) (s : ByteArray) (orig : Array Value) (vl vm : Value) (l m : List MV) (wr : World) : Prop where
  bel : Below w.heap.size w wr
  src : Blk wr H 25 orig
  out : Blk wr (H + 1) 25 #[.int .i64 0, .int .i64 0, .string ⟨#[]⟩, .slice none 0 0, .slice none 0 0]
  box : Blk wr (H + 1 + 1) 25 #[.int .i64 k, .int .i64 n, .string s, vl, vm]
  bs : H + 3 ≤ base ∧ base ≤ wr.heap.size
  rl : ROwn 25 5 MV.cs base wr vl l
  rm : ROwn 33 6 MV.pcs base wr vm m
  lm : ∀ x ∈ l, BlkP (fun b => ¬ vm.ownBlock = some b) x
  ml : ∀ x ∈ m, BlkP (fun b => ¬ vl.ownBlock = some b) x
  ne : ∀ g, vl.ownBlock = some g → ¬ vm.ownBlock = some g
section
variable {w w2 w4 : World} {H base : Nat} {k n : Int} {s : ByteArray} {orig : Array Value} {vl vm : Value} {l m : List MV} {wr w' : World}
theorem RSt.below (h : RSt w H base k n s orig vl vm l m wr) (hb : Below wr.heap.size wr w') : RSt w H base k n s orig vl vm l m w' :=
  ⟨h.bel.trans (hb.mono h.bel.size), h.src.below hb h.src.lt, h.out.below hb h.out.lt, h.box.below hb h.box.lt, ⟨h.bs.1, Nat.le_trans h.bs.2 hb.size⟩, h.rl.below hb, h.rm.below hb, h.lm, h.ml, h.ne⟩
/-- one more in its list -/
theorem RSt.more {x' : MV} {A : Option Addr} {N c : Nat} (h : RSt w H base k n s orig vl (.slice none 0 0) l [] w2) (hrow : ROwn 25 5 MV.cs base w4 (.slice A N c) (l ++ [x'])) (hg : w2.grownBy w4 vl.ownBlock) (hHb : w.heap.size ≤ H) :
    RSt w H base k n s orig (.slice A N c) (.slice none 0 0) (l ++ [x']) [] (w4.setCell ⟨H + 1 + 1, 3, none⟩ (.slice A N c)) ∧ Blk w4 (H + 1 + 1) 25 #[.int .i64 k, .int .i64 n, .string s, vl, .slice none 0 0] := by
  have hge := h.rl.ge
  have hbs := h.bs
  have hne : ∀ b, b < base → ¬ some b = vl.ownBlock := fun b hb e => by have := hge b e.symm; omega
  have hk4 := h.box.grown hg (hne _ (by omega))
  have hff : Fr (· = H + 1 + 1) w4 (w4.setCell ⟨H + 1 + 1, 3, none⟩ (.slice A N c)) := (Fr.refl (· = H + 1 + 1) w4).setCell (p := ⟨H + 1 + 1, 3, none⟩) (fun _ => rfl) _
  have hfa : Fr (fun b => H ≤ b) w2 (w4.setCell ⟨H + 1 + 1, 3, none⟩ (.slice A N c)) := ((Fr.of_grown (S := fun b => H ≤ b) hg (fun b e => by have := hge b e; omega))).trans (hff.mono (fun b _ e => by rw [show b = H + 1 + 1 from e]; omega))
  have hrow' : ∀ y ∈ l ++ [x'], BlkP (fun b => ¬ b = H + 1 + 1) y := fun y hy => (hrow.fr y hy).mono (fun b hb => by omega)
  refine ⟨⟨Fr.below_trans h.bel hfa h.bel.size (fun b hb => Nat.le_trans hHb hb), ?_, ?_, ?_, ⟨hbs.1, Nat.le_trans hbs.2 hfa.size⟩, ?_, ROwn.nil _ _, fun y hy => ?_, (fun y hy => by cases hy), fun g _ e => by cases e⟩, hk4⟩
  · exact ((h.src.grown hg (hne _ (by omega))).fr hff (by omega))
  · exact ((h.out.grown hg (hne _ (by omega))).fr hff (by omega))
  · exact hk4.set_ 3 _
  · exact hrow.frS hff (fun g hg' e => by have := hrow.ge g hg'; have e' : g = H + 1 + 1 := e; omega) hrow'
  · exact (hrow.fr y hy).mono (fun b _ e => by cases e)
/-- its pairs lie in a new row -/
theorem RSt.newM {m' : List MV} {A : Option Addr} {N c : Nat} (h : RSt w H base k n s orig vl vm l m w2) (hb : Below w2.heap.size w2 w4) (hrow : w4.ownsRow w2.heap.size 33 6 (.slice A N c) m'.length (m'.flatMap MV.pcs)) (hm : ∀ x ∈ m', VAt w2 x ∧ BlkP (base ≤ ·) x ∧ BlkP (fun b => ¬ vl.ownBlock = some b) x) (hHb : w.heap.size ≤ H) :
    RSt w H base k n s orig vl (.slice A N c) l m' (w4.setCell ⟨H + 1 + 1, 4, none⟩ (.slice A N c)) ∧ Blk w4 (H + 1 + 1) 25 #[.int .i64 k, .int .i64 n, .string s, vl, vm] := by
  have hbs := h.bs
  have h4 := h.below hb
  have hff : Fr (· = H + 1 + 1) w4 (w4.setCell ⟨H + 1 + 1, 4, none⟩ (.slice A N c)) := (Fr.refl (· = H + 1 + 1) w4).setCell (p := ⟨H + 1 + 1, 4, none⟩) (fun _ => rfl) _
  have hge : ∀ b, (Value.slice A N c).ownBlock = some b → w2.heap.size ≤ b := fun b e => (World.ownsRow.lt hrow b e).1
  have hav : ∀ y, BlkP (base ≤ ·) y → BlkP (fun b => ¬ b = H + 1 + 1) y := fun y hy => hy.mono (fun b hb => by omega)
  have hr4 : ROwn 33 6 MV.pcs base w4 (.slice A N c) m' := by
    refine ⟨⟨hrow.1, ?_⟩, fun x hx => (hm x hx).1.bel hb, fun x hx => (hm x hx).2.1, fun x hx => (hm x hx).1.lt.mono (fun b hb e => by have := hge b e; omega)⟩
    rcases hrow.2 with h0 | ⟨g, cap, cur, hv, hg, hh, hn⟩
    · exact .inl h0
    · exact .inr ⟨g, cap, cur, hv, Nat.le_trans hbs.2 hg, hh, hn⟩
  refine ⟨⟨Fr.below_trans h4.bel hff h4.bel.size (fun b e => by rw [show b = H + 1 + 1 from e]; omega), h4.src.fr hff (by omega), h4.out.fr hff (by omega), h4.box.set_ 4 _, ⟨hbs.1, Nat.le_trans h4.bs.2 hff.size⟩, ?_, ?_, fun y hy => ?_, fun y hy => (hm y hy).2.2, fun g h1 e => ?_⟩, h4.box⟩
  · exact h4.rl.frS hff (fun g hg' e => by have := h4.rl.ge g hg'; have e' : g = H + 1 + 1 := e; omega) (fun y hy => hav y (h4.rl.fr y hy))
  · exact hr4.frS hff (fun g hg' e => by have := hge g hg'; have e' : g = H + 1 + 1 := e; omega) (fun y hy => hav y (hr4.fr y hy))
  · exact (h.rl.at_ y hy).lt.mono (fun b hb e => by have := hge b e; omega)
  · have := hge g e
    have := h.rl.ltS g h1
    omega
/-- what is returned -/
theorem RSt.fin {wf : World} {p : PV} (h : RSt w w.heap.size base k n s orig vl vm l m w') (hf : Fr (· = w.heap.size + 1) w' wf) (hk : (Lit.int .i64 k).wf = true) (hn : (Lit.int .i64 n).wf = true) (hp : PV.mk k n s (MV.pvL l) (m.map MV.key) (MV.pvL m) = p) : ∃ v' : MV, (.agg #[.int .i64 k, .int .i64 n, .string s, vl, vm]) = v'.val ∧ v'.pv = p ∧ VOwn w.heap.size wf v' ∧ Below w.heap.size w wf := by
  have hbs := h.bs
  have hav : ∀ y, BlkP (base ≤ ·) y → BlkP (fun b => ¬ b = w.heap.size + 1) y := fun y hy => hy.mono (fun b hb => by omega)
  obtain ⟨v', e1, e2, e3, e4, e5, e6, e7, e8, e9⟩ := VOwn.mk' (base := base) hk hn (h.rl.frS hf (fun g hg e => by have := h.rl.ge g hg; have e' : g = w.heap.size + 1 := e; omega) (fun y hy => hav y (h.rl.fr y hy))) (h.rm.frS hf (fun g hg e => by have := h.rm.ge g hg; have e' : g = w.heap.size + 1 := e; omega) (fun y hy => hav y (h.rm.fr y hy))) h.lm h.ml (s := s)
  have hle : w.heap.size ≤ base := by omega
  refine ⟨v', ?_, e8.trans hp, ⟨e9.at_, e9.fr.mono (fun b hb => Nat.le_trans hle hb), e9.l.base_le hle, e9.m.base_le hle, e9.lm, e9.ml⟩, Fr.below_trans h.bel hf h.bel.size (fun b e => by rw [show b = w.heap.size + 1 from e]; omega)⟩
  rw [MV.val, e1, e2, e3, e4, e5, ← e6, ← e7]
end
/-- a key is put in its place -/
theorem ins_rising {t d : List MV} {x : MV} (h : (t ++ d).Pairwise (fun a b => bl b.key a.key = false)) (hd : ∀ b ∈ d, bl x.key b.key = true) (ht : ∀ a ∈ t, bl x.key a.key = false) : (t ++ [x] ++ d).Pairwise (fun a b => bl b.key a.key = false) := by
  rw [List.pairwise_append] at h ⊢
  refine ⟨?_, h.2.1, fun a ha b hb => ?_⟩
  · rw [List.pairwise_append]
    exact ⟨h.1, List.pairwise_singleton _ _, fun a ha b hb => by rw [List.mem_singleton] at hb; subst hb; exact ht a ha⟩
  · rcases List.mem_append.1 ha with ha | ha
    · exact h.2.2 a ha b hb
    · rw [List.mem_singleton] at ha
      subst ha
      exact bl_asym (hd b hb)
theorem rising_take {l : List MV} {i : Nat} {x : ByteArray} (h : l.Pairwise (fun a b => bl b.key a.key = false)) (hi : i < l.length) (hx : bl x l[i].key = false) : ∀ a ∈ l.take (i + 1), bl x a.key = false := by
  intro a ha
  obtain ⟨j, hj, rfl⟩ := List.mem_iff_getElem.1 ha
  rw [List.length_take] at hj
  rw [List.getElem_take]
  rcases (by omega : j < i ∨ j = i) with h1 | h1
  · exact bl_ntr hx ((List.pairwise_iff_getElem.1 h) j i (by omega) hi h1)
  · subst h1; exact hx
theorem perm_ins {t d : List MV} {x : MV} : (t ++ [x] ++ d).Perm ((t ++ d) ++ [x]) := by
  rw [List.append_assoc]
  refine (List.perm_append_left_iff t).2 ?_ |>.trans (by rw [List.append_assoc])
  exact List.perm_append_comm
theorem flat_take {size : Nat} {cs : MV → List Value} (hcl : ∀ x, (cs x).length = size) (l : List MV) (i : Nat) : (l.flatMap cs).take (i * size) = (l.take i).flatMap cs := by
  induction l generalizing i with
  | nil => simp
  | cons x r ih =>
    cases i with
    | zero => simp
    | succ i => rw [List.flatMap_cons, List.take_succ_cons, List.flatMap_cons, List.take_append, hcl, List.take_of_length_le (by rw [hcl, Nat.succ_mul]; omega), show (i + 1) * size - size = i * size from by rw [Nat.succ_mul]; omega, ih]
theorem flat_drop {size : Nat} {cs : MV → List Value} (hcl : ∀ x, (cs x).length = size) (l : List MV) (i : Nat) : (l.flatMap cs).drop (i * size) = (l.drop i).flatMap cs := by
  induction l generalizing i with
  | nil => simp
  | cons x r ih =>
    cases i with
    | zero => simp
    | succ i => rw [List.flatMap_cons, List.drop_succ_cons, List.drop_append, hcl, List.drop_of_length_le (by rw [hcl, Nat.succ_mul]; omega), List.nil_append, show (i + 1) * size - size = i * size from by rw [Nat.succ_mul]; omega, ih]
theorem Reads.head {w : World} {B size n i : Nat} {A : Option Addr} {xs : List Value} (h : Reads w B size A n xs) (hi : i ≤ n) : Reads w B size A i (xs.take (i * size)) := by
  refine ⟨?_, fun hn => ?_⟩
  · rw [List.length_take, h.1]
    exact Nat.min_eq_left (Nat.mul_le_mul_right _ hi)
  · obtain ⟨ad, e, hb, hc⟩ := h.2 (by omega)
    refine ⟨ad, e, hb, fun j u hu => hc j u ?_⟩
    rcases Nat.lt_or_ge j (i * size) with h1 | h1
    · rwa [List.getElem?_take_of_lt h1] at hu
    · rw [List.getElem?_eq_none (by rw [List.length_take]; omega)] at hu
      cases hu
theorem oneC_pcsL (l : List MV) : ∀ u ∈ l.flatMap MV.pcs, u.oneCell' = true := fun u hu => by
  rw [List.mem_flatMap] at hu
  obtain ⟨x, _, hu⟩ := hu
  exact oneC_pcs x u hu
theorem ROwn.reads {t : TypeId} {size : Nat} {cs : MV → List Value} {base n c : Nat} {A : Option Addr} {w : World} {l : List MV} (h : ROwn t size cs base w (.slice A n c) l) (hn : l.length = n) : Reads w w.heap.size size A n (l.flatMap cs) := by
  subst hn
  have ho := h.own
  exact Reads.of_own ho
/-- append, of pairs, onto a row above B -/
theorem step_app_pairs (W : World) {ops : Array Oper} {o : Oper} {a : Act} {K : Act → World → Prop} {Q : Exit → Act → World → Prop} {E : Prop} (hgd : o.guard = none) (d : Option Tmp) (hd : o.dst = d) (s x : Operand)
    (ho : o.op = .call { callee := .builtin .append, args := #[s, x], argTypes := #[23, 23] })
    (B : Nat) (v : Value) (l : List MV) (hs : a.eval s = v) (hown : W.ownsRow B 33 6 v l.length (l.flatMap MV.pcs)) (A : Option Addr) (m c : Nat) (l2 : List MV) (hx : a.eval x = .slice A m c) (hr : Reads W W.heap.size 6 A m (l2.flatMap MV.pcs)) (hm : l2.length = m) (hlen : l.length + m ≤ 1000000) (hB : B ≤ W.heap.size)
    (h : ∀ v' W', W'.ownsRow B 33 6 v' (l ++ l2).length ((l ++ l2).flatMap MV.pcs) → W.grownBy W' v.ownBlock → K (a.put d v') W') :
    if Region.wanted o (yielded ops a.tmps) = true then Oper.wp Tryd.prog o a W K Q else E := by
  subst hd
  obtain ⟨i0, hi0, hz0, hz1, hz2⟩ := info_parts infoPair
  refine step_append_any W hgd s x 23 ho B 33 i0 _ 6 96 Tryd.underlying23 hi0 hz0 hz1 hz2 rfl (by omega) v l.length (l.flatMap MV.pcs) hs hown _ A m c (l2.flatMap MV.pcs) hx hr (oneC_pcsL l2) (by simp only [maxLen]; omega) (by omega) hB ?_
  intro v' w' h1 h2 h3
  refine h v' w' ?_ h2
  rw [List.length_append, hm, List.flatMap_append]
  exact h1
theorem own_above {w w' : World} {B : Nat} {v : Value} {n : Nat} {xs : List Value} (h : w.ownsRow B 33 6 v n xs) (hb : Below w.heap.size w w') : w'.ownsRow B 33 6 v n xs := by
  refine ⟨h.1, ?_⟩
  rcases h.2 with h0 | ⟨g, cap, cur, hv, hg, hh, hn⟩
  · exact .inl h0
  · exact .inr ⟨g, cap, cur, hv, hg, (hb.block g (Blk.lt (t := 33) hh)).trans hh, hn⟩
theorem own_empty (W : World) (B : Nat) (hB : B ≤ W.heap.size) : (W.alloc (.cells #[] 33)).ownsRow B 33 6 (.slice (some ⟨W.heap.size, 0, none⟩) 0 0) ([] : List MV).length (([] : List MV).flatMap MV.pcs) :=
  ⟨rfl, .inr ⟨W.heap.size, 0, #[], rfl, hB, heap_alloc_new W _, Nat.le_refl _, by simp [maxLen], rfl, rfl⟩⟩
theorem own_ne {w : World} {B g : Nat} {v : Value} {n : Nat} {xs : List Value} (h : w.ownsRow B 33 6 v n xs) (hg : g < B) : ¬ some g = v.ownBlock := fun e => by have := (World.ownsRow.lt h g e.symm).1; omega
end Go.Proofs.YteodigdcdhceiaaDoor
