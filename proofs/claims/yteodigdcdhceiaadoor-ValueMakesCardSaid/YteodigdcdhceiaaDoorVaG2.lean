/-
  slices.DeleteFunc at pairs; value.Without.
-/
import Derived.Test.YteodigdcdhceiaaDoorVaG1
import Derived.Laws.CopyRow
namespace Go.Proofs.YteodigdcdhceiaaDoor
open Go.RowKit
attribute [local go_sem ↓] Go.wp_at_zero Go.wp_at_succ
set_option linter.unusedVariables false
set_option linter.unusedSimpArgs false

theorem wpList_clear_run {P : Program} (w : World) {ops : Array Oper} {rest : List Oper} {o : Oper} {a : Act} {Q : Exit → Act → World → Prop} (hgd : o.guard = none) (s : Operand) (t : TypeId)
    (ho : o.op = .call { callee := .builtin .clear, args := #[s], argTypes := #[t] }) (vs : Value) (hs : a.eval s = vs)
    (v' : Value) (w' : World) (hr : (Builtin.clear_ #[t] o.type #[vs]).run P w = .ok v' w') (h : wpList P ops Q rest (a.put o.dst v') w') : wpList P ops Q (o :: rest) a w :=
  wpList_plain hgd fun _ hK => by
    unfold Oper.wp execOp
    simp only [ho, resolve, invoke, builtin, Sem.run_bind, Sem.run_pure, Result.andThen_ok, List.map_toArray, List.map_cons, List.map_nil, hs, hr]
    exact hK _ _ h
section
variable {w : World} {g : Nat} {t : TypeId} {cur : Array Value}
theorem Blk.setRowM (h : Blk w g t cur) (cs : Array Value) : Blk (w.setRow g cs) g t cs := setRow_heap w g cur cs t _ h
theorem Fr.setRowM (w : World) (g : Nat) (cs : Array Value) : Fr (· = g) w (w.setRow g cs) :=
  ⟨rfl, rfl, rfl, by simp [World.setRow], fun i hi hs => setRow_other w g i cs hs⟩
end
theorem run_clear_pairs (w : World) (g o n c : Nat) (cur : Array Value) (hg : Blk w g 33 cur) (hfit : o + n * 6 ≤ cur.size) :
    ∃ cs : Array Value, cs.size = cur.size ∧ cs.toList.take o = cur.toList.take o ∧ ∀ ty, (Builtin.clear_ #[23] ty #[.slice (some ⟨g, o, none⟩) n c]).run Tryd.prog w = .ok (.tuple #[]) (w.setRow g cs) := by
  obtain ⟨i0, hi0, hz0, hz1, hz2⟩ := info_parts infoPair
  rcases Nat.eq_zero_or_pos n with h0 | h0
  · subst h0
    refine ⟨cur, rfl, rfl, fun ty => ?_⟩
    rw [setRow_self w g cur 33 (0, 0) hg]
    simp [Builtin.clear_, run_underlying Tryd.underlying23]
  · obtain ⟨Z, hZ⟩ : ∃ Z, Z = (Builtin.zeroCells (Value.agg #[.string ⟨#[]⟩, .int .i64 0, .int .i64 0, .string ⟨#[]⟩, .slice none 0 0, .slice none 0 0]).cells n).toList := ⟨_, rfl⟩
    have hZl : Z.length = n * 6 := by
      rw [hZ, Array.length_toList, size_zeroCells]
      rfl
    have h1 : ∀ u ∈ Z, u.oneCell' = true := fun u hu => by
      rw [hZ] at hu
      unfold Builtin.zeroCells at hu
      simp only [Value.cells, Array.toList_map, Array.toList_range, List.mem_map, List.mem_range] at hu
      obtain ⟨a, _, rfl⟩ := hu
      simp only [List.size_toArray, List.length_cons, List.length_nil]
      rcases (by omega : a % 6 = 0 ∨ a % 6 = 1 ∨ a % 6 = 2 ∨ a % 6 = 3 ∨ a % 6 = 4 ∨ a % 6 = 5) with e | e | e | e | e | e
      all_goals
        rw [show a % (0 + 1 + 1 + 1 + 1 + 1 + 1) = _ from e]
        rfl
    have hst := run_storeCells_at Tryd.prog g o 33 Z 0 cur w hg (by rw [hZl]; simpa using hfit) h1
    simp only [Nat.add_zero] at hst
    refine ⟨(cur.toList.take o ++ Z ++ cur.toList.drop (o + Z.length)).toArray, ?_, ?_, ?_⟩
    · simp only [List.size_toArray, List.length_append, List.length_take, List.length_drop, Array.length_toList]
      omega
    · show List.take o (cur.toList.take o ++ Z ++ cur.toList.drop (o + Z.length)) = _
      rw [List.append_assoc, List.take_left' (by rw [List.length_take, Array.length_toList]; omega)]
    · intro ty
      have hn : n ≠ 0 := by omega
      obtain ⟨n', rfl⟩ : ∃ n', n = n' + 1 := ⟨n - 1, by omega⟩
      simp [Builtin.clear_, run_underlying Tryd.underlying23, zeroValue, typeInfo, hi0, hz0, ← hZ, hst]
/-- the block of a row that is not empty -/
theorem ROwn.cut {base n c : Nat} {A : Option Addr} {w : World} {l : List MV} (h : ROwn 33 6 MV.pcs base w (.slice A n c) l) (hl : 0 < l.length) : ∃ g cur, A = some ⟨g, 0, none⟩ ∧ n = l.length ∧ base ≤ g ∧ Blk w g 33 cur ∧ l.length ≤ c ∧ c ≤ maxLen ∧ cur.size = c * 6 ∧ cur.toList.take (l.length * 6) = l.flatMap MV.pcs := by
  rcases h.own.2 with ⟨h0, h1⟩ | ⟨g, cap, cur, hv, hg, hh, hn, hm, hs, ht⟩
  · omega
  · injection hv with e1 e2 e3
    subst e3
    exact ⟨g, cur, e1, e2, hg, hh, hn, hm, hs, ht⟩
/-- what a function value is asked of one pair, whatever became of the row -/
def PredQ (S : Nat → Prop) (g : Nat) (lb : Array Value) (w : World) (fs : List MV) (p : MV → Bool) : Prop :=
  ∀ (k : Nat) (hk : k < fs.length) (W : World), Fr S w W → Calls Tryd.prog g (#[.agg #[.string fs[k].key, .int .i64 fs[k].k, .int .i64 fs[k].n, .string fs[k].s, .slice fs[k].lA fs[k].l.length fs[k].lc, .slice fs[k].mA fs[k].m.length fs[k].mc]] ++ lb) W fun e w' => e = .returned (.bool (p fs[k])) ∧ Below W.heap.size W w'
theorem filter_step {α : Type} (l : List α) (p : α → Bool) (j : Nat) (hj : j < l.length) : (l.take (j + 1)).filter p = (l.take j).filter p ++ if p l[j] then [l[j]] else [] := by
  rw [List.take_succ_eq_append_getElem hj, List.filter_append]
  congr 1
  simp only [List.filter_cons, List.filter_nil]
theorem filter_none {α : Type} (p : α → Bool) (l : List α) (h : ∀ j (hj : j < l.length), p l[j] = true) : l.filter p = l := by
  rw [List.filter_eq_self]
  intro x hx
  obtain ⟨j, hj, rfl⟩ := List.getElem_of_mem hx
  exact h j hj
structure DelM (base : Nat) (w wr : World) (g cap n i j : Nat) (p : MV → Bool) (fs gs : List MV) : Prop where
  own : ROwn 33 6 MV.pcs base wr (.slice (some ⟨g, 0, none⟩) n cap) gs
  len : gs.length = n
  lt : i < j
  le : j ≤ n
  drp : gs.drop j = fs.drop j
  tak : gs.take i = (fs.take j).filter (fun f => !p f)
  sub : ∀ x ∈ gs, x ∈ fs
  fr : Fr (· = g) w wr
theorem DelM.skip {base g cap n i j : Nat} {w wr w' : World} {p : MV → Bool} {fs gs : List MV} (h : DelM base w wr g cap n i j p fs gs) (hb : Below wr.heap.size wr w') (hfs : fs.length = n) (hj : j < n) (hp : p (fs[j]'(by omega)) = true) : DelM base w w' g cap n i (j + 1) p fs gs :=
  ⟨h.own.below hb, h.len, by have := h.lt; omega, hj, by
    have := congrArg (List.drop 1) h.drp
    rw [List.drop_drop, List.drop_drop] at this
    exact this, by
    rw [filter_step fs _ j (by omega), hp]
    simpa using h.tak, h.sub, h.fr.below hb⟩
theorem DelM.put {base g cap n i j : Nat} {w wr w' : World} {p : MV → Bool} {fs gs : List MV} (h : DelM base w wr g cap n i j p fs gs) (hb : Below wr.heap.size wr w') (hfs : fs.length = n) (hj : j < n) (hp : p (fs[j]'(by omega)) = false) :
    ∃ gs', DelM base w (puts w' g (i * 6) (fs[j]'(by omega)).pcs) g cap n (i + 1) (j + 1) p fs gs' := by
  have hi : i < gs.length := by have h1 := h.lt; have h2 := h.len; omega
  have hjg : j < gs.length := by have h2 := h.len; omega
  have hx : gs[j] = fs[j]'(by omega) := by
    have h1 := congrArg (fun l : List MV => l[0]?) h.drp
    simpa [List.getElem?_drop, List.getElem?_eq_getElem hjg, List.getElem?_eq_getElem (show j < fs.length by omega)] using h1
  have hfm : fs[j]'(by omega) ∈ fs := List.getElem_mem _
  obtain ⟨x, hxx⟩ : ∃ x, x = fs[j]'(by omega) := ⟨_, rfl⟩
  rw [← hxx] at hx hp hfm ⊢
  have ho := h.own.below hb
  rw [split_at_ gs i hi] at ho
  have hxm : x ∈ gs := by rw [← hx]; exact List.getElem_mem _
  have hx0 := h.own.at_ x hxm
  obtain ⟨k1, k2⟩ := ho.set (x' := x) (d := 0) (vs := x.pcs) (fun _ => rfl) (i := i) (by rw [List.length_take]; omega) (by simp) rfl (hx0.bel hb) (h.own.fr x hxm) ((h.own.av x hxm).mono (fun b hb' e => hb' (by rw [e]; rfl)))
  have hlen : (gs.take i ++ x :: gs.drop (i + 1)).length = n := by
    have := h.len
    rw [List.length_append, List.length_cons, List.length_take, List.length_drop]
    omega
  refine ⟨gs.take i ++ x :: gs.drop (i + 1), k1, hlen, by have := h.lt; omega, hj, ?_, ?_, fun y hy => ?_, (h.fr.below hb).trans k2⟩
  · have hl : (gs.take i).length = i := by rw [List.length_take]; omega
    rw [List.drop_append, hl, List.drop_of_length_le (by rw [hl]; have := h.lt; omega), List.nil_append, show j + 1 - i = (j - i) + 1 from by have := h.lt; omega, List.drop_succ_cons, List.drop_drop, show i + 1 + (j - i) = j + 1 from by have := h.lt; omega]
    have := congrArg (List.drop 1) h.drp
    rw [List.drop_drop, List.drop_drop] at this
    exact this
  · have hl : (gs.take i).length = i := by rw [List.length_take]; omega
    rw [filter_step fs _ j (by omega), ← hxx, hp, ← h.tak, List.take_append, hl, List.take_of_length_le (by omega), show i + 1 - i = 1 from by omega]
    simp
  · rw [List.mem_append, List.mem_cons] at hy
    rcases hy with hy | hy | hy
    · exact h.sub y (List.mem_of_mem_take hy)
    · rw [hy]; exact hfm
    · exact h.sub y (List.mem_of_mem_drop hy)
def DelP (base : Nat) (v : Value) (l : List MV) (w : World) (e : Ending) (w' : World) : Prop := ∃ A c, e = .returned (.slice A l.length c) ∧ ROwn 33 6 MV.pcs base w' (.slice A l.length c) l ∧ Fr (fun j => v.ownBlock = some j) w w' ∧ ∀ g, (Value.slice A l.length c).ownBlock = some g → v.ownBlock = some g
theorem DelP.mk' {base : Nat} {v : Value} {l l' : List MV} {w w' : World} {A : Option Addr} {n c : Nat} (hl : l' = l) (hn : l.length = n) (h1 : ROwn 33 6 MV.pcs base w' (.slice A n c) l) (h2 : Fr (fun j => v.ownBlock = some j) w w') (h3 : ∀ g, (Value.slice A n c).ownBlock = some g → v.ownBlock = some g) : PF (DelP base v l' w) (.returned (.slice A n c)) w' := by
  subst hl
  subst hn
  exact ⟨A, c, rfl, h1, h2, h3⟩
set_option maxRecDepth 100000 in
set_option maxHeartbeats 8000000 in
theorem delPair_any (base : Nat) (g0 : Nat) (lb : Array Value) (eg : ∀ args w, (callFunc g0 args).run Tryd.prog w = .ok (.enter g0 args) w) (A : Option Addr) (n c : Nat) (v : MV) (fs : List MV) (w : World) (p : MV → Bool) (hvv : VAt w v) (hva : v.mA = A) (hvm : v.m = fs) (ho : ROwn 33 6 MV.pcs base w (.slice A n c) fs) (hn : fs.length = n) (hbig : n ≤ 1000000000000) (hp : PredQ (fun j => (Value.slice A n c).ownBlock = some j) g0 lb w fs p) :
    Calls Tryd.prog 34 #[.slice A n c, .func (.func g0) #[] lb] w fun e w' => PF (DelP base (.slice A n c) (fs.filter (fun f => !p f)) w) e w' := by
  have HIX := Lib.hid (indexPair_any g0 lb eg v A n c fs w p hvv hva hvm hn (by omega) (fun k hk W hW => hp k hk W (Fr.of_below hW)))
  have HO := Lib.hid ho
  have HN := Lib.hid hn
  have HPP := Lib.hid hp
  clear ho hn hp hvv hva hvm
  go_enter Tryd.func34, Tryd.ntmps34
  go_wp2_with fail
  refine HIX.out.mono ?_
  rintro e w1 ⟨rfl, hb1⟩
  have HO1 := Lib.hid (HO.out.below hb1)
  have HF1 : Hid (Fr (fun j => (Value.slice A n c).ownBlock = some j) w w1) := Lib.hid (Fr.of_below hb1)
  obtain ⟨z, hz⟩ : ∃ z, z = idxG p fs := ⟨_, rfl⟩
  rw [← hz]
  clear hb1 HIX
  rcases idxG_split p fs with ⟨h, hno⟩ | ⟨k, hk, h, hpk, hbf⟩
  · rw [h] at hz
    have HR : Hid (fs.filter (fun f => !p f) = fs) := Lib.hid (filter_none _ fs (fun j hj => by rw [hno j hj]; rfl))
    subst hz
    clear h hno
    go_wp2
    go_ret
    exact DelP.mk' HR.out HN.out HO1.out HF1.out (fun g e => e)
  · rw [h] at hz
    have hkn : k < n := by rw [← HN.out]; exact hk
    obtain ⟨g, cur, ev, hnn, hg, hbk, hcap1, hcap2, _⟩ := HO1.out.cut (by omega)
    clear hnn
    subst ev
    have hS' : (fun j => (Value.slice (some ⟨g, 0, none⟩) n c).ownBlock = some j) = (· = g) := by
      funext j
      simp [Value.ownBlock, eq_comm]
    have HS' := Lib.hid hS'
    rw [hS'] at HPP HF1
    have hck : n ≤ c := by rw [← HN.out]; exact hcap1
    unfold maxLen at hcap2
    have hki : (k : Int) + 1 ≤ (n : Int) := by omega
    have hst : (fs.take (k + 1)).filter (fun f => !p f) = fs.take k := by
      rw [filter_step fs _ k hk, hpk]
      simp only [Bool.not_true, Bool.false_eq_true, if_false, List.append_nil]
      refine filter_none _ _ (fun j hj => ?_)
      rw [List.length_take] at hj
      rw [List.getElem_take, hbf j (by omega) (by omega)]
      rfl
    have HI : Hid (DelM base w w1 g c n k (k + 1) p fs fs) := Lib.hid ⟨HO1.out, HN.out, by omega, by omega, rfl, hst.symm, fun x hx => hx, HF1.out⟩
    have qk : ((k : Int) == -1) = false := by rw [beq_eq_false_iff_ne]; omega
    have HC := Lib.hid (And.intro hck hcap2)
    have hck0 : (n : Int) ≤ (c : Int) := by omega
    subst hz
    clear h hst hbk hcap1 hg hS' HO1 HF1 hk hpk hbf
    go_wp2_with fail
    go_loopw [5, 6] (fun x y wr => ∃ (i j : Nat) (gs : List MV), x = .int .i64 (i : Int) ∧ y = .int .i64 (j : Int) ∧ i < n ∧ j ≤ n ∧ Hid (DelM base w wr g c n i j p fs gs)) (fun _ y _ => n - (intOf y).toNat)
    case atStart => exact ⟨k, k + 1, fs, rfl, by go_num, hkn, by omega, HI⟩
    case round =>
      clear HI
      obtain ⟨i, j, gs, rfl, rfl, hin, hjn, HI⟩ := hrel
      rcases (by omega : j < n ∨ j = n) with hlt | heq
      · have q0 : decide ((j : Int) < (n : Int)) = true := by rw [decide_eq_true_iff]; omega
        have q0' : decide (j < n) = true := by rw [decide_eq_true_iff]; omega
        have hji : (j : Int) < (n : Int) := by omega
        have hj0 : (0 : Int) ≤ (j : Int) := by omega
        have hjg : j < gs.length := by rw [HI.out.len]; exact hlt
        have hjf : j < fs.length := by rw [HN.out]; exact hlt
        have hx : gs[j] = fs[j] := by
          have h1 := congrArg (fun l : List MV => l[0]?) HI.out.drp
          simpa [List.getElem?_drop, List.getElem?_eq_getElem hjg, List.getElem?_eq_getElem hjf] using h1
        obtain ⟨g', c', hv', _, hc⟩ := HI.out.own.cellM hjg
        injection hv' with e1 e2 e3
        injection e1 with e1
        injection e1 with e1 _ _
        subst e1
        rw [hx] at hc
        obtain ⟨wb, hwb⟩ : ∃ wb, wb = wr.alloc (.cells #[.string fs[j].key, .int .i64 fs[j].k, .int .i64 fs[j].n, .string fs[j].s, .slice fs[j].lA fs[j].l.length fs[j].lc, .slice fs[j].mA fs[j].m.length fs[j].mc] 33) := ⟨_, rfl⟩
        have hbb : Below wr.heap.size wr wb := by rw [hwb]; exact (Below.refl _ _).alloc (Nat.le_refl _) _
        have hcall := HPP.out j hjf wb (HI.out.fr.below hbb)
        have hskip := fun (w' : World) (hb : Below wr.heap.size wr w') (hp : p fs[j] = true) => HI.out.skip hb HN.out hlt hp
        have hput := fun (w' : World) (hb : Below wr.heap.size wr w') (hp : p fs[j] = false) => HI.out.put hb HN.out hlt hp
        have hat := fun (w' : World) (hb : Below wr.heap.size wr w') => (HI.out.own.below hb).cellM (i := i) (by rw [HI.out.len]; exact hin)
        have hfz : ∀ (w' : World), Below wr.heap.size wr w' → ∀ m, w'.frozen? ⟨g, m, none⟩ = false := fun w' hb m => by
          obtain ⟨_, hcur⟩ := own_blk (HI.out.own.below hb) rfl
          exact hcur.frozen m
        have hkb : Blk wb wr.heap.size 33 #[.string fs[j].key, .int .i64 fs[j].k, .int .i64 fs[j].n, .string fs[j].s, .slice fs[j].lA fs[j].l.length fs[j].lc, .slice fs[j].mA fs[j].m.length fs[j].mc] := by rw [hwb]; exact Blk.new _ _ _
        obtain ⟨x, hxx⟩ : ∃ x, x = fs[j] := ⟨_, rfl⟩
        rw [← hxx] at hc hwb hcall hkb hskip hput
        have d0 : wr.cell? ⟨g, j * 6, none⟩ = some (.string x.key) := hc 0 (by omega)
        have d1 : wr.cell? ⟨g, j * 6 + 1, none⟩ = some (.int .i64 x.k) := hc 1 (by omega)
        have d2 : wr.cell? ⟨g, j * 6 + 2, none⟩ = some (.int .i64 x.n) := hc 2 (by omega)
        have d3 : wr.cell? ⟨g, j * 6 + 3, none⟩ = some (.string x.s) := hc 3 (by omega)
        have d4 : wr.cell? ⟨g, j * 6 + 4, none⟩ = some (.slice x.lA x.l.length x.lc) := hc 4 (by omega)
        have d5 : wr.cell? ⟨g, j * 6 + 5, none⟩ = some (.slice x.mA x.m.length x.mc) := hc 5 (by omega)
        have HK := Lib.hid hkb
        have HBB := Lib.hid hbb
        have HSK := Lib.hid hskip
        have HPU := Lib.hid hput
        have HATT := Lib.hid hat
        have HFZ := Lib.hid hfz
        have hini : (i : Int) < (n : Int) := by omega
        have hi0 : (0 : Int) ≤ (i : Int) := by omega
        clear hkb hskip hput hat hx hxx hbb hc hfz e2 e3
        cases hq : p x with
        | true =>
          rw [hq] at hcall
          have HQ := Lib.hid hq
          have HCC := Lib.hid hcall
          clear hq hcall
          go_wp2_with (go_at_fn g0; rw [← hwb]; refine HCC.out.mono ?_; rintro e w' ⟨rfl, hb'⟩)
          have HI2 := Lib.hid (HSK.out w' (HBB.out.trans (hb'.mono HBB.out.size)) HQ.out)
          clear hb'
          go_roundw
          case rel => exact ⟨i, j + 1, gs, rfl, by go_num, hin, by omega, HI2⟩
          case measure => simp [intOf]; omega
        | false =>
          rw [hq] at hcall
          have HQ := Lib.hid hq
          have HCC := Lib.hid hcall
          clear hq hcall
          go_wp2_with fail
          go_at_fn g0
          rw [← hwb]
          refine HCC.out.mono ?_
          rintro e w' ⟨rfl, hb'⟩
          have HB9 := Lib.hid (HBB.out.trans (hb'.mono HBB.out.size))
          obtain ⟨gi, ci, hvi, _, hci⟩ := HATT.out w' HB9.out
          injection hvi with e1 e2 e3
          injection e1 with e1
          injection e1 with e1 _ _
          subst e1
          have f0 := hci 0 (by omega)
          have f1 := hci 1 (by omega)
          have f2 := hci 2 (by omega)
          have f3 := hci 3 (by omega)
          have f4 := hci 4 (by omega)
          have f5 := hci 5 (by omega)
          simp only [Nat.add_zero, MV.pcs, MV.cs, List.getElem?_cons_zero, List.getElem?_cons_succ] at f0 f1 f2 f3 f4 f5
          have hz0 := HFZ.out w' HB9.out (i * 6)
          have hz1 := HFZ.out w' HB9.out (i * 6 + 1)
          have hz2 := HFZ.out w' HB9.out (i * 6 + 2)
          have hz3 := HFZ.out w' HB9.out (i * 6 + 3)
          have hz4 := HFZ.out w' HB9.out (i * 6 + 4)
          have hz5 := HFZ.out w' HB9.out (i * 6 + 5)
          have hk6 := HK.out.below hb' HK.out.lt
          have k0 : w'.cell? ⟨wr.heap.size, 0, none⟩ = some (.string x.key) := hk6.cell 0
          have k1 : w'.cell? ⟨wr.heap.size, 1, none⟩ = some (.int .i64 x.k) := hk6.cell 1
          have k2 : w'.cell? ⟨wr.heap.size, 2, none⟩ = some (.int .i64 x.n) := hk6.cell 2
          have k3 : w'.cell? ⟨wr.heap.size, 3, none⟩ = some (.string x.s) := hk6.cell 3
          have k4 : w'.cell? ⟨wr.heap.size, 4, none⟩ = some (.slice x.lA x.l.length x.lc) := hk6.cell 4
          have k5 : w'.cell? ⟨wr.heap.size, 5, none⟩ = some (.slice x.mA x.m.length x.mc) := hk6.cell 5
          clear hb' hci hk6 e2 e3 hwb d0 d1 d2 d3 d4 d5
          go_wp2
          obtain ⟨gs2, hgs2⟩ := HPU.out w' HB9.out HQ.out
          have HI2 := Lib.hid hgs2
          have hij : i + 1 < n := by have := HI.out.lt; omega
          clear hgs2
          go_roundw
          case rel => exact ⟨i + 1, j + 1, gs2, by go_num, by go_num, hij, by omega, HI2⟩
          case measure => simp [intOf]; omega
      · have q0 : decide ((j : Int) < (n : Int)) = false := by rw [decide_eq_false_iff_not]; omega
        have q0' : decide (j < n) = false := by rw [decide_eq_false_iff_not]; omega
        have hgl := HI.out.len
        obtain ⟨g', cur, e', hnn, hg', hk', hn1, hn2, hsz, htk⟩ := HI.out.own.cut (by omega)
        clear hnn
        injection e' with e1
        injection e1 with e1 _ _
        subst e1
        rw [hgl] at hn1 htk
        obtain ⟨cs, hcs1, hcs2, hclr⟩ := run_clear_pairs wr g (i * 6) (n - i) (c - i) cur hk' (by rw [hsz]; omega)
        have hres : ROwn 33 6 MV.pcs base (wr.setRow g cs) (.slice (some ⟨g, 0, none⟩) i c) (fs.filter (fun f => !p f)) ∧ Fr (· = g) w (wr.setRow g cs) ∧ (fs.filter (fun f => !p f)).length = i := by
          have hff := Fr.setRowM wr g cs
          have ht := HI.out.tak
          rw [heq, List.take_of_length_le (l := fs) (by rw [HN.out]; exact Nat.le_refl _)] at ht
          rw [← ht]
          have hl : (gs.take i).length = i := by rw [List.length_take, hgl]; omega
          have hav : ∀ y ∈ gs, BlkP (fun b => ¬ b = g) y := fun y hy => (HI.out.own.av y hy).mono (fun b hb e => hb (by rw [e]; rfl))
          refine ⟨⟨⟨flat_cs_len (size := 6) (fun _ => rfl) _, .inr ⟨g, c, cs, by rw [hl], hg', hk'.setRowM cs, by rw [hl]; omega, hn2, by rw [hcs1]; exact hsz, ?_⟩⟩, fun y hy => (HI.out.own.at_ y (List.mem_of_mem_take hy)).fr hff (hav y (List.mem_of_mem_take hy)), fun y hy => HI.out.own.fr y (List.mem_of_mem_take hy), fun y hy => HI.out.own.av y (List.mem_of_mem_take hy)⟩, HI.out.fr.trans hff, hl⟩
          rw [hl, hcs2]
          have h8 := congrArg (List.take (i * 6)) htk
          rw [List.take_take, Nat.min_eq_left (by omega)] at h8
          rw [h8]
          have h7 : gs.flatMap MV.pcs = (gs.take i).flatMap MV.pcs ++ (gs.drop i).flatMap MV.pcs := by rw [← List.flatMap_append, List.take_append_drop]
          rw [h7, List.take_left' (by rw [flat_cs_len (size := 6) (fun _ => rfl), hl])]
        have HR := Lib.hid hres
        have hini : (i : Int) ≤ (n : Int) := by omega
        have hi0 : (0 : Int) ≤ (i : Int) := by omega
        have hic : ¬ (c = i) := by have := HC.out.1; omega
        have hcc := HC.out.2
        have hck9 := HC.out.1
        clear hres hcs1 hcs2 hk' hg' hsz htk hgl heq hn2 hn1
        go_wp2_with (at_builtin; refine wpList_clear_run _ rfl _ _ rfl _ rfl _ _ (hclr _) ?_)
        go_ret
        exact DelP.mk' rfl HR.out.2.2 HR.out.1 (by rw [HS'.out]; exact HR.out.2.1) (fun g' e => e)
end Go.Proofs.YteodigdcdhceiaaDoor
