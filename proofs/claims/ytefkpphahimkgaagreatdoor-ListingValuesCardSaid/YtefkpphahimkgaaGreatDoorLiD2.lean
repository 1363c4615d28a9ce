/-
 The document's Map: of keys and values in turn (values that have no rows).
-/
import Derived.Test.YtefkpphahimkgaaGreatDoorTk
import Derived.Test.YtefkpphahimkgaaGreatDoorLiD1
import Derived.Test.YtefkpphahimkgaaGreatDoorGV
namespace Go.Proofs.YtefkpphahimkgaaGreatDoor
open Go.RowKit
attribute [local go_sem ↓] Go.wp_at_zero Go.wp_at_succ
set_option linter.unusedVariables false
set_option linter.unusedSimpArgs false
def Leaf (v : MV) : Prop := v.l = [] ∧ v.m = []
theorem Leaf.blk {v : MV} (h : Leaf v) (P : Nat → Prop) : BlkP P v := by
 cases v with
 | mk key k n s lA lc l mA mc m =>
  obtain ⟨h1, h2⟩ := h
  have h1' : l = [] := h1
  have h2' : m = [] := h2
  subst h1' h2'
  exact .mk (fun h => absurd rfl h) (fun h => absurd rfl h) (fun x hx => by cases hx) (fun x hx => by cases hx)
theorem Leaf.keyed {v : MV} (h : Leaf v) (key : ByteArray) : Leaf (v.keyed key) := by cases v; exact h
theorem BlkP.keyed {P : Nat → Prop} {v : MV} (h : BlkP P v) (key : ByteArray) : BlkP P (v.keyed key) := by
 cases h with
 | mk a b c d => exact .mk a b c d
def MV.snocM (x : MV) (A : Option Addr) (c : Nat) (y : MV) : MV := .mk x.key x.k x.n x.s x.lA x.lc x.l A c (x.m ++ [y])
theorem snocM_pv (x : MV) (A : Option Addr) (c : Nat) (y : MV) {ks : List ByteArray} {ps : List PV} (h : x.pv = mpV ks ps) : (x.snocM A c y).pv = mpV (ks ++ [y.key]) (ps ++ [y.pv]) := by
 cases x with
 | mk key k n s lA lc l mA mc m =>
  rw [MV.pv] at h
  unfold mpV at h ⊢
  injection h with h1 h2 h3 h4 h5 h6
  subst h1 h2 h3 h5 h6
  show (MV.mk key 6 0 ⟨#[]⟩ lA lc l A c (m ++ [y])).pv = _
  rw [MV.pv, h4, pvL_snoc, List.map_append]
  rfl
theorem pv_nil {x : MV} {ks : List ByteArray} {ps : List PV} (h : x.pv = mpV ks ps) : x.k = 6 ∧ x.n = 0 ∧ x.s = ⟨#[]⟩ ∧ x.l = [] ∧ x.m.length = ks.length := by
 cases x with
 | mk key k n s lA lc l mA mc m =>
  rw [MV.pv] at h
  unfold mpV at h
  injection h with h1 h2 h3 h4 h5 h6
  refine ⟨h1, h2, h3, ?_, ?_⟩
  ·cases l with
   | nil => rfl
   | cons a b => rw [MV.pvL] at h4; cases h4
  ·show m.length = _
   rw [← h5, List.length_map]
structure BxV (V0 : World) (B base : Nat) (x : MV) (V : World) : Prop where
 bel : Below V0.heap.size V0 V
 hB : V0.heap.size ≤ B
 hb : V0.heap.size ≤ base
 bs : base ≤ V.heap.size
 box : Blk V B 30 #[.int .i64 x.k, .int .i64 x.n, .string x.s, .slice x.lA x.l.length x.lc, .slice x.mA x.m.length x.mc]
 own : VOwn base V x
 nil : x.l = [] ∧ x.lA = none ∧ x.lc = 0
 nB : BlkP (fun b => ¬ b = B) x
 rB : ∀ k, (Value.slice x.mA x.m.length x.mc).ownBlock = some k → ¬ k = B
section
variable {V0 V V1 V' : World} {B base : Nat} {x y : MV}
theorem BxV.below (h : BxV V0 B base x V) (hb : Below V.heap.size V V') : BxV V0 B base x V' :=
 ⟨h.bel.trans (hb.mono h.bel.size), h.hB, h.hb, Nat.le_trans h.bs hb.size, h.box.below hb h.box.lt, h.own.below hb, h.nil, h.nB, h.rB⟩
theorem BxV.new (h : Below V0.heap.size V0 V) (x : MV) (hx : x.l = []) (hm : x.m = []) (hk : (Lit.int .i64 x.k).wf = true) (hn : (Lit.int .i64 x.n).wf = true) (hl : x.lA = none ∧ x.lc = 0 ∧ x.mA = none ∧ x.mc = 0) : BxV V0 V.heap.size (V.heap.size + 1) x (V.alloc (.cells #[.int .i64 x.k, .int .i64 x.n, .string x.s, .slice x.lA x.l.length x.lc, .slice x.mA x.m.length x.mc] 30)) := by
 cases x with
 | mk key k n s lA lc l mA mc m =>
  obtain ⟨h1, h2, h3, h4⟩ := hl
  have e1 : l = [] := hx
  have e2 : m = [] := hm
  have e3 : lA = none := h1
  have e4 : lc = 0 := h2
  have e5 : mA = none := h3
  have e6 : mc = 0 := h4
  subst e1 e2 e3 e4 e5 e6
  refine ⟨h.alloc h.size _, h.size, Nat.le_succ_of_le h.size, by simp, Blk.new _ _ _, ?_, ⟨rfl, rfl, rfl⟩, ?_, fun k e => by cases (show (none : Option Nat) = some k from e)⟩
  ·exact ⟨.mk hk hn Reads.none_ (Nat.le_refl _) (by simp [maxLen]) Reads.none_ (Nat.le_refl _) (by simp [maxLen]) (fun x hx => by cases hx) (fun x hx => by cases hx), .mk (fun h => absurd rfl h) (fun h => absurd rfl h) (fun x hx => by cases hx) (fun x hx => by cases hx), ROwn.nil _ _, ROwn.nil _ _, (fun x hx => by cases hx), (fun x hx => by cases hx)⟩
  ·exact .mk (fun h => absurd rfl h) (fun h => absurd rfl h) (fun x hx => by cases hx) (fun x hx => by cases hx)
theorem BxV.into (h : Below V0.heap.size V0 V) (hv : VOwn base V x) (hb0 : V0.heap.size ≤ base) (hbs : base ≤ V.heap.size) (hl : x.l = [] ∧ x.lA = none ∧ x.lc = 0) : BxV V0 V.heap.size base x (V.alloc (.cells #[.int .i64 x.k, .int .i64 x.n, .string x.s, .slice x.lA x.l.length x.lc, .slice x.mA x.m.length x.mc] 30)) :=
 ⟨h.alloc h.size _, h.size, hb0, by simp; omega, Blk.new _ _ _, hv.below ((Below.refl _ _).alloc (Nat.le_refl _) _), hl, hv.at_.lt.mono (fun b hb' e => by omega), fun k hk e => by have := hv.m.ltS k hk; omega⟩
theorem BxV.own_ge (h : BxV V0 B base x V) : ∀ k, (Value.slice x.mA x.m.length x.mc).ownBlock = some k → base ≤ k := h.own.m.ge
theorem BxV.snoc {A : Option Addr} {c : Nat} (h : BxV V0 B base x V1) (hg : V1.grownBy V' (Value.slice x.mA x.m.length x.mc).ownBlock) (hat : (Value.slice A (x.m.length + 1) c).ownBlock = (Value.slice x.mA x.m.length x.mc).ownBlock ∨ (Value.slice A (x.m.length + 1) c).ownBlock = some V1.heap.size) (ho : ROwn 73 6 MV.pcs base V' (.slice A (x.m.length + 1) c) (x.m ++ [y])) (hy : BlkP (fun b => ¬ b = B) y) :
  BxV V0 B base (x.snocM A c y) (V'.setCell ⟨B, 4, none⟩ (.slice A (x.m.length + 1) c)) := by
 have hge := h.own_ge
 have hB0 := h.hB
 have hb0 := h.hb
 have hrB := h.rB
 have hBl := h.box.lt
 have hf : Fr (· = B) V' (V'.setCell ⟨B, 4, none⟩ (.slice A (x.m.length + 1) c)) := (Fr.refl (· = B) V').setCell (p := ⟨B, 4, none⟩) (fun _ => rfl) _
 have hgs : V1.heap.size ≤ V'.heap.size := (Fr.of_grown (S := fun b => (Value.slice x.mA x.m.length x.mc).ownBlock = some b) hg (fun k e => e)).size
 have hb1 : Below V0.heap.size V0 V' := below_grown h.bel hg h.bel.size (fun k hk => by have := hge k hk; omega)
 have hbx : Blk V' B 30 #[.int .i64 x.k, .int .i64 x.n, .string x.s, .slice x.lA x.l.length x.lc, .slice x.mA x.m.length x.mc] := h.box.grown hg (fun e => hrB _ e.symm rfl)
 have hnr : ∀ k, (Value.slice A (x.m.length + 1) c).ownBlock = some k → ¬ k = B := fun k hk e => by
  rcases hat with q | q
  ·exact hrB k (q.symm.trans hk) e
  ·rw [q] at hk; injection hk with hk; omega
 have hm : ∀ z ∈ x.m ++ [y], BlkP (fun b => ¬ b = B) z := fun z hz => by
  rcases List.mem_append.1 hz with hz | hz
  ·have hnB := h.nB
   cases hnB with
   | mk a b c' d' => exact d' z hz
  ·rw [List.mem_singleton] at hz; rw [hz]; exact hy
 have hrow : ROwn 73 6 MV.pcs base (V'.setCell ⟨B, 4, none⟩ (.slice A (x.m.length + 1) c)) (.slice A (x.m.length + 1) c) (x.m ++ [y]) :=
  ho.frS hf (fun g hg' e => hnr g hg' e) (fun z hz => (hm z hz).mono (fun b hb' e => hb' e))
 have hnl := h.nil
 have hat' := h.own.at_
 obtain ⟨_, _, _, hrc, hrm, hrd, hrb⟩ := hrow.shape
 rename_i A2 c2 hv2
 injection hv2 with e1 e2 e3
 subst e1 e3
 refine ⟨Fr.below_trans hb1 hf hb1.size (fun b e => by have e2 : b = B := e; omega), hB0, hb0, Nat.le_trans h.bs (Nat.le_trans hgs hf.size), ?_, ?_, hnl, ?_, ?_⟩
 ·have h3 := hbx.set_ 4 (.slice A (x.m.length + 1) c)
  have e : (x.snocM A c y).m.length = x.m.length + 1 := by show (x.m ++ [y]).length = _; simp
  rw [e]
  exact h3
 ·cases x with
  | mk key k n s lA lc l mA mc m =>
   obtain ⟨h1, h2, h3⟩ := hnl
   have f0 : l = [] := h1
   have f1 : lA = none := h2
   have f2 : lc = 0 := h3
   subst f0 f1 f2
   cases hat' with
   | mk a1 b1 c1 d1 e1 f1 g1 h1 i1 j1 =>
    exact ⟨.mk a1 b1 Reads.none_ d1 e1 hrd hrc hrm (fun x hx => by cases hx) hrow.at_, .mk (fun h => absurd rfl h) (fun hne ad e => hrb ad hne e) (fun x hx => by cases hx) hrow.fr, ROwn.nil _ _, (by show ROwn 73 6 MV.pcs base _ (.slice A (m ++ [y]).length c) (m ++ [y]); rw [List.length_append]; exact hrow), (fun x hx => by cases hx), (fun x hx => (hrow.fr x hx).mono (fun b _ e => by cases (show (none : Option Nat) = some b from e)))⟩
 ·cases x with
  | mk key k n s lA lc l mA mc m =>
   obtain ⟨h1, h2, h3⟩ := hnl
   have f0 : l = [] := h1
   subst f0
   refine .mk (fun h => absurd rfl h) (fun _ ad e => ?_) (fun x hx => by cases hx) hm
   have e2 : A = some ad := e
   have : (Value.slice A (m.length + 1) c).ownBlock = some ad.block := by rw [e2]; rfl
   exact hnr _ this
 ·intro k hk
  refine hnr k ?_
  have e : (x.snocM A c y).m.length = x.m.length + 1 := by show (x.m ++ [y]).length = _; simp
  rw [e] at hk
  exact hk
theorem app_row (w : World) {t tS : TypeId} {size bytes : Nat} {z : Value} {cs : MV → List Value} {ops : Array Oper} {rest : List Oper} {o : Oper} {a : Act} {Q : Exit → Act → World → Prop} (hinfo : (Tryz.prog.info? t).map (fun i => (i.zero, i.size, i.bytes)) = some (some z, size, bytes)) (ht : Tryz.prog.underlying tS = some (.slice t)) (hzs : z.cells.size = size) (hsz : 0 < size) (hby : bytes ≤ 100) (hcl : ∀ x, (cs x).length = size) (hc1 : ∀ x, ∀ u ∈ cs x, u.oneCell' = true)
  (hgd : o.guard = none) (s x : Operand)
  (ho : o.op = .call { callee := .builtin .append, args := #[s, x], argTypes := #[tS, tS] })
  (base : Nat) (v : Value) (l : List MV) (hs : a.eval s = v) (hown : ROwn t size cs base w v l) (q : Nat) (hx : a.eval x = .slice (some ⟨q, 0, none⟩) 1 1) (x' : MV) (hq : Blk w q t (cs x').toArray) (hxa : VAt w x') (hfr : BlkP (base ≤ ·) x') (hav : BlkP (fun b => ¬ v.ownBlock = some b) x')
  (hlen : l.length ≤ 1000000000) (hbase : base ≤ w.heap.size)
  (h : ∀ v' w', ROwn t size cs base w' v' (l ++ [x']) → w.grownBy w' v.ownBlock → (v'.ownBlock = v.ownBlock ∨ v'.ownBlock = some w.heap.size) → wpList Tryz.prog ops Q rest (a.put o.dst v') w') : wpList Tryz.prog ops Q (o :: rest) a w := by
 obtain ⟨i0, hi0, hz0, hz1, hz2⟩ := info_parts hinfo
 have hr : Reads w w.heap.size size (some ⟨q, 0, none⟩) 1 (cs x') := ⟨by rw [hcl, Nat.one_mul], fun _ => ⟨_, rfl, hq.lt, fun j u hu => by
  rw [Addr.add_lit, Nat.zero_add, hq.cell j]
  simpa using hu⟩⟩
 refine wpList_append_any w hgd s x tS ho base t i0 z size bytes ht hi0 hz0 hz1 hz2 hzs hsz v l.length (l.flatMap cs) hs hown.own _ _ 1 1 (cs x') hx hr (hc1 x') (by simp only [maxLen]; omega) (by
  have : (l.length + 1) * bytes ≤ (l.length + 1) * 100 := Nat.mul_le_mul_left _ hby
  omega) hbase ?_
 intro v' w' h1 h2 h3
 exact h v' w' (hown.app hxa hfr hav h1 h2 h3) h2 h3
end
def MpP (p : PV) (w : World) (e : Ending) (w' : World) : Prop := ∃ v' : MV, e = .returned v'.val ∧ v'.pv = p ∧ v'.l = [] ∧ v'.lA = none ∧ v'.lc = 0 ∧ VOwn w.heap.size w' v' ∧ Below w.heap.size w w'
theorem MpP.own {p : PV} {w : World} {e : Ending} {w' : World} (h : MpP p w e w') : OwP p w e w' := by
 obtain ⟨v', h1, h2, _, _, _, h3, h4⟩ := h
 exact ⟨v', h1, h2, h3, h4⟩
structure MpA (w : World) (KA VA : Option Addr) (n : Nat) (ks : List ByteArray) (l : List MV) : Prop where
 rk : Reads w w.heap.size 1 KA n (ks.map Value.string)
 rv : Reads w w.heap.size 5 VA n (l.flatMap MV.cs)
 kn : ks.length = n
 vn : l.length = n
 at_ : ∀ x ∈ l, VAt w x
 lf : ∀ x ∈ l, Leaf x
theorem MpA.cells {w : World} {KA VA : Option Addr} {n : Nat} {ks : List ByteArray} {l : List MV} (h : MpA w KA VA n ks l) (h0 : 0 < n) (hn : n ≤ 1000) : ∃ kb ko vb vo, KA = some ⟨kb, ko, none⟩ ∧ VA = some ⟨vb, vo, none⟩ ∧ kb < w.heap.size ∧ vb < w.heap.size ∧ ∀ i (hk : i < ks.length) (hl : i < l.length), w.cell? ⟨kb, ko + i, none⟩ = some (.string ks[i]) ∧ ∀ j, j < 5 → w.cell? ⟨vb, vo + i * 5 + j, none⟩ = (l[i]).cs[j]? := by
 obtain ⟨ad, e, hlt, hc⟩ := h.rk.2 h0
 have hkl : 0 < ks.length := by rw [h.kn]; exact h0
 have h00 := hc 0 (.string ks[0]) (by rw [List.getElem?_map, List.getElem?_eq_getElem hkl]; rfl)
 rw [show ad.add 0 = ad by simp [Addr.add]] at h00
 have e2 := cell_spot h00
 have hv : VAt w (.mk ⟨#[]⟩ 5 0 ⟨#[]⟩ VA n l none 0 []) := .mk (by decide) (by decide) (by rw [h.vn]; exact h.rv) (by rw [h.vn]; exact Nat.le_refl _) (by simp only [maxLen]; omega) Reads.none_ (Nat.le_refl _) (by simp [maxLen]) h.at_ (fun x hx => by cases hx)
 obtain ⟨vb, vo, hVA, hvb, _⟩ := hv.la (i := 0) (by show 0 < l.length; rw [h.vn]; exact h0)
 refine ⟨ad.block, ad.off, vb, vo, by rw [e, ← e2], hVA, hlt, hvb, fun i hk hl => ⟨?_, ?_⟩⟩
 ·have h1 := hc i (.string ks[i]) (by rw [List.getElem?_map, List.getElem?_eq_getElem hk]; rfl)
  rw [e2, Addr.add_lit] at h1
  exact h1
 ·obtain ⟨vb', vo', hVA', _, h2⟩ := hv.la (i := i) hl
  have hVA2 : VA = some ⟨vb', vo', none⟩ := hVA'
  have hVA1 : VA = some ⟨vb, vo, none⟩ := hVA
  rw [hVA1] at hVA2
  injection hVA2 with hVA2
  injection hVA2 with a b
  subst a b
  exact h2
theorem own_stM {w w4 : World} {g base : Nat} {v' : MV} {p : PV} {z0 z1 z2 z3 z4 : Value} (hy : Blk w4 g 30 #[z0, z1, z2, z3, z4]) (hg : w.heap.size ≤ g) (hlt : g < base) (hvo : VOwn base w4 v') (hb : Below w.heap.size w w4) (hb3 : w.heap.size ≤ base) (hp : v'.pv = p) (hl : v'.l = [] ∧ v'.lA = none ∧ v'.lc = 0) :
  Blk (((((w4.setCell ⟨g, 0, none⟩ (.int .i64 v'.k)).setCell ⟨g, 1, none⟩ (.int .i64 v'.n)).setCell ⟨g, 2, none⟩ (.string v'.s)).setCell ⟨g, 3, none⟩ (.slice v'.lA v'.l.length v'.lc)).setCell ⟨g, 4, none⟩ (.slice v'.mA v'.m.length v'.mc)) g 30 #[.int .i64 v'.k, .int .i64 v'.n, .string v'.s, .slice v'.lA v'.l.length v'.lc, .slice v'.mA v'.m.length v'.mc] ∧ MpP p w (.returned v'.val) (((((w4.setCell ⟨g, 0, none⟩ (.int .i64 v'.k)).setCell ⟨g, 1, none⟩ (.int .i64 v'.n)).setCell ⟨g, 2, none⟩ (.string v'.s)).setCell ⟨g, 3, none⟩ (.slice v'.lA v'.l.length v'.lc)).setCell ⟨g, 4, none⟩ (.slice v'.mA v'.m.length v'.mc)) :=
 ⟨blk_five hy, v', rfl, hp, hl.1, hl.2.1, hl.2.2, (hvo.fr_low fr_five (fun k e => by rw [show k = g from e]; exact hlt)).base_le hb3, Fr.below_trans hb fr_five hb.size (fun b e => by rw [show b = g from e]; exact hg)⟩
set_option maxRecDepth 100000 in
set_option maxHeartbeats 16000000 in
theorem rmap_any (ks : List ByteArray) (l : List MV) (KA VA : Option Addr) (kc vc n : Nat) (w : World) (h : MpA w KA VA n ks l) (hn : n ≤ 1000) :
  Calls Tryz.prog 35 #[.slice KA n kc, .slice VA n vc] w fun e w' => PF (MpP (mpV ks (MV.pvL l)) w) e w' := by
 obtain ⟨W1, hW1⟩ : ∃ W1, W1 = w.alloc (.cells #[.int .i64 0, .int .i64 0, .string ⟨#[]⟩, .slice none 0 0, .slice none 0 0] 30) := ⟨_, rfl⟩
 have hb1 : Below w.heap.size w W1 := by rw [hW1]; exact below_new _ _
 have hk1 : Blk W1 w.heap.size 30 #[.int .i64 0, .int .i64 0, .string ⟨#[]⟩, .slice none 0 0, .slice none 0 0] := by rw [hW1]; exact Blk.new _ _ _
 obtain ⟨W2, hW2⟩ : ∃ W2, W2 = W1.alloc (.cells #[.int .i64 6, .int .i64 0, .string ⟨#[]⟩, .slice none 0 0, .slice none 0 0] 30) := ⟨_, rfl⟩
 obtain ⟨B, hB⟩ : ∃ B, B = W1.heap.size := ⟨_, rfl⟩
 have hx0 := BxV.new (Below.refl W1.heap.size W1) (.mk ⟨#[]⟩ 6 0 ⟨#[]⟩ none 0 [] none 0 []) rfl rfl (by decide) (by decide) ⟨rfl, rfl, rfl, rfl⟩
 simp only [MV.k, MV.n, MV.s, MV.lA, MV.lc, MV.l, MV.mA, MV.mc, MV.m, List.length_nil] at hx0
 rw [← hW2, ← hB] at hx0
 have HX0 : Hid (BxV W1 B (B + 1) (.mk ⟨#[]⟩ 6 0 ⟨#[]⟩ none 0 [] none 0 []) W2) := Ld hx0
 have HP0 : Hid ((MV.mk ⟨#[]⟩ 6 0 ⟨#[]⟩ none 0 [] none 0 []).pv = mpV (ks.take 0) (MV.pvL (l.take 0))) := Ld rfl
 have HB1 := Ld hb1
 have HK1 := Ld hk1
 have HH := Ld h
 have HBB := Ld hB
 have HW12 := Ld (And.intro hW1 hW2)
 have HLT1 : Hid (w.heap.size < B) := Ld (by rw [hB]; exact hk1.lt)
 have hnI : (n : Int) ≤ 1000 := by omega
 clear hx0 hb1 hk1 h hW1 hW2 hB
 go_enter Tryz.func35, Tryz.ntmps35
 go_upto_region 1 with (fail)
 rw [← HW12.out.1]
 go_upto_region 2 with (fail)
 rw [← HBB.out, ← HW12.out.2]
 go_wp2
 go_loopw [6] (fun iv wr => ∃ (i : Nat) (x : MV), i ≤ n ∧ iv = .int .i64 (i : Int) ∧ Hid (BxV W1 B (B + 1) x wr) ∧ Hid (x.pv = mpV (ks.take i) (MV.pvL (l.take i)))) (fun iv _ => n - (intOf iv).toNat)
 case atStart => exact ⟨0, _, Nat.zero_le _, rfl, HX0, HP0⟩
 case round =>
  clear HX0 HP0
  obtain ⟨i, x, hi, rfl, HX, HP⟩ := hrel
  have hi0 : (0 : Int) ≤ (i : Int) := by omega
  rcases (by omega : i < n ∨ i = n) with hlt | heq
  ·have q0 : decide ((i : Int) < (n : Int)) = true := by rw [decide_eq_true_iff]; omega
   have q0' : decide (i < n) = true := by rw [decide_eq_true_iff]; omega
   have hii : (i : Int) < (n : Int) := by omega
   obtain ⟨kb, ko, vb, vo, hKA, hVA, hkb, hvb, hcl⟩ := HH.out.cells (by omega) hn
   subst hKA hVA
   have hkl : i < ks.length := by rw [HH.out.kn]; exact hlt
   have hvl : i < l.length := by rw [HH.out.vn]; exact hlt
   obtain ⟨key, hkey⟩ : ∃ key, key = ks[i] := ⟨_, rfl⟩
   obtain ⟨y, hy⟩ : ∃ y, y = l[i] := ⟨_, rfl⟩
   obtain ⟨c0, c1⟩ := hcl i hkl hvl
   rw [← hkey] at c0
   rw [← hy] at c1
   have HCE : Hid (∀ V, Fr (fun b => (Value.slice x.mA x.m.length x.mc).ownBlock = some b) wr V → V.cell? ⟨B, 4, none⟩ = some (.slice x.mA x.m.length x.mc) ∧ V.cell? ⟨kb, ko + i, none⟩ = some (.string key) ∧ V.cell? ⟨vb, vo + i * 5, none⟩ = some (.int .i64 y.k) ∧ V.cell? ⟨vb, vo + i * 5 + 1, none⟩ = some (.int .i64 y.n) ∧ V.cell? ⟨vb, vo + i * 5 + 2, none⟩ = some (.string y.s) ∧ V.cell? ⟨vb, vo + i * 5 + 3, none⟩ = some (.slice y.lA y.l.length y.lc) ∧ V.cell? ⟨vb, vo + i * 5 + 4, none⟩ = some (.slice y.mA y.m.length y.mc)) := Ld (fun V hV => by
    have hge := HX.out.own_ge
    have hBl := HLT1.out
    have hbe := HB1.out.trans (HX.out.bel.mono HB1.out.size)
    have hsz := hbe.size
    have hrd : ∀ {p : Addr} {u : Value}, p.block < w.heap.size → w.cell? p = some u → V.cell? p = some u := fun {p u} hp hc => by
     rw [hV.cell (Nat.lt_of_lt_of_le hp hsz) (fun e => by have := hge _ e; omega)]
     exact (hbe.cell hp).trans hc
    exact ⟨(hV.cell (p := ⟨B, 4, none⟩) HX.out.box.lt (fun e => by have : B + 1 ≤ B := hge _ e; omega)).trans (HX.out.box.cell 4), hrd hkb c0, hrd hvb (c1 0 (by omega)), hrd hvb (c1 1 (by omega)), hrd hvb (c1 2 (by omega)), hrd hvb (c1 3 (by omega)), hrd hvb (c1 4 (by omega))⟩)
   have HY : Hid (VAt wr y ∧ Leaf y) := Ld (by
    have hm : y ∈ l := by rw [hy]; exact List.getElem_mem hvl
    exact ⟨(HH.out.at_ y hm).bel (HB1.out.trans (HX.out.bel.mono HB1.out.size)), HH.out.lf y hm⟩)
   have HNX : Hid (mpV (ks.take (i + 1)) (MV.pvL (l.take (i + 1))) = mpV (ks.take i ++ [key]) (MV.pvL (l.take i) ++ [y.pv])) := Ld (by rw [pvL_next l i hvl, List.take_succ_eq_append_getElem hkl, ← hkey, ← hy])
   have HML : Hid (x.m.length = i) := Ld (by rw [(pv_nil HP.out).2.2.2.2, List.length_take]; omega)
   clear hkey hy c0 c1 hcl hkb hvb
   go_wp2
   refine wp_region_last (S := fun V => Fr (fun b => (Value.slice x.mA x.m.length x.mc).ownBlock = some b) wr V) (st := 14) (n := 14) (by kernel_rfl) rfl (by kernel_rfl) rfl ((Fr.refl _ _).drew) (fun hS1 => ?_)
   obtain ⟨WD, hWD⟩ : ∃ WD, WD = wr.drew := ⟨_, rfl⟩
   rw [← hWD] at hS1 ⊢
   have HBD : Hid (Below wr.heap.size wr WD) := Ld (by rw [hWD]; exact (Below.refl _ _).drew)
   clear hWD
   refine tk 0 (some 14) (.pointer (some ⟨B, 4, none⟩)) rfl (fun V hS => by go_simp) hS1 ?_
   simp only [nf]
   refine tk 1 (some 15) (.slice x.mA x.m.length x.mc) rfl (fun V hS => by obtain ⟨h0, h1, h2, h3, h4, h5, h6⟩ := HCE.out V hS; go_simp) hS1 ?_
   simp only [nf]
   refine tk 2 (some 16) (.slice (some ⟨kb, ko, none⟩) n kc) rfl (fun V hS => by go_simp) hS1 ?_
   simp only [nf]
   refine tk 3 (some 17) (.int .i64 (i : Int)) rfl (fun V hS => by go_simp) hS1 ?_
   simp only [nf]
   refine tk 4 (some 18) (.pointer (some ⟨kb, ko + i, none⟩)) rfl (fun V hS => by go_simp) hS1 ?_
   simp only [nf]
   refine tk 5 (some 19) (.string key) rfl (fun V hS => by obtain ⟨h0, h1, h2, h3, h4, h5, h6⟩ := HCE.out V hS; go_simp) hS1 ?_
   simp only [nf]
   refine tk 6 (some 20) (.slice (some ⟨vb, vo, none⟩) n vc) rfl (fun V hS => by go_simp) hS1 ?_
   simp only [nf]
   refine tk 7 (some 21) (.int .i64 (i : Int)) rfl (fun V hS => by go_simp) hS1 ?_
   simp only [nf]
   refine tk 8 (some 22) (.pointer (some ⟨vb, vo + i * 5, none⟩)) rfl (fun V hS => by go_simp) hS1 ?_
   simp only [nf]
   refine tk 9 (some 23) (.agg #[.int .i64 y.k, .int .i64 y.n, .string y.s, .slice y.lA y.l.length y.lc, .slice y.mA y.m.length y.mc]) rfl (fun V hS => by obtain ⟨h0, h1, h2, h3, h4, h5, h6⟩ := HCE.out V hS; go_simp) hS1 ?_
   simp only [nf]
   refine tk 10 (some 24) (.agg #[.string key, .int .i64 y.k, .int .i64 y.n, .string y.s, .slice y.lA y.l.length y.lc, .slice y.mA y.m.length y.mc]) rfl (fun V hS => by go_simp) hS1 ?_
   simp only [nf]
   refine rd1 11 rfl (fun K' hK => ?_)
   go_simp
   obtain ⟨w2, hw2⟩ : ∃ w2, w2 = WD.alloc (.cells #[.string key, .int .i64 y.k, .int .i64 y.n, .string y.s, .slice y.lA y.l.length y.lc, .slice y.mA y.m.length y.mc] 73) := ⟨_, rfl⟩
   rw [← hw2]
   have hb2 : Below WD.heap.size WD w2 := by rw [hw2]; exact (Below.refl _ _).alloc (Nat.le_refl _) _
   obtain ⟨Q, hQ⟩ : ∃ Q, Q = WD.heap.size := ⟨_, rfl⟩
   rw [← hQ]
   have HB2 : Hid (Below wr.heap.size wr w2) := Ld (HBD.out.trans (hb2.mono HBD.out.size))
   have HQ : Hid (Blk w2 Q 73 (y.keyed key).pcs.toArray) := Ld (by rw [hw2, hQ, keyed_pcs]; exact Blk.new _ _ _)
   have HX2 := Ld (HX.out.below HB2.out)
   have HYA := Ld ((HY.out.1.bel HB2.out).keyed key)
   clear hw2 hb2 hQ
   refine hK.out _ _ (Fr.of_below HB2.out) (fun hS2 => ?_)
   clear hK K' hS1
   refine rd1 12 rfl (fun K' hK => ?_)
   refine step_app_row w2 infoPair Tryz.underlying28 rfl (by omega) (by omega) (fun _ => rfl) oneC_pcs rfl (some 26) rfl _ _ rfl (B + 1) (.slice x.mA x.m.length x.mc) x.m rfl HX2.out.own.m Q rfl (y.keyed key) HQ.out HYA.out ((HY.out.2.keyed key).blk _) ((HY.out.2.keyed key).blk _) (by have := HML.out; omega) HX2.out.bs ?_
   intro v4 w4 hrow hg hat
   obtain ⟨A4, cap4, hv4, _⟩ := hrow.shape
   rw [List.length_append, List.length_singleton] at hv4
   subst hv4
   have HX4 := Ld (HX2.out.snoc hg hat hrow ((HY.out.2.keyed key).blk _))
   have HF4 : Hid (Fr (fun b => (Value.slice x.mA x.m.length x.mc).ownBlock = some b) wr w4) := Ld ((Fr.of_below HB2.out).trans (Fr.of_grown hg (fun g e => e)))
   have HP4 : Hid ((x.snocM A4 cap4 (y.keyed key)).pv = mpV (ks.take (i + 1)) (MV.pvL (l.take (i + 1)))) := Ld (by rw [snocM_pv _ _ _ _ HP.out, keyed_key, keyed_pv, ← HNX.out])
   have hb4 := HX2.out.box.grown hg (fun e => by have := HX2.out.own_ge _ e.symm; omega)
   have HC4 : Hid (w4.cell? ⟨B, 4, none⟩ = some (.slice x.mA x.m.length x.mc) ∧ w4.frozen? ⟨B, 4, none⟩ = false) := Ld ⟨hb4.cell 4, hb4.frozen 4⟩
   clear hrow hg hat hb4
   refine hK.out _ _ (HF4.out) (fun hS3 => ?_)
   clear hK K' hS2
   simp only [nf]
   refine tk 13 (some 27) (.pointer (some ⟨B, 4, none⟩)) rfl (fun V hS => by go_simp) hS3 ?_
   simp only [nf]
   refine wpAnyH_done (by kernel_rfl) ?_ _
   refine lastQ_normal (wpOp_step rfl (fun K' hK => ?_))
   obtain ⟨t4, z4⟩ := HC4.out
   go_simp
   refine hK _ _ ?_
   clear hK K' hS3 t4 z4
   generalize w4.setCell ⟨B, 4, none⟩ (.slice A4 (x.m.length + 1) cap4) = w5 at HX4 ⊢
   go_wp2
   go_roundw
   case rel => exact ⟨i + 1, x.snocM A4 cap4 (y.keyed key), by omega, by go_num, HX4, HP4⟩
   case measure => simp [intOf]; omega
  ·have q0 : decide ((i : Int) < (n : Int)) = false := by rw [decide_eq_false_iff_not]; omega
   have q0' : decide (i < n) = false := by rw [decide_eq_false_iff_not]; omega
   have HP2 : Hid (x.pv = mpV ks (MV.pvL l)) := Ld (by rw [HP.out, heq, ← HH.out.kn, List.take_length, HH.out.kn, ← HH.out.vn, List.take_length])
   clear heq HP
   obtain ⟨t0, t1, t2, t3, t4⟩ := five_cells HX.out.box
   have hkr := HK1.out.below HX.out.bel HK1.out.lt
   obtain ⟨z0, z1, z2, z3, z4⟩ := five_fr hkr
   obtain ⟨s0, s1, s2, s3, s4⟩ := five_cells hkr
   have HN2 := Ld (own_stM (w := w) (p := mpV ks (MV.pvL l)) hkr (Nat.le_refl _) (Nat.lt_succ_of_lt HLT1.out) HX.out.own (HB1.out.trans (HX.out.bel.mono HB1.out.size)) (Nat.le_of_lt (Nat.lt_succ_of_lt HLT1.out)) HP2.out HX.out.nil)
   clear hkr
   go_wp2
   obtain ⟨k0, k1, k2, k3, k4⟩ := five_cells HN2.out.1
   refine bodyPost_ret (v := x.val) (by simp [results, Tryz.results35, go_sem, k0, k1, k2, k3, k4, MV.val]) rfl ?_
   exact HN2.out.2
end Go.Proofs.YtefkpphahimkgaaGreatDoor
