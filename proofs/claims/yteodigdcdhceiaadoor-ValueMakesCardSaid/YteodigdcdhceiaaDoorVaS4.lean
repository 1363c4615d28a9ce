/-
  value.sorted.
-/
import Derived.Test.YteodigdcdhceiaaDoorVaS3
import Derived.Test.YteodigdcdhceiaaDoorVaP2
namespace Go.Proofs.YteodigdcdhceiaaDoor
open Go.RowKit
attribute [local go_sem ↓] Go.wp_at_zero Go.wp_at_succ
set_option linter.unusedVariables false
set_option linter.unusedSimpArgs false

def SrtP (v : MV) (w : World) (e : Ending) (w' : World) : Prop := ∃ v' : MV, e = .returned v'.val ∧ v'.pv = v.pv.sort ∧ VOwn w.heap.size w' v' ∧ Below w.heap.size w w'
theorem map_pair {m : List MV} : m.map (fun x => (x.key, x.pv)) = (m.map MV.key).zip (MV.pvL m) := by
  rw [pvL_map]
  induction m with
  | nil => rfl
  | cons x r ih => rw [List.map_cons, List.map_cons, List.map_cons, List.zip_cons_cons, ih]
/-- what the sort makes of pairs with different keys -/
theorem sort_pairs {ks : List ByteArray} {ps : List PV} {m1 m2 : List MV} (hk : m1.map MV.key = ks) (hp : MV.pvL m1 = PV.sortL ps) (hn : ks.Nodup) (hperm : m2.Perm m1) (hs : m2.Pairwise (fun a b => bl b.key a.key = false)) :
    m2.map MV.key = (isortP (ks.zip (PV.sortL ps))).map (·.1) ∧ MV.pvL m2 = (isortP (ks.zip (PV.sortL ps))).map (·.2) := by
  have e1 : m1.map (fun x => (x.key, x.pv)) = ks.zip (PV.sortL ps) := by rw [map_pair, hk, hp]
  have e2 : (m2.map (fun x => (x.key, x.pv))).Perm (ks.zip (PV.sortL ps)) := by rw [← e1]; exact hperm.map _
  have h1 : KS (m2.map (fun x => (x.key, x.pv))) := by
    unfold KS
    rw [List.pairwise_map]
    exact hs
  have hnz : ((ks.zip (PV.sortL ps)).map (·.1)).Nodup := by
    rw [← e1, List.map_map]
    have : ((fun x : PP => x.1) ∘ fun x : MV => (x.key, x.pv)) = MV.key := rfl
    rw [this, hk]
    exact hn
  have h2 : m2.map (fun x => (x.key, x.pv)) = isortP (ks.zip (PV.sortL ps)) := by
    refine ks_uniq h1 (isortP_sorted _) (e2.trans (isortP_perm _).symm) ?_
    exact ((isortP_perm (ks.zip (PV.sortL ps))).map (·.1)).nodup_iff.2 hnz
  rw [← h2, List.map_map, List.map_map, pvL_map]
  exact ⟨rfl, rfl⟩
/-- the state: the box of a copy, whose rows are one's own -/
structure SoS (w : World) (B base : Nat) (k n : Int) (s : ByteArray) (orig : Array Value) (vl vm : Value) (l m : List MV) (wr : World) : Prop where
  bel : Below w.heap.size w wr
  res : Blk wr (w.heap.size + 1) 25 #[.int .i64 0, .int .i64 0, .string ⟨#[]⟩, .slice none 0 0, .slice none 0 0]
  box : Blk wr B 25 #[.int .i64 k, .int .i64 n, .string s, vl, vm]
  bs : w.heap.size + 2 ≤ base ∧ base ≤ B
  rl : ROwn 25 5 MV.cs base wr vl l
  rm : ROwn 33 6 MV.pcs base wr vm m
  lm : ∀ x ∈ l, BlkP (fun b => ¬ vm.ownBlock = some b) x
  ml : ∀ x ∈ m, BlkP (fun b => ¬ vl.ownBlock = some b) x
  nl : ¬ vl.ownBlock = some B
  nm : ¬ vm.ownBlock = some B
theorem own_blk {t : TypeId} {size : Nat} {cs : MV → List Value} {base : Nat} {w : World} {v : Value} {l : List MV} (h : ROwn t size cs base w v l) {g : Nat} (hg : v.ownBlock = some g) : ∃ cur, Blk w g t cur := by
  rcases h.own.2 with ⟨h0, _⟩ | ⟨g', cap, cur, hv, _, hh, _⟩
  · rw [h0] at hg; cases hg
  · rw [hv] at hg
    injection hg with hg
    subst hg
    exact ⟨cur, hh⟩
section
variable {w : World} {B base : Nat} {k n : Int} {s : ByteArray} {orig : Array Value} {vl vm : Value} {l m : List MV} {wr w' : World}
theorem SoS.ne (h : SoS w B base k n s orig vl vm l m wr) {g : Nat} (h1 : vl.ownBlock = some g) : ¬ vm.ownBlock = some g := fun h2 => by
  obtain ⟨c1, k1⟩ := own_blk h.rl h1
  obtain ⟨c2, k2⟩ := own_blk h.rm h2
  exact Blk.ne_ k1 k2 (by decide) rfl
theorem SoS.below (h : SoS w B base k n s orig vl vm l m wr) (hb : Below wr.heap.size wr w') : SoS w B base k n s orig vl vm l m w' :=
  ⟨h.bel.trans (hb.mono h.bel.size), h.res.below hb h.res.lt, h.box.below hb h.box.lt, h.bs, h.rl.below hb, h.rm.below hb, h.lm, h.ml, h.nl, h.nm⟩
/-- an element of its list is written anew -/
theorem SoS.setL {g c N i : Nat} {l1 r : List MV} {x x' : MV} (h : SoS w B base k n s orig (.slice (some ⟨g, 0, none⟩) N c) vm (l1 ++ x :: r) m wr) (hi : l1.length = i) (hx : VOwn w'.heap.size wr x') (hw : base ≤ w'.heap.size) (h1 : ∀ b, (Value.slice (some ⟨g, 0, none⟩) N c).ownBlock = some b → b < w'.heap.size) (h2 : ∀ b, vm.ownBlock = some b → b < w'.heap.size) :
    SoS w B base k n s orig (.slice (some ⟨g, 0, none⟩) N c) vm (l1 ++ x' :: r) m (puts wr g (i * 5) x'.cs) := by
  have hg : base ≤ g := h.rl.ge g rfl
  have hgw := h1 g rfl
  have hav : BlkP (fun b => ¬ b = g) x' := hx.fr.mono (fun b hb e => by have hb' : w'.heap.size ≤ b := hb; omega)
  have hbs := h.bs
  obtain ⟨k1, k2⟩ := h.rl.set (x' := x') (d := 0) (vs := x'.cs) (fun _ => rfl) hi (by simp) rfl hx.at_ (hx.fr.mono (fun b hb => Nat.le_trans hw hb)) hav
  refine ⟨Fr.below_trans h.bel k2 h.bel.size (fun b e => by rw [show b = g from e]; omega), h.res.fr k2 (fun e => by have e' : w.heap.size + 1 = g := e; omega), h.box.fr k2 (fun e => h.nl (by rw [show B = g from e]; rfl)), h.bs, k1, h.rm.frS k2 (fun b hb e => h.ne rfl (by rw [show b = g from e] at hb; exact hb)) (fun y hy => (h.ml y hy).mono (fun b hb e => hb (by rw [show b = g from e]; rfl))), fun y hy => ?_, h.ml, h.nl, h.nm⟩
  rw [List.mem_append, List.mem_cons] at hy
  rcases hy with hy | hy | hy
  · exact h.lm y (List.mem_append_left _ hy)
  · subst hy
    exact hx.fr.mono (fun b hb e => by have hb' : w'.heap.size ≤ b := hb; have := h2 b e; omega)
  · exact h.lm y (List.mem_append_right _ (List.mem_cons_of_mem _ hy))
/-- the value of one of its pairs is written anew -/
theorem SoS.setM {g c N i : Nat} {l1 r : List MV} {x x' : MV} (h : SoS w B base k n s orig vl (.slice (some ⟨g, 0, none⟩) N c) l (l1 ++ x :: r) wr) (hi : l1.length = i) (hx : VOwn w'.heap.size wr x') (hw : base ≤ w'.heap.size) (h1 : ∀ b, (Value.slice (some ⟨g, 0, none⟩) N c).ownBlock = some b → b < w'.heap.size) (h2 : ∀ b, vl.ownBlock = some b → b < w'.heap.size) :
    SoS w B base k n s orig vl (.slice (some ⟨g, 0, none⟩) N c) l (l1 ++ .mk x.key x'.k x'.n x'.s x'.lA x'.lc x'.l x'.mA x'.mc x'.m :: r) (puts wr g (i * 6 + 1) x'.cs) := by
  have hg : base ≤ g := h.rm.ge g rfl
  have hgw := h1 g rfl
  have hfr : BlkP (w'.heap.size ≤ ·) (.mk x.key x'.k x'.n x'.s x'.lA x'.lc x'.l x'.mA x'.mc x'.m) := hx.fr.rekey
  have hav : BlkP (fun b => ¬ b = g) (.mk x.key x'.k x'.n x'.s x'.lA x'.lc x'.l x'.mA x'.mc x'.m) := hfr.mono (fun b hb e => by have hb' : w'.heap.size ≤ b := hb; omega)
  have hbs := h.bs
  obtain ⟨k1, k2⟩ := h.rm.set (x' := .mk x.key x'.k x'.n x'.s x'.lA x'.lc x'.l x'.mA x'.mc x'.m) (d := 1) (vs := x'.cs) (fun _ => rfl) hi rfl rfl hx.at_.rekey (hfr.mono (fun b hb => Nat.le_trans hw hb)) hav
  refine ⟨Fr.below_trans h.bel k2 h.bel.size (fun b e => by rw [show b = g from e]; omega), h.res.fr k2 (fun e => by have e' : w.heap.size + 1 = g := e; omega), h.box.fr k2 (fun e => h.nm (by rw [show B = g from e]; rfl)), h.bs, h.rl.frS k2 (fun b hb e => h.ne hb (by rw [show b = g from e]; rfl)) (fun y hy => (h.lm y hy).mono (fun b hb e => hb (by rw [show b = g from e]; rfl))), k1, h.lm, fun y hy => ?_, h.nl, h.nm⟩
  rw [List.mem_append, List.mem_cons] at hy
  rcases hy with hy | hy | hy
  · exact h.ml y (List.mem_append_left _ hy)
  · subst hy
    exact hfr.mono (fun b hb e => by have hb' : w'.heap.size ≤ b := hb; have := h2 b e; omega)
  · exact h.ml y (List.mem_append_right _ (List.mem_cons_of_mem _ hy))
/-- its pairs are sorted -/
theorem SoS.sortM {m' : List MV} (h : SoS w B base k n s orig vl vm l m wr) (hp : m'.Perm m) (hr : ROwn 33 6 MV.pcs base w' vm m') (hf : Fr (fun g => vm.ownBlock = some g) wr w') : SoS w B base k n s orig vl vm l m' w' := by
  have hge := h.rm.ge
  have hbs := h.bs
  exact ⟨Fr.below_trans h.bel hf h.bel.size (fun b e => by have := hge b e; omega), h.res.fr hf (fun e => by have := hge _ e; omega), h.box.fr hf (fun e => h.nm e), h.bs, h.rl.frS hf (fun b hb => h.ne hb) h.lm, hr, h.lm, fun y hy => h.ml y (hp.mem_iff.1 hy), h.nl, h.nm⟩
end
end Go.Proofs.YteodigdcdhceiaaDoor
