/-
  value.Without, value.With.
-/
import Derived.Test.YteodigdcdhceiaaDoorVaG2
namespace Go.Proofs.YteodigdcdhceiaaDoor
open Go.RowKit
attribute [local go_sem ↓] Go.wp_at_zero Go.wp_at_succ
set_option linter.unusedVariables false
set_option linter.unusedSimpArgs false

def prs (m : List MV) : List PP := m.map (fun x => (x.key, x.pv))
def withM (key : ByteArray) (x : PV) : List PP → List PP
  | [] => [(key, x)]
  | p :: r => if p.1 = key then (key, x) :: r else p :: withM key x r
def dropM (key : ByteArray) (l : List PP) : List PP := l.filter (fun p => !decide (p.1 = key))
theorem dropM_with (key : ByteArray) (x : PV) (l : List PP) : dropM key (withM key x l) = dropM key l := by
  induction l with
  | nil => simp [withM, dropM]
  | cons p r ih =>
    rw [withM]
    by_cases h : p.1 = key
    · rw [if_pos h]
      simp [dropM, h]
    · rw [if_neg h]
      unfold dropM at *
      rw [List.filter_cons, List.filter_cons, ih]
def PV.withP (p : PV) (key : ByteArray) (x : PV) : PV := match p with
  | .mk k n s l ks m => if k = 6 then .mk k n s l ((withM key x (ks.zip m)).map (·.1)) ((withM key x (ks.zip m)).map (·.2)) else PV.none_
def PV.woP (p : PV) (key : ByteArray) : PV := match p with
  | .mk k n s l ks m => if k = 6 then .mk k n s l ((dropM key (ks.zip m)).map (·.1)) ((dropM key (ks.zip m)).map (·.2)) else PV.none_
theorem wo_with (p : PV) (key : ByteArray) (x : PV) : (p.withP key x).woP key = p.woP key := by
  cases p with
  | mk k n s l ks m =>
    unfold PV.withP PV.woP
    by_cases h : k = 6
    · simp only [if_pos h]
      rw [zip_back, dropM_with]
    · simp only [if_neg h]
      unfold PV.none_
      simp
theorem zip_prs (m : List MV) : (m.map MV.key).zip (MV.pvL m) = prs m := map_pair.symm
theorem prs_keys (m : List MV) : (prs m).map (·.1) = m.map MV.key := by unfold prs; rw [List.map_map]; rfl
theorem prs_pvs (m : List MV) : (prs m).map (·.2) = MV.pvL m := by unfold prs; rw [List.map_map, pvL_map]; rfl
theorem prs_drop (m : List MV) (key : ByteArray) : prs (m.filter (fun x => !decide (x.key = key))) = dropM key (prs m) := by
  unfold prs dropM
  rw [List.filter_map]
  rfl
theorem withM_hit {l : List PP} {key : ByteArray} {x : PV} {i : Nat} (hi : i < l.length) (h : l[i].1 = key) (hb : ∀ j (hj : j < l.length), j < i → l[j].1 ≠ key) : withM key x l = l.take i ++ (key, x) :: l.drop (i + 1) := by
  induction l generalizing i with
  | nil => simp at hi
  | cons p r ih =>
    rw [withM]
    cases i with
    | zero => rw [if_pos (by simpa using h)]; simp
    | succ i =>
      rw [if_neg (show ¬ p.1 = key from hb 0 (by simp) (by omega)), ih (by simpa using hi) (by simpa using h) (fun j hj hlt => show r[j].1 ≠ key from hb (j + 1) (by simpa using hj) (by omega))]
      simp
theorem withM_miss {l : List PP} {key : ByteArray} {x : PV} (hb : ∀ p ∈ l, p.1 ≠ key) : withM key x l = l ++ [(key, x)] := by
  induction l with
  | nil => rfl
  | cons p r ih =>
    rw [withM, if_neg (hb p (by simp)), ih (fun q hq => hb q (by simp [hq]))]
    rfl
theorem prs_set {m : List MV} {i : Nat} {x : MV} : prs (m.take i ++ x :: m.drop (i + 1)) = (prs m).take i ++ (x.key, x.pv) :: (prs m).drop (i + 1) := by
  unfold prs
  rw [List.map_append, List.map_cons, List.map_take, List.map_drop]
section
variable {w w4 w5 : World} {B base : Nat} {k n : Int} {s : ByteArray} {orig : Array Value} {vl vm vm' : Value} {l m m' : List MV} {wr w' : World}
/-- its pairs are some of them -/
theorem SoS.delM (h : SoS w B base k n s orig vl vm l m w4) (hr : ROwn 33 6 MV.pcs base w5 vm' m') (hf : Fr (fun g => vm.ownBlock = some g) w4 w5) (hsub : ∀ x ∈ m', x ∈ m) (hown : ∀ g, vm'.ownBlock = some g → vm.ownBlock = some g) (noL : ∀ y ∈ l, BlkP (fun b => ¬ b = B) y) (noM : ∀ y ∈ m', BlkP (fun b => ¬ b = B) y) :
    SoS w B base k n s orig vl vm' l m' (w5.setCell ⟨B, 4, none⟩ vm') ∧ Blk w5 B 25 #[.int .i64 k, .int .i64 n, .string s, vl, vm] := by
  have hge := h.rm.ge
  have hbs := h.bs
  have hk5 := h.box.fr hf (fun e => h.nm e)
  have hff : Fr (· = B) w5 (w5.setCell ⟨B, 4, none⟩ vm') := (Fr.refl (· = B) w5).setCell (p := ⟨B, 4, none⟩) (fun _ => rfl) _
  have hlt : B < w4.heap.size := h.box.lt
  have hl5 : ROwn 25 5 MV.cs base w5 vl l := h.rl.frS hf (fun b hb => h.ne hb) h.lm
  refine ⟨⟨Fr.below_trans (Fr.below_trans h.bel hf h.bel.size (fun b e => by have := hge b e; omega)) hff (Nat.le_trans h.bel.size hf.size) (fun b e => by rw [show b = B from e]; omega), (h.res.fr hf (fun e => by have := hge _ e; omega)).fr hff (fun e => by have e' : w.heap.size + 1 = B := e; omega), hk5.set_ 4 _, h.bs, ?_, ?_, fun y hy => (h.lm y hy).mono (fun b hb e => hb (hown b e)), fun y hy => h.ml y (hsub y hy), h.nl, fun e => h.nm (hown B e)⟩, hk5⟩
  · refine ⟨⟨hl5.own.1, ?_⟩, fun y hy => (hl5.at_ y hy).fr hff (noL y hy), hl5.fr, hl5.av⟩
    rcases hl5.own.2 with h0 | ⟨g, cap, cur, hv', hg, hh, hn⟩
    · exact .inl h0
    · exact .inr ⟨g, cap, cur, hv', hg, (hff.block g (Blk.lt (t := 25) hh) (fun e => h.nl (by rw [hv']; rw [show g = B from e]; rfl))).trans hh, hn⟩
  · refine ⟨⟨hr.own.1, ?_⟩, fun y hy => (hr.at_ y hy).fr hff (noM y hy), hr.fr, hr.av⟩
    rcases hr.own.2 with h0 | ⟨g, cap, cur, hv', hg, hh, hn⟩
    · exact .inl h0
    · exact .inr ⟨g, cap, cur, hv', hg, (hff.block g (Blk.lt (t := 33) hh) (fun e => h.nm (hown B (by rw [hv']; rw [show g = B from e]; rfl)))).trans hh, hn⟩
/-- a pair is written anew -/
theorem SoS.setP {g c N i : Nat} {l1 r : List MV} {x x' : MV} {H : Nat} (h : SoS w B base k n s orig vl (.slice (some ⟨g, 0, none⟩) N c) l (l1 ++ x :: r) wr) (hi : l1.length = i) (hx : VAt wr x') (hfr : BlkP (H ≤ ·) x') (hw : base ≤ H) (h1 : ∀ b, (Value.slice (some ⟨g, 0, none⟩) N c).ownBlock = some b → b < H) (h2 : ∀ b, vl.ownBlock = some b → b < H) :
    SoS w B base k n s orig vl (.slice (some ⟨g, 0, none⟩) N c) l (l1 ++ x' :: r) (puts wr g (i * 6) x'.pcs) := by
  have hg : base ≤ g := h.rm.ge g rfl
  have hgw := h1 g rfl
  have hav : BlkP (fun b => ¬ b = g) x' := hfr.mono (fun b hb e => by have hb' : H ≤ b := hb; omega)
  have hbs := h.bs
  obtain ⟨k1, k2⟩ := h.rm.set (x' := x') (d := 0) (vs := x'.pcs) (fun _ => rfl) hi (by simp) rfl hx (hfr.mono (fun b hb => Nat.le_trans hw hb)) hav
  refine ⟨Fr.below_trans h.bel k2 h.bel.size (fun b e => by rw [show b = g from e]; omega), h.res.fr k2 (fun e => by have e' : w.heap.size + 1 = g := e; omega), h.box.fr k2 (fun e => h.nm (by rw [show B = g from e]; rfl)), h.bs, h.rl.frS k2 (fun b hb e => h.ne hb (by rw [show b = g from e]; rfl)) (fun y hy => (h.lm y hy).mono (fun b hb e => hb (by rw [show b = g from e]; rfl))), k1, h.lm, fun y hy => ?_, h.nl, h.nm⟩
  rw [List.mem_append, List.mem_cons] at hy
  rcases hy with hy | hy | hy
  · exact h.ml y (List.mem_append_left _ hy)
  · subst hy
    exact hfr.mono (fun b hb e => by have hb' : H ≤ b := hb; have := h2 b e; omega)
  · exact h.ml y (List.mem_append_right _ (List.mem_cons_of_mem _ hy))
/-- one more pair at the end -/
theorem SoS.appM {x' : MV} {A : Option Addr} {N c : Nat} (h : SoS w B base k n s orig vl vm l m w4) (hrow : ROwn 33 6 MV.pcs base w5 (.slice A N c) (m ++ [x'])) (hg : w4.grownBy w5 vm.ownBlock) (hat : (Value.slice A N c).ownBlock = vm.ownBlock ∨ (Value.slice A N c).ownBlock = some w4.heap.size) (hav : BlkP (fun b => ¬ vl.ownBlock = some b) x') (noL : ∀ y ∈ l, BlkP (fun b => ¬ b = B) y) (noM : ∀ y ∈ m ++ [x'], BlkP (fun b => ¬ b = B) y) :
    SoS w B base k n s orig vl (.slice A N c) l (m ++ [x']) (w5.setCell ⟨B, 4, none⟩ (.slice A N c)) ∧ Blk w5 B 25 #[.int .i64 k, .int .i64 n, .string s, vl, vm] := by
  have hge := h.rm.ge
  have hbs := h.bs
  have hlt : B < w4.heap.size := h.box.lt
  have hf : Fr (fun b => vm.ownBlock = some b) w4 w5 := Fr.of_grown hg (fun b e => e)
  have hk5 := h.box.fr hf (fun e => h.nm e)
  have hff : Fr (· = B) w5 (w5.setCell ⟨B, 4, none⟩ (.slice A N c)) := (Fr.refl (· = B) w5).setCell (p := ⟨B, 4, none⟩) (fun _ => rfl) _
  have hl5 : ROwn 25 5 MV.cs base w5 vl l := h.rl.frS hf (fun b hb => h.ne hb) h.lm
  have hnmB : ¬ (Value.slice A N c).ownBlock = some B := fun e => by
    rcases hat with h1 | h1
    · exact h.nm (by rw [← h1]; exact e)
    · rw [h1] at e; injection e with e; omega
  refine ⟨⟨Fr.below_trans (Fr.below_trans h.bel hf h.bel.size (fun b e => by have := hge b e; omega)) hff (Nat.le_trans h.bel.size hf.size) (fun b e => by rw [show b = B from e]; omega), (h.res.fr hf (fun e => by have := hge _ e; omega)).fr hff (fun e => by have e' : w.heap.size + 1 = B := e; omega), hk5.set_ 4 _, h.bs, ?_, ?_, fun y hy => ?_, fun y hy => ?_, h.nl, hnmB⟩, hk5⟩
  · exact hl5.frS hff (fun b hb e => h.nl (by rw [← show b = B from e]; exact hb)) noL
  · exact hrow.frS hff (fun b hb e => hnmB (by rw [← show b = B from e]; exact hb)) noM
  · rcases hat with e | e
    · rw [e]; exact h.lm y hy
    · rw [e]
      exact (h.rl.at_ y hy).lt.mono (fun b hb e => by injection e with e; omega)
  · rcases List.mem_append.1 hy with hy | hy
    · exact h.ml y hy
    · rw [List.mem_singleton] at hy
      subst hy
      exact hav
end
theorem atV_prs {v : MV} {key : ByteArray} {x : PV} (h6 : v.k = 6) : (atV v key = -1 ∧ withM key x (prs v.m) = prs v.m ++ [(key, x)]) ∨ ∃ i, ∃ hi : i < v.m.length, atV v key = i ∧ v.m[i].key = key ∧ withM key x (prs v.m) = (prs v.m).take i ++ (key, x) :: (prs v.m).drop (i + 1) := by
  unfold atV
  rw [if_pos h6]
  rcases idxG_split (fun x : MV => decide (x.key = key)) v.m with ⟨h, hno⟩ | ⟨i, hi, h1, h2, h3⟩
  · refine .inl ⟨h, withM_miss (fun p hp => ?_)⟩
    unfold prs at hp
    obtain ⟨y, hy, rfl⟩ := List.mem_map.1 hp
    obtain ⟨j, hj, rfl⟩ := List.getElem_of_mem hy
    exact of_decide_eq_false (hno j hj)
  · refine .inr ⟨i, hi, h1, of_decide_eq_true h2, ?_⟩
    have hl : (prs v.m).length = v.m.length := by unfold prs; rw [List.length_map]
    have hg : ∀ j (hj : j < (prs v.m).length) (hj' : j < v.m.length), (prs v.m)[j] = (v.m[j].key, v.m[j].pv) := fun j hj hj' => by simp [prs]
    refine withM_hit (by rw [hl]; exact hi) ?_ (fun j hj hlt => ?_)
    · rw [hg i (by rw [hl]; exact hi) hi]
      exact of_decide_eq_true h2
    · rw [hg j hj (by rw [hl] at hj; exact hj)]
      exact of_decide_eq_false (h3 j (by rw [hl] at hj; exact hj) hlt)
theorem SoS.fin5 {w w' : World} {B base : Nat} {k n : Int} {s : ByteArray} {vl vm : Value} {l m : List MV} {p : PV} (h : SoS w B base k n s #[] vl vm l m w') (hk : (Lit.int .i64 k).wf = true ∧ (Lit.int .i64 n).wf = true) (hp : PV.mk k n s (MV.pvL l) (m.map MV.key) (MV.pvL m) = p) :
    Blk (((((w'.setCell ⟨w.heap.size + 1, 0, none⟩ (.int .i64 k)).setCell ⟨w.heap.size + 1, 1, none⟩ (.int .i64 n)).setCell ⟨w.heap.size + 1, 2, none⟩ (.string s)).setCell ⟨w.heap.size + 1, 3, none⟩ vl).setCell ⟨w.heap.size + 1, 4, none⟩ vm) (w.heap.size + 1) 25 #[.int .i64 k, .int .i64 n, .string s, vl, vm] ∧
    ∃ v' : MV, (.agg #[.int .i64 k, .int .i64 n, .string s, vl, vm]) = v'.val ∧ v'.pv = p ∧ VOwn w.heap.size (((((w'.setCell ⟨w.heap.size + 1, 0, none⟩ (.int .i64 k)).setCell ⟨w.heap.size + 1, 1, none⟩ (.int .i64 n)).setCell ⟨w.heap.size + 1, 2, none⟩ (.string s)).setCell ⟨w.heap.size + 1, 3, none⟩ vl).setCell ⟨w.heap.size + 1, 4, none⟩ vm) v' ∧ Below w.heap.size w (((((w'.setCell ⟨w.heap.size + 1, 0, none⟩ (.int .i64 k)).setCell ⟨w.heap.size + 1, 1, none⟩ (.int .i64 n)).setCell ⟨w.heap.size + 1, 2, none⟩ (.string s)).setCell ⟨w.heap.size + 1, 3, none⟩ vl).setCell ⟨w.heap.size + 1, 4, none⟩ vm) :=
  ⟨blk_five h.res, h.fin fr_five hk.1 hk.2 hp⟩
theorem MV.val_mk {key : ByteArray} {k n : Int} {s : ByteArray} {lA : Option Addr} {lc : Nat} {l : List MV} {mA : Option Addr} {mc : Nat} {m : List MV} : (MV.mk key k n s lA lc l mA mc m).val = .agg #[.int .i64 k, .int .i64 n, .string s, .slice lA l.length lc, .slice mA m.length mc] := rfl
theorem sixc {w : World} {b : Nat} {t : TypeId} {v0 v1 v2 v3 v4 v5 : Value} (h : Blk w b t #[v0, v1, v2, v3, v4, v5]) : w.cell? ⟨b, 0, none⟩ = some v0 ∧ w.cell? ⟨b, 1, none⟩ = some v1 ∧ w.cell? ⟨b, 2, none⟩ = some v2 ∧ w.cell? ⟨b, 3, none⟩ = some v3 ∧ w.cell? ⟨b, 4, none⟩ = some v4 ∧ w.cell? ⟨b, 5, none⟩ = some v5 :=
  ⟨h.cell 0, h.cell 1, h.cell 2, h.cell 3, h.cell 4, h.cell 5⟩
theorem OwP.up {w0 w wf : World} {p : PV} {v : Value} (h : ∃ v' : MV, v = v'.val ∧ v'.pv = p ∧ VOwn w.heap.size wf v' ∧ Below w.heap.size w wf) (hb : Below w0.heap.size w0 w) : OwP p w0 (.returned v) wf := by
  obtain ⟨v', h1, h2, h3, h4⟩ := h
  exact ⟨v', by rw [h1], h2, h3.base_le hb.size, hb.trans (h4.mono hb.size)⟩
set_option maxHeartbeats 2000000 in
theorem vwo1_any (x : MV) (key : ByteArray) (g : Nat) (w : World) (h : w.cell? ⟨g, 0, none⟩ = some (.string key)) (hg : g < w.heap.size) :
    Calls Tryd.prog 35 #[.agg #[.string x.key, .int .i64 x.k, .int .i64 x.n, .string x.s, .slice x.lA x.l.length x.lc, .slice x.mA x.m.length x.mc], .pointer (some ⟨g, 0, none⟩)] w fun e w' => e = .returned (.bool (decide (x.key = key))) ∧ Below w.heap.size w w' := by
  have hq := nm_beq x.key key
  have h1 : (w.alloc (.cells #[.string x.key, .int .i64 x.k, .int .i64 x.n, .string x.s, .slice x.lA x.l.length x.lc, .slice x.mA x.m.length x.mc] 33)).cell? ⟨g, 0, none⟩ = some (.string key) := (World.cell?_alloc_lt _ _ _ hg).trans h
  by_cases he : x.key = key
  · rw [decide_eq_true he] at hq ⊢
    clear he h
    go_enter Tryd.func35, Tryd.ntmps35
    go_wp2
    go_ret
    exact ⟨rfl, (Below.refl _ _).alloc (Nat.le_refl _) _⟩
  · rw [decide_eq_false he] at hq ⊢
    clear he h
    go_enter Tryd.func35, Tryd.ntmps35
    go_wp2
    go_ret
    exact ⟨rfl, (Below.refl _ _).alloc (Nat.le_refl _) _⟩
set_option maxRecDepth 100000 in
set_option maxHeartbeats 2000000 in
theorem without_any {v : MV} {w : World} (h : VAt w v) (hfit : FitV v) (key : ByteArray) : Calls Tryd.prog 20 #[v.val, .string key] w fun e w' => PF (OwP (v.pv.woP key) w) e w' := by
  obtain ⟨W1, hW1⟩ : ∃ W1, W1 = w.alloc (.cells #[.int .i64 v.k, .int .i64 v.n, .string v.s, .slice v.lA v.l.length v.lc, .slice v.mA v.m.length v.mc] 25) := ⟨_, rfl⟩
  have hb1 : Below w.heap.size w W1 := by rw [hW1]; exact below_new _ _
  have hs1 : W1.heap.size = w.heap.size + 1 := by rw [hW1]; simp
  have hx1 : Blk W1 w.heap.size 25 #[.int .i64 v.k, .int .i64 v.n, .string v.s, .slice v.lA v.l.length v.lc, .slice v.mA v.m.length v.mc] := by rw [hW1]; exact Blk.new _ _ _
  obtain ⟨W3, hW3⟩ : ∃ W3, W3 = ((W1.alloc (.cells #[.string key] 9)).alloc (.cells #[.int .i64 0, .int .i64 0, .string ⟨#[]⟩, .slice none 0 0, .slice none 0 0] 25)) := ⟨_, rfl⟩
  have hb3 : Below W1.heap.size W1 W3 := by rw [hW3]; exact below_al _ (below_new _ _)
  have hs3 : W3.heap.size = W1.heap.size + 2 := by rw [hW3]; simp
  have hk3 : Blk W3 W1.heap.size 9 #[.string key] := by rw [hW3]; exact (Blk.new _ _ _).alloc _
  have hr3 : Blk W3 (W1.heap.size + 1) 25 #[.int .i64 0, .int .i64 0, .string ⟨#[]⟩, .slice none 0 0, .slice none 0 0] := by
    rw [hW3]
    have h2 := Blk.new (W1.alloc (.cells #[.string key] 9)) 25 #[.int .i64 0, .int .i64 0, .string ⟨#[]⟩, .slice none 0 0, .slice none 0 0]
    simpa using h2
  have hb13 := hb1.trans (hb3.mono hb1.size)
  have hcl := clone_any (h.bel hb13) W3 (Below.refl _ _) hfit
  obtain ⟨P, hP⟩ : ∃ P, P = v.pv.woP key := ⟨_, rfl⟩
  rw [← hP]
  have HP := Lib.hid hP
  have HX3 := Lib.hid (hx1.below hb3 hx1.lt)
  have hwk := h.wk
  have hlen : v.m.length ≤ 3001 := by cases hfit with | mk h1 _ _ => simp only [MV.m]; omega
  unfold MV.val at hcl ⊢
  have HCL := Lib.hid hcl
  have HB1 := Lib.hid hb1
  have HB3 := Lib.hid hb3
  have HB13 := Lib.hid hb13
  have HS1 := Lib.hid hs1
  have HS3 := Lib.hid hs3
  have HK3 := Lib.hid hk3
  have HR3 := Lib.hid hr3
  have HWK := Lib.hid hwk
  have HLEN := Lib.hid hlen
  rw [hW1] at hW3
  have HW3 := Lib.hid hW3
  clear h hfit hcl hb1 hs1 hx1 hb3 hs3 hk3 hr3 hb13 hwk hlen hW1 hW3 hP
  by_cases hk : v.k = 6
  · have q1 : (v.k == 6) = true := by rw [hk]; rfl
    have q2 : (v.k != 6) = false := by rw [hk]; rfl
    have HK6 := Lib.hid hk
    clear hk
    go_enter Tryd.func20, Tryd.ntmps20
    obtain ⟨x0, x1, x2, x3, x4⟩ := five_cells HX3.out
    rw [HW3.out] at x0 x1 x2 x3 x4
    go_wp2_with fail
    rw [← HW3.out]
    refine HCL.out.mono ?_
    rintro e w2 ⟨v', rfl, hpv, hvo, hb2⟩
    have hss := SoS.new HB3.out HS3.out HR3.out hb2 hvo
    have HVO := Lib.hid hvo
    have HPV := Lib.hid hpv
    have HKX := Lib.hid (HK3.out.below hb2 HK3.out.lt)
    have hpv' := hpv
    obtain ⟨key', k', n', s', lA, lc, l, mA, mc, m⟩ := v'
    rw [MV.val_mk]
    simp only [MV.k, MV.n, MV.s, MV.lA, MV.lc, MV.l, MV.mA, MV.mc, MV.m] at hss
    have hkk : k' = v.k ∧ n' = v.n ∧ m.length = v.m.length := by
      cases v with
      | mk a b c d e f g h i j =>
        rw [MV.pv, MV.pv] at hpv'
        injection hpv' with e1 e2 e3 e4 e5 e6
        exact ⟨e1, e2, by rw [← pvL_len m, e6, pvL_len]; rfl⟩
    have HKK := Lib.hid hkk
    have HSS := Lib.hid hss
    have hsz : w2.heap.size < (w2.alloc (.cells #[.int .i64 k', .int .i64 n', .string s', .slice lA l.length lc, .slice mA m.length mc] 25)).heap.size := by simp
    obtain ⟨WB, hWB⟩ : ∃ WB, WB = (w2.alloc (.cells #[.int .i64 k', .int .i64 n', .string s', .slice lA l.length lc, .slice mA m.length mc] 25)) := ⟨_, rfl⟩
    rw [← hWB] at HSS hss
    have hb4 : Below w2.heap.size w2 WB := by rw [hWB]; exact below_new _ _
    have hml : m.length ≤ 3001 := by rw [hkk.2.2]; exact HLEN.out
    obtain ⟨nm, hnm⟩ : ∃ nm, nm = m.length := ⟨_, rfl⟩
    have hrm := hss.rm
    rw [← hnm] at hrm
    have hdl := delPair_any W3.heap.size 35 #[.pointer (some ⟨W1.heap.size, 0, none⟩)] (fun _ _ => by kernel_rfl) mA nm mc (.mk key' k' n' s' lA lc l mA mc m) m WB (fun x : MV => decide (x.key = key)) (hvo.at_.bel hb4) rfl rfl hrm hnm.symm (by omega) (fun k hk V hV => by
      have hlt : W1.heap.size < WB.heap.size := Nat.lt_of_lt_of_le (HKX.out.lt) hb4.size
      have hne : ¬ (Value.slice mA nm mc).ownBlock = some W1.heap.size := fun e => by
        have h1 := hrm.ge _ e
        have h2 := HS3.out
        omega
      have h1 : V.cell? ⟨W1.heap.size, 0, none⟩ = some (.string key) := (hV.cell (p := ⟨W1.heap.size, 0, none⟩) hlt hne).trans ((hb4.cell (p := ⟨W1.heap.size, 0, none⟩) HKX.out.lt).trans (HKX.out.cell 0))
      exact vwo1_any m[k] key W1.heap.size V h1 (Nat.lt_of_lt_of_le hlt hV.size))
    have HDL := Lib.hid hdl
    have HNM := Lib.hid hnm
    have HWB := Lib.hid hWB
    have HB4 := Lib.hid hb4
    obtain ⟨c0, c1, c2, c3, c4⟩ := five_cells HSS.out.box
    rw [← hnm] at c4 hWB
    have HS1' : Hid (W1.heap.size = w.heap.size + 1) := HS1
    rw [HS1.out] at HDL
    rw [← hnm] at HSS ⊢
    clear hpv hpv' hvo hb2 hss hkk hsz hb4 hml hrm hdl hnm x0 x1 x2 x3 x4
    rw [hWB] at c0 c1 c2 c3 c4 HDL
    go_wp2_with fail
    rw [← hWB]
    rw [← hWB] at c0 c1 c2 c3 c4 HDL
    clear hWB
    refine HDL.out.mono ?_
    rintro e w5 ⟨A9, c9, rfl, hrow, hf5, hown⟩
    have hnoB : ∀ y ∈ m, BlkP (fun b => ¬ b = w2.heap.size) y := fun y hy => (HVO.out.at_.m y hy).lt.mono (fun b hb => Nat.ne_of_lt hb)
    have hnoL : ∀ y ∈ l, BlkP (fun b => ¬ b = w2.heap.size) y := fun y hy => (HVO.out.at_.l y hy).lt.mono (fun b hb => Nat.ne_of_lt hb)
    obtain ⟨hs6, hk5⟩ := HSS.out.delM hrow hf5 (fun x hx => (List.mem_filter.1 hx).1) hown hnoL (fun y hy => hnoB y (List.mem_filter.1 hy).1)
    obtain ⟨N9, hN9⟩ : ∃ N9, N9 = (m.filter (fun x => !decide (x.key = key))).length := ⟨_, rfl⟩
    rw [← hN9] at hs6 ⊢
    have HS6 := Lib.hid hs6
    have hz := hk5.frozen 4
    have hd := hk5.cell 4
    simp only [List.getElem?_toArray, List.getElem?_cons_zero, List.getElem?_cons_succ] at hd
    have HP6 : Hid (PV.mk k' n' s' (MV.pvL l) ((m.filter (fun x => !decide (x.key = key))).map MV.key) (MV.pvL (m.filter (fun x => !decide (x.key = key)))) = P) := Lib.hid (by
      rw [HP.out, ← HPV.out, MV.pv, PV.woP]
      simp only [HKK.out.1, HK6.out, if_true]
      rw [zip_prs, ← prs_drop, prs_keys, prs_pvs])
    have hwkk : (Lit.int .i64 k').wf = true ∧ (Lit.int .i64 n').wf = true := by rw [HKK.out.1, HKK.out.2.1]; exact HWK.out
    have HWKK := Lib.hid hwkk
    clear hrow hf5 hown hnoB hnoL hs6 hk5 hN9 hwkk c0 c1 c2 c3 c4
    obtain ⟨s0, s1, s2, s3, s4⟩ := five_cells HS6.out.box
    obtain ⟨t0, t1, t2, t3, t4⟩ := five_cells HS6.out.res
    obtain ⟨z0, z1, z2, z3, z4⟩ := five_fr HS6.out.res
    have HFIN := Lib.hid (HS6.out.fin5 HWKK.out HP6.out)
    rw [HS1.out] at t0 t1 t2 t3 t4 z0 z1 z2 z3 z4
    go_wp2
    rw [← HS1.out]
    obtain ⟨k0, k1, k2, k3, k4⟩ := five_cells HFIN.out.1
    refine bodyPost_ret (v := .agg #[.int .i64 k', .int .i64 n', .string s', .slice lA l.length lc, .slice A9 N9 c9]) (by simp [results, Tryd.results20, go_sem, k0, k1, k2, k3, k4]) rfl ?_
    exact OwP.up HFIN.out.2 HB1.out
  · have q1 : (v.k == 6) = false := by rw [beq_eq_false_iff_ne]; exact hk
    have q2 : (v.k != 6) = true := by rw [bne_iff_ne]; exact hk
    have HPP : Hid (PV.none_ = P) := Lib.hid (by
      rw [HP.out]
      cases v with
      | mk a b c d e f g h i j =>
        rw [MV.pv, PV.woP]
        exact (if_neg hk).symm)
    obtain ⟨k0, k1, k2, k3, k4⟩ := five_cells HR3.out
    rw [HS1.out] at k0 k1 k2 k3 k4
    clear hk
    go_enter Tryd.func20, Tryd.ntmps20
    go_wp2
    rw [← HW3.out]
    refine bodyPost_ret (v := MV.none_.val) (by simp [results, Tryd.results20, go_sem, k0, k1, k2, k3, k4, MV.val, MV.none_, MV.k, MV.n, MV.s, MV.lA, MV.lc, MV.l, MV.mA, MV.mc, MV.m]) rfl ?_
    exact ⟨MV.none_, rfl, HPP.out, VOwn.none_ _ _, HB13.out⟩
set_option maxRecDepth 100000 in
set_option maxHeartbeats 2000000 in
theorem with_any {v x : MV} {w : World} (h : VAt w v) (hfit : FitV v) (hx : VAt w x) (hfx : FitV x) (key : ByteArray) : Calls Tryd.prog 21 #[v.val, .string key, x.val] w fun e w' => PF (OwP (v.pv.withP key x.pv) w) e w' := by
  obtain ⟨W1, hW1⟩ : ∃ W1, W1 = w.alloc (.cells #[.int .i64 v.k, .int .i64 v.n, .string v.s, .slice v.lA v.l.length v.lc, .slice v.mA v.m.length v.mc] 25) := ⟨_, rfl⟩
  have hb1 : Below w.heap.size w W1 := by rw [hW1]; exact below_new _ _
  have hs1 : W1.heap.size = w.heap.size + 1 := by rw [hW1]; simp
  have hx1 : Blk W1 w.heap.size 25 #[.int .i64 v.k, .int .i64 v.n, .string v.s, .slice v.lA v.l.length v.lc, .slice v.mA v.m.length v.mc] := by rw [hW1]; exact Blk.new _ _ _
  obtain ⟨W3, hW3⟩ : ∃ W3, W3 = ((W1.alloc (.cells #[.int .i64 x.k, .int .i64 x.n, .string x.s, .slice x.lA x.l.length x.lc, .slice x.mA x.m.length x.mc] 25)).alloc (.cells #[.int .i64 0, .int .i64 0, .string ⟨#[]⟩, .slice none 0 0, .slice none 0 0] 25)) := ⟨_, rfl⟩
  have hb3 : Below W1.heap.size W1 W3 := by rw [hW3]; exact below_al _ (below_new _ _)
  have hs3 : W3.heap.size = W1.heap.size + 2 := by rw [hW3]; simp
  have hk3 : Blk W3 W1.heap.size 25 #[.int .i64 x.k, .int .i64 x.n, .string x.s, .slice x.lA x.l.length x.lc, .slice x.mA x.m.length x.mc] := by rw [hW3]; exact (Blk.new _ _ _).alloc _
  have hr3 : Blk W3 (W1.heap.size + 1) 25 #[.int .i64 0, .int .i64 0, .string ⟨#[]⟩, .slice none 0 0, .slice none 0 0] := by
    rw [hW3]
    have h2 := Blk.new (W1.alloc (.cells #[.int .i64 x.k, .int .i64 x.n, .string x.s, .slice x.lA x.l.length x.lc, .slice x.mA x.m.length x.mc] 25)) 25 #[.int .i64 0, .int .i64 0, .string ⟨#[]⟩, .slice none 0 0, .slice none 0 0]
    simpa using h2
  have hb13 := hb1.trans (hb3.mono hb1.size)
  have hcl := clone_any (h.bel hb13) W3 (Below.refl _ _) hfit
  have hcx := fun V (hV : Below W3.heap.size W3 V) => clone_any ((hx.bel hb13).bel hV) V (Below.refl _ _) hfx
  obtain ⟨P, hP⟩ : ∃ P, P = v.pv.withP key x.pv := ⟨_, rfl⟩
  rw [← hP]
  have HP := Lib.hid hP
  have HX3 := Lib.hid (hx1.below hb3 hx1.lt)
  have hwk := h.wk
  have hlen : v.m.length ≤ 3001 := by cases hfit with | mk h1 _ _ => simp only [MV.m]; omega
  unfold MV.val at hcl hcx ⊢
  have HCL := Lib.hid hcl
  have HCX := Lib.hid hcx
  have HB1 := Lib.hid hb1
  have HB3 := Lib.hid hb3
  have HB13 := Lib.hid hb13
  have HS1 := Lib.hid hs1
  have HS3 := Lib.hid hs3
  have HK3 := Lib.hid hk3
  have HR3 := Lib.hid hr3
  have HWK := Lib.hid hwk
  have HLEN := Lib.hid hlen
  rw [hW1] at hW3
  have HW3 := Lib.hid hW3
  clear h hfit hx hfx hcl hcx hb1 hs1 hx1 hb3 hs3 hk3 hr3 hb13 hwk hlen hW1 hW3 hP
  by_cases hk : v.k = 6
  rotate_left
  · have q1 : (v.k == 6) = false := by rw [beq_eq_false_iff_ne]; exact hk
    have q2 : (v.k != 6) = true := by rw [bne_iff_ne]; exact hk
    have HPP : Hid (PV.none_ = P) := Lib.hid (by
      rw [HP.out]
      cases v with
      | mk a b c d e f g h i j =>
        rw [MV.pv, PV.withP]
        exact (if_neg hk).symm)
    obtain ⟨k0, k1, k2, k3, k4⟩ := five_cells HR3.out
    rw [HS1.out] at k0 k1 k2 k3 k4
    clear hk
    go_enter Tryd.func21, Tryd.ntmps21
    go_wp2
    rw [← HW3.out]
    refine bodyPost_ret (v := MV.none_.val) (by simp [results, Tryd.results21, go_sem, k0, k1, k2, k3, k4, MV.val, MV.none_, MV.k, MV.n, MV.s, MV.lA, MV.lc, MV.l, MV.mA, MV.mc, MV.m]) rfl ?_
    exact ⟨MV.none_, rfl, HPP.out, VOwn.none_ _ _, HB13.out⟩
  have q1 : (v.k == 6) = true := by rw [hk]; rfl
  have q2 : (v.k != 6) = false := by rw [hk]; rfl
  have HK6 := Lib.hid hk
  clear hk
  go_enter Tryd.func21, Tryd.ntmps21
  go_wp2_with fail
  rw [← HW3.out]
  refine HCL.out.mono ?_
  rintro e w2 ⟨v', rfl, hpv, hvo, hb2⟩
  have hss := SoS.new HB3.out HS3.out HR3.out hb2 hvo
  have HVO := Lib.hid hvo
  have HPV := Lib.hid hpv
  have hkx := HK3.out.below hb2 HK3.out.lt
  have hpv' := hpv
  obtain ⟨key', k', n', s', lA, lc, l, mA, mc, m⟩ := v'
  rw [MV.val_mk]
  simp only [MV.k, MV.n, MV.s, MV.lA, MV.lc, MV.l, MV.mA, MV.mc, MV.m] at hss
  have hkk : k' = v.k ∧ n' = v.n ∧ m.length = v.m.length := by
    cases v with
    | mk a b c d e f g h i j =>
      rw [MV.pv, MV.pv] at hpv'
      injection hpv' with e1 e2 e3 e4 e5 e6
      exact ⟨e1, e2, by rw [← pvL_len m, e6, pvL_len]; rfl⟩
  have HKK := Lib.hid hkk
  obtain ⟨nm, hnm⟩ : ∃ nm, nm = m.length := ⟨_, rfl⟩
  rw [← hnm] at hss ⊢
  obtain ⟨WB, hWB⟩ : ∃ WB, WB = (w2.alloc (.cells #[.int .i64 k', .int .i64 n', .string s', .slice lA l.length lc, .slice mA nm mc] 25)) := ⟨_, rfl⟩
  rw [← hWB] at hss
  have hb4 : Below w2.heap.size w2 WB := by rw [hWB]; exact below_new _ _
  have HSS := Lib.hid hss
  have HNM := Lib.hid hnm
  have HB4 := Lib.hid hb4
  have HB3B : Hid (Below W3.heap.size W3 WB) := Lib.hid (hb2.trans (hb4.mono hb2.size))
  obtain ⟨y0, y1, y2, y3, y4⟩ := five_cells (hkx.below hb4 hkx.lt)
  have hml : nm ≤ 3001 := by rw [hnm, hkk.2.2]; exact HLEN.out
  have hcx2 := HCX.out WB HB3B.out
  have HCX2 := Lib.hid hcx2
  rw [HS1.out, hWB] at y0 y1 y2 y3 y4
  have HVB := Lib.hid (hvo.at_.bel hb4)
  have HWB := Lib.hid hWB
  clear hpv hpv' hvo hb2 hss hkk hb4 hnm hkx hcx2 hWB HCX
  go_wp2_with fail
  rw [← HWB.out]
  refine HCX2.out.mono ?_
  clear y0 y1 y2 y3 y4
  rintro e w4 ⟨x', rfl, hpx, hvx, hb5⟩
  obtain ⟨W6, hW6⟩ : ∃ W6, W6 = w4.alloc (.cells #[.string key, .int .i64 x'.k, .int .i64 x'.n, .string x'.s, .slice x'.lA x'.l.length x'.lc, .slice x'.mA x'.m.length x'.mc] 33) := ⟨_, rfl⟩
  have hb6 : Below w4.heap.size w4 W6 := by rw [hW6]; exact below_new _ _
  have hk6 : Blk W6 w4.heap.size 33 #[.string key, .int .i64 x'.k, .int .i64 x'.n, .string x'.s, .slice x'.lA x'.l.length x'.lc, .slice x'.mA x'.m.length x'.mc] := by rw [hW6]; exact Blk.new _ _ _
  have hbw : Below WB.heap.size WB W6 := hb5.trans (hb6.mono hb5.size)
  have hs6 := HSS.out.below hbw
  have HPX := Lib.hid hpx
  have HVX := Lib.hid hvx
  have hat := vat_any (HVB.out.bel hbw) key
  unfold MV.val at hat ⊢
  simp only [MV.k, MV.n, MV.s, MV.lA, MV.lc, MV.l, MV.mA, MV.mc, MV.m] at hat
  rw [← HNM.out] at hat
  have HAT := Lib.hid hat
  have HS6 := Lib.hid hs6
  have HK7 := Lib.hid hk6
  have HB6 := Lib.hid hb6
  have HBW := Lib.hid hbw
  have HXW := Lib.hid (hvx.at_.bel hb6)
  obtain ⟨c0, c1, c2, c3, c4⟩ := five_cells hs6.box
  rw [hW6] at c0 c1 c2 c3 c4
  have HW6 := Lib.hid hW6
  clear hpx hvx hb5 hb6 hk6 hbw hat hs6 hW6
  go_wp2_with fail
  rw [← HW6.out]
  refine HAT.out.mono ?_
  clear c0 c1 c2 c3 c4
  rintro e w7 ⟨rfl, hb7⟩
  have HS7 := Lib.hid (HS6.out.below hb7)
  have HK8 := Lib.hid (HK7.out.below hb7 HK7.out.lt)
  have HX7 := Lib.hid (HXW.out.bel hb7)
  obtain ⟨x'', hx''⟩ : ∃ x'' : MV, x'' = .mk key x'.k x'.n x'.s x'.lA x'.lc x'.l x'.mA x'.mc x'.m := ⟨_, rfl⟩
  have HXX : Hid (x''.key = key ∧ x''.pv = x'.pv ∧ x''.pcs = [.string key, .int .i64 x'.k, .int .i64 x'.n, .string x'.s, .slice x'.lA x'.l.length x'.lc, .slice x'.mA x'.m.length x'.mc] ∧ VAt w7 x'' ∧ BlkP (WB.heap.size ≤ ·) x'') := Lib.hid (by rw [hx'']; exact ⟨rfl, by cases x'; rfl, rfl, HX7.out.rekey, HVX.out.fr.rekey⟩)
  have hwkk : (Lit.int .i64 k').wf = true ∧ (Lit.int .i64 n').wf = true := by rw [HKK.out.1, HKK.out.2.1]; exact HWK.out
  have HWKK := Lib.hid hwkk
  have HPF : Hid (∀ m' : List MV, prs m' = withM key x.pv (prs m) → PV.mk k' n' s' (MV.pvL l) (m'.map MV.key) (MV.pvL m') = P) := Lib.hid (fun m' hm' => by
    rw [HP.out, ← HPV.out, MV.pv, PV.withP]
    simp only [HKK.out.1, HK6.out, if_true]
    rw [zip_prs, ← hm', prs_keys, prs_pvs])
  have HPP2 : Hid (x''.pv = x.pv) := Lib.hid (HXX.out.2.1.trans HPX.out)
  have HNB : Hid ((∀ y ∈ l, BlkP (fun b => ¬ b = w2.heap.size) y) ∧ ∀ y ∈ m, BlkP (fun b => ¬ b = w2.heap.size) y) := Lib.hid ⟨fun y hy => (HVO.out.at_.l y hy).lt.mono (fun b hb => Nat.ne_of_lt hb), fun y hy => (HVO.out.at_.m y hy).lt.mono (fun b hb => Nat.ne_of_lt hb)⟩
  have HLTB : Hid (w2.heap.size < WB.heap.size) := Lib.hid HSS.out.box.lt
  have HVV : Hid ((MV.mk key' k' n' s' lA lc l mA mc m).k = 6) := Lib.hid (HKK.out.1.trans HK6.out)
  clear hb7 hx'' hwkk
  obtain ⟨c0, c1, c2, c3, c4⟩ := five_cells HS7.out.box
  obtain ⟨p0, p1, p2, p3, p4, p5⟩ := sixc HK8.out
  rcases atV_prs (v := .mk key' k' n' s' lA lc l mA mc m) (key := key) (x := x.pv) HVV.out with ⟨hi1, hpr⟩ | ⟨i, hi, hi1, hi2, hpr⟩
  · change withM key x.pv (prs m) = prs m ++ [(key, x.pv)] at hpr
    obtain ⟨i0, hi0, hz0, hz1, hz2⟩ := info_parts infoPair
    have HINF := Lib.hid (And.intro hi0 (And.intro hz0 (And.intro hz1 hz2)))
    obtain ⟨W9, hW9⟩ : ∃ W9, W9 = w7.alloc (.cells #[.string key, .int .i64 x'.k, .int .i64 x'.n, .string x'.s, .slice x'.lA x'.l.length x'.lc, .slice x'.mA x'.m.length x'.mc] 33) := ⟨_, rfl⟩
    have hb9 : Below w7.heap.size w7 W9 := by rw [hW9]; exact below_new _ _
    have hk9 : Blk W9 w7.heap.size 33 #[.string key, .int .i64 x'.k, .int .i64 x'.n, .string x'.s, .slice x'.lA x'.l.length x'.lc, .slice x'.mA x'.m.length x'.mc] := by rw [hW9]; exact Blk.new _ _ _
    have hs9 := HS7.out.below hb9
    have HOB : Hid (W9.ownsRow W3.heap.size 33 6 (.slice mA nm mc) nm (m.flatMap MV.pcs)) := Lib.hid (by have h1 := hs9.rm.own; rw [← HNM.out] at h1; exact h1)
    have HXB : Hid (Reads W9 W9.heap.size 6 (some ⟨w7.heap.size, 0, none⟩) 1 x''.pcs) := Lib.hid (by
      rw [HXX.out.2.2.1]
      exact ⟨rfl, fun _ => ⟨_, rfl, hk9.lt, fun j u hu => by
        rw [Addr.add_lit, Nat.zero_add, hk9.cell j]
        simpa using hu⟩⟩)
    have hbs : W3.heap.size ≤ W9.heap.size := by have h1 := hs9.bs.2; have h2 := hs9.box.lt; omega
    have hxb : BlkP (fun b => ¬ b = w2.heap.size) x'' := HXX.out.2.2.2.2.mono (fun b hb e => by have := HLTB.out; have hb' : WB.heap.size ≤ b := hb; omega)
    have HAP : Hid (∀ v1 w1, w1.ownsRow W3.heap.size 33 6 v1 (nm + 1) (m.flatMap MV.pcs ++ x''.pcs) → W9.grownBy w1 (Value.slice mA nm mc).ownBlock → (v1.ownBlock = (Value.slice mA nm mc).ownBlock ∨ v1.ownBlock = some W9.heap.size) → ∃ A9 c9, v1 = .slice A9 (nm + 1) c9 ∧ SoS W1 w2.heap.size W3.heap.size k' n' s' #[] (.slice lA l.length lc) (.slice A9 (nm + 1) c9) l (m ++ [x'']) (w1.setCell ⟨w2.heap.size, 4, none⟩ (.slice A9 (nm + 1) c9)) ∧ Blk w1 w2.heap.size 25 #[.int .i64 k', .int .i64 n', .string s', .slice lA l.length lc, .slice mA nm mc]) := Lib.hid (fun v1 w1 h1 h2 h3 => by
      have hbl : BlkP (WB.heap.size ≤ ·) x'' := HXX.out.2.2.2.2
      have hrow := hs9.rm.app (HXX.out.2.2.2.1.bel hb9) (hbl.mono (fun b hb => Nat.le_trans HB3B.out.size hb)) (hbl.mono (fun b hb e => by have h4 := HSS.out.rm.ltS b e; have hb' : WB.heap.size ≤ b := hb; omega)) (by rw [← HNM.out]; exact h1) h2 h3
      have hln : (m ++ [x'']).length = nm + 1 := by rw [List.length_append, HNM.out]; rfl
      obtain ⟨A9, c9, hv9, _, _, _⟩ := hrow.shape
      rw [hln] at hv9
      subst hv9
      obtain ⟨k1, k2⟩ := hs9.appM hrow h2 h3 (hbl.mono (fun b hb e => by have h4 := HSS.out.rl.ltS b e; have hb' : WB.heap.size ≤ b := hb; omega)) HNB.out.1 (fun y hy => by
        rcases List.mem_append.1 hy with hy | hy
        · exact HNB.out.2 y hy
        · rw [List.mem_singleton] at hy; subst hy; exact hxb)
      exact ⟨A9, c9, rfl, k1, k2⟩)
    have HPF2 := Lib.hid (HPF.out (m ++ [x'']) (by rw [hpr]; unfold prs; rw [List.map_append]; simp only [List.map_cons, List.map_nil]; rw [HXX.out.1, HPP2.out]))
    have HX1 : Hid (∀ u ∈ x''.pcs, u.oneCell' = true) := Lib.hid (oneC_pcs x'')
    rw [hi1]
    rw [hW9] at HOB HXB HAP hbs
    clear hi0 hz0 hz1 hz2 hW9 hb9 hk9 hs9 hxb hpr hi1
    go_wp2_with (at_builtin; refine wpList_append_any _ rfl _ _ 23 rfl W3.heap.size 33 i0 _ 6 96 Tryd.underlying23 HINF.out.1 HINF.out.2.1 HINF.out.2.2.1 HINF.out.2.2.2 rfl (by omega) _ nm _ rfl HOB.out _ _ 1 1 x''.pcs rfl HXB.out HX1.out (by simp only [maxLen]; omega) (by omega) hbs ?_; intro v1 w1 hown1 hg1 hat1; obtain ⟨A9, c9, hv9, hs9, hk9⟩ := HAP.out v1 w1 hown1 hg1 hat1; subst hv9; have HS9 := Lib.hid hs9; have hz := hk9.frozen 4; have hd := hk9.cell 4; simp only [List.getElem?_toArray, List.getElem?_cons_zero, List.getElem?_cons_succ] at hd; obtain ⟨s0, s1, s2, s3, s4⟩ := five_cells hs9.box; obtain ⟨t0, t1, t2, t3, t4⟩ := five_cells hs9.res; obtain ⟨z0, z1, z2, z3, z4⟩ := five_fr hs9.res; rw [HS1.out] at t0 t1 t2 t3 t4 z0 z1 z2 z3 z4; clear hown1 hg1 hat1 hs9 hk9)
    have HFIN := Lib.hid (HS9.out.fin5 HWKK.out HPF2.out)
    rw [← HS1.out]
    obtain ⟨k0, k1, k2, k3, k4⟩ := five_cells HFIN.out.1
    refine bodyPost_ret (v := .agg #[.int .i64 k', .int .i64 n', .string s', .slice lA l.length lc, .slice A9 (nm + 1) c9]) (by simp [results, Tryd.results21, go_sem, k0, k1, k2, k3, k4]) rfl ?_
    exact OwP.up HFIN.out.2 HB1.out
  · have hi' : i < m.length := hi
    change withM key x.pv (prs m) = (prs m).take i ++ (key, x.pv) :: (prs m).drop (i + 1) at hpr
    obtain ⟨g, c9, hv9, hgl, hc⟩ := HS7.out.rm.cellM (i := i) hi'
    injection hv9 with hA hz1 hz2
    clear hz1 hz2
    subst hA
    obtain ⟨cur, hcur⟩ := own_blk (g := g) HS7.out.rm rfl
    obtain ⟨y, hy⟩ : ∃ y, y = m[i]'hi' := ⟨_, rfl⟩
    rw [← hy] at hc
    have z0 := hcur.frozen (i * 6)
    have z1 := hcur.frozen (i * 6 + 1)
    have z2 := hcur.frozen (i * 6 + 2)
    have z3 := hcur.frozen (i * 6 + 3)
    have z4 := hcur.frozen (i * 6 + 4)
    have z5 := hcur.frozen (i * 6 + 5)
    have f0 := hc 0 (by omega)
    have f1 := hc 1 (by omega)
    have f2 := hc 2 (by omega)
    have f3 := hc 3 (by omega)
    have f4 := hc 4 (by omega)
    have f5 := hc 5 (by omega)
    simp only [Nat.add_zero, MV.pcs, MV.cs, List.getElem?_cons_zero, List.getElem?_cons_succ] at f0 f1 f2 f3 f4 f5
    have hs9 : SoS W1 w2.heap.size W3.heap.size k' n' s' #[] (.slice lA l.length lc) (.slice (some ⟨g, 0, none⟩) nm mc) l (m.take i ++ x'' :: m.drop (i + 1)) ((((((w7.setCell ⟨g, i * 6, none⟩ (.string key)).setCell ⟨g, i * 6 + 1, none⟩ (.int .i64 x'.k)).setCell ⟨g, i * 6 + 2, none⟩ (.int .i64 x'.n)).setCell ⟨g, i * 6 + 3, none⟩ (.string x'.s)).setCell ⟨g, i * 6 + 4, none⟩ (.slice x'.lA x'.l.length x'.lc)).setCell ⟨g, i * 6 + 5, none⟩ (.slice x'.mA x'.m.length x'.mc)) := by
      have h3 := HS7.out
      rw [split_at_ m i hi'] at h3
      have hbl : BlkP (WB.heap.size ≤ ·) x'' := HXX.out.2.2.2.2
      have h4 := h3.setP (H := WB.heap.size) (i := i) (by rw [List.length_take]; omega) HXX.out.2.2.2.1 hbl HB3B.out.size (fun b e => HSS.out.rm.ltS b e) (fun b e => HSS.out.rl.ltS b e)
      rw [HXX.out.2.2.1] at h4
      exact h4
    have HS9 := Lib.hid hs9
    have HPF2 := Lib.hid (HPF.out (m.take i ++ x'' :: m.drop (i + 1)) (by rw [hpr, prs_set, HXX.out.1, HPP2.out]))
    have hii : (i : Int) < (nm : Int) := by have := HNM.out; omega
    have hi0 : (0 : Int) ≤ (i : Int) := by omega
    have HHI := Lib.hid hi'
    rw [hi1]
    clear hi1 hi2 hpr hi hcur hc hs9 hgl hy hi'
    go_upto_region 9 with (fail)
    generalize ((((((w7.setCell ⟨g, i * 6, none⟩ (.string key)).setCell ⟨g, i * 6 + 1, none⟩ (.int .i64 x'.k)).setCell ⟨g, i * 6 + 2, none⟩ (.int .i64 x'.n)).setCell ⟨g, i * 6 + 3, none⟩ (.string x'.s)).setCell ⟨g, i * 6 + 4, none⟩ (.slice x'.lA x'.l.length x'.lc)).setCell ⟨g, i * 6 + 5, none⟩ (.slice x'.mA x'.m.length x'.mc)) = W10 at HS9 ⊢
    obtain ⟨s0, s1, s2, s3, s4⟩ := five_cells HS9.out.box
    obtain ⟨t0, t1, t2, t3, t4⟩ := five_cells HS9.out.res
    obtain ⟨y0, y1, y2, y3, y4⟩ := five_fr HS9.out.res
    rw [HS1.out] at t0 t1 t2 t3 t4 y0 y1 y2 y3 y4
    go_wp2
    have HFIN := Lib.hid (HS9.out.fin5 HWKK.out HPF2.out)
    rw [← HS1.out]
    obtain ⟨k0, k1, k2, k3, k4⟩ := five_cells HFIN.out.1
    refine bodyPost_ret (v := .agg #[.int .i64 k', .int .i64 n', .string s', .slice lA l.length lc, .slice (some ⟨g, 0, none⟩) nm mc]) (by simp [results, Tryd.results21, go_sem, k0, k1, k2, k3, k4]) rfl ?_
    exact OwP.up HFIN.out.2 HB1.out
end Go.Proofs.YteodigdcdhceiaaDoor
