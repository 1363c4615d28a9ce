/-
  slices.DeleteFunc at files; store.Drop.
-/
import Derived.Test.YtgpcinfhcamgpaaGreatDoorStF4
import Derived.Test.YtgpcinfhcamgpaaGreatDoorGD
namespace Go.Proofs.YtgpcinfhcamgpaaGreatDoor
open Go.RowKit
attribute [local go_sem ↓] Go.wp_at_zero Go.wp_at_succ
set_option linter.unusedVariables false
set_option linter.unusedSimpArgs false

theorem run_clear_files (w : World) (g o n c : Nat) (cur : Array Value) (hg : Blk w g 55 cur) (hfit : o + n * 2 ≤ cur.size) :
    ∃ cs : Array Value, cs.size = cur.size ∧ cs.toList.take o = cur.toList.take o ∧ ∀ ty, (Builtin.clear_ #[23] ty #[.slice (some ⟨g, o, none⟩) n c]).run Tryz.prog w = .ok (.tuple #[]) (w.setRow g cs) := by
  obtain ⟨i0, hi0, hz0, hz1, hz2⟩ := info_parts infoFile
  rcases Nat.eq_zero_or_pos n with h0 | h0
  · subst h0
    refine ⟨cur, rfl, rfl, fun ty => ?_⟩
    rw [setRow_self w g cur 55 (0, 0) hg]
    simp [Builtin.clear_, run_underlying Tryz.underlying23]
  · obtain ⟨Z, hZ⟩ : ∃ Z, Z = (Builtin.zeroCells (Value.agg #[.string ⟨#[]⟩, .slice none 0 0]).cells n).toList := ⟨_, rfl⟩
    have hZl : Z.length = n * 2 := by
      rw [hZ, Array.length_toList, size_zeroCells]
      rfl
    have h1 : ∀ u ∈ Z, u.oneCell' = true := fun u hu => by
      rw [hZ] at hu
      unfold Builtin.zeroCells at hu
      simp only [Value.cells, Array.toList_map, Array.toList_range, List.mem_map, List.mem_range] at hu
      obtain ⟨a, _, rfl⟩ := hu
      simp only [List.size_toArray, List.length_cons, List.length_nil]
      rcases (by omega : a % 2 = 0 ∨ a % 2 = 1) with e | e
      all_goals
        rw [show a % (0 + 1 + 1) = _ from e]
        rfl
    have hst := run_storeCells_at Tryz.prog g o 55 Z 0 cur w hg (by rw [hZl]; simpa using hfit) h1
    simp only [Nat.add_zero] at hst
    refine ⟨(cur.toList.take o ++ Z ++ cur.toList.drop (o + Z.length)).toArray, ?_, ?_, ?_⟩
    · simp only [List.size_toArray, List.length_append, List.length_take, List.length_drop, Array.length_toList]
      omega
    · show List.take o (cur.toList.take o ++ Z ++ cur.toList.drop (o + Z.length)) = _
      rw [List.append_assoc, List.take_left' (by rw [List.length_take, Array.length_toList]; omega)]
    · intro ty
      have hn : n ≠ 0 := by omega
      obtain ⟨n', rfl⟩ : ∃ n', n = n' + 1 := ⟨n - 1, by omega⟩
      simp [Builtin.clear_, run_underlying Tryz.underlying23, zeroValue, typeInfo, hi0, hz0, ← hZ, hst]
theorem OFs.at_ {B base g n cap : Nat} {w : World} {gs : List FV} (h : OFs B w base (.slice (some ⟨g, 0, none⟩) n cap) gs) {i : Nat} (hi : i < gs.length) : w.cell? ⟨g, i * 2, none⟩ = some (.string gs[i].nm) ∧ w.cell? ⟨g, i * 2 + 1, none⟩ = some (.slice gs[i].A gs[i].b.length gs[i].c) ∧ ∀ m, w.frozen? ⟨g, m, none⟩ = false := by
  obtain ⟨A9, c9, e9, _, _, h9⟩ := h.fls
  injection e9 with e91 _ _
  subst e91
  obtain ⟨b, o, hA, hb, d0, d1, _⟩ := h9.at_ hi
  injection hA with hA
  injection hA with hA1 hA2 _
  subst hA1
  subst hA2
  rw [Nat.zero_add] at d0 d1
  refine ⟨d0, d1, fun m => ?_⟩
  obtain ⟨_, _, cur', e', _, hk', _⟩ := h.cut (fun e => by subst e; simp at hi)
  injection e' with e' _ _
  injection e' with e'
  injection e' with e' _ _
  subst e'
  exact hk'.frozen m
/-- what a function value is asked of one file, whatever became of the row -/
def PredR (S : Nat → Prop) (g : Nat) (lb : Array Value) (w : World) (fs : List FV) (p : FV → Bool) : Prop :=
  ∀ (k : Nat) (hk : k < fs.length) (W : World), Fr S w W → Calls Tryz.prog g (#[.agg #[.string fs[k].nm, .slice fs[k].A fs[k].b.length fs[k].c]] ++ lb) W fun e w' => e = .returned (.bool (p fs[k])) ∧ Below W.heap.size W w'
theorem filter_step {α : Type} (l : List α) (p : α → Bool) (j : Nat) (hj : j < l.length) : (l.take (j + 1)).filter p = (l.take j).filter p ++ if p l[j] then [l[j]] else [] := by
  rw [List.take_succ_eq_append_getElem hj, List.filter_append]
  congr 1
  simp only [List.filter_cons, List.filter_nil]
theorem filter_none {α : Type} (p : α → Bool) (l : List α) (h : ∀ j (hj : j < l.length), p l[j] = true) : l.filter p = l := by
  rw [List.filter_eq_self]
  intro x hx
  obtain ⟨j, hj, rfl⟩ := List.getElem_of_mem hx
  exact h j hj
structure DelI (B base : Nat) (w wr : World) (g cap n i j : Nat) (p : FV → Bool) (fs gs : List FV) : Prop where
  own : OFs B wr base (.slice (some ⟨g, 0, none⟩) n cap) gs
  len : gs.length = n
  lt : i < j
  le : j ≤ n
  drp : gs.drop j = fs.drop j
  tak : gs.take i = (fs.take j).filter (fun f => !p f)
  fr : Fr (· = g) w wr
theorem DelI.skip {B base g cap n i j : Nat} {w wr w' : World} {p : FV → Bool} {fs gs : List FV} (h : DelI B base w wr g cap n i j p fs gs) (hb : Below wr.heap.size wr w') (hfs : fs.length = n) (hj : j < n) (hp : p (fs[j]'(by omega)) = true) : DelI B base w w' g cap n i (j + 1) p fs gs :=
  ⟨h.own.below hb, h.len, by have := h.lt; omega, hj, by
    have := congrArg (List.drop 1) h.drp
    rw [List.drop_drop, List.drop_drop] at this
    exact this, by
    rw [filter_step fs _ j (by omega), hp]
    simpa using h.tak, h.fr.below hb⟩
theorem DelI.put {B base g cap n i j : Nat} {w wr w' : World} {p : FV → Bool} {fs gs : List FV} (h : DelI B base w wr g cap n i j p fs gs) (hB : B ≤ base) (hb : Below wr.heap.size wr w') (hfs : fs.length = n) (hj : j < n) (hp : p (fs[j]'(by omega)) = false) :
    ∃ gs', DelI B base w ((w'.setCell ⟨g, i * 2, none⟩ (.string (fs[j]'(by omega)).nm)).setCell ⟨g, i * 2 + 1, none⟩ (.slice (fs[j]'(by omega)).A (fs[j]'(by omega)).b.length (fs[j]'(by omega)).c)) g cap n (i + 1) (j + 1) p fs gs' := by
  have hi : i < gs.length := by have h1 := h.lt; have h2 := h.len; omega
  have hjg : j < gs.length := by have h2 := h.len; omega
  have hx : gs[j] = fs[j]'(by omega) := by
    have h1 := congrArg (fun l : List FV => l[0]?) h.drp
    simpa [List.getElem?_drop, List.getElem?_eq_getElem hjg, List.getElem?_eq_getElem (show j < fs.length by omega)] using h1
  obtain ⟨x, hxx⟩ : ∃ x, x = fs[j]'(by omega) := ⟨_, rfl⟩
  rw [← hxx] at hx hp ⊢
  have ho := h.own.below hb
  have hset0 := OFs.set0 ho hB h.len i hi x.nm
  have hno : NoB8 w' B (· = g) := fun k e => ho.noB hB k (by rw [show k = g from e]; rfl)
  have hfx : FVs w' B x := by
    rw [← hx]
    exact ho.2 _ (List.getElem_mem hjg)
  have hset1 := OFs.set1 hset0.1 hB (by rw [List.length_set]; exact h.len) i (by rw [List.length_set]; exact hi) x.A x.c x.b (hfx.1.fr hset0.2 hno) hfx.2
  have hz : (gs.set i ⟨x.nm, gs[i].A, gs[i].c, gs[i].b⟩).set i ⟨((gs.set i ⟨x.nm, gs[i].A, gs[i].c, gs[i].b⟩)[i]'(by rw [List.length_set]; exact hi)).nm, x.A, x.c, x.b⟩ = gs.set i x := by
    rw [List.set_set]
    simp
  rw [hz] at hset1
  refine ⟨gs.set i x, hset1.1, by rw [List.length_set]; exact h.len, by have := h.lt; omega, hj, ?_, ?_, (h.fr.below hb).trans (hset0.2.trans hset1.2)⟩
  · rw [List.drop_set_of_lt (by have := h.lt; omega)]
    have := congrArg (List.drop 1) h.drp
    rw [List.drop_drop, List.drop_drop] at this
    exact this
  · rw [filter_step fs _ j (by omega), ← hxx, hp, ← h.tak, List.take_succ_eq_append_getElem (by rw [List.length_set]; exact hi), List.take_set_of_le (Nat.le_refl _)]
    simp
set_option maxRecDepth 100000 in
set_option maxHeartbeats 8000000 in
theorem fdel_any (B base : Nat) (g0 : Nat) (lb : Array Value) (eg : ∀ args w, (callFunc g0 args).run Tryz.prog w = .ok (.enter g0 args) w) (v : Value) (A : Option Addr) (n c : Nat) (fs : List FV) (w : World) (p : FV → Bool) (ho : OFs B w base v fs) (hv : v = .slice A n c) (hn : fs.length = n) (hbig : n ≤ 1000000000000) (hB : B ≤ base) (hbase : base ≤ w.heap.size) (hp : PredR (fun j => v.ownBlock = some j) g0 lb w fs p) :
    Calls Tryz.prog 70 #[.slice A n c, .func (.func g0) #[] lb] w fun e w' => ∃ v', e = .returned v' ∧ OFs B w' base v' (fs.filter (fun f => !p f)) ∧ Fr (fun j => v.ownBlock = some j) w w' := by
  have HIX := Lib.hid (indexFile_any g0 lb eg A n c fs w p (by
    obtain ⟨A9, c9, e, _, _, h9⟩ := ho.fls
    rw [hv] at e
    injection e with e _ _
    subst e
    exact h9) hn (by omega) (fun k hk W hW => (hp k hk W (Fr.of_below hW)).mono (fun e w' h => ⟨h.1, hW.trans (h.2.mono hW.size)⟩)))
  have HO := Lib.hid ho
  have HV := Lib.hid hv
  have HN := Lib.hid hn
  have HB := Lib.hid hB
  have HPP := Lib.hid hp
  have HBA := Lib.hid hbase
  clear ho hv hn hB hp hbase
  go_enter Tryz.func70, Tryz.ntmps70
  go_wp2_with fail
  refine HIX.out.mono ?_
  rintro e w1 ⟨rfl, hb1⟩
  have HO1 := Lib.hid (HO.out.below hb1)
  have HF1 : Hid (Fr (fun j => v.ownBlock = some j) w w1) := Lib.hid (Fr.of_below hb1)
  have HB1 := Lib.hid hb1
  obtain ⟨z, hz⟩ : ∃ z, z = idxG p fs := ⟨_, rfl⟩
  rw [← hz]
  clear hb1 HIX
  rcases idxG_cases p fs with h | ⟨k, hk, h⟩
  · rw [h] at hz
    have HR : Hid (fs.filter (fun f => !p f) = fs) := by
      have h1 := idxG_len h
      refine Lib.hid (filter_none _ fs (fun j hj => ?_))
      have := List.not_of_lt_findIdx (p := p) (xs := fs) (i := j) (by omega)
      simpa using this
    subst hz
    clear h
    go_wp2
    go_ret
    exact ⟨_, rfl, by rw [HR.out, ← HV.out]; exact HO1.out, HF1.out⟩
  · rw [h] at hz
    have hkn : k < n := by rw [← HN.out]; exact hk
    obtain ⟨g, cap, cur, ev, hg, hbk, hcap1, hcap2, _⟩ := HO1.out.cut (fun e => by subst e; simp at hk)
    rw [HV.out] at ev
    injection ev with ev1 ev2 ev3
    subst ev1
    subst ev3
    rw [HV.out] at HO1 HPP HF1
    have hS : ∀ (P : Nat → Prop), (fun j => (Value.slice (some ⟨g, 0, none⟩) n c).ownBlock = some j) = (· = g) := fun _ => by
      funext j
      simp [Value.ownBlock, eq_comm]
    have hS' := hS (fun _ => True)
    rw [hS'] at HPP HF1
    have HGB := Lib.hid hg
    have hck : n ≤ c := by rw [← HN.out]; exact hcap1
    unfold maxLen at hcap2
    have hki : (k : Int) + 1 ≤ (n : Int) := by omega
    have hst : (fs.take (k + 1)).filter (fun f => !p f) = fs.take k := by
      have hf := idxG_nat hk h
      have hpk : p fs[k] = true := by
        have := List.findIdx_getElem (p := p) (xs := fs) (w := by omega)
        simpa [hf] using this
      rw [filter_step fs _ k hk, hpk]
      simp only [Bool.not_true, Bool.false_eq_true, if_false, List.append_nil]
      refine filter_none _ _ (fun j hj => ?_)
      rw [List.length_take] at hj
      have := List.not_of_lt_findIdx (p := p) (xs := fs) (i := j) (by omega)
      rw [List.getElem_take]
      simpa using this
    have HI : Hid (DelI B base w w1 g c n k (k + 1) p fs fs) := Lib.hid ⟨HO1.out, HN.out, by omega, by omega, rfl, hst.symm, HF1.out⟩
    have qk : ((k : Int) == -1) = false := by rw [beq_eq_false_iff_ne]; omega
    subst hz
    clear h hst hbk hcap1 ev2 hg hS hS' HO1 HF1 hk
    go_wp2_with fail
    go_loopw [5, 6] (fun x y wr => ∃ (i j : Nat) (gs : List FV), x = .int .i64 (i : Int) ∧ y = .int .i64 (j : Int) ∧ i < n ∧ j ≤ n ∧ Hid (DelI B base w wr g c n i j p fs gs)) (fun _ y _ => n - (intOf y).toNat)
    case atStart => exact ⟨k, k + 1, fs, rfl, by go_num, hkn, by omega, HI⟩
    case round =>
      clear HI
      obtain ⟨i, j, gs, rfl, rfl, hin, hjn, HI⟩ := hrel
      rcases (by omega : j < n ∨ j = n) with hlt | heq
      · have q0 : decide ((j : Int) < (n : Int)) = true := by rw [decide_eq_true_iff]; omega
        have q0' : decide (j < n) = true := by rw [decide_eq_true_iff]; omega
        have hji : (j : Int) < (n : Int) := by omega
        have hj0 : (0 : Int) ≤ (j : Int) := by omega
        have hjg : j < gs.length := by rw [HI.out.len]; exact hlt
        have hjf : j < fs.length := by rw [HN.out]; exact hlt
        have hx : gs[j] = fs[j] := by
          have h1 := congrArg (fun l : List FV => l[0]?) HI.out.drp
          simpa [List.getElem?_drop, List.getElem?_eq_getElem hjg, List.getElem?_eq_getElem hjf] using h1
        obtain ⟨d0, d1, _⟩ := HI.out.own.at_ hjg
        rw [hx] at d0 d1
        obtain ⟨wb, hwb⟩ : ∃ wb, wb = wr.alloc (.cells #[.string fs[j].nm, .slice fs[j].A fs[j].b.length fs[j].c] 55) := ⟨_, rfl⟩
        have hbb : Below wr.heap.size wr wb := by rw [hwb]; exact (Below.refl _ _).alloc (Nat.le_refl _) _
        have hcall := HPP.out j hjf wb (HI.out.fr.below hbb)
        have hskip := fun (w' : World) (hb : Below wr.heap.size wr w') (hp : p fs[j] = true) => HI.out.skip hb HN.out hlt hp
        have hput := fun (w' : World) (hb : Below wr.heap.size wr w') (hp : p fs[j] = false) => HI.out.put HB.out hb HN.out hlt hp
        have hat := fun (w' : World) (hb : Below wr.heap.size wr w') => (HI.out.own.below hb).at_ (i := i) (by rw [HI.out.len]; exact hin)
        have hkb : Blk wb wr.heap.size 55 #[.string fs[j].nm, .slice fs[j].A fs[j].b.length fs[j].c] := by rw [hwb]; exact Blk.new _ _ _
        obtain ⟨x, hxx⟩ : ∃ x, x = fs[j] := ⟨_, rfl⟩
        rw [← hxx] at d0 d1 hwb hcall hkb hskip hput
        obtain ⟨m, hm⟩ : ∃ m, m = x.b.length := ⟨_, rfl⟩
        rw [← hm] at d1 hwb hcall hkb hput
        have HK := Lib.hid hkb
        have HBB := Lib.hid hbb
        have HSK := Lib.hid hskip
        have HPU := Lib.hid hput
        have HATT := Lib.hid hat
        have hini : (i : Int) < (n : Int) := by omega
        have hi0 : (0 : Int) ≤ (i : Int) := by omega
        clear hkb hskip hput hat hx hxx hm hbb
        cases hq : p x with
        | true =>
          rw [hq] at hcall
          have HQ := Lib.hid hq
          have HCC := Lib.hid hcall
          clear hq hcall
          go_wp2_with (go_at_fn g0; rw [← hwb]; refine HCC.out.mono ?_; rintro e w' ⟨rfl, hb'⟩)
          have HI2 := Lib.hid (HSK.out w' (HBB.out.trans (hb'.mono HBB.out.size)) HQ.out)
          clear hb'
          go_roundw
          case rel => exact ⟨i, j + 1, gs, rfl, by go_num, hin, by omega, HI2⟩
          case measure => simp [intOf]; omega
        | false =>
          rw [hq] at hcall
          have HQ := Lib.hid hq
          have HCC := Lib.hid hcall
          clear hq hcall
          go_wp2_with (go_at_fn g0; rw [← hwb]; refine HCC.out.mono ?_; rintro e w' ⟨rfl, hb'⟩; have HB9 := Lib.hid (HBB.out.trans (hb'.mono HBB.out.size)); obtain ⟨f0, f1, hfz⟩ := HATT.out w' HB9.out; have hz0 := hfz (i * 2); have hz1 := hfz (i * 2 + 1); have hk0 := (HK.out.below hb' HK.out.lt).cell 0; have hk1 := (HK.out.below hb' HK.out.lt).cell 1; simp only [List.getElem?_toArray, List.getElem?_cons_zero, List.getElem?_cons_succ] at hk0 hk1; clear hfz hb')
          obtain ⟨gs2, hgs2⟩ := HPU.out w' HB9.out HQ.out
          have HI2 := Lib.hid hgs2
          have hij : i + 1 < n := by have := HI.out.lt; omega
          clear hgs2
          go_roundw
          case rel => exact ⟨i + 1, j + 1, gs2, by go_num, by go_num, hij, by omega, HI2⟩
          case measure => simp [intOf]; omega
      · have q0 : decide ((j : Int) < (n : Int)) = false := by rw [decide_eq_false_iff_not]; omega
        have q0' : decide (j < n) = false := by rw [decide_eq_false_iff_not]; omega
        have hgl := HI.out.len
        obtain ⟨g', cap', cur, e', hg', hk', hn1, hn2, hsz, htk⟩ := HI.out.own.cut (fun e => by rw [e] at hgl; simp at hgl; omega)
        injection e' with e1 e2 e3
        injection e1 with e1
        injection e1 with e1 _ _
        subst e1
        subst e3
        rw [hgl] at hn1 htk
        obtain ⟨cs, hcs1, hcs2, hclr⟩ := run_clear_files wr g (i * 2) (n - i) (c - i) cur hk' (by rw [hsz]; omega)
        have hres : OFs B (wr.setRow g cs) base (.slice (some ⟨g, 0, none⟩) i c) (fs.filter (fun f => !p f)) ∧ Fr (· = g) w (wr.setRow g cs) := by
          have hff := Fr.setRow wr g cs
          have hno : NoB8 wr B (· = g) := fun k e => HI.out.own.noB HB.out k (by rw [show k = g from e]; rfl)
          have ht := HI.out.tak
          rw [heq, List.take_of_length_le (l := fs) (by rw [HN.out]; exact Nat.le_refl _)] at ht
          rw [← ht]
          have hl : (gs.take i).length = i := by rw [List.length_take, hgl]; omega
          refine ⟨?_, HI.out.fr.trans hff⟩
          have h9 := OFs.of_blk (B := B) (fs := gs.take i) hg' (hk'.setRow cs) (by rw [hl]; omega) hn2 (by rw [hcs1]; exact hsz) (by
            rw [hl, hcs2]
            have h8 := congrArg (List.take (i * 2)) htk
            rw [List.take_take, Nat.min_eq_left (by omega)] at h8
            rw [h8]
            have h7 : gs.flatMap FV.cells = (gs.take i).flatMap FV.cells ++ (gs.drop i).flatMap FV.cells := by rw [← List.flatMap_append, List.take_append_drop]
            rw [h7, List.take_left' (by rw [flat_len, hl])]) (fun f hf => (HI.out.own.2 f (List.mem_of_mem_take hf)).fr hff hno)
          rw [hl] at h9
          exact h9
        have HR := Lib.hid hres
        have hini : (i : Int) ≤ (n : Int) := by omega
        have hi0 : (0 : Int) ≤ (i : Int) := by omega
        have hic : ¬ (c = i) := by omega
        clear hres hcs1 hcs2 hk' hg' hsz htk hgl e2 heq hn2
        go_wp2_with (at_builtin; refine wpList_clear_run _ rfl _ _ rfl _ rfl _ _ (hclr _) ?_)
        go_ret
        exact ⟨_, rfl, HR.out.1, by rw [HV.out]; exact HR.out.2.mono (fun k _ e => by rw [show k = g from e]; rfl)⟩
set_option maxHeartbeats 2000000 in
theorem drop1_any (f : FV) (n : Nat) (s : ByteArray) (g : Nat) (w : World) (h : w.cell? ⟨g, 0, none⟩ = some (.string s)) (hg : g < w.heap.size) :
    Calls Tryz.prog 71 #[.agg #[.string f.nm, .slice f.A n f.c], .pointer (some ⟨g, 0, none⟩)] w fun e w' => e = .returned (.bool (decide (f.nm = s))) ∧ Below w.heap.size w w' := by
  have hq := nm_beq f.nm s
  have h1 : (w.alloc (.cells #[.string f.nm, .slice f.A n f.c] 55)).cell? ⟨g, 0, none⟩ = some (.string s) := (World.cell?_alloc_lt _ _ _ hg).trans h
  by_cases he : f.nm = s
  · rw [decide_eq_true he] at hq ⊢
    clear he h
    go_enter Tryz.func71, Tryz.ntmps71
    go_wp2
    go_ret
    exact ⟨rfl, (Below.refl _ _).alloc (Nat.le_refl _) _⟩
  · rw [decide_eq_false he] at hq ⊢
    clear he h
    go_enter Tryz.func71, Tryz.ntmps71
    go_wp2
    go_ret
    exact ⟨rfl, (Below.refl _ _).alloc (Nat.le_refl _) _⟩
theorem fiL_drop (gs : List FV) (s : ByteArray) : fiL (gs.filter (fun f => !decide (f.nm = s))) = dropF (fiL gs) s := by
  unfold fiL dropF
  rw [List.filter_map]
  congr 1
  apply List.filter_congr
  intro f _
  show (!decide (f.nm = s)) = !(f.nm == s)
  rw [nmq]
/-- what Drop answers -/
def DropP (B : Nat) (fs : List FV) (s : ByteArray) (w : World) (e : Ending) (w' : World) : Prop := ∃ v gs, e = .returned v ∧ OFs B w' w.heap.size v gs ∧ fiL gs = dropF (fiL fs) s ∧ Below w.heap.size w w'
set_option maxRecDepth 100000 in
set_option maxHeartbeats 8000000 in
theorem sdrop_any (B : Nat) (A : Option Addr) (n c : Nat) (fs : List FV) (s : ByteArray) (w : World) (hl : Fls w A fs) (hn : fs.length = n) (hbig : n ≤ 1000000000000) (hv : ∀ f ∈ fs, FVs w B f) (hB : B ≤ w.heap.size) (hbl : ∀ f ∈ fs, f.b.length ≤ 140737488355328) :
    Calls Tryz.prog 28 #[.slice A n c, .string s] w fun e w' => DropP B fs s w e w' := by
  show Calls Tryz.prog 28 #[.slice A n c, .string s] w fun e w' => PF (DropP B fs s w) e w'
  have hb0 : Below w.heap.size w (w.alloc (.cells #[.string s] 9)) := (Below.refl _ _).alloc (Nat.le_refl _) _
  have HB0 := Lib.hid hb0
  have hk0 : Blk (w.alloc (.cells #[.string s] 9)) w.heap.size 9 #[.string s] := Blk.new _ _ _
  have HK0 := Lib.hid hk0
  have HCP := Lib.hid (copies_any B A n c fs _ (hl.below hb0) hn (by omega) (fun f hf => (hv f hf).below hb0) (Nat.le_trans hB hb0.size) hbl)
  have HN := Lib.hid hn
  have HB := Lib.hid hB
  clear hb0 hk0 hl hn hv hB hbl
  go_enter Tryz.func28, Tryz.ntmps28
  go_wp2_with fail
  obtain ⟨W1, hW1⟩ : ∃ W1, W1 = w.alloc (.cells #[.string s] 9) := ⟨_, rfl⟩
  rw [← hW1] at HB0 HK0 HCP ⊢
  clear hW1
  refine HCP.out.mono ?_
  rintro e w2 ⟨v, gs, rfl, hown, hfi, hb2⟩
  have hgn : gs.length = n := by rw [← HN.out, ← fiL_len gs, hfi, fiL_len]
  obtain ⟨A1, c1, rfl, _, _, _⟩ := hown.fls
  rw [hgn] at hown ⊢
  have HO := Lib.hid hown
  have HFI := Lib.hid hfi
  have HB2 := Lib.hid hb2
  have HDL := Lib.hid (fdel_any B W1.heap.size 71 #[.pointer (some ⟨w.heap.size, 0, none⟩)] (fun _ _ => by kernel_rfl) (.slice A1 n c1) A1 n c1 gs w2 (fun f : FV => decide (f.nm = s)) hown rfl hgn (by omega) (Nat.le_trans HB.out HB0.out.size) hb2.size (fun k hk V hV => by
    have hlt : w.heap.size < w2.heap.size := Nat.lt_of_lt_of_le HK0.out.lt hb2.size
    have hs : ¬ (Value.slice A1 n c1).ownBlock = some w.heap.size := fun e => by
      have h1 := HO.out.ge _ e
      have h2 := HK0.out.lt
      omega
    have h1 : V.cell? ⟨w.heap.size, 0, none⟩ = some (.string s) := (hV.cell (p := ⟨w.heap.size, 0, none⟩) hlt hs).trans ((hb2.cell (p := ⟨w.heap.size, 0, none⟩) HK0.out.lt).trans (HK0.out.cell 0))
    exact drop1_any gs[k] gs[k].b.length s w.heap.size V h1 (Nat.lt_of_lt_of_le hlt hV.size)))
  have HGE : Hid (∀ k, (Value.slice A1 n c1).ownBlock = some k → W1.heap.size ≤ k) := Lib.hid (fun k e => HO.out.ge k e)
  clear hown hfi hb2 hgn HCP
  go_wp2_with fail
  refine HDL.out.mono ?_
  rintro e w3 ⟨v3, rfl, ho3, hf3⟩
  have HR : Hid (PF (DropP B fs s w) (.returned v3) w3) := Lib.hid ⟨v3, _, rfl, ho3.base_le HB0.out.size, by rw [fiL_drop, HFI.out], Fr.below_trans (HB0.out.trans (HB2.out.mono HB0.out.size)) hf3 (HB0.out.trans (HB2.out.mono HB0.out.size)).size (fun k e => Nat.le_trans HB0.out.size (HGE.out k e))⟩
  clear ho3 hf3
  go_wp2
  go_ret
  exact HR.out
end Go.Proofs.YtgpcinfhcamgpaaGreatDoor
