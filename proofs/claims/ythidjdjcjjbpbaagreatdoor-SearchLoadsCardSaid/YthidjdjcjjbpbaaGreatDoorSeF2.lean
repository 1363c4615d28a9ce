/-
  search: all roles that are delegated to.
-/
import Derived.Test.YthidjdjcjjbpbaaGreatDoorSeF1
import Derived.Test.YthidjdjcjjbpbaaGreatDoorSeLG
namespace Go.Proofs.YthidjdjcjjbpbaaGreatDoor
open Go.RowKit Sea
set_option linter.unusedVariables false
set_option linter.unusedSimpArgs false

/-- metadata and where its rows lie: its cells -/
def mcs (x : PM × MA) : List Value := x.1.cs x.2
theorem mcs_len (x : PM × MA) : (mcs x).length = 5 := rfl
theorem mcs_one (x : PM × MA) : ∀ u ∈ mcs x, u.oneCell' = true := fun u hu => by
  simp only [mcs, Sea.PM.cs, List.mem_cons, List.not_mem_nil, or_false] at hu
  rcases hu with rfl | rfl | rfl | rfl | rfl <;> rfl
def strsAt (w : World) (v : Value) : List ByteArray := match v with
  | .slice (some ad) n _ => (List.range n).map (fun j => match w.cell? (ad.add j) with | some (.string s) => s | _ => ⟨#[]⟩)
  | _ => []
theorem strsAt_og {w : World} {base : Nat} {v : Value} {l : List ByteArray} (h : OG 9 1 w base v l.length (l.map Value.string)) : strsAt w v = l := by
  obtain ⟨A, c, rfl, _, _, hr, _⟩ := OG.form h
  rcases Nat.eq_zero_or_pos l.length with h0 | h0
  · rw [List.eq_nil_of_length_eq_zero h0]
    unfold strsAt
    cases A <;> rfl
  · obtain ⟨ad, rfl, _, hc⟩ := hr.2 h0
    unfold strsAt
    refine List.ext_getElem (by simp) fun i h1 h2 => ?_
    have := hc i (.string l[i]) (by rw [List.getElem?_map, List.getElem?_eq_getElem h2]; rfl)
    simp [this]
def lenV (v : Value) : Nat := match v with | .slice _ n _ => n | _ => 0
theorem og_strv {w : World} {base : Nat} {A : Option Addr} {c : Nat} {l : List ByteArray} (h : OG 9 1 w base (.slice A l.length c) l.length (l.map Value.string)) : StrV w A l := by
  obtain ⟨A', c', e, _, _, hr, hx⟩ := OG.form h
  cases e
  exact ⟨⟨by rw [List.length_map]; omega, fun h0 => hr.2 h0⟩, fun ad e => by obtain ⟨_, _, h3, h4, _⟩ := hx ad e; exact ⟨ad.block, ad.off, by cases ad; simp at h4; subst h4; rfl⟩⟩
def RolP (R : List ByteArray) (w : World) (e : Ending) (w' : World) : Prop := ∃ vA vc, e = .returned (.slice vA R.length vc) ∧ OG 9 1 w' w.heap.size (.slice vA R.length vc) R.length (R.map Value.string) ∧ Below w.heap.size w w'
/-- what lies there between two steps -/
structure RoI (X : Nat → Prop) (w wr : World) (ov nx : Value) (out : List ByteArray) (N : List (PM × MA)) : Prop where
  o : OG 9 1 wr w.heap.size ov out.length (out.map Value.string)
  n : LG 26 5 wr w.heap.size nx N.length (N.flatMap mcs)
  m : ∀ x ∈ N, MOk X wr x.1 x.2 ∧ PMs x.1
  b : Below w.heap.size w wr
theorem RoI.bel {X : Nat → Prop} {w wr w' : World} {ov nx : Value} {out : List ByteArray} {N : List (PM × MA)} (h : RoI X w wr ov nx out N) (hb : Below wr.heap.size wr w') : RoI X w w' ov nx out N :=
  ⟨OG.below h.o hb, h.n.below hb, fun x hx => ⟨(h.m x hx).1.bel hb, (h.m x hx).2⟩, h.b.trans (hb.mono h.b.size)⟩
theorem RoI.appO {X : Nat → Prop} {w w2 w3 : World} {ov ov' nx : Value} {out : List ByteArray} {N : List (PM × MA)} {x : ByteArray} (h : RoI X w w2 ov nx out N) (hX : ∀ b, w.heap.size ≤ b → X b) (ho : OG 9 1 w3 w.heap.size ov' (out.length + 1) (out.map Value.string ++ [.string x])) (hg : w2.grownBy w3 ov.ownBlock) : RoI X w w3 ov' nx (out ++ [x]) N := by
  have hf : Fr (fun g => ov.ownBlock = some g) w2 w3 := Fr.of_grown hg (fun g e => e)
  refine ⟨by rw [List.length_append, List.map_append]; exact ho, h.n.frT hf (fun g cs hb => OG.far h.o hb (by decide)), fun y hy => ⟨(h.m y hy).1.fr (hf.mono (fun k _ e => hX k (OG.ge h.o k e))), (h.m y hy).2⟩, Fr.below_trans h.b hf h.b.size (OG.ge h.o)⟩
theorem RoI.appN {X : Nat → Prop} {w w2 w3 : World} {ov nx nx' : Value} {out : List ByteArray} {N : List (PM × MA)} {t : PM} {a : MA} (h : RoI X w w2 ov nx out N) (hX : ∀ b, w.heap.size ≤ b → X b) (ho : LG 26 5 w3 w.heap.size nx' (N.length + 1) (N.flatMap mcs ++ t.cs a)) (hg : w2.grownBy w3 nx.ownBlock) (hm : MOk X w2 t a) (hs : PMs t) : RoI X w w3 ov nx' out (N ++ [(t, a)]) := by
  have hf : Fr (fun g => nx.ownBlock = some g) w2 w3 := Fr.of_grown hg (fun g e => e)
  have hfX : Fr X w2 w3 := hf.mono (fun k _ e => hX k (h.n.ge k e))
  refine ⟨OG.frT h.o hf (fun g cs hb => h.n.far hb (by decide)), by rw [List.length_append, List.flatMap_append]; exact ho, fun y hy => ?_, Fr.below_trans h.b hf h.b.size h.n.ge⟩
  rcases List.mem_append.1 hy with hy | hy
  · exact ⟨(h.m y hy).1.fr hfX, (h.m y hy).2⟩
  · rw [List.mem_singleton] at hy; rw [hy]; exact ⟨hm.fr hfX, hs⟩
theorem addRoles_hit {l : List PN} {ds : List PD} {k : Nat} {d : PD} {out : List ByteArray} {next : List PM} (hk : k < ds.length) (hd : d = ds[k]) (h : hasB out d.name = true) : addRoles l (ds.drop k) out next = addRoles l (ds.drop (k + 1)) out next := by
  rw [List.drop_eq_getElem_cons hk, ← hd]
  conv => lhs; unfold addRoles
  rw [if_pos h]
theorem addRoles_new {l : List PN} {ds : List PD} {k : Nat} {d : PD} {out : List ByteArray} {next : List PM} (hk : k < ds.length) (hd : d = ds[k]) (h : hasB out d.name = false) : addRoles l (ds.drop k) out next = addRoles l (ds.drop (k + 1)) (out ++ [d.name]) (next ++ (loadP l d.name).toList) := by
  rw [List.drop_eq_getElem_cons hk, ← hd]
  conv => lhs; unfold addRoles
  rw [if_neg (by rw [h]; decide)]
theorem loadP_good {l : List PN} {P : PM → Prop} (hg : ∀ x ∈ l, P x.t) {name : ByteArray} {t : PM} (h : loadP l name = some t) : P t := by
  unfold loadP at h
  cases hf : l.find? (fun x => decide (x.name = name)) with
  | none => rw [hf] at h; cases h
  | some y => rw [hf] at h; injection h with h; rw [← h]; exact hg y (List.mem_of_find?_eq_some hf)
set_option maxRecDepth 100000 in
set_option maxHeartbeats 8000000 in
theorem roles_any (A : Option Addr) (n c : Nat) (l : List PN) (t : PM) (a : MA) (w : World) (h : MOk (fun b => w.heap.size ≤ b) w t a) (hl : NsR (fun b => w.heap.size ≤ b) w A l) (hg0 : PMs t) (hn : l.length = n) (hs : n ≤ 30) (hg : ∀ x ∈ l, PMs x.t) :
    Calls Tryz.prog 16 #[t.val a, .slice A n c] w fun e w' => PF (RolP (rolesAll l t) w) e w' := by
  obtain ⟨X, hX⟩ : ∃ X : Nat → Prop, X = fun b => w.heap.size ≤ b := ⟨_, rfl⟩
  rw [← hX] at h hl
  have hXX : ∀ b, w.heap.size ≤ b → X b := fun b hb => by rw [hX]; exact hb
  clear hX
  obtain ⟨W1, hW1⟩ : ∃ W1, W1 = w.alloc (.cells #[.int .i64 t.ver, .int .i64 t.exp, .slice a.tA t.ts.length a.tc, .slice a.kA t.ks.length a.kc, .slice a.dA t.ds.length a.dc] 26) := ⟨_, rfl⟩
  obtain ⟨W2, hW2⟩ : ∃ W2, W2 = W1.alloc (.cells #[.int .i64 t.ver, .int .i64 t.exp, .slice a.tA t.ts.length a.tc, .slice a.kA t.ks.length a.kc, .slice a.dA t.ds.length a.dc] 26) := ⟨_, rfl⟩
  have hb1 : Below w.heap.size w W1 := by rw [hW1]; exact (Below.refl _ _).alloc (Nat.le_refl _) _
  have hb2 : Below w.heap.size w W2 := by rw [hW2]; exact hb1.alloc hb1.size _
  have hk1 : Blk W1 w.heap.size 26 #[.int .i64 t.ver, .int .i64 t.exp, .slice a.tA t.ts.length a.tc, .slice a.kA t.ks.length a.kc, .slice a.dA t.ds.length a.dc] := by rw [hW1]; exact Blk.new _ _ _
  have hk2 : Blk W2 (w.heap.size + 1) 26 #[.int .i64 t.ver, .int .i64 t.exp, .slice a.tA t.ts.length a.tc, .slice a.kA t.ks.length a.kc, .slice a.dA t.ds.length a.dc] := by
    have q := Blk.new W1 26 #[.int .i64 t.ver, .int .i64 t.exp, .slice a.tA t.ts.length a.tc, .slice a.kA t.ks.length a.kc, .slice a.dA t.ds.length a.dc]
    rw [hW2]
    have e : W1.heap.size = w.heap.size + 1 := by rw [hW1]; simp
    rw [e] at q
    exact q
  obtain ⟨R, hR⟩ : ∃ R, R = rolesAll l t := ⟨_, rfl⟩
  rw [← hR]
  have HR0 : Hid (R = rolesP l (l.length + 1) [] [t]) := Lib.hid (by rw [hR]; rfl)
  have HI2 : Hid (RoI X w W2 (.slice none 0 0) (.slice (some ⟨w.heap.size + 1, 0, none⟩) 1 1) [] [(t, a)]) := Lib.hid ⟨OG.nil _ _ _ _, LG.of ⟨rfl, .inr ⟨w.heap.size + 1, 1, _, rfl, by omega, hk2, Nat.le_refl _, by simp [maxLen], rfl, rfl⟩⟩, fun x hx => by rw [List.mem_singleton] at hx; rw [hx]; exact ⟨h.bel hb2, hg0⟩, hb2⟩
  have HX := Lib.hid hXX
  have HV := Lib.hid hl
  have HN := Lib.hid hn
  have HS := Lib.hid hs
  have HGD := Lib.hid hg
  have HW1 := Lib.hid hW1
  have HW2 := Lib.hid hW2
  have HK1 := Lib.hid hk1
  have e0 : (w.alloc (.cells #[.int .i64 t.ver, .int .i64 t.exp, .slice a.tA t.ts.length a.tc, .slice a.kA t.ks.length a.kc, .slice a.dA t.ds.length a.dc] 26)).cell? ⟨w.heap.size, 0, none⟩ = some (.int .i64 t.ver) := by rw [← hW1]; exact hk1.cell 0
  have e1 : (w.alloc (.cells #[.int .i64 t.ver, .int .i64 t.exp, .slice a.tA t.ts.length a.tc, .slice a.kA t.ks.length a.kc, .slice a.dA t.ds.length a.dc] 26)).cell? ⟨w.heap.size, 1, none⟩ = some (.int .i64 t.exp) := by rw [← hW1]; exact hk1.cell 1
  have e2 : (w.alloc (.cells #[.int .i64 t.ver, .int .i64 t.exp, .slice a.tA t.ts.length a.tc, .slice a.kA t.ks.length a.kc, .slice a.dA t.ds.length a.dc] 26)).cell? ⟨w.heap.size, 2, none⟩ = some (.slice a.tA t.ts.length a.tc) := by rw [← hW1]; exact hk1.cell 2
  have e3 : (w.alloc (.cells #[.int .i64 t.ver, .int .i64 t.exp, .slice a.tA t.ts.length a.tc, .slice a.kA t.ks.length a.kc, .slice a.dA t.ds.length a.dc] 26)).cell? ⟨w.heap.size, 3, none⟩ = some (.slice a.kA t.ks.length a.kc) := by rw [← hW1]; exact hk1.cell 3
  have e4 : (w.alloc (.cells #[.int .i64 t.ver, .int .i64 t.exp, .slice a.tA t.ts.length a.tc, .slice a.kA t.ks.length a.kc, .slice a.dA t.ds.length a.dc] 26)).cell? ⟨w.heap.size, 4, none⟩ = some (.slice a.dA t.ds.length a.dc) := by rw [← hW1]; exact hk1.cell 4
  unfold Sea.PM.val Sea.PM.cs
  clear h hl hg0 hn hs hg hXX hW1 hW2 hb1 hb2 hk1 hk2 hR
  go_enter Tryz.func16, Tryz.ntmps16
  go_wp2
  rw [← HW1.out, ← HW2.out]
  clear e0 e1 e2 e3 e4
  go_loopw [5, 6, 8, 9, 10] (fun ov nx _ _ _ wr => ∃ (out : List ByteArray) (N : List (PM × MA)) (f : Nat), Hid (RoI X w wr ov nx out N) ∧ Hid (R = rolesP l f out (N.map (·.1))) ∧ Hid (N.length + left l out ≤ f) ∧ Hid (out.length + 30 * (N.length + left l out) ≤ 930)) (fun ov nx _ _ _ wr => lenV nx + left l (strsAt wr ov))
  case atStart => exact ⟨[], [(t, a)], l.length + 1, HI2, HR0, Lib.hid (by have := left_le (l := l) []; simp; omega), Lib.hid (by have := left_le (l := l) []; have := HN.out; have := HS.out; simp; omega)⟩
  case round =>
    obtain ⟨out, N, f, HI, HR, HF, HC⟩ := hrel
    obtain ⟨nA, nc, hnx, hn1, hn2, hn3⟩ := HI.out.n.form
    have HNX := Lib.hid hnx
    rcases N with _ | ⟨x0, N0⟩
    · -- all are done
      have HRR : Hid (R = out) := Lib.hid (by rw [HR.out]; cases f <;> rfl)
      obtain ⟨vA, vc, hov, _⟩ := OG.form HI.out.o
      have HOV := Lib.hid hov
      have q0 : decide ((0 : Int) > 0) = false := by decide
      rw [hnx]
      simp only [List.length_nil]
      clear hnx hn1 hn2 hn3 hov
      go_wp2
      go_ret
      refine ⟨vA, vc, by rw [HRR.out, ← HOV.out]; rfl, by rw [HRR.out, ← HOV.out]; exact HI.out.o, HI.out.b⟩
    · obtain ⟨t1, a1⟩ := x0
      obtain ⟨g, off, hA, hgl, hcs⟩ := hn3 (by simp)
      obtain ⟨ds, hds⟩ : ∃ ds, ds = t1.ds := ⟨_, rfl⟩
      have HM1 := Lib.hid (HI.out.m (t1, a1) (by simp))
      have HDS : Hid (ds.length ≤ 30) := Lib.hid (by rw [hds]; exact HM1.out.2.ds)
      have c4 : wr.cell? ⟨g, off + 4, none⟩ = some (.slice a1.dA ds.length a1.dc) := hcs 4 _ (by rw [hds]; simp [mcs, Sea.PM.cs])
      have HD0 := Lib.hid hds
      have q0 : decide (((N0.length + 1 : Nat) : Int) > 0) = true := by rw [decide_eq_true_iff]; omega
      have q0' : decide ((0 : Int) < ((N0.length + 1 : Nat) : Int)) = true := by rw [decide_eq_true_iff]; omega
      have q1 : (0 : Int) < ((N0.length + 1 : Nat) : Int) := by omega
      obtain ⟨nl, hnl⟩ : ∃ nl, nl = N0.length + 1 := ⟨_, rfl⟩
      rw [← hnl] at q0 q0' q1
      have HNL := Lib.hid hnl
      have HNX2 : Hid (u6 = .slice (some ⟨g, off, none⟩) nl nc) := Lib.hid (by rw [hnx, hA, hnl]; rfl)
      rw [hnx, hA]
      simp only [List.length_cons]
      rw [← hnl]
      clear hnx hn1 hn2 hn3 hA hcs hds hnl
      go_wp2
      have HF0 : Hid (ds.length ≤ 30) := HDS
      clear c4 q0 q0' q1
      have HSTR : Hid (strsAt wr u5 = out) := Lib.hid (strsAt_og HI.out.o)
      go_loopw [5, 6, 8, 9, 10, 23] (fun ov nx _ _ _ i wr => ∃ (k : Nat) (out' : List ByteArray) (N' : List (PM × MA)), k ≤ ds.length ∧ i = .int .i64 (k : Int) ∧ Hid (RoI X w wr ov nx out' ((t1, a1) :: N')) ∧ Hid (addRoles l (ds.drop k) out' (N'.map (·.1)) = addRoles l ds out (N0.map (·.1))) ∧ Hid (out'.length ≤ out.length + k) ∧ Hid (N'.length + left l out' ≤ N0.length + left l out)) (fun _ _ _ _ _ i _ => ds.length - (intOf i).toNat)
      case atStart => exact ⟨0, out, N0, Nat.zero_le _, rfl, by have q := HI; rw [HNX2.out] at q; exact q, Lib.hid rfl, Lib.hid (Nat.le_refl _), Lib.hid (Nat.le_refl _)⟩
      case round =>
        obtain ⟨k, out', N', hk, rfl, HI', HAR, HOL, HNL'⟩ := hrel
        obtain ⟨vA, vc, hov, _⟩ := OG.form HI'.out.o
        obtain ⟨nA', nc', hnx', hnn1, hnn2, hnn3⟩ := HI'.out.n.form
        have HOV := Lib.hid hov
        have HNX' := Lib.hid hnx'
        rcases (by omega : k < ds.length ∨ k = ds.length) with hlt | heq
        · have q5 : decide ((k : Int) < (ds.length : Int)) = true := by rw [decide_eq_true_iff]; omega
          have q5' : decide (k < ds.length) = true := by rw [decide_eq_true_iff]; omega
          have hrd := (HI'.out.m (t1, a1) (by simp)).1.rd
          simp only at hrd
          rw [← HD0.out] at hrd
          obtain ⟨b, o, hA, hbl, hbx, hc⟩ := hrd (by omega)
          have HLT := Lib.hid hlt
          obtain ⟨d, hd, hck⟩ : ∃ d, d = ds[k] ∧ DelB X wr b (o + k * 6) d := ⟨_, rfl, hc k hlt⟩
          obtain ⟨da, hcs, hok⟩ := hck
          have d0 : wr.cell? ⟨b, o + k * 6, none⟩ = some (.string d.name) := hcs 0 (by omega)
          have d1 : wr.cell? ⟨b, o + k * 6 + 1, none⟩ = some (.slice da.kA d.rk.length da.kc) := hcs 1 (by omega)
          have d2 : wr.cell? ⟨b, o + k * 6 + 2, none⟩ = some (.int .i64 d.thr) := hcs 2 (by omega)
          have d3 : wr.cell? ⟨b, o + k * 6 + 3, none⟩ = some (.bool d.term) := hcs 3 (by omega)
          have d4 : wr.cell? ⟨b, o + k * 6 + 4, none⟩ = some (.slice da.pA d.paths.length da.pc) := hcs 4 (by omega)
          have d5 : wr.cell? ⟨b, o + k * 6 + 5, none⟩ = some (.slice da.xA d.prefs.length da.xc) := hcs 5 (by omega)
          rw [hA]
          have hki : (k : Int) < (ds.length : Int) := by omega
          have hk0 : (0 : Int) ≤ (k : Int) := by omega
          have hk9 : (k : Int) + 1 ≤ 100 := by have := HDS.out; omega
          have HDX := Lib.hid hd
          obtain ⟨WB, hWB⟩ : ∃ WB, WB = wr.alloc (.cells #[.string d.name, .slice da.kA d.rk.length da.kc, .int .i64 d.thr, .bool d.term, .slice da.pA d.paths.length da.pc, .slice da.xA d.prefs.length da.xc] 59) := ⟨_, rfl⟩
          have hbb : Below wr.heap.size wr WB := by rw [hWB]; exact (Below.refl _ _).alloc (Nat.le_refl _) _
          have hq : Blk WB wr.heap.size 59 #[.string d.name, .slice da.kA d.rk.length da.kc, .int .i64 d.thr, .bool d.term, .slice da.pA d.paths.length da.pc, .slice da.xA d.prefs.length da.xc] := by rw [hWB]; exact Blk.new _ _ _
          have HIB := Lib.hid (HI'.out.bel hbb)
          obtain ⟨cv, hcv⟩ : ∃ cv, cv = hasB out' d.name := ⟨_, rfl⟩
          have HOL9 : Hid (out'.length ≤ 1000) := Lib.hid (by have := HOL.out; have := HC.out; have := HDS.out; omega)
          have hcc := contains_any vA out'.length vc out' d.name WB (og_strv (by rw [← HOV.out]; exact HIB.out.o)) rfl (by have := HOL9.out; omega)
          rw [← hcv] at hcc
          have HCC := Lib.hid hcc
          have HCV := Lib.hid hcv.symm
          have HQ := Lib.hid hq
          have HWB := Lib.hid hWB
          rw [hov]
          clear hA hbl hbx hc hd hcs hok hbb hq hcc hcv hWB hov hnx' hnn1 hnn2 hnn3 hrd
          go_wp2_with fail
          rw [← HWB.out]
          refine HCC.out.mono ?_
          rintro e w3 ⟨rfl, hw3⟩
          rw [hw3]
          clear hw3 d0 d1 d2 d3 d4 d5
          cases cv with
          | true =>
            go_wp2
            go_roundw
            case rel => exact ⟨k + 1, out', N', by omega, by go_num, by rw [HOV.out] at HIB; exact HIB, Lib.hid (by rw [← addRoles_hit HLT.out HDX.out HCV.out]; exact HAR.out), Lib.hid (by have := HOL.out; omega), HNL'⟩
            case measure => simp [intOf]; omega
          | false =>
            have y0 : WB.cell? ⟨wr.heap.size, 0, none⟩ = some (.string d.name) := HQ.out.cell 0
            have HN7 := Lib.hid (reads_new WB 9 #[.string d.name])
            have HIA := Lib.hid (HIB.out.bel ((Below.refl _ _).alloc (Nat.le_refl _) (.cells #[.string d.name] 9)))
            have HOA : Hid (OG 9 1 (WB.alloc (.cells #[.string d.name] 9)) w.heap.size (.slice vA out'.length vc) out'.length (out'.map Value.string)) := Lib.hid (by rw [← HOV.out]; exact HIA.out.o)
            have HQA := Lib.hid (HQ.out.alloc (.cells #[.string d.name] 9))
            have hln : out'.length + 1 ≤ 1000000000 := by have := HOL9.out; omega
            have hszA : w.heap.size ≤ (WB.alloc (.cells #[.string d.name] 9)).heap.size := HIA.out.b.size
            have HONE : Hid (∀ u ∈ (#[.string d.name] : Array Value).toList, u.oneCell' = true) := Lib.hid (by simp [Value.oneCell'])
            have HPOST : Hid (∀ v9 w4, OG 9 1 w4 w.heap.size v9 (out'.length + 1) (out'.map Value.string ++ (#[.string d.name] : Array Value).toList) → (WB.alloc (.cells #[.string d.name] 9)).grownBy w4 (Value.slice vA out'.length vc).ownBlock →
                Hid (RoI X w w4 v9 u6 (out' ++ [d.name]) ((t1, a1) :: N')) ∧ w4.cell? ⟨wr.heap.size, 0, none⟩ = some (.string d.name)) := by
              refine Lib.hid fun v9 w4 hown hg => ?_
              refine ⟨Lib.hid (HIA.out.appO HX.out hown (by rw [HOV.out]; exact hg)), ?_⟩
              have hf : Fr (fun g => (Value.slice vA out'.length vc).ownBlock = some g) _ w4 := Fr.of_grown hg (fun g e => e)
              exact (HQA.out.fr hf (OG.far HOA.out HQA.out (by decide))).cell 0
            have HNOF := Lib.hid (fun w4 (hb : Below w.heap.size w w4) => nof_any X A n c l d.name w4 (HV.out.bel hb) HN.out HS.out)
            go_wp2_with (at_builtin; refine app_raw _ infoStrG Tryz.underlying32 (by omega) (by omega) rfl _ _ rfl w.heap.size (.slice vA out'.length vc) out'.length _ rfl HOA.out _ 1 1 _ rfl HN7.out HONE.out hln hszA ?_; clear HN7 hln y0 hszA; intro v9 w4 hown hg hat; obtain ⟨HI4, y4⟩ := HPOST.out v9 w4 hown hg; clear hown hg hat HPOST)
            refine (HNOF.out _ HI4.out.b).mono ?_
            rintro e w5 ⟨t2, a2, rfl, htt, hmo, hb5⟩
            unfold Sea.PM.val Sea.PM.cs
            obtain ⟨W6, hW6⟩ : ∃ W6, W6 = w5.alloc (.cells #[.int .i64 t2.ver, .int .i64 t2.exp, .slice a2.tA t2.ts.length a2.tc, .slice a2.kA t2.ks.length a2.kc, .slice a2.dA t2.ds.length a2.dc] 26) := ⟨_, rfl⟩
            have hb6 : Below w5.heap.size w5 W6 := by rw [hW6]; exact (Below.refl _ _).alloc (Nat.le_refl _) _
            have HI6 := Lib.hid ((HI4.out.bel hb5).bel hb6)
            have HQ6 : Hid (Blk W6 w5.heap.size 26 #[.int .i64 t2.ver, .int .i64 t2.exp, .slice a2.tA t2.ts.length a2.tc, .slice a2.kA t2.ks.length a2.kc, .slice a2.dA t2.ds.length a2.dc]) := Lib.hid (by rw [hW6]; exact Blk.new _ _ _)
            have HMO6 := Lib.hid (hmo.bel hb6)
            obtain ⟨ls, hls⟩ : ∃ ls, ls = loadP l d.name := ⟨_, rfl⟩
            rw [← hls] at htt ⊢
            have HLS := Lib.hid hls
            have HTT := Lib.hid htt
            have HW6 := Lib.hid hW6
            clear hb5 hb6 hmo htt hW6 hls y4 HNOF
            cases ls with
            | none =>
              have eq9 : (none : Option PM).isSome = false := rfl
              go_wp2
              rw [← HW6.out]
              go_roundw
              case rel => exact ⟨k + 1, out' ++ [d.name], N', by omega, by go_num, HI6, Lib.hid (by rw [← HAR.out, addRoles_new HLT.out HDX.out HCV.out, ← HLS.out]; simp), Lib.hid (by have := HOL.out; simp; omega), Lib.hid (by have := HNL'.out; have := left_snoc_le (l := l) out' d.name; omega)⟩
              case measure => simp [intOf]; omega
            | some tt =>
              have eq9 : (some tt : Option PM).isSome = true := rfl
              have HT2 : Hid (t2 = tt) := Lib.hid HTT.out
              have HGT : Hid (PMs t2) := Lib.hid (by rw [HT2.out]; exact loadP_good HGD.out HLS.out.symm)
              have HNA : Hid (Reads (W6.alloc (.cells (t2.cs a2).toArray 26)) (W6.alloc (.cells (t2.cs a2).toArray 26)).heap.size 5 (some ⟨w5.heap.size + 1, 0, none⟩) 1 (t2.cs a2)) := Lib.hid (by
                have q := reads_new W6 26 (t2.cs a2).toArray
                have hz6 : W6.heap.size = w5.heap.size + 1 := by rw [HW6.out]; simp
                rw [hz6] at q
                exact q)
              have HI7 := Lib.hid (HI6.out.bel ((Below.refl _ _).alloc (Nat.le_refl _) (.cells (t2.cs a2).toArray 26)))
              obtain ⟨ln2, hln2⟩ : ∃ ln2, ln2 = ((t1, a1) :: N').length := ⟨_, rfl⟩
              have hnx9 := HNX'.out
              rw [← hln2] at hnx9
              have HLA : Hid (LG 26 5 (W6.alloc (.cells (t2.cs a2).toArray 26)) w.heap.size (.slice nA' ln2 nc') ln2 (((t1, a1) :: N').flatMap mcs)) := Lib.hid (by
                have q := HI7.out.n
                rw [hnx9, ← hln2] at q
                exact q)
              have hlnA : ln2 + 1 ≤ 1000000000 := by have h1 := HNL'.out; have h2 := HC.out; simp only [List.length_cons] at h2 hln2; omega
              have hszA : w.heap.size ≤ (W6.alloc (.cells (t2.cs a2).toArray 26)).heap.size := HI7.out.b.size
              have HPO2 : Hid (∀ v9' w7, LG 26 5 w7 w.heap.size v9' (ln2 + 1) (((t1, a1) :: N').flatMap mcs ++ (t2.cs a2).toArray.toList) → (W6.alloc (.cells (t2.cs a2).toArray 26)).grownBy w7 (Value.slice nA' ln2 nc').ownBlock → Hid (RoI X w w7 v9 v9' (out' ++ [d.name]) ((t1, a1) :: (N' ++ [(t2, a2)])))) := Lib.hid (fun v9' w7 hown hg => Lib.hid (HI7.out.appN HX.out (by rw [← hln2]; exact hown) (by rw [hnx9]; exact hg) (HMO6.out.bel ((Below.refl _ _).alloc (Nat.le_refl _) _)) HGT.out))
              rw [hnx9]
              clear hln2 hnx9 HI7
              go_wp2_with (at_builtin; rw [← HW6.out]; refine app_lg _ infoTgs Tryz.underlying79 (by omega) (by omega) rfl _ _ rfl w.heap.size (.slice nA' ln2 nc') ln2 _ rfl HLA.out _ 1 1 _ rfl HNA.out (mcs_one (t2, a2)) (by omega) hlnA hszA ?_; clear HNA hlnA hszA HLA; intro v9' w7 hown hg hat; have HI9 := HPO2.out v9' w7 hown hg; clear hown hg hat HPO2)
              go_roundw
              case rel => exact ⟨k + 1, out' ++ [d.name], N' ++ [(t2, a2)], by omega, by go_num, HI9, Lib.hid (by rw [← HAR.out, addRoles_new HLT.out HDX.out HCV.out, ← HLS.out, HT2.out, List.map_append]; rfl), Lib.hid (by have := HOL.out; simp; omega), Lib.hid (by have h1 := HNL'.out; have h2 := left_snoc_lt HCV.out HLS.out.symm; simp; omega)⟩
              case measure => simp [intOf]; omega
        · have q5 : decide ((k : Int) < (ds.length : Int)) = false := by rw [decide_eq_false_iff_not]; omega
          have q5' : decide (k < ds.length) = false := by rw [decide_eq_false_iff_not]; omega
          have HEND : Hid (addRoles l ds out (N0.map (·.1)) = (out', N'.map (·.1))) := Lib.hid (by rw [← HAR.out, heq, List.drop_length]; rfl)
          have hnx2 := hnx'
          simp only [List.length_cons] at hnx2
          have htl := HI'.out.n
          rw [hnx2] at htl
          obtain ⟨g2, off2, hA2, hc1, hc2, ht1, ht2⟩ := LG.tail htl (by simp) (by omega)
          have HLE : Hid (N'.length + left l out' ≤ N0.length + left l out) := HNL'
          have HOL2 : Hid (out'.length ≤ out.length + 30) := Lib.hid (by have := HOL.out; have := HDS.out; omega)
          obtain ⟨f', hf'⟩ : ∃ f', f = f' + 1 := ⟨f - 1, by have := HF.out; simp at this; omega⟩
          have HRN : Hid (R = rolesP l f' out' (N'.map (·.1))) := Lib.hid (by
            rw [HR.out, hf']
            show rolesP l f' (addRoles l t1.ds out (N0.map (·.1))).1 (addRoles l t1.ds out (N0.map (·.1))).2 = _
            rw [← HD0.out, HEND.out])
          have HFN : Hid (N'.length + left l out' ≤ f') := Lib.hid (by have h1 := HF.out; have h2 := HLE.out; simp only [List.length_cons] at h1; omega)
          have HCN : Hid (out'.length + 30 * (N'.length + left l out') ≤ 930) := Lib.hid (by have h1 := HC.out; have h2 := HLE.out; have h3 := HOL2.out; simp only [List.length_cons] at h1; omega)
          have HRIN : Hid (∀ v, LG 26 5 wr w.heap.size v N'.length (N'.flatMap mcs) → RoI X w wr u5 v out' N') := Lib.hid (fun v hv => ⟨HI'.out.o, hv, fun x hx => HI'.out.m x (by simp [hx]), HI'.out.b⟩)
          have hdrop : (((t1, a1) :: N').flatMap mcs).drop 5 = N'.flatMap mcs := by rw [List.flatMap_cons]; exact List.drop_left' (mcs_len _)
          have hln : N'.length + 1 - 1 = N'.length := by omega
          rw [hdrop] at ht1 ht2
          rw [hln] at ht1 ht2
          have HT1 := Lib.hid ht1
          have HT2 := Lib.hid ht2
          rw [hnx2, hA2]
          obtain ⟨nl2, hnl2⟩ : ∃ nl2, nl2 = N'.length + 1 := ⟨_, rfl⟩
          have HNL2 := Lib.hid hnl2
          have HSB : Hid (nl2 - 1 = N'.length) := Lib.hid (by omega)
          rw [← hnl2] at hc1 ⊢
          have hz1 : (1 : Int) ≤ (nl2 : Int) := by omega
          have hz2 : (1 : Int) ≤ (nc' : Int) := by omega
          rcases (by omega : nc' = 1 ∨ nc' ≠ 1) with hone | hmany
          · clear heq hnx' hnx2 hnn1 hnn2 hnn3 htl ht1 ht2 hA2 hov hnl2 hc1 hc2 hf'
            go_wp2
            go_roundw
            case rel => exact ⟨out', N', f', Lib.hid (HRIN.out _ (by have q := HT1.out hone; rw [← HSB.out] at q; rw [← HSB.out]; exact q)), HRN, HFN, HCN⟩
            case measure =>
              rw [HSTR.out, strsAt_og HI'.out.o]
              have h1 := HSB.out
              have h2 := HLE.out
              have h3 := HNL.out
              show nl2 - 1 + _ < nl + _
              omega
          · clear heq hnx' hnx2 hnn1 hnn2 hnn3 htl ht1 ht2 hA2 hov hnl2 hf'
            go_wp2
            go_roundw
            case rel => exact ⟨out', N', f', Lib.hid (HRIN.out _ (by have q := HT2.out hmany; rw [← HSB.out] at q; rw [← HSB.out]; exact q)), HRN, HFN, HCN⟩
            case measure =>
              rw [HSTR.out, strsAt_og HI'.out.o]
              have h1 := HSB.out
              have h2 := HLE.out
              have h3 := HNL.out
              show nl2 - 1 + _ < nl + _
              omega
end Go.Proofs.YthidjdjcjjbpbaaGreatDoor
