/-
  search: the search, with any loader.
-/
import Derived.WalkMore
import Derived.Test.YthidjdjcjjbpbaaGreatDoorSeU4
import Derived.Test.YthidjdjcjjbpbaaGreatDoorSeW1
namespace Go.Proofs.YthidjdjcjjbpbaaGreatDoor
open Go.RowKit Sea Glob
set_option linter.unusedVariables false
set_option linter.unusedSimpArgs false

def targetsB : ByteArray := ⟨#[116, 97, 114, 103, 101, 116, 115]⟩
/-- what a search finds -/
def searchP (ld : Nat → ByteArray → Except Int PM) (path : ByteArray) (most : Int) (t0 : PM) : Res := if mayS path most = 0 then walkP (covP path) path most ld 4 200 33 t0 [] [targetsB] [] else ⟨none, [], mayS path most, []⟩
def WalkP (X : Nat → Prop) (Inv : World → (Nat → Prop) → List ByteArray → List (List PK) → Prop) (R : Res) (w : World) (e : Ending) (w' : World) : Prop :=
  ∃ vA vc S' V, e = .returned (.tuple #[ptV R.x, .slice vA R.vis.length vc, .int .i64 R.e]) ∧ OG 9 1 w' w.heap.size (.slice vA R.vis.length vc) R.vis.length (R.vis.map Value.string) ∧ Inv w' S' V R.ask ∧ (R.vis ≠ [] → V = R.vis) ∧ (R.vis = [] → V = [targetsB]) ∧ Fr X w w'
/-- between two visits -/
structure WkI (X : Nat → Prop) (ld : Nat → ByteArray → Except Int PM) (Inv : World → (Nat → Prop) → List ByteArray → List (List PK) → Prop) (path : ByteArray) (most : Int) (R : Res) (w0 : World) (B8 m : Nat) (wr : World) (B14 : Nat) (t : PM) (a : MA) (vis : List ByteArray) (s : List TE) (S : Nat → Prop) (ask : List (List PK)) (f : Nat) : Prop where
  b14 : Blk wr B14 26 #[.int .i64 t.ver, .int .i64 t.exp, .slice a.tA t.ts.length a.tc, .slice a.kA t.ks.length a.kc, .slice a.dA t.ds.length a.dc]
  n14 : w0.heap.size ≤ B14
  b8 : Blk wr B8 31 #[.string ⟨#[]⟩, .int .i64 0, .string ⟨#[]⟩]
  mo : MOk X wr t a
  gd : PMs t ∧ PMz t ∧ PKo t
  st : StkAt wr m w0.heap.size vis s
  iv : Inv wr S vis ask
  sv : ∀ x vv, Blk wr m 67 #[x, vv] → ∀ b, S b → ¬ vv.ownBlock = some b
  rs : R = walkP (covP path) path most ld 4 200 f t (s.map TE.todo) vis ask
  v1 : 1 ≤ vis.length ∧ (vis.length : Int) ≤ most ∧ most < f + vis.length
  sl : s.length ≤ 30 * vis.length
  fx : Fr X w0 wr
def lenAt (w : World) (p : Addr) : Nat := match w.cell? p with | some (.slice _ n _) => n | _ => 0
section
variable {X : Nat → Prop} {fn : Nat} {c : Value} {ld : Nat → ByteArray → Except Int PM} {Inv : World → (Nat → Prop) → List ByteArray → List (List PK) → Prop} {path : ByteArray} {most : Int} {R : Res} {w0 wr w' : World} {B8 m B14 f : Nat} {t : PM} {a : MA} {vis : List ByteArray} {s : List TE} {S : Nat → Prop} {ask : List (List PK)}
theorem StkAt.vv (h : StkAt wr m B8 vis s) : ∃ A c vA vc, Blk wr m 67 #[.slice A s.length c, .slice vA vis.length vc] ∧ OG 9 1 wr B8 (.slice vA vis.length vc) vis.length (vis.map Value.string) ∧ vis.length ≤ vc ∧ vc ≤ maxLen := by
  obtain ⟨A, c, vv, h1, _, _, _, _, h6⟩ := h.blk
  obtain ⟨vA, vc, rfl, g1, g2, _⟩ := OG.form h6
  exact ⟨A, c, vA, vc, h1, h6, g1, g2⟩
/-- what is there whatever is to be visited: at a later world, where one of the search's own blocks of another kind was written -/
structure WkJ (X : Nat → Prop) (Inv : World → (Nat → Prop) → List ByteArray → List (List PK) → Prop) (w0 : World) (B8 m : Nat) (wr : World) (B14 : Nat) (t : PM) (a : MA) (vis : List ByteArray) (s : List TE) (S : Nat → Prop) (ask : List (List PK)) : Prop where
  b14 : Blk wr B14 26 #[.int .i64 t.ver, .int .i64 t.exp, .slice a.tA t.ts.length a.tc, .slice a.kA t.ks.length a.kc, .slice a.dA t.ds.length a.dc]
  b8 : Blk wr B8 31 #[.string ⟨#[]⟩, .int .i64 0, .string ⟨#[]⟩]
  mo : MOk X wr t a
  st : StkAt wr m w0.heap.size vis s
  iv : Inv wr S vis ask
  sv : ∀ x vv, Blk wr m 67 #[x, vv] → ∀ b, S b → ¬ vv.ownBlock = some b
  fx : Fr X w0 wr
theorem WkI.j (h : WkI X ld Inv path most R w0 B8 m wr B14 t a vis s S ask f) : WkJ X Inv w0 B8 m wr B14 t a vis s S ask := ⟨h.b14, h.b8, h.mo, h.st, h.iv, h.sv, h.fx⟩
theorem WkJ.bel (hL : Ldr X fn c ld Inv) (h : WkJ X Inv w0 B8 m wr B14 t a vis s S ask) (hb : Below wr.heap.size wr w') : WkJ X Inv w0 B8 m w' B14 t a vis s S ask := by
  obtain ⟨A, c', vA, vc, hm, _⟩ := h.st.vv
  refine ⟨h.b14.below hb h.b14.lt, h.b8.below hb h.b8.lt, h.mo.bel hb, h.st.below hb, hL.bel h.iv hb, fun x vv hx => h.sv x vv ?_, h.fx.below hb⟩
  have e := blk_eq (hm.below hb hm.lt) hx
  simp only [Array.mk.injEq, List.cons.injEq, and_true] at e
  rw [← e.1, ← e.2]
  exact hm
/-- the stack was written -/
theorem WkJ.stk (hL : Ldr X fn c ld Inv) (h : WkJ X Inv w0 B8 m wr B14 t a vis s S ask) (hf : Fr (· = m) wr w') (hX : X m) {s' : List TE} (hs : StkAt w' m w0.heap.size vis s') (hv : SameV m wr w') : WkJ X Inv w0 B8 m w' B14 t a vis s' S ask := by
  obtain ⟨A, c', vA, vc, hm, _⟩ := h.st.vv
  obtain ⟨x', hx'⟩ := hv _ _ hm
  refine ⟨h.b14.fr hf (h.b14.ne_ hm (by decide)), h.b8.fr hf (h.b8.ne_ hm (by decide)), h.mo.fr (hf.mono (fun k _ e => e ▸ hX)), hs, hL.one h.iv hm hX ⟨by decide, by decide, by decide, by decide⟩ hf, fun x vv hx => ?_, h.fx.trans (hf.mono (fun k _ e => e ▸ hX))⟩
  have e := blk_eq hx' hx
  simp only [Array.mk.injEq, List.cons.injEq, and_true] at e
  rw [← e.2]
  exact h.sv _ _ hm
theorem walkP_found {f : Nat} {t : PM} {s : List Todo} {vis : List ByteArray} {ask : List (List PK)} {cov : PD → Bool} {path : ByteArray} {most eN eM : Int} {ld : Nat → ByteArray → Except Int PM} {x : PT} (h : findT path t.ts = some x) : walkP cov path most ld eN eM (f + 1) t s vis ask = ⟨some x, vis, 0, ask⟩ := by
  conv => lhs; unfold walkP
  rw [h]
theorem walkP_none {f : Nat} {t : PM} {s : List Todo} {vis : List ByteArray} {ask : List (List PK)} {cov : PD → Bool} {path : ByteArray} {most eN eM : Int} {ld : Nat → ByteArray → Except Int PM} (h : findT path t.ts = none) (hr : rest vis (pushP cov t s) = []) : walkP cov path most ld eN eM (f + 1) t s vis ask = ⟨none, vis, eN, ask⟩ := by
  conv => lhs; unfold walkP
  rw [h, hr]
theorem walkP_many {f : Nat} {t : PM} {s r : List Todo} {vis : List ByteArray} {ask : List (List PK)} {cov : PD → Bool} {path : ByteArray} {most eN eM : Int} {ld : Nat → ByteArray → Except Int PM} {x : Todo} (h : findT path t.ts = none) (hr : rest vis (pushP cov t s) = x :: r) (hm : (vis.length : Int) = most) : walkP cov path most ld eN eM (f + 1) t s vis ask = ⟨none, vis, eM, ask⟩ := by
  conv => lhs; unfold walkP
  rw [h, hr]
  simp only
  rw [if_pos hm]
theorem walkP_err {f : Nat} {t : PM} {s r : List Todo} {vis : List ByteArray} {ask : List (List PK)} {cov : PD → Bool} {path : ByteArray} {most eN eM : Int} {ld : Nat → ByteArray → Except Int PM} {x : Todo} {e : Int} (h : findT path t.ts = none) (hr : rest vis (pushP cov t s) = x :: r) (hm : ¬ (vis.length : Int) = most) (hl : ld vis.length x.1.name = .error e) : walkP cov path most ld eN eM (f + 1) t s vis ask = ⟨none, vis ++ [x.1.name], e, ask ++ [x.2]⟩ := by
  conv => lhs; unfold walkP
  rw [h, hr]
  simp only
  rw [if_neg hm, hl]
theorem walkP_go {f : Nat} {t t' : PM} {s r : List Todo} {vis : List ByteArray} {ask : List (List PK)} {cov : PD → Bool} {path : ByteArray} {most eN eM : Int} {ld : Nat → ByteArray → Except Int PM} {x : Todo} (h : findT path t.ts = none) (hr : rest vis (pushP cov t s) = x :: r) (hm : ¬ (vis.length : Int) = most) (hl : ld vis.length x.1.name = .ok t') : walkP cov path most ld eN eM (f + 1) t s vis ask = walkP cov path most ld eN eM f t' r (vis ++ [x.1.name]) (ask ++ [x.2]) := by
  conv => lhs; unfold walkP
  rw [h, hr]
  simp only
  rw [if_neg hm, hl]
/-- the end of a search -/
theorem walk_end {WZ w9 : World} {lv : Value} {vA : Option Addr} {vc n : Nat} {c8 : Array Value} {x : Option PT} {e : Int} (hL : Ldr X fn c ld Inv) (hm : Blk WZ m 67 #[lv, .slice vA n vc]) (hog : OG 9 1 WZ w0.heap.size (.slice vA n vc) n (vis.map Value.string)) (hn : n = vis.length) (hb8 : Blk WZ B8 31 c8) (hX : X B8) (hiv : Inv WZ S vis ask) (hfx : Fr X w0 WZ) (hf : Fr (· = B8) WZ w9) (hR : R = ⟨x, vis, e, ask⟩) (hne : vis ≠ []) : WalkP X Inv R w0 (.returned (.tuple #[ptV x, .slice vA n vc, .int .i64 e])) w9 := by
  subst hn hR
  exact ⟨vA, vc, S, vis, rfl, OG.frT hog hf (fun g cs hb e => by subst e; exact hb.ne_ hb8 (by decide) rfl), hL.one hiv hb8 hX ⟨by decide, by decide, by decide, by decide⟩ hf, fun _ => rfl, fun q => absurd q hne, hfx.trans (hf.mono (fun k _ e => e ▸ hX))⟩
/-- one more was visited -/
theorem StkAt.visit {WZ w3 w4 : World} {m N n : Nat} {vis : List ByteArray} {s : List TE} {lv v9 : Value} {vA : Option Addr} {vc : Nat} {xs : List Value} {x : ByteArray} (h : StkAt WZ m N vis s) (hm : Blk WZ m 67 #[lv, .slice vA n vc]) (hb : Below WZ.heap.size WZ w3) (ho : OG 9 1 w3 N (.slice vA n vc) n xs) (hf : Fr (fun g => (Value.slice vA n vc).ownBlock = some g) w3 w4) (hm4 : Blk w4 m 67 #[lv, .slice vA n vc]) (ho4 : OG 9 1 w4 N v9 (vis.length + 1) (vis.map Value.string ++ [.string x])) : StkAt (w4.setCell ⟨m, 1, none⟩ v9) m N (vis ++ [x]) s := by
  obtain ⟨A, c, vv, h1, h2, h3, h4, h5, h6⟩ := (h.below hb).blk
  have e := blk_eq (hm.below hb hm.lt) h1
  simp only [Array.mk.injEq, List.cons.injEq, and_true] at e
  have hfm : Fr (fun b => b = m) w4 (w4.setCell ⟨m, 1, none⟩ v9) := fr_at _ _ _ _
  have hall : Fr (fun g => (Value.slice vA n vc).ownBlock = some g ∨ g = m) w3 (w4.setCell ⟨m, 1, none⟩ v9) := (hf.mono (fun k _ e => .inl e)).trans (hfm.mono (fun k _ e => .inr e))
  have key : ∀ t, t ≠ 9 → t ≠ 67 → ∀ g cs, Blk w3 g t cs → ¬ ((Value.slice vA n vc).ownBlock = some g ∨ g = m) := fun t t1 t2 g cs hbk q => by
    rcases q with q | q
    · exact OG.far ho hbk t1 q
    · subst q; exact hbk.ne_ h1 t2 rfl
  have hset := hm4.set_ 1 v9
  simp at hset
  rw [e.1] at hset
  refine ⟨⟨A, c, v9, hset, h2, h3, (Reads.fr h4 hall (Nat.le_refl _) (fun ad e => by obtain ⟨_, _, cs, hc⟩ := h5 ad e; exact key _ (by decide) (by decide) _ _ hc)).more hall.size, fun ad e => ?_, ?_⟩, fun e he => ((h.below hb).ok e he).frT hall (key _ (by decide) (by decide))⟩
  · obtain ⟨g1, g2, cs, hc⟩ := h5 ad e
    exact ⟨g1, g2, cs, hc.fr hall (key _ (by decide) (by decide) _ _ hc)⟩
  · rw [List.length_append, List.map_append]
    exact OG.frT ho4 hfm (fun g cs hbk q => by subst q; exact hbk.ne_ hm4 (by decide) rfl)
theorem lenAt_eq {w : World} {p : Addr} {A : Option Addr} {n c : Nat} (h : w.cell? p = some (.slice A n c)) : lenAt w p = n := by unfold lenAt; rw [h]
/-- the row of those visited was written -/
theorem Ldr.row (h : Ldr X fn c ld Inv) (hi : Inv wr S vis ask) {vv : Value} {n : Nat} {xs : List Value} (ho : OG 9 1 wr w0.heap.size vv n xs) (hX : ∀ b, w0.heap.size ≤ b → X b) (hsv : ∀ b, S b → ¬ vv.ownBlock = some b) (hf : Fr (fun g => vv.ownBlock = some g) wr w') : Inv w' S vis ask :=
  h.keep _ hi hf (fun b _ e => ⟨hX b (OG.ge ho b e), fun q => hsv b q e, fun cs q => OG.far ho q (by decide) e⟩)
end
set_option maxRecDepth 100000 in
set_option maxHeartbeats 16000000 in
theorem walk_any (X : Nat → Prop) (fn : Nat) (c : Value) (ld : Nat → ByteArray → Except Int PM) (Inv : World → (Nat → Prop) → List ByteArray → List (List PK) → Prop) (hL : Ldr X fn c ld Inv) (t0 : PM) (a0 : MA) (path : ByteArray) (most : Int) (w : World) (S0 : Nat → Prop) (h : MOk X w t0 a0) (hg : PMs t0 ∧ PMz t0 ∧ PKo t0) (hp : path.size ≤ 1000) (hT : Tbs w) (hX : ∀ b, w.heap.size ≤ b → X b) (hTX : ∀ w', Fr X w w' → Tbs w') (hI : Inv w S0 [targetsB] []) (hm63 : -9223372036854775808 ≤ most ∧ most ≤ 9223372036854775807) :
    Calls Tryz.prog 12 #[t0.val a0, .string path, .int .i64 most, .func (.func fn) #[c] #[]] w fun e w' => PF (WalkP X Inv (searchP ld path most t0) w) e w' := by
  have eg := hL.ent
  obtain ⟨W2, hW2⟩ : ∃ W2, W2 = (w.alloc (.cells #[.int .i64 t0.ver, .int .i64 t0.exp, .slice a0.tA t0.ts.length a0.tc, .slice a0.kA t0.ks.length a0.kc, .slice a0.dA t0.ds.length a0.dc] 26)).alloc (.cells #[.string ⟨#[]⟩, .int .i64 0, .string ⟨#[]⟩] 31) := ⟨_, rfl⟩
  have hb2 : Below w.heap.size w W2 := by rw [hW2]; exact ((Below.refl _ _).alloc (Nat.le_refl _) _).alloc (by simp) _
  have hk4 : Blk W2 w.heap.size 26 #[.int .i64 t0.ver, .int .i64 t0.exp, .slice a0.tA t0.ts.length a0.tc, .slice a0.kA t0.ks.length a0.kc, .slice a0.dA t0.ds.length a0.dc] := by rw [hW2]; exact (Blk.new _ _ _).alloc _
  have hk8 : Blk W2 (w.heap.size + 1) 31 #[.string ⟨#[]⟩, .int .i64 0, .string ⟨#[]⟩] := by
    rw [hW2]
    have h2 := Blk.new (w.alloc (.cells #[.int .i64 t0.ver, .int .i64 t0.exp, .slice a0.tA t0.ts.length a0.tc, .slice a0.kA t0.ks.length a0.kc, .slice a0.dA t0.ds.length a0.dc] 26)) 31 #[.string ⟨#[]⟩, .int .i64 0, .string ⟨#[]⟩]
    simpa using h2
  have hmay := smay_any path most W2 hp (hT.bel hb2)
  obtain ⟨R, hR⟩ : ∃ R, R = searchP ld path most t0 := ⟨_, rfl⟩
  rw [← hR]
  obtain ⟨en, hen⟩ : ∃ en, en = mayS path most := ⟨_, rfl⟩
  rw [← hen] at hmay
  have HR : Hid (R = if en = 0 then walkP (covP path) path most ld 4 200 33 t0 [] [targetsB] [] else ⟨none, [], en, []⟩) := Lib.hid (by rw [hR, hen]; rfl)
  have HEN := Lib.hid hen
  have HMAY := Lib.hid hmay
  have HL := Lib.hid hL
  have HV := Lib.hid h
  have HGD := Lib.hid hg
  have HPS := Lib.hid hp
  have HX := Lib.hid hX
  have HTX := Lib.hid hTX
  have HI0 := Lib.hid hI
  have HB2 := Lib.hid hb2
  have HK4 := Lib.hid hk4
  have HK8 := Lib.hid hk8
  have HW2 := Lib.hid hW2
  have HM63 := Lib.hid hm63
  unfold Sea.PM.val Sea.PM.cs
  clear hW2 hb2 hk4 hk8 hmay hR hL h hg hp hX hTX hI hT hen hm63
  by_cases hen : en = 0
  rotate_left
  · have HI : Hid (R = ⟨none, [], en, []⟩) := Lib.hid (by rw [HR.out, if_neg hen])
    have q1 : (en == 0) = false := by rw [beq_eq_false_iff_ne]; exact hen
    have q2 : decide (en = 0) = false := by rw [decide_eq_false_iff_not]; exact hen
    clear hen
    go_enter Tryz.func12, Tryz.ntmps12
    go_wp2
    rw [← HW2.out]
    go_step3
    go_wp2_with fail
    refine HMAY.out.mono ?_
    rintro e w3 ⟨rfl, hb3⟩
    have HB3 : Hid (Below w.heap.size w w3) := Lib.hid (HB2.out.trans (hb3.mono HB2.out.size))
    have HK83 := Lib.hid (HK8.out.below hb3 HK8.out.lt)
    have z0 : w3.cell? ⟨w.heap.size + 1, 0, none⟩ = some (.string ⟨#[]⟩) := HK83.out.cell 0
    have f0 : w3.frozen? ⟨w.heap.size + 1, 0, none⟩ = false := HK83.out.frozen 0
    have z1 : w3.cell? ⟨w.heap.size + 1, 1, none⟩ = some (.int .i64 0) := HK83.out.cell 1
    have f1 : w3.frozen? ⟨w.heap.size + 1, 1, none⟩ = false := HK83.out.frozen 1
    have z2 : w3.cell? ⟨w.heap.size + 1, 2, none⟩ = some (.string ⟨#[]⟩) := HK83.out.cell 2
    have f2 : w3.frozen? ⟨w.heap.size + 1, 2, none⟩ = false := HK83.out.frozen 2
    clear hb3
    go_wp2
    have HF := Lib.hid (((HK83.out.set_ 0 (.string ⟨#[]⟩)).set_ 1 (.int .i64 0)).set_ 2 (.string ⟨#[]⟩))
    have k0 := HF.out.cell 0
    have k1 := HF.out.cell 1
    have k2 := HF.out.cell 2
    simp at k0 k1 k2
    try rw [Exit.noGoto_ret]
    refine bodyPost_ret (v := .tuple #[ptV none, .slice none 0 0, .int .i64 en]) (by simp [results, Tryz.results12, go_sem, k0, k1, k2, ptV]) rfl ?_
    have hbz := ((HB3.out.setCell (p := ⟨w.heap.size + 1, 0, none⟩) (Nat.le_succ _) (.string ⟨#[]⟩)).setCell (p := ⟨w.heap.size + 1, 1, none⟩) (Nat.le_succ _) (.int .i64 0)).setCell (p := ⟨w.heap.size + 1, 2, none⟩) (Nat.le_succ _) (.string ⟨#[]⟩)
    rw [HI.out]
    exact ⟨none, 0, S0, [targetsB], rfl, OG.nil _ _ _ _, HL.out.bel HI0.out hbz, fun q => absurd rfl q, fun _ => rfl, Fr.of_below hbz⟩
  · have hmv : mayS path most = 0 := by rw [← HEN.out]; exact hen
    have HMO : Hid (1 ≤ most ∧ most ≤ 32) := Lib.hid (by
      unfold mayS at hmv
      split at hmv
      · cases hmv
      · split at hmv
        · cases hmv
        · omega)
    have HI : Hid (R = walkP (covP path) path most ld 4 200 33 t0 [] [targetsB] []) := Lib.hid (by rw [HR.out, if_pos hen])
    subst hen
    clear hmv
    go_enter Tryz.func12, Tryz.ntmps12
    go_wp2
    rw [← HW2.out]
    go_step3
    go_wp2_with fail
    refine HMAY.out.mono ?_
    rintro e w3 ⟨rfl, hb3⟩
    have HB3 : Hid (Below w.heap.size w w3) := Lib.hid (HB2.out.trans (hb3.mono HB2.out.size))
    have HK83 := Lib.hid (HK8.out.below hb3 HK8.out.lt)
    have HK43 := Lib.hid (HK4.out.below hb3 HK4.out.lt)
    obtain ⟨m, hm⟩ : ∃ m, m = w3.heap.size + 1 := ⟨_, rfl⟩
    obtain ⟨W6, hW6⟩ : ∃ W6, W6 = ((w3.alloc (.cells #[.string ⟨#[116, 97, 114, 103, 101, 116, 115]⟩] 9)).alloc (.cells #[.slice none 0 0, .slice (some ⟨w3.heap.size, 0, none⟩) 1 1] 67)).alloc (.cells #[.int .i64 t0.ver, .int .i64 t0.exp, .slice a0.tA t0.ts.length a0.tc, .slice a0.kA t0.ks.length a0.kc, .slice a0.dA t0.ds.length a0.dc] 26) := ⟨_, rfl⟩
    have hz3 := HB3.out.size
    have hb6 : Below w3.heap.size w3 W6 := by rw [hW6]; exact (((Below.refl _ _).alloc (Nat.le_refl _) _).alloc (by simp) _).alloc (by simp; omega) _
    have HB6 : Hid (Below w.heap.size w W6) := Lib.hid (HB3.out.trans (hb6.mono hz3))
    have hst : Blk W6 w3.heap.size 9 #[.string ⟨#[116, 97, 114, 103, 101, 116, 115]⟩] := by rw [hW6]; exact ((Blk.new _ _ _).alloc _).alloc _
    have hsk : Blk W6 m 67 #[.slice none 0 0, .slice (some ⟨w3.heap.size, 0, none⟩) 1 1] := by
      rw [hW6, hm]
      have h2 := (Blk.new (w3.alloc (.cells #[.string ⟨#[116, 97, 114, 103, 101, 116, 115]⟩] 9)) 67 #[.slice none 0 0, .slice (some ⟨w3.heap.size, 0, none⟩) 1 1]).alloc (.cells #[.int .i64 t0.ver, .int .i64 t0.exp, .slice a0.tA t0.ts.length a0.tc, .slice a0.kA t0.ks.length a0.kc, .slice a0.dA t0.ds.length a0.dc] 26)
      simpa using h2
    have h14 : Blk W6 (w3.heap.size + 1 + 1) 26 #[.int .i64 t0.ver, .int .i64 t0.exp, .slice a0.tA t0.ts.length a0.tc, .slice a0.kA t0.ks.length a0.kc, .slice a0.dA t0.ds.length a0.dc] := by
      rw [hW6]
      have h2 := Blk.new ((w3.alloc (.cells #[.string ⟨#[116, 97, 114, 103, 101, 116, 115]⟩] 9)).alloc (.cells #[.slice none 0 0, .slice (some ⟨w3.heap.size, 0, none⟩) 1 1] 67)) 26 #[.int .i64 t0.ver, .int .i64 t0.exp, .slice a0.tA t0.ts.length a0.tc, .slice a0.kA t0.ks.length a0.kc, .slice a0.dA t0.ds.length a0.dc]
      simpa using h2
    have HMN : Hid (w.heap.size ≤ m) := Lib.hid (by omega)
    have HWK : Hid (WkI X ld Inv path most R w (w.heap.size + 1) m W6 (w3.heap.size + 1 + 1) t0 a0 [targetsB] [] S0 [] 33) := Lib.hid (by
      have hiv := HL.out.bel HI0.out HB6.out
      refine ⟨h14, by omega, HK83.out.below hb6 HK83.out.lt, HV.out.bel HB6.out, HGD.out, ⟨⟨none, 0, .slice (some ⟨w3.heap.size, 0, none⟩) 1 1, hsk, Nat.le_refl _, by simp [maxLen], Reads.none_, fun ad e => (by cases e), ?_⟩, fun e he => by cases he⟩, hiv, ?_, HI.out, ⟨by simp, by have := HMO.out; simp; omega, by have := HMO.out; simp; omega⟩, by simp, Fr.of_below HB6.out⟩
      · exact ⟨rfl, .inr ⟨w3.heap.size, 1, #[.string ⟨#[116, 97, 114, 103, 101, 116, 115]⟩], rfl, hz3, hst, Nat.le_refl _, by simp [maxLen], rfl, rfl⟩⟩
      · intro x vv hx b hb
        have e := blk_eq hsk hx
        simp only [Array.mk.injEq, List.cons.injEq, and_true] at e
        rw [← e.2]
        intro q
        have q : w3.heap.size = b := by simpa [Value.ownBlock] using q
        obtain ⟨_, t', cs', hb', _⟩ := HL.out.typ (HL.out.bel HI0.out HB3.out) b hb
        have := hb'.lt
        omega)
    have e0 : ((w3.alloc (.cells #[.string ⟨#[116, 97, 114, 103, 101, 116, 115]⟩] 9)).alloc (.cells #[.slice none 0 0, .slice (some ⟨w3.heap.size, 0, none⟩) 1 1] 67)).cell? ⟨w.heap.size, 0, none⟩ = some (.int .i64 t0.ver) := ((HK43.out.alloc _).alloc _).cell 0
    have e1 : ((w3.alloc (.cells #[.string ⟨#[116, 97, 114, 103, 101, 116, 115]⟩] 9)).alloc (.cells #[.slice none 0 0, .slice (some ⟨w3.heap.size, 0, none⟩) 1 1] 67)).cell? ⟨w.heap.size, 1, none⟩ = some (.int .i64 t0.exp) := ((HK43.out.alloc _).alloc _).cell 1
    have e2 : ((w3.alloc (.cells #[.string ⟨#[116, 97, 114, 103, 101, 116, 115]⟩] 9)).alloc (.cells #[.slice none 0 0, .slice (some ⟨w3.heap.size, 0, none⟩) 1 1] 67)).cell? ⟨w.heap.size, 2, none⟩ = some (.slice a0.tA t0.ts.length a0.tc) := ((HK43.out.alloc _).alloc _).cell 2
    have e3 : ((w3.alloc (.cells #[.string ⟨#[116, 97, 114, 103, 101, 116, 115]⟩] 9)).alloc (.cells #[.slice none 0 0, .slice (some ⟨w3.heap.size, 0, none⟩) 1 1] 67)).cell? ⟨w.heap.size, 3, none⟩ = some (.slice a0.kA t0.ks.length a0.kc) := ((HK43.out.alloc _).alloc _).cell 3
    have e4 : ((w3.alloc (.cells #[.string ⟨#[116, 97, 114, 103, 101, 116, 115]⟩] 9)).alloc (.cells #[.slice none 0 0, .slice (some ⟨w3.heap.size, 0, none⟩) 1 1] 67)).cell? ⟨w.heap.size, 4, none⟩ = some (.slice a0.dA t0.ds.length a0.dc) := ((HK43.out.alloc _).alloc _).cell 4
    have HM := Lib.hid hm
    have HW6 := Lib.hid hW6
    clear hb3 hb6 hst hsk h14 hW6 hz3 hm
    go_wp2
    go_step3
    go_wp2
    rw [← HW6.out, ← HM.out]
    clear e0 e1 e2 e3 e4
    go_loopw [13, 14, 15, 16, 17, 18] (fun _ b14 _ _ _ _ wr => ∃ (B14 : Nat) (t : PM) (a : MA) (vis : List ByteArray) (s : List TE) (S : Nat → Prop) (ask : List (List PK)) (f : Nat), b14 = .pointer (some ⟨B14, 0, none⟩) ∧ Hid (WkI X ld Inv path most R w (w.heap.size + 1) m wr B14 t a vis s S ask f)) (fun _ _ _ _ _ _ wr => 100 - lenAt wr ⟨m, 1, none⟩)
    case atStart => exact ⟨m + 1, t0, a0, [targetsB], [], S0, [], 33, rfl, by have q := HWK; rw [← HM.out] at q; exact q⟩
    case round =>
      obtain ⟨B14, t, a, vis, s, S, ask, f, rfl, HK⟩ := hrel
      have HFI := Lib.hid (tfind_any X t a path wr HK.out.mo HK.out.gd.1.ts)
      obtain ⟨g0, hg0⟩ : ∃ g0, f = g0 + 1 := ⟨f - 1, by have := HK.out.v1; omega⟩
      subst hg0
      have e0 : wr.cell? ⟨B14, 0, none⟩ = some (.int .i64 t.ver) := HK.out.b14.cell 0
      have e1 : wr.cell? ⟨B14, 1, none⟩ = some (.int .i64 t.exp) := HK.out.b14.cell 1
      have e2 : wr.cell? ⟨B14, 2, none⟩ = some (.slice a.tA t.ts.length a.tc) := HK.out.b14.cell 2
      have e3 : wr.cell? ⟨B14, 3, none⟩ = some (.slice a.kA t.ks.length a.kc) := HK.out.b14.cell 3
      have e4 : wr.cell? ⟨B14, 4, none⟩ = some (.slice a.dA t.ds.length a.dc) := HK.out.b14.cell 4
      obtain ⟨fx, hfx⟩ : ∃ fx, fx = findT path t.ts := ⟨_, rfl⟩
      rw [← hfx] at HFI
      unfold Sea.PM.val Sea.PM.cs at HFI
      have HFX := Lib.hid hfx.symm
      clear hfx
      go_wp2_with fail
      refine HFI.out.mono ?_
      rintro e w4 ⟨rfl, hb4⟩
      have HJ4 := Lib.hid (HK.out.j.bel HL.out hb4)
      clear hb4 e0 e1 e2 e3 e4
      cases fx with
      | some p =>
        unfold ptV
        obtain ⟨q15, hq15⟩ : ∃ q15, q15 = w4.heap.size := ⟨_, rfl⟩
        obtain ⟨WZ, hWZ⟩ : ∃ WZ, WZ = w4.alloc (.cells #[.string p.p, .int .i64 p.n, .string p.h] 31) := ⟨_, rfl⟩
        have hbz : Below w4.heap.size w4 WZ := by rw [hWZ]; exact (Below.refl _ _).alloc (Nat.le_refl _) _
        have hkz : Blk WZ q15 31 #[.string p.p, .int .i64 p.n, .string p.h] := by rw [hWZ, hq15]; exact Blk.new _ _ _
        have HJZ := Lib.hid (HJ4.out.bel HL.out hbz)
        obtain ⟨sA, sc0, vA, vc, hmz, hoz, _, _⟩ := HJZ.out.st.vv
        obtain ⟨lv, hlv⟩ : ∃ lv, lv = Value.slice sA s.length sc0 := ⟨_, rfl⟩
        rw [← hlv] at hmz
        have HMZ := Lib.hid hmz
        have HOZ := Lib.hid hoz
        have HB8 := Lib.hid HJZ.out.b8
        have HFZ := Lib.hid HJZ.out.fx
        have HIZ := Lib.hid HJZ.out.iv
        have HQ15 : Hid (q15 ≠ (w.heap.size + 1)) := Lib.hid (by have := HJ4.out.b8.lt; omega)
        have HRR : Hid (R = ⟨some p, vis, 0, ask⟩) := Lib.hid (by rw [HK.out.rs]; exact walkP_found HFX.out)
        have HNE : Hid (vis ≠ []) := Lib.hid (fun q => by have := HK.out.v1; rw [q] at this; simp at this)
        have HS0 : (fun V => Blk V m 67 #[lv, .slice vA vis.length vc] ∧ Blk V q15 31 #[.string p.p, .int .i64 p.n, .string p.h]) WZ.drew := ⟨hmz, hkz⟩
        have HWZ := Lib.hid hWZ
        have HQQ := Lib.hid hq15
        clear hbz hkz hmz hoz hWZ hlv hq15
        go_wp2
        rw [← HWZ.out, ← HQQ.out]
        refine wp_region_held_drew (S := fun V => Blk V m 67 #[lv, .slice vA vis.length vc] ∧ Blk V q15 31 #[.string p.p, .int .i64 p.n, .string p.h]) (by kernel_rfl) (HS0) (fun hS1 => ?_)
        obtain ⟨WD, hWD⟩ : ∃ WD, WD = WZ.drew := ⟨_, rfl⟩
        rw [← hWD] at hS1 ⊢
        have HBD : Hid (Below WZ.heap.size WZ WD) := Lib.hid (by rw [hWD]; exact (Below.refl _ _).drew)
        have HD8 := Lib.hid (HB8.out.below HBD.out HB8.out.lt)
        clear hWD
        refine wpAnyH_take (i := 0) (oi := ⟨some 37, _, _, _, _, _⟩) (v := .agg #[.string p.p, .int .i64 p.n, .string p.h]) rfl (by kernel_rfl) (by kernel_rfl) (by kernel_rfl) (fun _ _ _ h => h) (.inl ⟨by kernel_rfl, fun V hS => by have s0 := hS.2.cell 0; have s1 := hS.2.cell 1; have s2 := hS.2.cell 2; simp at s0 s1 s2; go_simp⟩) hS1 ?_
        simp only [Act.put, List.setIfInBounds_toArray, List.set_cons_zero, List.set_cons_succ]
        refine wpAnyH_take (i := 1) (oi := ⟨some 38, _, _, _, _, _⟩) (v := .pointer (some ⟨m, 0, none⟩)) rfl (by kernel_rfl) (by kernel_rfl) (by kernel_rfl) (fun _ _ _ h => h) (.inl ⟨by kernel_rfl, fun V hS => by go_simp⟩) hS1 ?_
        simp only [Act.put, List.setIfInBounds_toArray, List.set_cons_zero, List.set_cons_succ]
        refine wpAnyH_take (i := 2) (oi := ⟨some 39, _, _, _, _, _⟩) (v := .pointer (some ⟨m, 0, none⟩)) rfl (by kernel_rfl) (by kernel_rfl) (by kernel_rfl) (fun _ _ _ h => h) (.inl ⟨by kernel_rfl, fun V hS => by go_simp⟩) hS1 ?_
        simp only [Act.put, List.setIfInBounds_toArray, List.set_cons_zero, List.set_cons_succ]
        refine wpAnyH_take (i := 3) (oi := ⟨some 40, _, _, _, _, _⟩) (v := .pointer (some ⟨m, 1, none⟩)) rfl (by kernel_rfl) (by kernel_rfl) (by kernel_rfl) (fun _ _ _ h => h) (.inl ⟨by kernel_rfl, fun V hS => by go_simp⟩) hS1 ?_
        simp only [Act.put, List.setIfInBounds_toArray, List.set_cons_zero, List.set_cons_succ]
        refine wpAnyH_take (i := 4) (oi := ⟨some 41, _, _, _, _, _⟩) (v := .slice vA vis.length vc) rfl (by kernel_rfl) (by kernel_rfl) (by kernel_rfl) (fun _ _ _ h => h) (.inl ⟨by kernel_rfl, fun V hS => by have sc := hS.1.cell 1; simp at sc; go_simp⟩) hS1 ?_
        simp only [Act.put, List.setIfInBounds_toArray, List.set_cons_zero, List.set_cons_succ]
        refine wpAnyH_ready (rs := [5]) (by kernel_rfl) (by simp) ?_
        refine AllReadyH.cons rfl (fun K' hK => ?_) AllReadyH.nil
        go_simp
        have z0 : WD.cell? ⟨w.heap.size + 1, 0, none⟩ = some (.string ⟨#[]⟩) := HD8.out.cell 0
        have f0 : WD.frozen? ⟨w.heap.size + 1, 0, none⟩ = false := HD8.out.frozen 0
        have z1 : WD.cell? ⟨w.heap.size + 1, 1, none⟩ = some (.int .i64 0) := HD8.out.cell 1
        have f1 : WD.frozen? ⟨w.heap.size + 1, 1, none⟩ = false := HD8.out.frozen 1
        have z2 : WD.cell? ⟨w.heap.size + 1, 2, none⟩ = some (.string ⟨#[]⟩) := HD8.out.cell 2
        have f2 : WD.frozen? ⟨w.heap.size + 1, 2, none⟩ = false := HD8.out.frozen 2
        go_simp
        clear z0 f0 z1 f1 z2 f2
        refine hK.out _ _ (⟨Blk.fr (hS1).1 ((Fr.setCell (S := fun b => b = w.heap.size + 1) (Fr.setCell (S := fun b => b = w.heap.size + 1) (Fr.setCell (S := fun b => b = w.heap.size + 1) ((Fr.refl (fun b => b = w.heap.size + 1) WD)) (p := ⟨w.heap.size + 1, 0, none⟩) (fun _ => rfl) (.string p.p)) (p := ⟨w.heap.size + 1, 1, none⟩) (fun _ => rfl) (.int .i64 p.n)) (p := ⟨w.heap.size + 1, 2, none⟩) (fun _ => rfl) (.string p.h))) ((hS1).1.ne_ HD8.out (by decide)), Blk.fr (hS1).2 ((Fr.setCell (S := fun b => b = w.heap.size + 1) (Fr.setCell (S := fun b => b = w.heap.size + 1) (Fr.setCell (S := fun b => b = w.heap.size + 1) ((Fr.refl (fun b => b = w.heap.size + 1) WD)) (p := ⟨w.heap.size + 1, 0, none⟩) (fun _ => rfl) (.string p.p)) (p := ⟨w.heap.size + 1, 1, none⟩) (fun _ => rfl) (.int .i64 p.n)) (p := ⟨w.heap.size + 1, 2, none⟩) (fun _ => rfl) (.string p.h))) (by have := HQ15.out; omega)⟩) (fun hS2 => ?_)
        clear hK K' hS1
        refine wpAnyH_take (i := 6) (oi := ⟨some 9, _, _, _, _, _⟩) (v := .slice vA vis.length vc) rfl (by kernel_rfl) (by kernel_rfl) (by kernel_rfl) (fun _ _ _ h => h) (.inl ⟨by kernel_rfl, fun V hS => by go_simp⟩) hS2 ?_
        simp only [Act.put, List.setIfInBounds_toArray, List.set_cons_zero, List.set_cons_succ]
        refine wpAnyH_take (i := 7) (oi := ⟨some 10, _, _, _, _, _⟩) (v := .int .i64 0) rfl (by kernel_rfl) (by kernel_rfl) (by kernel_rfl) (fun _ _ _ h => h) (.inl ⟨by kernel_rfl, fun V hS => by go_simp⟩) hS2 ?_
        simp only [Act.put, List.setIfInBounds_toArray, List.set_cons_zero, List.set_cons_succ]
        refine wpAnyH_done (by kernel_rfl) ?_ _
        have HF8 := Lib.hid ((((HD8.out.set_ 0 (.string p.p)).set_ 1 (.int .i64 p.n)).set_ 2 (.string p.h)))
        have k0 := HF8.out.cell 0
        have k1 := HF8.out.cell 1
        have k2 := HF8.out.cell 2
        simp at k0 k1 k2
        go_wp2
        try rw [Exit.noGoto_ret]
        refine bodyPost_ret (v := .tuple #[ptV (some p), .slice vA vis.length vc, .int .i64 0]) (by simp [results, Tryz.results12, go_sem, k0, k1, k2, ptV]) rfl ?_
        exact walk_end HL.out HMZ.out HOZ.out (rfl) HB8.out (HX.out _ (Nat.le_succ _)) HIZ.out HFZ.out (Fr.setCell (S := fun b => b = w.heap.size + 1) (Fr.setCell (S := fun b => b = w.heap.size + 1) (Fr.setCell (S := fun b => b = w.heap.size + 1) (Fr.of_below (S := fun b => b = w.heap.size + 1) HBD.out) (p := ⟨w.heap.size + 1, 0, none⟩) (fun _ => rfl) (.string p.p)) (p := ⟨w.heap.size + 1, 1, none⟩) (fun _ => rfl) (.int .i64 p.n)) (p := ⟨w.heap.size + 1, 2, none⟩) (fun _ => rfl) (.string p.h)) (HRR.out) (HNE.out)
      | none =>
        unfold ptV
        obtain ⟨W5, hW5⟩ : ∃ W5, W5 = w4.alloc (.cells #[.string ⟨#[]⟩, .int .i64 0, .string ⟨#[]⟩] 31) := ⟨_, rfl⟩
        have hb5 : Below w4.heap.size w4 W5 := by rw [hW5]; exact (Below.refl _ _).alloc (Nat.le_refl _) _
        have HJ5 := Lib.hid (HJ4.out.bel HL.out hb5)
        have HT5 := Lib.hid (HTX.out W5 HJ5.out.fx)
        have HV1 := Lib.hid HK.out.v1
        have HVL : Hid (vis.length + 1 ≤ 1000000000) := Lib.hid (by have := HK.out.v1; have := HMO.out; omega)
        have HVS : Hid (vis.length ≤ 32) := Lib.hid (by have := HK.out.v1; have := HMO.out; omega)
        have HSLL : Hid (s.length ≤ 1000) := Lib.hid (by have := HK.out.sl; have := HVS.out; omega)
        have HSW : Hid (w.heap.size ≤ W5.heap.size) := Lib.hid HJ5.out.fx.size
        have hpu := push_any X m w.heap.size vis s t a path W5 HJ5.out.st HJ5.out.mo HK.out.gd.1 HK.out.gd.2.1 HK.out.gd.2.2 HPS.out HT5.out (by have := HSLL.out; omega) HSW.out
        unfold Sea.PM.val Sea.PM.cs at hpu
        have HPU := Lib.hid hpu
        have e0 : W5.cell? ⟨B14, 0, none⟩ = some (.int .i64 t.ver) := HJ5.out.b14.cell 0
        have e1 : W5.cell? ⟨B14, 1, none⟩ = some (.int .i64 t.exp) := HJ5.out.b14.cell 1
        have e2 : W5.cell? ⟨B14, 2, none⟩ = some (.slice a.tA t.ts.length a.tc) := HJ5.out.b14.cell 2
        have e3 : W5.cell? ⟨B14, 3, none⟩ = some (.slice a.kA t.ks.length a.kc) := HJ5.out.b14.cell 3
        have e4 : W5.cell? ⟨B14, 4, none⟩ = some (.slice a.dA t.ds.length a.dc) := HJ5.out.b14.cell 4
        rw [hW5] at e0 e1 e2 e3 e4
        have HW5 := Lib.hid hW5
        clear hpu hW5 hb5
        go_wp2_with fail
        rw [← HW5.out]
        refine HPU.out.mono ?_
        rintro e w6 ⟨s', ⟨vu, rfl⟩, hst6, hmp6, hf6, hsv6⟩
        have HJ6 := Lib.hid (HJ5.out.stk HL.out hf6 (HX.out _ HMN.out) hst6 hsv6)
        have HMP := Lib.hid hmp6
        have HSL6 : Hid (s'.length ≤ s.length + 30) := Lib.hid (by
          have h1 : (s'.map TE.todo).length = s'.length := List.length_map _
          rw [hmp6] at h1
          have h2 := covering_len (cov := covP path) t.ds
          have h3 := HK.out.gd.1.ds
          unfold pushP at h1
          rw [List.length_append, List.length_map] at h1
          split at h1
          · simp at h1; omega
          · rw [List.length_map] at h1; omega)
        have HPO := Lib.hid (pop_any m w.heap.size vis s' w6 HJ6.out.st (by have := HSL6.out; have := HSLL.out; omega) (by have := HVS.out; omega))
        clear hst6 hmp6 hf6 hsv6 e0 e1 e2 e3 e4
        go_wp2_with fail
        refine HPO.out.mono ?_
        rintro e w7 ⟨xv, bb, rfl, hf7, hsv7, hor⟩
        rcases hor with ⟨rfl, rfl, hre, hst7⟩ | ⟨rfl, y, r, hre, rfl, hst7, htk⟩
        · -- there is none
          have HJ7 := Lib.hid (HJ6.out.stk HL.out hf7 (HX.out _ HMN.out) hst7 hsv7)
          obtain ⟨WZ, hWZ⟩ : ∃ WZ, WZ = w7.alloc (.cells #[.string ⟨#[]⟩, .slice none 0 0, .int .i64 0, .bool false, .slice none 0 0, .slice none 0 0, .slice none 0 0] 70) := ⟨_, rfl⟩
          have hbz : Below w7.heap.size w7 WZ := by rw [hWZ]; exact (Below.refl _ _).alloc (Nat.le_refl _) _
          have HJZ := Lib.hid (HJ7.out.bel HL.out hbz)
          have HRR : Hid (R = ⟨none, vis, 4, ask⟩) := Lib.hid (by rw [HK.out.rs]; exact walkP_none HFX.out (by rw [← HMP.out, ← restT_map, hre]; rfl))
          have HWZ := Lib.hid hWZ
          clear hbz hWZ hf7 hsv7 hre hst7
          go_wp2
          rw [← HWZ.out]
          obtain ⟨sA, sc0, vA, vc, hmz, hoz, _, _⟩ := HJZ.out.st.vv
          obtain ⟨lv, hlv⟩ : ∃ lv, lv = Value.slice sA ([] : List TE).length sc0 := ⟨_, rfl⟩
          rw [← hlv] at hmz
          have HMZ := Lib.hid hmz
          have HOZ := Lib.hid hoz
          have HB8 := Lib.hid HJZ.out.b8
          have HFZ := Lib.hid HJZ.out.fx
          have HIZ := Lib.hid HJZ.out.iv
          clear hmz hoz hlv
          have HMZ' := HMZ
          have HNE : Hid (vis ≠ []) := Lib.hid (fun q => by have := HK.out.v1; rw [q] at this; simp at this)
          have HS0 : (fun V => Blk V m 67 #[lv, .slice vA vis.length vc]) WZ.drew := HMZ.out
          refine wp_region_held_drew (S := fun V => Blk V m 67 #[lv, .slice vA vis.length vc]) (by kernel_rfl) (HS0) (fun hS1 => ?_)
          obtain ⟨WD, hWD⟩ : ∃ WD, WD = WZ.drew := ⟨_, rfl⟩
          rw [← hWD] at hS1 ⊢
          have HBD : Hid (Below WZ.heap.size WZ WD) := Lib.hid (by rw [hWD]; exact (Below.refl _ _).drew)
          have HD8 := Lib.hid (HB8.out.below HBD.out HB8.out.lt)
          clear hWD
          refine wpAnyH_take (i := 0) (oi := ⟨some 86, _, _, _, _, _⟩) (v := .agg #[.string ⟨#[]⟩, .int .i64 0, .string ⟨#[]⟩]) rfl (by kernel_rfl) (by kernel_rfl) (by kernel_rfl) (fun _ _ _ h => h) (.inl ⟨by kernel_rfl, fun V hS => by go_simp⟩) hS1 ?_
          simp only [Act.put, List.setIfInBounds_toArray, List.set_cons_zero, List.set_cons_succ]
          refine wpAnyH_take (i := 1) (oi := ⟨some 87, _, _, _, _, _⟩) (v := .pointer (some ⟨m, 0, none⟩)) rfl (by kernel_rfl) (by kernel_rfl) (by kernel_rfl) (fun _ _ _ h => h) (.inl ⟨by kernel_rfl, fun V hS => by go_simp⟩) hS1 ?_
          simp only [Act.put, List.setIfInBounds_toArray, List.set_cons_zero, List.set_cons_succ]
          refine wpAnyH_take (i := 2) (oi := ⟨some 88, _, _, _, _, _⟩) (v := .pointer (some ⟨m, 0, none⟩)) rfl (by kernel_rfl) (by kernel_rfl) (by kernel_rfl) (fun _ _ _ h => h) (.inl ⟨by kernel_rfl, fun V hS => by go_simp⟩) hS1 ?_
          simp only [Act.put, List.setIfInBounds_toArray, List.set_cons_zero, List.set_cons_succ]
          refine wpAnyH_take (i := 3) (oi := ⟨some 89, _, _, _, _, _⟩) (v := .pointer (some ⟨m, 1, none⟩)) rfl (by kernel_rfl) (by kernel_rfl) (by kernel_rfl) (fun _ _ _ h => h) (.inl ⟨by kernel_rfl, fun V hS => by go_simp⟩) hS1 ?_
          simp only [Act.put, List.setIfInBounds_toArray, List.set_cons_zero, List.set_cons_succ]
          refine wpAnyH_take (i := 4) (oi := ⟨some 90, _, _, _, _, _⟩) (v := .slice vA vis.length vc) rfl (by kernel_rfl) (by kernel_rfl) (by kernel_rfl) (fun _ _ _ h => h) (.inl ⟨by kernel_rfl, fun V hS => by have sc := hS.cell 1; simp at sc; go_simp⟩) hS1 ?_
          simp only [Act.put, List.setIfInBounds_toArray, List.set_cons_zero, List.set_cons_succ]
          refine wpAnyH_take (i := 5) (oi := ⟨some 91, _, _, _, _, _⟩) (v := .int .i64 4) rfl (by kernel_rfl) (by kernel_rfl) (by kernel_rfl) (fun _ _ _ h => h) (.inl ⟨by kernel_rfl, fun V hS => by go_simp⟩) hS1 ?_
          simp only [Act.put, List.setIfInBounds_toArray, List.set_cons_zero, List.set_cons_succ]
          refine wpAnyH_ready (rs := [6]) (by kernel_rfl) (by simp) ?_
          refine AllReadyH.cons rfl (fun K' hK => ?_) AllReadyH.nil
          go_simp
          have z0 : WD.cell? ⟨w.heap.size + 1, 0, none⟩ = some (.string ⟨#[]⟩) := HD8.out.cell 0
          have f0 : WD.frozen? ⟨w.heap.size + 1, 0, none⟩ = false := HD8.out.frozen 0
          have z1 : WD.cell? ⟨w.heap.size + 1, 1, none⟩ = some (.int .i64 0) := HD8.out.cell 1
          have f1 : WD.frozen? ⟨w.heap.size + 1, 1, none⟩ = false := HD8.out.frozen 1
          have z2 : WD.cell? ⟨w.heap.size + 1, 2, none⟩ = some (.string ⟨#[]⟩) := HD8.out.cell 2
          have f2 : WD.frozen? ⟨w.heap.size + 1, 2, none⟩ = false := HD8.out.frozen 2
          go_simp
          clear z0 f0 z1 f1 z2 f2
          refine hK.out _ _ (Blk.fr (hS1) ((Fr.setCell (S := fun b => b = w.heap.size + 1) (Fr.setCell (S := fun b => b = w.heap.size + 1) (Fr.setCell (S := fun b => b = w.heap.size + 1) ((Fr.refl (fun b => b = w.heap.size + 1) WD)) (p := ⟨w.heap.size + 1, 0, none⟩) (fun _ => rfl) (.string ⟨#[]⟩)) (p := ⟨w.heap.size + 1, 1, none⟩) (fun _ => rfl) (.int .i64 0)) (p := ⟨w.heap.size + 1, 2, none⟩) (fun _ => rfl) (.string ⟨#[]⟩))) (Blk.ne_ (hS1) HD8.out (by decide))) (fun hS2 => ?_)
          clear hK K' hS1
          refine wpAnyH_take (i := 7) (oi := ⟨some 9, _, _, _, _, _⟩) (v := .slice vA vis.length vc) rfl (by kernel_rfl) (by kernel_rfl) (by kernel_rfl) (fun _ _ _ h => h) (.inl ⟨by kernel_rfl, fun V hS => by go_simp⟩) hS2 ?_
          simp only [Act.put, List.setIfInBounds_toArray, List.set_cons_zero, List.set_cons_succ]
          refine wpAnyH_take (i := 8) (oi := ⟨some 10, _, _, _, _, _⟩) (v := .int .i64 4) rfl (by kernel_rfl) (by kernel_rfl) (by kernel_rfl) (fun _ _ _ h => h) (.inl ⟨by kernel_rfl, fun V hS => by go_simp⟩) hS2 ?_
          simp only [Act.put, List.setIfInBounds_toArray, List.set_cons_zero, List.set_cons_succ]
          refine wpAnyH_done (by kernel_rfl) ?_ _
          have HF8 := Lib.hid ((((HD8.out.set_ 0 (.string ⟨#[]⟩)).set_ 1 (.int .i64 0)).set_ 2 (.string ⟨#[]⟩)))
          have k0 := HF8.out.cell 0
          have k1 := HF8.out.cell 1
          have k2 := HF8.out.cell 2
          simp at k0 k1 k2
          go_wp2
          try rw [Exit.noGoto_ret]
          refine bodyPost_ret (v := .tuple #[ptV (none), .slice vA vis.length vc, .int .i64 4]) (by simp [results, Tryz.results12, go_sem, k0, k1, k2, ptV]) rfl ?_
          exact walk_end HL.out HMZ.out HOZ.out (rfl) HB8.out (HX.out _ (Nat.le_succ _)) HIZ.out HFZ.out (Fr.setCell (S := fun b => b = w.heap.size + 1) (Fr.setCell (S := fun b => b = w.heap.size + 1) (Fr.setCell (S := fun b => b = w.heap.size + 1) (Fr.of_below (S := fun b => b = w.heap.size + 1) HBD.out) (p := ⟨w.heap.size + 1, 0, none⟩) (fun _ => rfl) (.string ⟨#[]⟩)) (p := ⟨w.heap.size + 1, 1, none⟩) (fun _ => rfl) (.int .i64 0)) (p := ⟨w.heap.size + 1, 2, none⟩) (fun _ => rfl) (.string ⟨#[]⟩)) (HRR.out) (HNE.out)
        · have HJ7 := Lib.hid (HJ6.out.stk HL.out hf7 (HX.out _ HMN.out) hst7 hsv7)
          obtain ⟨kA, kc, hkv, _⟩ := htk.form
          obtain ⟨q17, hq17⟩ : ∃ q17, q17 = w7.heap.size := ⟨_, rfl⟩
          obtain ⟨WZ, hWZ⟩ : ∃ WZ, WZ = w7.alloc (.cells #[.string y.d.name, .slice y.a.kA y.d.rk.length y.a.kc, .int .i64 y.d.thr, .bool y.d.term, .slice y.a.pA y.d.paths.length y.a.pc, .slice y.a.xA y.d.prefs.length y.a.xc, .slice kA y.ks.length kc] 70) := ⟨_, rfl⟩
          have hbz : Below w7.heap.size w7 WZ := by rw [hWZ]; exact (Below.refl _ _).alloc (Nat.le_refl _) _
          have hkz : Blk WZ q17 70 #[.string y.d.name, .slice y.a.kA y.d.rk.length y.a.kc, .int .i64 y.d.thr, .bool y.d.term, .slice y.a.pA y.d.paths.length y.a.pc, .slice y.a.xA y.d.prefs.length y.a.xc, .slice kA y.ks.length kc] := by rw [hWZ, hq17]; exact Blk.new _ _ _
          have HJZ := Lib.hid (HJ7.out.bel HL.out hbz)
          have HTK := Lib.hid (htk.below hbz)
          have HRE : Hid (rest vis (pushP (covP path) t (s.map TE.todo)) = y.todo :: r.map TE.todo) := Lib.hid (by rw [← HMP.out, ← restT_map, hre]; rfl)
          have HRL : Hid (r.length ≤ s'.length) := Lib.hid (by
            have h1 : (restT vis s').length ≤ s'.length := (List.dropWhile_sublist _).length_le
            rw [hre] at h1; simp at h1; omega)
          have HKV := Lib.hid hkv
          have HWZ := Lib.hid hWZ
          have HKZ := Lib.hid hkz
          have HQ17 := Lib.hid hq17
          unfold TE.cs
          rw [hkv]
          obtain ⟨bm, hbm⟩ : ∃ bm, bm = decide ((vis.length : Int) = most) := ⟨_, rfl⟩
          have HBM := Lib.hid hbm.symm
          have hbq : ((vis.length : Int) == most) = bm := by rw [hbm]; rfl
          obtain ⟨sA, sc0, vA, vc, hmz, hoz, _, _⟩ := HJZ.out.st.vv
          obtain ⟨lv, hlv⟩ : ∃ lv, lv = Value.slice sA r.length sc0 := ⟨_, rfl⟩
          have HLV := Lib.hid hlv
          rw [← hlv] at hmz
          have HMZ := Lib.hid hmz
          have HOZ := Lib.hid hoz
          have HB8 := Lib.hid HJZ.out.b8
          have HFZ := Lib.hid HJZ.out.fx
          have HIZ := Lib.hid HJZ.out.iv
          have HSZ : Hid (w.heap.size ≤ WZ.heap.size) := Lib.hid HJZ.out.fx.size
          have m1 : (w7.alloc (.cells #[.string y.d.name, .slice y.a.kA y.d.rk.length y.a.kc, .int .i64 y.d.thr, .bool y.d.term, .slice y.a.pA y.d.paths.length y.a.pc, .slice y.a.xA y.d.prefs.length y.a.xc, .slice kA y.ks.length kc] 70)).cell? ⟨m, 1, none⟩ = some (.slice vA vis.length vc) := by rw [← hWZ]; exact hmz.cell 1
          clear hbz hWZ hf7 hsv7 hre hst7 htk hkv hkz hq17 hbm hmz hoz hlv
          cases bm with
          | true =>
            have HEQ : Hid ((vis.length : Int) = most) := Lib.hid (of_decide_eq_true HBM.out)
            have HRR : Hid (R = ⟨none, vis, 200, ask⟩) := Lib.hid (by rw [HK.out.rs]; exact walkP_many HFX.out HRE.out HEQ.out)
            go_wp2
            rw [← HWZ.out]
            clear m1 hbq
            have HMZ' := HMZ
            have HNE : Hid (vis ≠ []) := Lib.hid (fun q => by have := HK.out.v1; rw [q] at this; simp at this)
            have HS0 : (fun V => Blk V m 67 #[lv, .slice vA vis.length vc]) WZ.drew := HMZ.out
            refine wp_region_held_drew (S := fun V => Blk V m 67 #[lv, .slice vA vis.length vc]) (by kernel_rfl) (HS0) (fun hS1 => ?_)
            obtain ⟨WD, hWD⟩ : ∃ WD, WD = WZ.drew := ⟨_, rfl⟩
            rw [← hWD] at hS1 ⊢
            have HBD : Hid (Below WZ.heap.size WZ WD) := Lib.hid (by rw [hWD]; exact (Below.refl _ _).drew)
            have HD8 := Lib.hid (HB8.out.below HBD.out HB8.out.lt)
            clear hWD
            refine wpAnyH_take (i := 0) (oi := ⟨some 86, _, _, _, _, _⟩) (v := .agg #[.string ⟨#[]⟩, .int .i64 0, .string ⟨#[]⟩]) rfl (by kernel_rfl) (by kernel_rfl) (by kernel_rfl) (fun _ _ _ h => h) (.inl ⟨by kernel_rfl, fun V hS => by go_simp⟩) hS1 ?_
            simp only [Act.put, List.setIfInBounds_toArray, List.set_cons_zero, List.set_cons_succ]
            refine wpAnyH_take (i := 1) (oi := ⟨some 87, _, _, _, _, _⟩) (v := .pointer (some ⟨m, 0, none⟩)) rfl (by kernel_rfl) (by kernel_rfl) (by kernel_rfl) (fun _ _ _ h => h) (.inl ⟨by kernel_rfl, fun V hS => by go_simp⟩) hS1 ?_
            simp only [Act.put, List.setIfInBounds_toArray, List.set_cons_zero, List.set_cons_succ]
            refine wpAnyH_take (i := 2) (oi := ⟨some 88, _, _, _, _, _⟩) (v := .pointer (some ⟨m, 0, none⟩)) rfl (by kernel_rfl) (by kernel_rfl) (by kernel_rfl) (fun _ _ _ h => h) (.inl ⟨by kernel_rfl, fun V hS => by go_simp⟩) hS1 ?_
            simp only [Act.put, List.setIfInBounds_toArray, List.set_cons_zero, List.set_cons_succ]
            refine wpAnyH_take (i := 3) (oi := ⟨some 89, _, _, _, _, _⟩) (v := .pointer (some ⟨m, 1, none⟩)) rfl (by kernel_rfl) (by kernel_rfl) (by kernel_rfl) (fun _ _ _ h => h) (.inl ⟨by kernel_rfl, fun V hS => by go_simp⟩) hS1 ?_
            simp only [Act.put, List.setIfInBounds_toArray, List.set_cons_zero, List.set_cons_succ]
            refine wpAnyH_take (i := 4) (oi := ⟨some 90, _, _, _, _, _⟩) (v := .slice vA vis.length vc) rfl (by kernel_rfl) (by kernel_rfl) (by kernel_rfl) (fun _ _ _ h => h) (.inl ⟨by kernel_rfl, fun V hS => by have sc := hS.cell 1; simp at sc; go_simp⟩) hS1 ?_
            simp only [Act.put, List.setIfInBounds_toArray, List.set_cons_zero, List.set_cons_succ]
            refine wpAnyH_take (i := 5) (oi := ⟨some 91, _, _, _, _, _⟩) (v := .int .i64 200) rfl (by kernel_rfl) (by kernel_rfl) (by kernel_rfl) (fun _ _ _ h => h) (.inl ⟨by kernel_rfl, fun V hS => by go_simp⟩) hS1 ?_
            simp only [Act.put, List.setIfInBounds_toArray, List.set_cons_zero, List.set_cons_succ]
            refine wpAnyH_ready (rs := [6]) (by kernel_rfl) (by simp) ?_
            refine AllReadyH.cons rfl (fun K' hK => ?_) AllReadyH.nil
            go_simp
            have z0 : WD.cell? ⟨w.heap.size + 1, 0, none⟩ = some (.string ⟨#[]⟩) := HD8.out.cell 0
            have f0 : WD.frozen? ⟨w.heap.size + 1, 0, none⟩ = false := HD8.out.frozen 0
            have z1 : WD.cell? ⟨w.heap.size + 1, 1, none⟩ = some (.int .i64 0) := HD8.out.cell 1
            have f1 : WD.frozen? ⟨w.heap.size + 1, 1, none⟩ = false := HD8.out.frozen 1
            have z2 : WD.cell? ⟨w.heap.size + 1, 2, none⟩ = some (.string ⟨#[]⟩) := HD8.out.cell 2
            have f2 : WD.frozen? ⟨w.heap.size + 1, 2, none⟩ = false := HD8.out.frozen 2
            go_simp
            clear z0 f0 z1 f1 z2 f2
            refine hK.out _ _ (Blk.fr (hS1) ((Fr.setCell (S := fun b => b = w.heap.size + 1) (Fr.setCell (S := fun b => b = w.heap.size + 1) (Fr.setCell (S := fun b => b = w.heap.size + 1) ((Fr.refl (fun b => b = w.heap.size + 1) WD)) (p := ⟨w.heap.size + 1, 0, none⟩) (fun _ => rfl) (.string ⟨#[]⟩)) (p := ⟨w.heap.size + 1, 1, none⟩) (fun _ => rfl) (.int .i64 0)) (p := ⟨w.heap.size + 1, 2, none⟩) (fun _ => rfl) (.string ⟨#[]⟩))) (Blk.ne_ (hS1) HD8.out (by decide))) (fun hS2 => ?_)
            clear hK K' hS1
            refine wpAnyH_take (i := 7) (oi := ⟨some 9, _, _, _, _, _⟩) (v := .slice vA vis.length vc) rfl (by kernel_rfl) (by kernel_rfl) (by kernel_rfl) (fun _ _ _ h => h) (.inl ⟨by kernel_rfl, fun V hS => by go_simp⟩) hS2 ?_
            simp only [Act.put, List.setIfInBounds_toArray, List.set_cons_zero, List.set_cons_succ]
            refine wpAnyH_take (i := 8) (oi := ⟨some 10, _, _, _, _, _⟩) (v := .int .i64 200) rfl (by kernel_rfl) (by kernel_rfl) (by kernel_rfl) (fun _ _ _ h => h) (.inl ⟨by kernel_rfl, fun V hS => by go_simp⟩) hS2 ?_
            simp only [Act.put, List.setIfInBounds_toArray, List.set_cons_zero, List.set_cons_succ]
            refine wpAnyH_done (by kernel_rfl) ?_ _
            have HF8 := Lib.hid ((((HD8.out.set_ 0 (.string ⟨#[]⟩)).set_ 1 (.int .i64 0)).set_ 2 (.string ⟨#[]⟩)))
            have k0 := HF8.out.cell 0
            have k1 := HF8.out.cell 1
            have k2 := HF8.out.cell 2
            simp at k0 k1 k2
            go_wp2
            try rw [Exit.noGoto_ret]
            refine bodyPost_ret (v := .tuple #[ptV (none), .slice vA vis.length vc, .int .i64 200]) (by simp [results, Tryz.results12, go_sem, k0, k1, k2, ptV]) rfl ?_
            exact walk_end HL.out HMZ.out HOZ.out (rfl) HB8.out (HX.out _ (Nat.le_succ _)) HIZ.out HFZ.out (Fr.setCell (S := fun b => b = w.heap.size + 1) (Fr.setCell (S := fun b => b = w.heap.size + 1) (Fr.setCell (S := fun b => b = w.heap.size + 1) (Fr.of_below (S := fun b => b = w.heap.size + 1) HBD.out) (p := ⟨w.heap.size + 1, 0, none⟩) (fun _ => rfl) (.string ⟨#[]⟩)) (p := ⟨w.heap.size + 1, 1, none⟩) (fun _ => rfl) (.int .i64 0)) (p := ⟨w.heap.size + 1, 2, none⟩) (fun _ => rfl) (.string ⟨#[]⟩)) (HRR.out) (HNE.out)
          | false =>
            have HEQ : Hid (¬ (vis.length : Int) = most) := Lib.hid (of_decide_eq_false HBM.out)
            go_wp2
            rw [← HWZ.out, ← HQ17.out]
            clear m1 hbq
            have HVL' := HVL
            have HS0 : (fun V => Blk V m 67 #[lv, .slice vA vis.length vc] ∧ Blk V q17 70 #[.string y.d.name, .slice y.a.kA y.d.rk.length y.a.kc, .int .i64 y.d.thr, .bool y.d.term, .slice y.a.pA y.d.paths.length y.a.pc, .slice y.a.xA y.d.prefs.length y.a.xc, .slice kA y.ks.length kc]) WZ.drew := ⟨HMZ.out, HKZ.out⟩
            refine wp_region_heldT (S := fun V => Blk V m 67 #[lv, .slice vA vis.length vc] ∧ Blk V q17 70 #[.string y.d.name, .slice y.a.kA y.d.rk.length y.a.kc, .int .i64 y.d.thr, .bool y.d.term, .slice y.a.pA y.d.paths.length y.a.pc, .slice y.a.xA y.d.prefs.length y.a.xc, .slice kA y.ks.length kc]) 12 (by kernel_rfl) (HS0) (fun hS1 => ?_)
            obtain ⟨WD, hWD⟩ : ∃ WD, WD = WZ.drew := ⟨_, rfl⟩
            rw [← hWD] at hS1 ⊢
            have HBD : Hid (Below WZ.heap.size WZ WD) := Lib.hid (by rw [hWD]; exact (Below.refl _ _).drew)
            have HD8 := Lib.hid (HB8.out.below HBD.out HB8.out.lt)
            clear hWD
            refine wpAnyT_pure (i := 0) (oi := ⟨some 62, _, _, _, _, _⟩) (v := .pointer (some ⟨m, 0, none⟩)) rfl (by kernel_rfl) (by kernel_rfl) (by kernel_rfl) (by decide) (fun _ _ _ h => h) (.inl ⟨by kernel_rfl, fun V hS => by go_simp⟩) hS1 ?_
            simp only [Act.put, List.setIfInBounds_toArray, List.set_cons_zero, List.set_cons_succ]
            refine wpAnyT_pure (i := 1) (oi := ⟨some 63, _, _, _, _, _⟩) (v := .pointer (some ⟨m, 0, none⟩)) rfl (by kernel_rfl) (by kernel_rfl) (by kernel_rfl) (by decide) (fun _ _ _ h => h) (.inl ⟨by kernel_rfl, fun V hS => by go_simp⟩) hS1 ?_
            simp only [Act.put, List.setIfInBounds_toArray, List.set_cons_zero, List.set_cons_succ]
            refine wpAnyT_pure (i := 2) (oi := ⟨some 64, _, _, _, _, _⟩) (v := .pointer (some ⟨m, 0, none⟩)) rfl (by kernel_rfl) (by kernel_rfl) (by kernel_rfl) (by decide) (fun _ _ _ h => h) (.inl ⟨by kernel_rfl, fun V hS => by go_simp⟩) hS1 ?_
            simp only [Act.put, List.setIfInBounds_toArray, List.set_cons_zero, List.set_cons_succ]
            refine wpAnyT_pure (i := 3) (oi := ⟨some 65, _, _, _, _, _⟩) (v := .pointer (some ⟨m, 1, none⟩)) rfl (by kernel_rfl) (by kernel_rfl) (by kernel_rfl) (by decide) (fun _ _ _ h => h) (.inl ⟨by kernel_rfl, fun V hS => by go_simp⟩) hS1 ?_
            simp only [Act.put, List.setIfInBounds_toArray, List.set_cons_zero, List.set_cons_succ]
            refine wpAnyT_take (i := 4) (oi := ⟨some 66, _, _, _, _, _⟩) (v := .slice vA vis.length vc) rfl (by kernel_rfl) (by kernel_rfl) (by kernel_rfl) (by kernel_rfl) (by kernel_rfl) (fun _ _ _ h => h) (.inl ⟨by kernel_rfl, fun V hS => by have sc := hS.1.cell 1; simp at sc; go_simp⟩) hS1 ?_
            simp only [Act.put, List.setIfInBounds_toArray, List.set_cons_zero, List.set_cons_succ]
            refine wpAnyT_pure (i := 5) (oi := ⟨some 67, _, _, _, _, _⟩) (v := .pointer (some ⟨q17, 0, none⟩)) rfl (by kernel_rfl) (by kernel_rfl) (by kernel_rfl) (by decide) (fun _ _ _ h => h) (.inl ⟨by kernel_rfl, fun V hS => by go_simp⟩) hS1 ?_
            simp only [Act.put, List.setIfInBounds_toArray, List.set_cons_zero, List.set_cons_succ]
            refine wpAnyT_pure (i := 6) (oi := ⟨some 68, _, _, _, _, _⟩) (v := .pointer (some ⟨q17, 0, none⟩)) rfl (by kernel_rfl) (by kernel_rfl) (by kernel_rfl) (by decide) (fun _ _ _ h => h) (.inl ⟨by kernel_rfl, fun V hS => by go_simp⟩) hS1 ?_
            simp only [Act.put, List.setIfInBounds_toArray, List.set_cons_zero, List.set_cons_succ]
            refine wpAnyT_take (i := 7) (oi := ⟨some 69, _, _, _, _, _⟩) (v := .string y.d.name) rfl (by kernel_rfl) (by kernel_rfl) (by kernel_rfl) (by kernel_rfl) (by kernel_rfl) (fun _ _ _ h => h) (.inl ⟨by kernel_rfl, fun V hS => by have sc := hS.2.cell 0; simp at sc; go_simp⟩) hS1 ?_
            simp only [Act.put, List.setIfInBounds_toArray, List.set_cons_zero, List.set_cons_succ]
            refine wpAnyT_ready (rs := [8]) (by kernel_rfl) (by simp) ?_
            refine AllReadyT.cons rfl (fun K' hK => ?_) AllReadyT.nil
            go_simp
            have HN7 := Lib.hid (reads_new WD 9 #[.string y.d.name])
            have HA7 : Hid (Below WZ.heap.size WZ (WD.alloc (.cells #[.string y.d.name] 9))) := Lib.hid (HBD.out.alloc HBD.out.size _)
            have hO7 : OG 9 1 (WD.alloc (.cells #[.string y.d.name] 9)) w.heap.size (.slice vA vis.length vc) vis.length (vis.map Value.string) := OG.below HOZ.out HA7.out
            have HO7 := Lib.hid hO7
            have hz7 : w.heap.size ≤ (WD.alloc (.cells #[.string y.d.name] 9)).heap.size := Nat.le_trans HSZ.out HA7.out.size
            clear hO7
            refine hK.out _ _ (⟨(hS1).1.alloc _, (hS1).2.alloc _⟩) (fun hS2 => ?_)
            clear hK K' hS1
            refine wpAnyT_ready (rs := [9]) (by kernel_rfl) (by simp) ?_
            refine AllReadyT.cons rfl (fun K' hK => ?_) AllReadyT.nil
            generalize WD.alloc (.cells #[.string y.d.name] 9) = w3 at HN7 HO7 HA7 hz7 hS2 ⊢
            refine step_raw w3 infoStrG Tryz.underlying32 (by omega) (by omega) rfl _ _ rfl w.heap.size (.slice vA vis.length vc) vis.length _ rfl HO7.out _ 1 1 _ rfl HN7.out (by simp [Value.oneCell']) HVL.out hz7 ?_
            intro v4 w4' hrow hg hat
            obtain ⟨A9, c9, rfl, hn9, hc9, _⟩ := OG.form hrow
            have HR9 := Lib.hid hrow
            have HC9 := Lib.hid hc9
            have HN9 := Lib.hid hn9
            have HAT := Lib.hid hat
            have HF9 : Hid (Fr (fun g => (Value.slice vA vis.length vc).ownBlock = some g) w3 w4') := Lib.hid (Fr.of_grown hg (fun g e => e))
            have HM9 := Lib.hid (Blk.fr (hS2).1 HF9.out (OG.far HO7.out (hS2).1 (by decide)))
            have HQ9 := Lib.hid (Blk.fr (hS2).2 HF9.out (OG.far HO7.out (hS2).2 (by decide)))
            clear hrow hg hat hn9 hc9 hz7
            refine hK.out _ _ (⟨HM9.out, HQ9.out⟩) (fun hS3 => ?_)
            clear hK K' hS2
            simp only [Act.put, List.setIfInBounds_toArray, List.set_cons_zero, List.set_cons_succ]
            refine wpAnyT_pure (i := 10) (oi := ⟨some 72, _, _, _, _, _⟩) (v := .pointer (some ⟨m, 0, none⟩)) rfl (by kernel_rfl) (by kernel_rfl) (by kernel_rfl) (by decide) (fun _ _ _ h => h) (.inl ⟨by kernel_rfl, fun V hS => by go_simp⟩) hS3 ?_
            simp only [Act.put, List.setIfInBounds_toArray, List.set_cons_zero, List.set_cons_succ]
            refine wpAnyT_pure (i := 11) (oi := ⟨some 73, _, _, _, _, _⟩) (v := .pointer (some ⟨m, 1, none⟩)) rfl (by kernel_rfl) (by kernel_rfl) (by kernel_rfl) (by decide) (fun _ _ _ h => h) (.inl ⟨by kernel_rfl, fun V hS => by go_simp⟩) hS3 ?_
            simp only [Act.put, List.setIfInBounds_toArray, List.set_cons_zero, List.set_cons_succ]
            refine wpAnyT_T (by kernel_rfl) rfl (by kernel_rfl) (fun K' hK => ?_)
            have sc := HM9.out.cell 1
            have sf := HM9.out.frozen 1
            simp at sc sf
            go_simp
            clear sc sf
            refine hK.out _ _ ?_
            clear hK K' hS3
            refine wpAnyH_done (by kernel_rfl) ?_ _
            obtain ⟨WA, hWA⟩ : ∃ WA, WA = w4'.setCell ⟨m, 1, none⟩ (.slice A9 (vis.length + 1) c9) := ⟨_, rfl⟩
            have hfm : Fr (fun b => b = m) w4' WA := by rw [hWA]; exact fr_at _ _ _ _
            have HAM : Hid (Blk WA m 67 #[lv, .slice A9 (vis.length + 1) c9]) := Lib.hid (by
              rw [hWA]
              have q := HM9.out.set_ 1 (.slice A9 (vis.length + 1) c9)
              simpa using q)
            have kO : ∀ t, t ≠ 9 → ∀ g cs, Blk w3 g t cs → ¬ (Value.slice vA vis.length vc).ownBlock = some g := fun t t1 g cs hbk q => OG.far HO7.out hbk t1 q
            have kM : ∀ t, t ≠ 67 → ∀ g cs, Blk w4' g t cs → ¬ g = m := fun t t1 g cs hbk q => by subst q; exact hbk.ne_ HM9.out t1 rfl
            have HAO : Hid (OG 9 1 WA w.heap.size (.slice A9 (vis.length + 1) c9) (vis.length + 1) (vis.map Value.string ++ [.string y.d.name])) := Lib.hid (OG.frT HR9.out hfm (kM _ (by decide)))
            have HAQ := Lib.hid (HQ9.out.fr hfm (kM _ (by decide) _ _ HQ9.out))
            have h143 := HJZ.out.b14.below HA7.out HJZ.out.b14.lt
            have h144 := h143.fr HF9.out (kO _ (by decide) _ _ h143)
            have HA14 := Lib.hid (h144.fr hfm (kM _ (by decide) _ _ h144))
            have h83 := HB8.out.below HA7.out HB8.out.lt
            have h84 := h83.fr HF9.out (kO _ (by decide) _ _ h83)
            have HA8 := Lib.hid (h84.fr hfm (kM _ (by decide) _ _ h84))
            have hiv3 := HL.out.bel HIZ.out HA7.out
            have hiv4 := HL.out.row hiv3 HO7.out HX.out (HJZ.out.sv _ _ HMZ.out) HF9.out
            have HAI := Lib.hid (HL.out.one hiv4 HM9.out (HX.out _ HMN.out) ⟨by decide, by decide, by decide, by decide⟩ hfm)
            have HAS : Hid (StkAt WA m w.heap.size (vis ++ [y.d.name]) r) := Lib.hid (by
              rw [hWA]
              exact HJZ.out.st.visit HMZ.out HA7.out HO7.out HF9.out HM9.out HR9.out)
            have htk4 := (HTK.out.below HA7.out).frT HF9.out (kO _ (by decide))
            have HATK := Lib.hid (htk4.frT hfm (kM _ (by decide)))
            have HAF : Hid (Fr X w WA) := Lib.hid (((HFZ.out.below HA7.out).trans (HF9.out.mono (fun k _ e => HX.out k (OG.ge HO7.out k e)))).trans (hfm.mono (fun k _ e => e ▸ HX.out _ HMN.out)))
            have HSV : Hid (∀ b, S b → ¬ (Value.slice A9 (vis.length + 1) c9).ownBlock = some b) := Lib.hid (fun b hb q => by
              rcases HAT.out with e | e
              · rw [e] at q; exact HJZ.out.sv _ _ HMZ.out b hb q
              · rw [e] at q
                cases q
                obtain ⟨_, _, _, hb', _⟩ := HL.out.typ hiv3 _ hb
                exact absurd hb'.lt (by omega))
            have hld := HL.out.step y.d y.a y.ks y.kv w.heap.size HAI.out (by have := HV1.out; omega) HVS.out HATK.out.own HATK.out.k35
            rw [HKV.out] at hld
            unfold Sea.PD.val Sea.PD.cs at hld
            have HLD := Lib.hid hld
            have HWA := Lib.hid hWA
            rw [← hWA]
            have y0 : WA.cell? ⟨q17, 0, none⟩ = some (.string y.d.name) := HAQ.out.cell 0
            have y1 : WA.cell? ⟨q17, 1, none⟩ = some (.slice y.a.kA y.d.rk.length y.a.kc) := HAQ.out.cell 1
            have y2 : WA.cell? ⟨q17, 2, none⟩ = some (.int .i64 y.d.thr) := HAQ.out.cell 2
            have y3 : WA.cell? ⟨q17, 3, none⟩ = some (.bool y.d.term) := HAQ.out.cell 3
            have y4 : WA.cell? ⟨q17, 4, none⟩ = some (.slice y.a.pA y.d.paths.length y.a.pc) := HAQ.out.cell 4
            have y5 : WA.cell? ⟨q17, 5, none⟩ = some (.slice y.a.xA y.d.prefs.length y.a.xc) := HAQ.out.cell 5
            have y6 : WA.cell? ⟨q17, 6, none⟩ = some (.slice kA y.ks.length kc) := HAQ.out.cell 6
            clear hfm kO kM h143 h144 h83 h84 hiv3 hiv4 htk4 hld hWA
            have eg := HL.out.ent
            go_wp2_with fail
            refine HLD.out.mono ?_
            rintro e wL ⟨t', a', en, S', rfl, hres, hmoL, hivL, hfL, hsL⟩
            unfold Sea.PM.val Sea.PM.cs
            have HRES := Lib.hid hres
            have HSLX := Lib.hid hsL
            have kS : ∀ t, (t ≠ 41 ∧ t ≠ 9 ∧ t ≠ 23) → ∀ g cs, Blk WA g t cs → ¬ S g := fun t ht g cs hbk => HL.out.far HAI.out hbk ht
            have HLM := Lib.hid (HAM.out.fr hfL (kS _ ⟨by decide, by decide, by decide⟩ _ _ HAM.out))
            have HL14 := Lib.hid (HA14.out.fr hfL (kS _ ⟨by decide, by decide, by decide⟩ _ _ HA14.out))
            have HL8 := Lib.hid (HA8.out.fr hfL (kS _ ⟨by decide, by decide, by decide⟩ _ _ HA8.out))
            have HLO := Lib.hid (OG.fr HAO.out hfL (fun g q hb => HSV.out g hb q))
            have HLS := Lib.hid (HAS.out.frT hfL (kS _ ⟨by decide, by decide, by decide⟩ _ _ HAM.out) (kS _ ⟨by decide, by decide, by decide⟩) (kS _ ⟨by decide, by decide, by decide⟩) (fun x vv hx g q hb => by
              have e := blk_eq HAM.out hx
              simp only [Array.mk.injEq, List.cons.injEq, and_true] at e
              rw [← e.2] at q
              exact HSV.out g hb q))
            have HLF : Hid (Fr X w wL) := Lib.hid (HAF.out.trans (hfL.mono (fun k _ e => (HL.out.typ HAI.out k e).1)))
            have HSV' : Hid (∀ b, S' b → ¬ (Value.slice A9 (vis.length + 1) c9).ownBlock = some b) := Lib.hid (fun b hb q => by
              rcases hsL b hb with e | e
              · exact HSV.out b e q
              · exact absurd (OG.lt HAO.out b q) (by omega))
            have HMOL := Lib.hid hmoL
            have HIVL := Lib.hid hivL
            obtain ⟨WB, hWB⟩ : ∃ WB, WB = (((((wL.setCell ⟨B14, 0, none⟩ (.int .i64 t'.ver)).setCell ⟨B14, 1, none⟩ (.int .i64 t'.exp)).setCell ⟨B14, 2, none⟩ (.slice a'.tA t'.ts.length a'.tc)).setCell ⟨B14, 3, none⟩ (.slice a'.kA t'.ks.length a'.kc)).setCell ⟨B14, 4, none⟩ (.slice a'.dA t'.ds.length a'.dc)) := ⟨_, rfl⟩
            have hf14 : Fr (fun b => b = B14) wL WB := by rw [hWB]; exact (Fr.setCell (S := fun b => b = B14) (Fr.setCell (S := fun b => b = B14) (Fr.setCell (S := fun b => b = B14) (Fr.setCell (S := fun b => b = B14) (Fr.setCell (S := fun b => b = B14) (Fr.refl (fun b => b = B14) wL) (p := ⟨B14, 0, none⟩) (fun _ => rfl) (.int .i64 t'.ver)) (p := ⟨B14, 1, none⟩) (fun _ => rfl) (.int .i64 t'.exp)) (p := ⟨B14, 2, none⟩) (fun _ => rfl) (.slice a'.tA t'.ts.length a'.tc)) (p := ⟨B14, 3, none⟩) (fun _ => rfl) (.slice a'.kA t'.ks.length a'.kc)) (p := ⟨B14, 4, none⟩) (fun _ => rfl) (.slice a'.dA t'.ds.length a'.dc))
            have HB14 : Hid (Blk WB B14 26 #[.int .i64 t'.ver, .int .i64 t'.exp, .slice a'.tA t'.ts.length a'.tc, .slice a'.kA t'.ks.length a'.kc, .slice a'.dA t'.ds.length a'.dc]) := Lib.hid (by
              rw [hWB]
              have q := (((((HL14.out.set_ 0 (.int .i64 t'.ver)).set_ 1 (.int .i64 t'.exp)).set_ 2 (.slice a'.tA t'.ts.length a'.tc)).set_ 3 (.slice a'.kA t'.ks.length a'.kc)).set_ 4 (.slice a'.dA t'.ds.length a'.dc))
              simpa using q)
            have k14 : ∀ t, t ≠ 26 → ∀ g cs, Blk wL g t cs → ¬ g = B14 := fun t t1 g cs hbk q => by subst q; exact hbk.ne_ HL14.out t1 rfl
            have HX14 : Hid (X B14) := Lib.hid (HX.out _ HK.out.n14)
            have HBM := Lib.hid (HLM.out.fr hf14 (k14 _ (by decide) _ _ HLM.out))
            have HBB8 := Lib.hid (HL8.out.fr hf14 (k14 _ (by decide) _ _ HL8.out))
            have HBO := Lib.hid (OG.frT HLO.out hf14 (k14 _ (by decide)))
            have HBS := Lib.hid (HLS.out.frT hf14 (k14 _ (by decide) _ _ HLM.out) (k14 _ (by decide)) (k14 _ (by decide)) (fun x vv hx g q hb => by
              have e := blk_eq HLM.out hx
              simp only [Array.mk.injEq, List.cons.injEq, and_true] at e
              rw [← e.2] at q
              subst hb
              exact OG.far HLO.out HL14.out (by decide) q))
            have HBI := Lib.hid (HL.out.one hivL HL14.out HX14.out ⟨by decide, by decide, by decide, by decide⟩ hf14)
            have HBF : Hid (Fr X w WB) := Lib.hid (HLF.out.trans (hf14.mono (fun k _ e => e ▸ HX14.out)))
            have HBMO := Lib.hid (hmoL.fr (hf14.mono (fun k _ e => e ▸ HX14.out)))
            have HWB := Lib.hid hWB
            have z0 : wL.cell? ⟨B14, 0, none⟩ = some (.int .i64 t.ver) := HL14.out.cell 0
            have f0 : wL.frozen? ⟨B14, 0, none⟩ = false := HL14.out.frozen 0
            have z1 : wL.cell? ⟨B14, 1, none⟩ = some (.int .i64 t.exp) := HL14.out.cell 1
            have f1 : wL.frozen? ⟨B14, 1, none⟩ = false := HL14.out.frozen 1
            have z2 : wL.cell? ⟨B14, 2, none⟩ = some (.slice a.tA t.ts.length a.tc) := HL14.out.cell 2
            have f2 : wL.frozen? ⟨B14, 2, none⟩ = false := HL14.out.frozen 2
            have z3 : wL.cell? ⟨B14, 3, none⟩ = some (.slice a.kA t.ks.length a.kc) := HL14.out.cell 3
            have f3 : wL.frozen? ⟨B14, 3, none⟩ = false := HL14.out.frozen 3
            have z4 : wL.cell? ⟨B14, 4, none⟩ = some (.slice a.dA t.ds.length a.dc) := HL14.out.cell 4
            have f4 : wL.frozen? ⟨B14, 4, none⟩ = false := HL14.out.frozen 4
            clear hres hsL kS hmoL hivL hfL hf14 k14 hWB y0 y1 y2 y3 y4 y5 y6
            cases hldr : ld vis.length y.d.name with
            | error x =>
              have hx : en = x := by have q := HRES.out; rw [hldr] at q; exact q
              have hx0 : x ≠ 0 := HL.out.nz _ _ _ hldr
              subst hx
              have q1 : (en == 0) = false := by rw [beq_eq_false_iff_ne]; exact hx0
              have q2 : decide (en = 0) = false := by rw [decide_eq_false_iff_not]; exact hx0
              have HRR : Hid (R = ⟨none, vis ++ [y.d.name], en, ask ++ [y.ks]⟩) := Lib.hid (by rw [HK.out.rs]; exact walkP_err HFX.out HRE.out HEQ.out hldr)
              clear hldr hx0
              go_wp2
              rw [← HWB.out]
              obtain ⟨WZ, hWZ⟩ : ∃ WZ, WZ = WB := ⟨_, rfl⟩
              rw [← hWZ] at HBM HBB8 HBO HBI HBF ⊢
              have HMZ := HBM
              have HB8 := HBB8
              have HOZ : Hid (OG 9 1 WZ w.heap.size (.slice A9 (vis.length + 1) c9) (vis.length + 1) ((vis ++ [y.d.name]).map Value.string)) := Lib.hid (by rw [List.map_append]; exact HBO.out)
              have HIZ := HBI
              have HFZ := HBF
              have HNE : Hid (vis ++ [y.d.name] ≠ []) := Lib.hid (by simp)
              clear hWZ q1 q2
              have HS0 : (fun V => Blk V m 67 #[lv, .slice A9 (vis.length + 1) c9]) WZ.drew := HMZ.out
              refine wp_region_held_drew (S := fun V => Blk V m 67 #[lv, .slice A9 (vis.length + 1) c9]) (by kernel_rfl) (HS0) (fun hS1 => ?_)
              obtain ⟨WD, hWD⟩ : ∃ WD, WD = WZ.drew := ⟨_, rfl⟩
              rw [← hWD] at hS1 ⊢
              have HBD : Hid (Below WZ.heap.size WZ WD) := Lib.hid (by rw [hWD]; exact (Below.refl _ _).drew)
              have HD8 := Lib.hid (HB8.out.below HBD.out HB8.out.lt)
              clear hWD
              refine wpAnyH_take (i := 0) (oi := ⟨some 86, _, _, _, _, _⟩) (v := .agg #[.string ⟨#[]⟩, .int .i64 0, .string ⟨#[]⟩]) rfl (by kernel_rfl) (by kernel_rfl) (by kernel_rfl) (fun _ _ _ h => h) (.inl ⟨by kernel_rfl, fun V hS => by go_simp⟩) hS1 ?_
              simp only [Act.put, List.setIfInBounds_toArray, List.set_cons_zero, List.set_cons_succ]
              refine wpAnyH_take (i := 1) (oi := ⟨some 87, _, _, _, _, _⟩) (v := .pointer (some ⟨m, 0, none⟩)) rfl (by kernel_rfl) (by kernel_rfl) (by kernel_rfl) (fun _ _ _ h => h) (.inl ⟨by kernel_rfl, fun V hS => by go_simp⟩) hS1 ?_
              simp only [Act.put, List.setIfInBounds_toArray, List.set_cons_zero, List.set_cons_succ]
              refine wpAnyH_take (i := 2) (oi := ⟨some 88, _, _, _, _, _⟩) (v := .pointer (some ⟨m, 0, none⟩)) rfl (by kernel_rfl) (by kernel_rfl) (by kernel_rfl) (fun _ _ _ h => h) (.inl ⟨by kernel_rfl, fun V hS => by go_simp⟩) hS1 ?_
              simp only [Act.put, List.setIfInBounds_toArray, List.set_cons_zero, List.set_cons_succ]
              refine wpAnyH_take (i := 3) (oi := ⟨some 89, _, _, _, _, _⟩) (v := .pointer (some ⟨m, 1, none⟩)) rfl (by kernel_rfl) (by kernel_rfl) (by kernel_rfl) (fun _ _ _ h => h) (.inl ⟨by kernel_rfl, fun V hS => by go_simp⟩) hS1 ?_
              simp only [Act.put, List.setIfInBounds_toArray, List.set_cons_zero, List.set_cons_succ]
              refine wpAnyH_take (i := 4) (oi := ⟨some 90, _, _, _, _, _⟩) (v := .slice A9 (vis.length + 1) c9) rfl (by kernel_rfl) (by kernel_rfl) (by kernel_rfl) (fun _ _ _ h => h) (.inl ⟨by kernel_rfl, fun V hS => by have sc := hS.cell 1; simp at sc; go_simp⟩) hS1 ?_
              simp only [Act.put, List.setIfInBounds_toArray, List.set_cons_zero, List.set_cons_succ]
              refine wpAnyH_take (i := 5) (oi := ⟨some 91, _, _, _, _, _⟩) (v := .int .i64 en) rfl (by kernel_rfl) (by kernel_rfl) (by kernel_rfl) (fun _ _ _ h => h) (.inl ⟨by kernel_rfl, fun V hS => by go_simp⟩) hS1 ?_
              simp only [Act.put, List.setIfInBounds_toArray, List.set_cons_zero, List.set_cons_succ]
              refine wpAnyH_ready (rs := [6]) (by kernel_rfl) (by simp) ?_
              refine AllReadyH.cons rfl (fun K' hK => ?_) AllReadyH.nil
              go_simp
              have z0 : WD.cell? ⟨w.heap.size + 1, 0, none⟩ = some (.string ⟨#[]⟩) := HD8.out.cell 0
              have f0 : WD.frozen? ⟨w.heap.size + 1, 0, none⟩ = false := HD8.out.frozen 0
              have z1 : WD.cell? ⟨w.heap.size + 1, 1, none⟩ = some (.int .i64 0) := HD8.out.cell 1
              have f1 : WD.frozen? ⟨w.heap.size + 1, 1, none⟩ = false := HD8.out.frozen 1
              have z2 : WD.cell? ⟨w.heap.size + 1, 2, none⟩ = some (.string ⟨#[]⟩) := HD8.out.cell 2
              have f2 : WD.frozen? ⟨w.heap.size + 1, 2, none⟩ = false := HD8.out.frozen 2
              go_simp
              clear z0 f0 z1 f1 z2 f2
              refine hK.out _ _ (Blk.fr (hS1) ((Fr.setCell (S := fun b => b = w.heap.size + 1) (Fr.setCell (S := fun b => b = w.heap.size + 1) (Fr.setCell (S := fun b => b = w.heap.size + 1) ((Fr.refl (fun b => b = w.heap.size + 1) WD)) (p := ⟨w.heap.size + 1, 0, none⟩) (fun _ => rfl) (.string ⟨#[]⟩)) (p := ⟨w.heap.size + 1, 1, none⟩) (fun _ => rfl) (.int .i64 0)) (p := ⟨w.heap.size + 1, 2, none⟩) (fun _ => rfl) (.string ⟨#[]⟩))) (Blk.ne_ (hS1) HD8.out (by decide))) (fun hS2 => ?_)
              clear hK K' hS1
              refine wpAnyH_take (i := 7) (oi := ⟨some 9, _, _, _, _, _⟩) (v := .slice A9 (vis.length + 1) c9) rfl (by kernel_rfl) (by kernel_rfl) (by kernel_rfl) (fun _ _ _ h => h) (.inl ⟨by kernel_rfl, fun V hS => by go_simp⟩) hS2 ?_
              simp only [Act.put, List.setIfInBounds_toArray, List.set_cons_zero, List.set_cons_succ]
              refine wpAnyH_take (i := 8) (oi := ⟨some 10, _, _, _, _, _⟩) (v := .int .i64 en) rfl (by kernel_rfl) (by kernel_rfl) (by kernel_rfl) (fun _ _ _ h => h) (.inl ⟨by kernel_rfl, fun V hS => by go_simp⟩) hS2 ?_
              simp only [Act.put, List.setIfInBounds_toArray, List.set_cons_zero, List.set_cons_succ]
              refine wpAnyH_done (by kernel_rfl) ?_ _
              have HF8 := Lib.hid ((((HD8.out.set_ 0 (.string ⟨#[]⟩)).set_ 1 (.int .i64 0)).set_ 2 (.string ⟨#[]⟩)))
              have k0 := HF8.out.cell 0
              have k1 := HF8.out.cell 1
              have k2 := HF8.out.cell 2
              simp at k0 k1 k2
              go_wp2
              try rw [Exit.noGoto_ret]
              refine bodyPost_ret (v := .tuple #[ptV (none), .slice A9 (vis.length + 1) c9, .int .i64 en]) (by simp [results, Tryz.results12, go_sem, k0, k1, k2, ptV]) rfl ?_
              exact walk_end HL.out HMZ.out HOZ.out (by simp) HB8.out (HX.out _ (Nat.le_succ _)) HIZ.out HFZ.out (Fr.setCell (S := fun b => b = w.heap.size + 1) (Fr.setCell (S := fun b => b = w.heap.size + 1) (Fr.setCell (S := fun b => b = w.heap.size + 1) (Fr.of_below (S := fun b => b = w.heap.size + 1) HBD.out) (p := ⟨w.heap.size + 1, 0, none⟩) (fun _ => rfl) (.string ⟨#[]⟩)) (p := ⟨w.heap.size + 1, 1, none⟩) (fun _ => rfl) (.int .i64 0)) (p := ⟨w.heap.size + 1, 2, none⟩) (fun _ => rfl) (.string ⟨#[]⟩)) (HRR.out) (HNE.out)
            | ok tn =>
              have hx : t' = tn ∧ en = 0 := by have q := HRES.out; rw [hldr] at q; exact q
              obtain ⟨rfl, rfl⟩ := hx
              have HRR : Hid (R = walkP (covP path) path most ld 4 200 g0 t' (r.map TE.todo) (vis ++ [y.d.name]) (ask ++ [y.ks])) := Lib.hid (by rw [HK.out.rs]; exact walkP_go HFX.out HRE.out HEQ.out hldr)
              have HGDN := Lib.hid (HL.out.good _ _ _ hldr)
              have b0 : WB.cell? ⟨B14, 0, none⟩ = some (.int .i64 t'.ver) := HB14.out.cell 0
              have b1 : WB.cell? ⟨B14, 1, none⟩ = some (.int .i64 t'.exp) := HB14.out.cell 1
              have b2 : WB.cell? ⟨B14, 2, none⟩ = some (.slice a'.tA t'.ts.length a'.tc) := HB14.out.cell 2
              have b3 : WB.cell? ⟨B14, 3, none⟩ = some (.slice a'.kA t'.ks.length a'.kc) := HB14.out.cell 3
              have b4 : WB.cell? ⟨B14, 4, none⟩ = some (.slice a'.dA t'.ds.length a'.dc) := HB14.out.cell 4
              rw [HWB.out] at b0 b1 b2 b3 b4
              obtain ⟨WN, hWN⟩ : ∃ WN, WN = WB.alloc (.cells #[.int .i64 t'.ver, .int .i64 t'.exp, .slice a'.tA t'.ts.length a'.tc, .slice a'.kA t'.ks.length a'.kc, .slice a'.dA t'.ds.length a'.dc] 26) := ⟨_, rfl⟩
              have hbn : Below WB.heap.size WB WN := by rw [hWN]; exact (Below.refl _ _).alloc (Nat.le_refl _) _
              have hkn : Blk WN WB.heap.size 26 #[.int .i64 t'.ver, .int .i64 t'.exp, .slice a'.tA t'.ts.length a'.tc, .slice a'.kA t'.ks.length a'.kc, .slice a'.dA t'.ds.length a'.dc] := by rw [hWN]; exact Blk.new _ _ _
              have HNM : Hid (Blk WN m 67 #[lv, .slice A9 (vis.length + 1) c9]) := Lib.hid (HBM.out.below hbn HBM.out.lt)
              have HWKN : Hid (WkI X ld Inv path most R w (w.heap.size + 1) m WN WB.heap.size t' a' (vis ++ [y.d.name]) r S' (ask ++ [y.ks]) g0) := Lib.hid (by
                refine ⟨hkn, HBF.out.size, HBB8.out.below hbn HBB8.out.lt, HBMO.out.bel hbn, HGDN.out, HBS.out.below hbn, HL.out.bel HBI.out hbn, fun x vv hx b hb => ?_, HRR.out, ?_, ?_, HBF.out.below hbn⟩
                · have e := blk_eq HNM.out hx
                  simp only [Array.mk.injEq, List.cons.injEq, and_true] at e
                  rw [← e.2]
                  exact HSV'.out b hb
                · have h1 := HV1.out
                  have h2 := HEQ.out
                  simp
                  omega
                · have h1 := HRL.out
                  have h2 := HSL6.out
                  have h3 := HK.out.sl
                  simp
                  omega)
              have HLE1 : Hid (lenAt WN ⟨m, 1, none⟩ = vis.length + 1) := Lib.hid (lenAt_eq (HNM.out.cell 1))
              obtain ⟨sB, scB, vB, vcB, hmB, _, _, _⟩ := HK.out.st.vv
              have HLE2 : Hid (lenAt wr ⟨m, 1, none⟩ = vis.length) := Lib.hid (lenAt_eq (hmB.cell 1))
              have HWN := Lib.hid hWN
              have HNB : Hid (WB.heap.size = wL.heap.size) := Lib.hid (by rw [HWB.out]; simp)
              clear hldr hbn hkn hWN hmB
              go_wp2
              rw [← HWB.out, ← HWN.out]
              go_roundw
              case rel => exact ⟨wL.heap.size, t', a', vis ++ [y.d.name], r, S', ask ++ [y.ks], g0, rfl, by have q := HWKN; rw [HNB.out] at q; exact q⟩
              case measure => rw [HLE1.out, HLE2.out]; have := HVS.out; omega
end Go.Proofs.YthidjdjcjjbpbaaGreatDoor
