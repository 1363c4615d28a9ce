/-
  search: may; the loader of a search; named.load.
-/
import Derived.Test.YthidjdjcjjbpbaaGreatDoorSeU3
namespace Go.Proofs.YthidjdjcjjbpbaaGreatDoor
open Go.RowKit Sea Glob
set_option linter.unusedVariables false
set_option linter.unusedSimpArgs false

/-- what is wrong with a search -/
def mayS (path : ByteArray) (most : Int) : Int := if pathL path.data.toList = false then 120 else if most < 1 ∨ 32 < most then 1 else 0
set_option maxRecDepth 100000 in
set_option maxHeartbeats 2000000 in
theorem smay_any (path : ByteArray) (most : Int) (w : World) (hs : path.size ≤ 1000) (hT : Tbs w) : Calls Tryz.prog 25 #[.string path, .int .i64 most] w fun e w' => e = .returned (.int .i64 (mayS path most)) ∧ Below w.heap.size w w' := by
  have hp := path_any path w (by omega) hT.1
  obtain ⟨r, hr⟩ : ∃ r, r = mayS path most := ⟨_, rfl⟩
  rw [← hr]
  have HR := Lib.hid hr
  obtain ⟨b, hb⟩ : ∃ b, b = pathL path.data.toList := ⟨_, rfl⟩
  rw [← hb] at hp
  have HP := Lib.hid hp
  have HB := Lib.hid hb
  clear hp hb hr hT
  cases b with
  | false =>
    have HI : Hid (r = 120) := Lib.hid (by rw [HR.out]; unfold mayS; rw [if_pos HB.out.symm])
    go_enter Tryz.func25, Tryz.ntmps25
    go_wp2_with fail
    refine HP.out.mono ?_
    rintro e w' ⟨rfl, hb⟩
    go_wp2
    go_ret
    exact ⟨by rw [HI.out]; rfl, hb⟩
  | true =>
    rcases (by omega : most < 1 ∨ (1 ≤ most ∧ 32 < most) ∨ (1 ≤ most ∧ most ≤ 32)) with h1 | ⟨h1, h2⟩ | ⟨h1, h2⟩
    · have HI : Hid (r = 1) := Lib.hid (by rw [HR.out]; unfold mayS; rw [if_neg (by rw [← HB.out]; decide), if_pos (.inl h1)])
      have q1 : decide (most < 1) = true := by rw [decide_eq_true_iff]; omega
      clear h1
      go_enter Tryz.func25, Tryz.ntmps25
      go_wp2_with fail
      refine HP.out.mono ?_
      rintro e w' ⟨rfl, hb⟩
      go_wp2
      go_ret
      exact ⟨by rw [HI.out]; rfl, hb⟩
    · have HI : Hid (r = 1) := Lib.hid (by rw [HR.out]; unfold mayS; rw [if_neg (by rw [← HB.out]; decide), if_pos (.inr h2)])
      have q1 : decide (most < 1) = false := by rw [decide_eq_false_iff_not]; omega
      have q2 : decide (32 < most) = true := by rw [decide_eq_true_iff]; omega
      have q2' : decide (most > 32) = true := by rw [decide_eq_true_iff]; omega
      clear h1 h2
      go_enter Tryz.func25, Tryz.ntmps25
      go_wp2_with fail
      refine HP.out.mono ?_
      rintro e w' ⟨rfl, hb⟩
      go_wp2
      go_ret
      exact ⟨by rw [HI.out]; rfl, hb⟩
    · have HI : Hid (r = 0) := Lib.hid (by rw [HR.out]; unfold mayS; rw [if_neg (by rw [← HB.out]; decide), if_neg (by omega)])
      have q1 : decide (most < 1) = false := by rw [decide_eq_false_iff_not]; omega
      have q2 : decide (32 < most) = false := by rw [decide_eq_false_iff_not]; omega
      have q2' : decide (most > 32) = false := by rw [decide_eq_false_iff_not]; omega
      clear h1 h2
      go_enter Tryz.func25, Tryz.ntmps25
      go_wp2_with fail
      refine HP.out.mono ?_
      rintro e w' ⟨rfl, hb⟩
      go_wp2
      go_ret
      exact ⟨by rw [HI.out]; rfl, hb⟩
/-- what a loader answers -/
def LdP (X : Nat → Prop) (ld : Nat → ByteArray → Except Int PM) (Inv : World → (Nat → Prop) → List ByteArray → List (List PK) → Prop) (w : World) (S : Nat → Prop) (vis : List ByteArray) (ask : List (List PK)) (name : ByteArray) (ks : List PK) (e : Ending) (w' : World) : Prop :=
  ∃ (t : PM) (a : MA) (en : Int) (S' : Nat → Prop), e = .returned (.tuple #[t.val a, .int .i64 en]) ∧ (match ld vis.length name with | .ok t' => t = t' ∧ en = 0 | .error x => en = x) ∧ MOk X w' t a ∧ Inv w' S' (vis ++ [name]) (ask ++ [ks]) ∧ Fr S w w' ∧ ∀ b, S' b → S b ∨ w.heap.size ≤ b
/-- a loader: what it keeps, what it answers; X: blocks that may be written -/
structure Ldr (X : Nat → Prop) (fn : Nat) (c : Value) (ld : Nat → ByteArray → Except Int PM) (Inv : World → (Nat → Prop) → List ByteArray → List (List PK) → Prop) : Prop where
  ent : ∀ args w, (callFunc fn args).run Tryz.prog w = .ok (.enter fn args) w
  good : ∀ k n t, ld k n = .ok t → PMs t ∧ PMz t ∧ PKo t
  nz : ∀ k n e, ld k n = .error e → e ≠ 0
  typ : ∀ {w S vis ask}, Inv w S vis ask → ∀ b, S b → X b ∧ ∃ t cs, Blk w b t cs ∧ (t = 41 ∨ t = 9 ∨ t = 23)
  keep : ∀ {w w' S vis ask} (T : Nat → Prop), Inv w S vis ask → Fr T w w' → (∀ b, b < w.heap.size → T b → X b ∧ ¬ S b ∧ ∀ cs, ¬ Blk w b 78 cs) → Inv w' S vis ask
  step : ∀ {w S vis ask} (d : PD) (a : DA) (ks : List PK) (kv : Value) (base : Nat), Inv w S vis ask → 1 ≤ vis.length → vis.length ≤ 32 → OG 78 35 w base kv ks.length ks.flatten → (∀ k ∈ ks, k.length = 35) → Calls Tryz.prog fn #[c, d.val a, kv] w fun e w' => PF (LdP X ld Inv w S vis ask d.name ks) e w'
section
variable {X : Nat → Prop} {fn : Nat} {c : Value} {ld : Nat → ByteArray → Except Int PM} {Inv : World → (Nat → Prop) → List ByteArray → List (List PK) → Prop} {w w' : World} {S : Nat → Prop} {vis : List ByteArray} {ask : List (List PK)}
theorem Ldr.bel (h : Ldr X fn c ld Inv) (hi : Inv w S vis ask) (hb : Below w.heap.size w w') : Inv w' S vis ask := h.keep (fun _ => False) hi (Fr.of_below hb) (fun _ _ e => e.elim)
/-- a block of another kind is written -/
theorem Ldr.one (h : Ldr X fn c ld Inv) (hi : Inv w S vis ask) {g : Nat} {t : TypeId} {cs : Array Value} (hg : Blk w g t cs) (hX : X g) (ht : t ≠ 41 ∧ t ≠ 9 ∧ t ≠ 23 ∧ t ≠ 78) (hf : Fr (· = g) w w') : Inv w' S vis ask := h.keep (· = g) hi hf (fun b _ e => by
  subst e
  refine ⟨hX, fun hs => ?_, fun cs hb => hg.ne_ hb ht.2.2.2 rfl⟩
  obtain ⟨_, t', cs', hb, e⟩ := h.typ hi _ hs
  rcases e with rfl | rfl | rfl
  · exact hg.ne_ hb ht.1 rfl
  · exact hg.ne_ hb ht.2.1 rfl
  · exact hg.ne_ hb ht.2.2.1 rfl)
theorem Ldr.far (h : Ldr X fn c ld Inv) (hi : Inv w S vis ask) {g : Nat} {t : TypeId} {cs : Array Value} (hg : Blk w g t cs) (ht : t ≠ 41 ∧ t ≠ 9 ∧ t ≠ 23) : ¬ S g := fun hs => by
  obtain ⟨_, t', cs', hb, e⟩ := h.typ hi _ hs
  rcases e with rfl | rfl | rfl
  · exact hg.ne_ hb ht.1 rfl
  · exact hg.ne_ hb ht.2.1 rfl
  · exact hg.ne_ hb ht.2.2 rfl
end
end Go.Proofs.YthidjdjcjjbpbaaGreatDoor
