/-
  A state whose parts the program made itself; Decode's closure.
-/
import Derived.Test.YtgpcinfhcamgpaaGreatDoorStD2
import Derived.Test.YtgpcinfhcamgpaaGreatDoorStW2
namespace Go.Proofs.YtgpcinfhcamgpaaGreatDoor
open Go.RowKit
attribute [local go_sem ↓] Go.wp_at_zero Go.wp_at_succ
set_option linter.unusedVariables false
set_option linter.unusedSimpArgs false

def PtT (w : World) (p : Pt) : Prop := BodyOK w 0 p.A p.l ∧ p.l.length ≤ p.c ∧ p.c ≤ maxLen
structure STy (w : World) (x : SV) : Prop where
  r : PtT w x.r
  t : PtT w x.t
  s : PtT w x.s
  tg : OFl 0 w 0 (.slice x.tA x.tg.length x.tc) x.tg
  ins : OFl 0 w 0 (.slice x.iA x.ins.length x.ic) x.ins
/-- blocks that hold neither bytes nor files -/
def NoBF (w : World) (g : Nat) : Prop := ∀ cs fr, w.heap[g]? ≠ some (.cells cs 5 fr) ∧ w.heap[g]? ≠ some (.cells cs 55 fr)
theorem NoBF.of_blk {w : World} {g : Nat} {t : TypeId} {cs : Array Value} (h : Blk w g t cs) (h1 : t ≠ 5) (h2 : t ≠ 55) : NoBF w g := fun cs' fr => by
  refine ⟨fun e => ?_, fun e => ?_⟩
  · rw [h] at e; injection e with e; injection e with _ e _; exact h1 e
  · rw [h] at e; injection e with e; injection e with _ e _; exact h2 e
theorem PtT.fr {S : Nat → Prop} {w w' : World} {p : Pt} (h : PtT w p) (hf : Fr S w w') (hS : ∀ g, S g → NoBF w g) : PtT w' p := ⟨h.1.fr hf (fun g hg => ⟨Nat.zero_le _, fun cs fr => (hS g hg cs fr).1⟩), h.2⟩
theorem PtT.below {w w' : World} {p : Pt} (h : PtT w p) (hb : Below w.heap.size w w') : PtT w' p := ⟨h.1.below hb, h.2⟩
theorem OFl.frN {S : Nat → Prop} {bb base : Nat} {w w' : World} {v : Value} {fs : List FV} (h : OFl 0 w base v fs) (hf : Fr S w w') (hS : ∀ g, S g → NoBF w g) : OFl 0 w' base v fs := by
  refine h.fr hf (fun g hg hs => ?_) (fun g hg => ⟨Nat.zero_le _, fun cs fr => (hS g hg cs fr).1⟩)
  rcases h.1.2 with ⟨hv, _⟩ | ⟨g', cap, cur, hv, _, hh, _⟩
  · subst hv; simp [Value.ownBlock] at hg
  · subst hv
    simp [Value.ownBlock] at hg
    subst hg
    exact (hS _ hs _ _).2 hh
theorem OFl.mono {bb base b' : Nat} {w : World} {v : Value} {fs : List FV} (h : OFl bb w base v fs) (hb : b' ≤ base) : OFl bb w b' v fs := by
  refine ⟨⟨h.1.1, ?_⟩, h.2⟩
  rcases h.1.2 with h0 | ⟨g, cap, cur, hv, hg, hh⟩
  · exact .inl h0
  · exact .inr ⟨g, cap, cur, hv, by omega, hh⟩
theorem STy.fr {S : Nat → Prop} {w w' : World} {x : SV} (h : STy w x) (hf : Fr S w w') (hS : ∀ g, S g → NoBF w g) : STy w' x :=
  ⟨h.r.fr hf hS, h.t.fr hf hS, h.s.fr hf hS, OFl.frN (bb := 0) h.tg hf hS, OFl.frN (bb := 0) h.ins hf hS⟩
theorem STy.below {w w' : World} {x : SV} (h : STy w x) (hb : Below w.heap.size w w') : STy w' x := ⟨h.r.below hb, h.t.below hb, h.s.below hb, h.tg.below hb, h.ins.below hb⟩
theorem PtT.ok {w : World} {p : Pt} (h : PtT w p) : PtOK w p := ⟨h.1.1, h.2⟩
theorem STy.at_ {w : World} {x : SV} (h : STy w x) : SAt w x := by
  refine ⟨h.r.ok, h.t.ok, h.s.ok, ?_, ?_⟩
  · obtain ⟨A, c, e, _, _, hf, _⟩ := h.tg.shape
    injection e with e1
    rw [e1]; exact hf
  · obtain ⟨A, c, e, _, _, hf, _⟩ := h.ins.shape
    injection e with e1
    rw [e1]; exact hf
theorem STy.none (w : World) : STy w SV.none := by
  have hp : PtT w ⟨Option.none, 0, []⟩ := ⟨⟨RB.nil w, fun ad e => by cases e⟩, Nat.le_refl _, by simp [maxLen]⟩
  exact ⟨hp, hp, hp, OFl.nil _ _ _, OFl.nil _ _ _⟩
theorem from_n' (A : Option Addr) (n c : Nat) (l : List UInt8) (w : World) (hl : l.length = n) (hn : n ≤ 70368744177664) (hr : RB w A l) :
    Calls Tryz.prog 37 #[.slice A n c] w fun e w' => ∃ r, e = .returned (.pointer (some ⟨r, 0, none⟩)) ∧ w.heap.size ≤ r ∧ RD w' r l false ∧ Below w.heap.size w w' := by
  subst hl; exact from_any A c l w hn hr
def DtPost (w : World) (r : Nat) (l : List UInt8) (e : Ending) (w' : World) : Prop :=
  ∃ A c, e = .returned (.slice A (rdT l).1.length c) ∧ PtT w' ⟨A, c, (rdT l).1⟩ ∧ RD w' r (rdT l).2.1 (rdT l).2.2 ∧ Fr (· = r) w w'
set_option maxRecDepth 100000 in
set_option maxHeartbeats 2000000 in
theorem dtext_any (w : World) (r g : Nat) (l : List UInt8) (bad : Bool) (h : RD w r l bad) (hb : Blk w g 67 #[.pointer (some ⟨r, 0, none⟩)]) :
    Calls Tryz.prog 38 #[.pointer (some ⟨g, 0, none⟩)] w fun e w' => DtPost w r l e w' := by
  have HT := Lib.hid (rtextC w r l bad h)
  have hz := rdT_most l
  have HDP : Hid (∀ A c w', PtT w' ⟨A, c, (rdT l).1⟩ → RD w' r (rdT l).2.1 (rdT l).2.2 → Fr (· = r) w w' → DtPost w r l (.returned (.slice A (rdT l).1.length c)) w') := Lib.hid (fun A c w' h1 h2 h3 => ⟨A, c, rfl, h1, h2, h3⟩)
  obtain ⟨t, ht⟩ : ∃ t, t = (rdT l).1 := ⟨_, rfl⟩
  rw [← ht] at HT hz HDP
  have c0 := hb.cell 0
  clear h hb ht
  simp only [List.getElem?_toArray, List.getElem?_cons_zero] at c0
  go_enter Tryz.func38, Tryz.ntmps38
  go_wp2_with fail
  refine HT.out.mono ?_
  rintro e w1 ⟨rfl, hr1, hf1⟩
  obtain ⟨cap, w2, hconv, hc1, hc2, hbody, hbel, hsz⟩ := conv_body t w1 (by unfold maxLen; omega)
  have HE := Lib.hid (HDP.out _ cap w2 ⟨hbody 0, hc1, hc2⟩ (hr1.below hbel) (hf1.below hbel))
  clear hr1 hf1 hbody hbel hsz hc1 hc2 HDP c0
  go_wp2
  go_ret
  exact HE.out
end Go.Proofs.YtgpcinfhcamgpaaGreatDoor
