/-
  A state in memory.
-/
import Derived.Test.YtgpcinfhcamgpaaGreatDoorStM
namespace Go.Proofs.YtgpcinfhcamgpaaGreatDoor
open Go.RowKit
set_option linter.unusedVariables false
set_option linter.unusedSimpArgs false

structure SV where
  r : Pt
  t : Pt
  s : Pt
  tA : Option Addr
  tc : Nat
  tg : List FV
  iA : Option Addr
  ic : Nat
  ins : List FV
def SV.cs (s : SV) : Array Value := #[.slice s.r.A s.r.l.length s.r.c, .slice s.t.A s.t.l.length s.t.c, .slice s.s.A s.s.l.length s.s.c, .slice s.tA s.tg.length s.tc, .slice s.iA s.ins.length s.ic]
def SV.v (s : SV) : Value := .agg s.cs
def SV.sta (s : SV) : Sta := ⟨s.r.l, s.t.l, s.s.l, fiL s.tg, fiL s.ins⟩
def PtOK (w : World) (p : Pt) : Prop := RB w p.A p.l ∧ p.l.length ≤ p.c ∧ p.c ≤ maxLen
structure SAt (w : World) (x : SV) : Prop where
  r : PtOK w x.r
  t : PtOK w x.t
  s : PtOK w x.s
  tg : Fls w x.tA x.tg
  ins : Fls w x.iA x.ins
/-- not too large -/
structure SM (x : SV) : Prop where
  r : x.r.l.length ≤ 1048576
  t : x.t.l.length ≤ 1048576
  s : x.s.l.length ≤ 1048576
  tl : x.tg.length ≤ 70000
  il : x.ins.length ≤ 70000
  tn : ∀ f ∈ x.tg, f.nm.size ≤ 100000
  inn : ∀ f ∈ x.ins, f.nm.size ≤ 100000
theorem PtOK.below {w w' : World} {p : Pt} (h : PtOK w p) (hb : Below w.heap.size w w') : PtOK w' p := ⟨h.1.below hb, h.2⟩
theorem SAt.below {w w' : World} {s : SV} (h : SAt w s) (hb : Below w.heap.size w w') : SAt w' s := ⟨h.r.below hb, h.t.below hb, h.s.below hb, h.tg.below hb, h.ins.below hb⟩
def SV.none : SV := ⟨⟨.none, 0, []⟩, ⟨.none, 0, []⟩, ⟨.none, 0, []⟩, .none, 0, [], .none, 0, []⟩
theorem SAt.none (w : World) : SAt w SV.none := ⟨⟨RB.nil w, Nat.le_refl _, by simp [SV.none, maxLen]⟩, ⟨RB.nil w, Nat.le_refl _, by simp [SV.none, maxLen]⟩, ⟨RB.nil w, Nat.le_refl _, by simp [SV.none, maxLen]⟩, Fls.nil w _, Fls.nil w _⟩
theorem SM.none : SM SV.none := ⟨Nat.zero_le _, Nat.zero_le _, Nat.zero_le _, Nat.zero_le _, Nat.zero_le _, (fun f hf => by cases hf), (fun f hf => by cases hf)⟩
theorem SV.none_sta : SV.none.sta = Sta.none := rfl
end Go.Proofs.YtgpcinfhcamgpaaGreatDoor
