/-
  Bytes that stay: read through a slice whose block lies below B.
-/
import Derived.Test.YtleancgkincenaaDoorUnhex
namespace Go.Proofs.YtleancgkincenaaDoor
open Go.RowKit

theorem RB.alloc {w : World} {A : Option Addr} {l : List UInt8} (h : RB w A l) (o : Obj) : RB (w.alloc o) A l := h.below ((Below.refl _ _).alloc (Nat.le_refl _) _)
theorem RB.drewN {w : World} {A : Option Addr} {l : List UInt8} (h : RB w A l) (n : Nat) : RB (w.drewN n) A l := h
theorem RB.drew {w : World} {A : Option Addr} {l : List UInt8} (h : RB w A l) : RB w.drew A l := h
theorem Below_drewN {B : Nat} {a w : World} (h : Below B a w) (n : Nat) : Below B a (w.drewN n) := ⟨h.os, h.tape, h.output, h.size, h.block⟩
def KB (w : World) (B : Nat) (A : Option Addr) (l : List UInt8) : Prop := RB w A l ∧ ∀ ad, A = some ad → ad.block < B
theorem KB.below {w w' : World} {B : Nat} {A : Option Addr} {l : List UInt8} (h : KB w B A l) (hb : Below w.heap.size w w') : KB w' B A l := ⟨h.1.below hb, h.2⟩
theorem KB.fr {S : Nat → Prop} {w w' : World} {B : Nat} {A : Option Addr} {l : List UInt8} (h : KB w B A l) (hf : Fr S w w') (hS : ∀ k, S k → B ≤ k) : KB w' B A l :=
  ⟨h.1.fr hf (fun ad e hs => by have := h.2 ad e; have := hS _ hs; omega), h.2⟩
theorem KB.mono {w : World} {B B' : Nat} {A : Option Addr} {l : List UInt8} (h : KB w B A l) (hB : B ≤ B') : KB w B' A l := ⟨h.1, fun ad e => by have := h.2 ad e; omega⟩
theorem OB.kb {w : World} {base : Nat} {v : Value} {l : List UInt8} (h : OB w base v l) : ∃ A c, v = .slice A l.length c ∧ l.length ≤ c ∧ c ≤ maxLen ∧ KB w w.heap.size A l := by
  obtain ⟨A, c, hv, h1, h2, h3, h4⟩ := h.shape
  exact ⟨A, c, hv, h1, h2, h3, fun ad e => (h4 ad e).2.1⟩

end Go.Proofs.YtleancgkincenaaDoor
