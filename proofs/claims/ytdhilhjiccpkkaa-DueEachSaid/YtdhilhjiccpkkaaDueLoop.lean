/-
  What the laws' loops keep.
-/
import Derived.Test.YtdhilhjiccpkkaaDueDo
import Derived.Test.YtdhilhjiccpkkaaDueOL
import Derived.Test.YtdhilhjiccpkkaaDueQ7
namespace Go.Proofs.Ytdhilhjiccpkkaa
open Go.RowKit
set_option linter.unusedVariables false

/-- both queues, new: the document's is a box with an empty list -/
theorem QX.new {B q : Nat} {w : World} {S : Nat → Prop} (h : QI B w q [] S) : QX B (fun _ => False) (w.alloc (.cells #[.slice none 0 0] 28)) q w.heap.size [] [] := by
  have hb : Below w.heap.size w (w.alloc (.cells #[.slice none 0 0] 28)) := (Below.refl _ _).alloc (Nat.le_refl _) _
  refine ⟨S, none, 0, h.below hb, ⟨Blk.new w 28 #[.slice none 0 0], RL.nil _ _, Nat.le_refl _, by unfold maxLen; omega, .inl ⟨rfl, rfl⟩⟩, h.size, fun e => by have := h.lt _ e; omega, fun ad e => (by cases e), fun k hk => hk.elim, by simp [Nm], by simp⟩
def BothI (W wr : World) (q x : Nat) : Prop := ∃ X, QX W.heap.size (fun _ => False) wr q x X X ∧ Below W.heap.size W wr
theorem gath_b {B q x mm : Nat} {G : Nat → Prop} {X Y L : List Du} (w : World) (h : QX B G w q x X Y) (m : Int) (hL : gathL X m = L) (hm : L.length = mm) :
    Calls Try.prog 18 #[.pointer (some ⟨q, 0, none⟩), .int .i64 m] w fun e w' => ∃ A c, e = .returned (.slice A mm c) ∧ RL w' A L ∧ Below w.heap.size w w' := by
  subst hL hm
  refine (gathered_any (X := X) (some ⟨q, 0, none⟩) (fun W' hb => ball_q W' (h.below hb)) h.few.1).mono ?_
  rintro e w' ⟨v, rfl, hd, hb⟩
  obtain ⟨A, c, rfl⟩ := dr_val hd
  exact ⟨A, c, rfl, RL.of_dr hd, hb⟩
theorem same_b {A A2 : Option Addr} {c c2 mm : Nat} {L : List Du} (w : World) (h1 : RL w A L) (h2 : RL w A2 L) (hm : L.length = mm) (hf : mm ≤ 512) :
    Calls Try.prog 12 #[.slice A mm c, .slice A2 mm c2] w fun e w' => e = .returned (.bool true) ∧ Below w.heap.size w w' := by
  subst hm
  refine (same_any w h1 h2 hf).mono ?_
  rintro e w' ⟨rfl, hb⟩
  exact ⟨by simp, hb⟩
end Go.Proofs.Ytdhilhjiccpkkaa
