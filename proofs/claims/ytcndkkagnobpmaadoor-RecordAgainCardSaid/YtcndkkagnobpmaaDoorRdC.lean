/-
  octet.Reader, in a seat without octet.Text: the reader's bytes; From.
-/
import Derived.Test.YtcndkkagnobpmaaDoorCl
import Derived.Test.YtcndkkagnobpmaaDoorOctPut
import Derived.Test.YtcndkkagnobpmaaDoorBytesEq
namespace Go.Proofs.YtcndkkagnobpmaaDoor
open Go.RowKit
set_option linter.unusedVariables false

/-- A reader: the bytes that are left; is it bad? -/
def RD (w : World) (r : Nat) (l : List UInt8) (bad : Bool) : Prop :=
  ∃ A c, Blk w r 118 #[.slice A l.length c, .bool bad] ∧ RB w A l ∧ l.length ≤ c ∧ c ≤ maxLen ∧ l.length ≤ 70368744177664 ∧ (bad = true → l = []) ∧ ∀ ad, A = some ad → ∃ cs, Blk w ad.block 5 cs
theorem RD.fr {S : Nat → Prop} {w w' : World} {r : Nat} {l : List UInt8} {bad : Bool} (h : RD w r l bad) (hf : Fr S w w') (hr : ¬ S r) (hS : ∀ k cs, S k → ¬ Blk w k 5 cs) : RD w' r l bad := by
  obtain ⟨A, c, hb, hR, hc, hm, hln, hbad, hA⟩ := h
  have hA' : ∀ ad, A = some ad → ¬ S ad.block := fun ad e hs => by
    obtain ⟨cs, hcs⟩ := hA ad e
    exact hS _ cs hs hcs
  exact ⟨A, c, hb.fr hf hr, hR.fr hf hA', hc, hm, hln, hbad, fun ad e => by
    obtain ⟨cs, hcs⟩ := hA ad e
    exact ⟨cs, hcs.fr hf (hA' ad e)⟩⟩
theorem RD.below {w w' : World} {r : Nat} {l : List UInt8} {bad : Bool} (h : RD w r l bad) (hb : Below w.heap.size w w') : RD w' r l bad :=
  h.fr (S := fun _ => False) (Fr.of_below hb) (fun x => x) (fun _ _ x => x.elim)
theorem OB.typed {w : World} {base : Nat} {A : Option Addr} {n c : Nat} {l : List UInt8} (h : OB w base (.slice A n c) l) : ∀ ad, A = some ad → ∃ cs, Blk w ad.block 5 cs := by
  intro ad e
  subst e
  rcases h.2 with ⟨hv, _⟩ | ⟨g, cap, cur, hv, _, hh, _⟩
  · cases hv
  · injection hv with hv _ _
    injection hv with hv
    subst hv
    exact ⟨cur, hh⟩

set_option maxRecDepth 100000 in
set_option maxHeartbeats 400000 in
theorem from_any (A : Option Addr) (c : Nat) (l : List UInt8) (w : World) (hn : l.length ≤ 70368744177664) (hr : RB w A l) :
    Calls Tryd.prog 60 #[.slice A l.length c] w fun e w' => ∃ r, e = .returned (.pointer (some ⟨r, 0, none⟩)) ∧ w.heap.size ≤ r ∧ RD w' r l false ∧ Below w.heap.size w w' := by
  go_enter Tryd.func60, Tryd.ntmps60
  go_wp2_with (go_at_call 30; refine (clone_any A c l _ (by omega) hr).mono ?_)
  rintro e w1 ⟨v, rfl, hv, hb⟩
  obtain ⟨A', c', rfl, hlc, hm, hR, hA⟩ := hv.shape
  have hT := hv.typed
  go_wp2
  go_ret
  refine ⟨w1.heap.size, rfl, hb.size, ⟨A', c', Blk.new _ _ _, RB.below hR ((Below.refl _ _).alloc (Nat.le_refl _) _), hlc, hm, hn, by simp, fun ad e => ?_⟩, hb.trans ?_⟩
  · obtain ⟨cs, hcs⟩ := hT ad e
    exact ⟨cs, hcs.alloc _⟩
  · exact (Below.refl _ _).alloc hb.size _

end Go.Proofs.YtcndkkagnobpmaaDoor
