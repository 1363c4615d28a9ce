/-
  The law StoreKeeps: what a round is given, and what the loop keeps.
-/
import Derived.Test.YtgpcinfhcamgpaaGreatDoorStKp
import Derived.Test.YtgpcinfhcamgpaaGreatDoorStK2
import Derived.Test.YtgpcinfhcamgpaaGreatDoorStS2
namespace Go.Proofs.YtgpcinfhcamgpaaGreatDoor
open Go.RowKit Glob
set_option linter.unusedVariables false
set_option linter.unusedSimpArgs false

/-- the round's body, from Stop on, from Crash on -/
noncomputable def kBody : Code := partC [1, 1, 1, 1, 1, 1, 1, 0, 1, 2, 3, 1, 0, 2] kC
noncomputable def kMid : Code := partC [1, 1, 1] kBody
noncomputable def kFin : Code := partC [1, 1, 1] kMid
/-- one thing that happens, of those that came in -/
structure OpS where
  x : SV
  n : Int
  k : Int
  Ak : Option Addr
  ck : Nat
  l : List (Int × Int)
structure OpSAt (w : World) (B b o : Nat) (p : OpS) : Prop where
  lt : b < B
  st : ∀ j, j < 5 → w.cell? ⟨b, o + j, none⟩ = p.x.cs[j]?
  n : w.cell? ⟨b, o + 5, none⟩ = some (.int .i64 p.n)
  k : w.cell? ⟨b, o + 6, none⟩ = some (.int .i64 p.k)
  l : w.cell? ⟨b, o + 7, none⟩ = some (.slice p.Ak p.l.length p.ck)
  at_ : SAt w p.x
  bd : SBd p.x
  kp : KptAt w B p.Ak p.l
  wf : (Lit.int .i64 p.n).wf = true
theorem OpSAt.below {w w' : World} {b o : Nat} {p : OpS} (h : OpSAt w w.heap.size b o p) (hb : Below w.heap.size w w') : OpSAt w' w.heap.size b o p :=
  ⟨h.lt, fun j hj => (hb.cell (p := ⟨b, o + j, none⟩) h.lt).trans (h.st j hj), (hb.cell (p := ⟨b, o + 5, none⟩) h.lt).trans h.n, (hb.cell (p := ⟨b, o + 6, none⟩) h.lt).trans h.k, (hb.cell (p := ⟨b, o + 7, none⟩) h.lt).trans h.l, h.at_.below hb, h.bd, h.kp.below hb, h.wf⟩
/-- what the loop keeps -/
structure KW (W : World) (d s M p r g half n N : Nat) (T : List UInt8) (st : Sta) (xw : SV) (wr : World) : Prop where
  disk : ∃ K, RecD wr d s M 0 half N T K ∧ K.sure.length = n
  rc : RecAt wr r d 0 half N T false
  stis : StIs T st
  tl : T.length ≤ 64 * (half - 1)
  tb : T.length ≤ 100000
  store : ∃ x, StoreAt wr p r x
  was : Blk wr g 25 xw.cs
  wty : STy wr xw
  wm : SM xw
  ws : xw.sta = st
  bel : Below W.heap.size W wr
  ger : W.heap.size ≤ r
  gep : W.heap.size ≤ p
  gem : W.heap.size ≤ M
  geg : W.heap.size ≤ g
theorem KW.below {W : World} {d s M p r g half n N : Nat} {T : List UInt8} {st : Sta} {xw : SV} {wr w' : World} (h : KW W d s M p r g half n N T st xw wr) (hb : Below wr.heap.size wr w') : KW W d s M p r g half n N T st xw w' := by
  obtain ⟨K, hK, hl⟩ := h.disk
  obtain ⟨x, hx⟩ := h.store
  exact ⟨⟨K, hK.below hb, hl⟩, h.rc.below hb, h.stis, h.tl, h.tb, ⟨x, hx.below hb⟩, h.was.below hb h.was.lt, h.wty.below hb, h.wm, h.ws, h.bel.trans (hb.mono h.bel.size), h.ger, h.gep, h.gem, h.geg⟩
end Go.Proofs.YtgpcinfhcamgpaaGreatDoor
