/-
  Metadata in memory: targets, keys' rows, delegations, roles' metadata. X: blocks that may be written.
-/
import Derived.Test.YthidjdjcjjbpbaaGreatDoorSeP
import Derived.Test.YthidjdjcjjbpbaaGreatDoorGG
namespace Go.Proofs.YthidjdjcjjbpbaaGreatDoor
open Go.RowKit Sea
set_option linter.unusedVariables false

def OutX (X : Nat → Prop) (A : Option Addr) : Prop := ∀ ad, A = some ad → ¬ X ad.block
def StrR (X : Nat → Prop) (w : World) (A : Option Addr) (l : List ByteArray) : Prop := SS w A l ∧ (0 < l.length → OutX X A)
def TB (w : World) (B o : Nat) (t : PT) : Prop := w.cell? ⟨B, o, none⟩ = some (.string t.p) ∧ w.cell? ⟨B, o + 1, none⟩ = some (.int .i64 t.n) ∧ w.cell? ⟨B, o + 2, none⟩ = some (.string t.h)
def KyB (w : World) (B o : Nat) (k : PK) : Prop := k.length = 35 ∧ ∀ j, j < 35 → w.cell? ⟨B, o + j, none⟩ = k[j]?
/-- where a delegation's rows lie -/
structure DA where
  kA : Option Addr
  kc : Nat
  pA : Option Addr
  pc : Nat
  xA : Option Addr
  xc : Nat
def Sea.PD.cs (d : PD) (a : DA) : List Value := [.string d.name, .slice a.kA d.rk.length a.kc, .int .i64 d.thr, .bool d.term, .slice a.pA d.paths.length a.pc, .slice a.xA d.prefs.length a.xc]
def Sea.PD.val (d : PD) (a : DA) : Value := .agg (d.cs a).toArray
structure DOk (X : Nat → Prop) (w : World) (d : PD) (a : DA) : Prop where
  rk : StrR X w a.kA d.rk
  rp : StrR X w a.pA d.paths
  rx : StrR X w a.xA d.prefs
  ck : d.rk.length ≤ a.kc ∧ a.kc ≤ maxLen
  cp : d.paths.length ≤ a.pc ∧ a.pc ≤ maxLen
  cx : d.prefs.length ≤ a.xc ∧ a.xc ≤ maxLen
def DelB (X : Nat → Prop) (w : World) (B o : Nat) (d : PD) : Prop := ∃ a : DA, (∀ j, j < 6 → w.cell? ⟨B, o + j, none⟩ = (d.cs a)[j]?) ∧ DOk X w d a
/-- a row of things of so many cells -/
def RowE {α : Type} (E : Nat → Nat → α → Prop) (size : Nat) (X : Nat → Prop) (w : World) (A : Option Addr) (l : List α) : Prop :=
  0 < l.length → ∃ B o, A = some ⟨B, o, none⟩ ∧ B < w.heap.size ∧ ¬ X B ∧ ∀ i (h : i < l.length), E B (o + i * size) l[i]
/-- where metadata's rows lie -/
structure MA where
  tA : Option Addr
  tc : Nat
  kA : Option Addr
  kc : Nat
  dA : Option Addr
  dc : Nat
def Sea.PM.cs (t : PM) (a : MA) : List Value := [.int .i64 t.ver, .int .i64 t.exp, .slice a.tA t.ts.length a.tc, .slice a.kA t.ks.length a.kc, .slice a.dA t.ds.length a.dc]
def Sea.PM.val (t : PM) (a : MA) : Value := .agg (t.cs a).toArray
structure MOk (X : Nat → Prop) (w : World) (t : PM) (a : MA) : Prop where
  rt : RowE (TB w) 3 X w a.tA t.ts
  rk : RowE (KyB w) 35 X w a.kA t.ks
  rd : RowE (DelB X w) 6 X w a.dA t.ds
  ct : t.ts.length ≤ a.tc ∧ a.tc ≤ maxLen
  ck : t.ks.length ≤ a.kc ∧ a.kc ≤ maxLen
  cd : t.ds.length ≤ a.dc ∧ a.dc ≤ maxLen
def NB (X : Nat → Prop) (w : World) (B o : Nat) (n : PN) : Prop := ∃ a : MA, (∀ j, j < 6 → w.cell? ⟨B, o + j, none⟩ = (Value.string n.name :: n.t.cs a)[j]?) ∧ MOk X w n.t a
def NsR (X : Nat → Prop) (w : World) (A : Option Addr) (l : List PN) : Prop := RowE (NB X w) 6 X w A l

/-- sizes of patterns -/
def PDz (d : PD) : Prop := (∀ p ∈ d.paths, p.size ≤ 140737488351232) ∧ ∀ p ∈ d.prefs, p.size ≤ 140737488351232
def PDs (d : PD) : Prop := d.rk.length ≤ 50 ∧ d.paths.length ≤ 50 ∧ d.prefs.length ≤ 50
structure PMs (t : PM) : Prop where
  ts : t.ts.length ≤ 200
  ks : t.ks.length ≤ 50
  ds : t.ds.length ≤ 30
  d : ∀ d ∈ t.ds, PDs d
def PMz (t : PM) : Prop := ∀ d ∈ t.ds, PDz d

section
variable {X Y : Nat → Prop} {w w' : World}
theorem OutX.nil : OutX X none := fun _ h => by cases h
theorem StrR.fr {A : Option Addr} {l : List ByteArray} (h : StrR X w A l) (hf : Fr X w w') : StrR X w' A l := by
  refine ⟨?_, h.2⟩
  rcases Nat.eq_zero_or_pos l.length with h0 | h0
  · rw [List.eq_nil_of_length_eq_zero h0]
    exact ⟨rfl, fun h => absurd h (by simp)⟩
  · exact (Reads.fr h.1 hf (Nat.le_refl _) (h.2 h0)).more hf.size
theorem StrR.nil : StrR X w none [] := ⟨SS.nil w, fun _ => OutX.nil⟩
theorem cell_fr {B o : Nat} {v : Option Value} (h : w.cell? ⟨B, o, none⟩ = v) (hf : Fr X w w') (hB : B < w.heap.size) (hX : ¬ X B) : w'.cell? ⟨B, o, none⟩ = v := (hf.cell hB hX).trans h
theorem TB.fr {B o : Nat} {t : PT} (h : TB w B o t) (hf : Fr X w w') (hB : B < w.heap.size) (hX : ¬ X B) : TB w' B o t := ⟨cell_fr h.1 hf hB hX, cell_fr h.2.1 hf hB hX, cell_fr h.2.2 hf hB hX⟩
theorem KyB.fr {B o : Nat} {t : PK} (h : KyB w B o t) (hf : Fr X w w') (hB : B < w.heap.size) (hX : ¬ X B) : KyB w' B o t := ⟨h.1, fun j hj => cell_fr (h.2 j hj) hf hB hX⟩
theorem DOk.fr {d : PD} {a : DA} (h : DOk X w d a) (hf : Fr X w w') : DOk X w' d a := ⟨h.rk.fr hf, h.rp.fr hf, h.rx.fr hf, h.ck, h.cp, h.cx⟩
theorem DelB.fr {B o : Nat} {d : PD} (h : DelB X w B o d) (hf : Fr X w w') (hB : B < w.heap.size) (hX : ¬ X B) : DelB X w' B o d := by
  obtain ⟨a, hc, hd⟩ := h
  exact ⟨a, fun j hj => cell_fr (hc j hj) hf hB hX, hd.fr hf⟩
theorem RowE.fr {α : Type} {E E' : Nat → Nat → α → Prop} {size : Nat} {A : Option Addr} {l : List α} (h : RowE E size X w A l) (hf : Fr X w w') (hE : ∀ B o x, B < w.heap.size → ¬ X B → E B o x → E' B o x) : RowE E' size X w' A l := fun h0 => by
  obtain ⟨B, o, hA, hB, hX, hi⟩ := h h0
  exact ⟨B, o, hA, Nat.lt_of_lt_of_le hB hf.size, hX, fun i hil => hE _ _ _ hB hX (hi i hil)⟩
theorem MOk.fr {t : PM} {a : MA} (h : MOk X w t a) (hf : Fr X w w') : MOk X w' t a :=
  ⟨h.rt.fr hf fun _ _ _ hB hX q => q.fr hf hB hX, h.rk.fr hf fun _ _ _ hB hX q => q.fr hf hB hX, h.rd.fr hf fun _ _ _ hB hX q => q.fr hf hB hX, h.ct, h.ck, h.cd⟩
theorem NB.fr {B o : Nat} {n : PN} (h : NB X w B o n) (hf : Fr X w w') (hB : B < w.heap.size) (hX : ¬ X B) : NB X w' B o n := by
  obtain ⟨a, hc, hd⟩ := h
  exact ⟨a, fun j hj => cell_fr (hc j hj) hf hB hX, hd.fr hf⟩
theorem NsR.fr {A : Option Addr} {l : List PN} (h : NsR X w A l) (hf : Fr X w w') : NsR X w' A l := RowE.fr h hf fun _ _ _ hB hX q => q.fr hf hB hX
theorem MOk.bel {t : PM} {a : MA} (h : MOk X w t a) (hb : Below w.heap.size w w') : MOk X w' t a := h.fr (Fr.of_below hb)
theorem NsR.bel {A : Option Addr} {l : List PN} (h : NsR X w A l) (hb : Below w.heap.size w w') : NsR X w' A l := h.fr (Fr.of_below hb)
theorem DOk.bel {d : PD} {a : DA} (h : DOk X w d a) (hb : Below w.heap.size w w') : DOk X w' d a := h.fr (Fr.of_below hb)
theorem StrR.bel {A : Option Addr} {l : List ByteArray} (h : StrR X w A l) (hb : Below w.heap.size w w') : StrR X w' A l := h.fr (Fr.of_below hb)
end
end Go.Proofs.YthidjdjcjjbpbaaGreatDoor
