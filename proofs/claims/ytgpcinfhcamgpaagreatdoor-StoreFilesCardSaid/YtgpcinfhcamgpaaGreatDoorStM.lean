/-
  Files in memory: rows of two cells (a name, a text), read or owned.
-/
import Derived.Test.YtgpcinfhcamgpaaGreatDoorStP
import Derived.Test.YtgpcinfhcamgpaaGreatDoorGA
namespace Go.Proofs.YtgpcinfhcamgpaaGreatDoor
open Go.RowKit
set_option linter.unusedVariables false
set_option linter.unusedSimpArgs false

structure FV where
  nm : ByteArray
  A : Option Addr
  c : Nat
  b : List UInt8
def FV.cells (f : FV) : List Value := [.string f.nm, .slice f.A f.b.length f.c]
def FV.fi (f : FV) : Fi := ⟨f.nm, f.b⟩
/-- bytes that lie below a block, or in a block of bytes -/
def BodyOK (w : World) (base : Nat) (A : Option Addr) (l : List UInt8) : Prop :=
  RB w A l ∧ ∀ ad, A = some ad → ad.block < base ∨ ∃ cs fr, w.heap[ad.block]? = some (.cells cs 5 fr)
def FVok (w : World) (base : Nat) (f : FV) : Prop := BodyOK w base f.A f.b ∧ f.b.length ≤ f.c ∧ f.c ≤ maxLen
def Fls (w : World) (A : Option Addr) (fs : List FV) : Prop := Reads w w.heap.size 2 A fs.length (fs.flatMap FV.cells) ∧ ∀ f ∈ fs, RB w f.A f.b ∧ f.b.length ≤ f.c ∧ f.c ≤ maxLen
/-- a row of files that is owned, from block base on; their texts lie below bb, or in blocks of bytes -/
def OFl (bb : Nat) (w : World) (base : Nat) (v : Value) (fs : List FV) : Prop := w.ownsRow base 55 2 v fs.length (fs.flatMap FV.cells) ∧ ∀ f ∈ fs, FVok w bb f
theorem flat_len : ∀ fs : List FV, (fs.flatMap FV.cells).length = fs.length * 2
  | [] => rfl
  | f :: fs => by rw [List.flatMap_cons, List.length_append, flat_len fs, List.length_cons]; simp [FV.cells]; omega
theorem flat_at : ∀ (fs : List FV) (k : Nat) (hk : k < fs.length), (fs.flatMap FV.cells)[k * 2]? = some (.string fs[k].nm) ∧ (fs.flatMap FV.cells)[k * 2 + 1]? = some (.slice fs[k].A fs[k].b.length fs[k].c)
  | [], k, h => by simp at h
  | f :: fs, 0, _ => by simp [FV.cells]
  | f :: fs, k + 1, h => by
    have := flat_at fs k (by simpa using h)
    have e : (f :: fs).flatMap FV.cells = Value.string f.nm :: Value.slice f.A f.b.length f.c :: fs.flatMap FV.cells := by simp [FV.cells]
    rw [e, show (k + 1) * 2 = k * 2 + 2 from by omega, show k * 2 + 2 + 1 = (k * 2 + 1) + 2 from by omega]
    simpa using this
section
variable {w w' : World} {A : Option Addr} {fs : List FV} {base bb : Nat} {v : Value}
theorem Fls.nil (w : World) (A : Option Addr) : Fls w A [] := ⟨⟨by simp, fun h => by simp at h⟩, fun f hf => by cases hf⟩
theorem Fls.below (h : Fls w A fs) (hb : Below w.heap.size w w') : Fls w' A fs := ⟨(Reads.below h.1 hb).more hb.size, fun f hf => ⟨(h.2 f hf).1.below hb, (h.2 f hf).2⟩⟩
theorem Fls.at_ (h : Fls w A fs) {k : Nat} (hk : k < fs.length) : ∃ b o, A = some ⟨b, o, none⟩ ∧ b < w.heap.size ∧ w.cell? ⟨b, o + k * 2, none⟩ = some (.string fs[k].nm) ∧ w.cell? ⟨b, o + k * 2 + 1, none⟩ = some (.slice fs[k].A fs[k].b.length fs[k].c) ∧
    RB w fs[k].A fs[k].b ∧ fs[k].b.length ≤ fs[k].c ∧ fs[k].c ≤ maxLen := by
  obtain ⟨ad, hA, hlt, hc⟩ := h.1.2 (by omega)
  obtain ⟨f1, f2⟩ := flat_at fs k hk
  have c1 := hc _ _ f1
  have c2 := hc _ _ f2
  have hs := hc _ _ (flat_at fs 0 (by omega)).1
  have e : ad = ⟨ad.block, ad.off, none⟩ := by
    have e := cell_spot hs
    have : (0 * 2 : Nat) = 0 := rfl
    rw [this] at e
    have e3 : ad.add 0 = ad := by simp [Addr.add]
    rw [e3] at e
    exact e
  rw [e] at c1 c2 hA
  rw [Addr.add_lit] at c1 c2
  exact ⟨_, _, hA, hlt, c1, c2, h.2 _ (List.getElem_mem hk)⟩
theorem BodyOK.below {l : List UInt8} (h : BodyOK w base A l) (hb : Below w.heap.size w w') : BodyOK w' base A l := by
  refine ⟨h.1.below hb, fun ad e => ?_⟩
  rcases h.2 ad e with h1 | ⟨cs, fr, h1⟩
  · exact .inl h1
  · have hlt : ad.block < w.heap.size := by
      rcases Nat.lt_or_ge ad.block w.heap.size with h2 | h2
      · exact h2
      · rw [Array.getElem?_eq_none h2] at h1; cases h1
    exact .inr ⟨cs, fr, (hb.block _ hlt).trans h1⟩
theorem BodyOK.of_rb {l : List UInt8} (h : RB w A l) (hA : ∀ ad, A = some ad → ad.block < base) : BodyOK w base A l := ⟨h, fun ad e => .inl (hA ad e)⟩
theorem BodyOK.of_ob {l : List UInt8} {n c b' : Nat} (h : OB w b' (.slice A n c) l) : BodyOK w base A l := by
  obtain ⟨A', c', e, _, _, hr, _⟩ := h.shape
  injection e with e1 e2 e3
  subst e1
  refine ⟨hr, fun ad e => .inr ?_⟩
  subst e
  rcases h.2 with ⟨e, _⟩ | ⟨g, cap, cur, e, hg, hh, hn⟩
  · cases e
  · injection e with e1
    cases e1
    exact ⟨_, _, hh⟩
theorem FVok.below {f : FV} (h : FVok w base f) (hb : Below w.heap.size w w') : FVok w' base f := ⟨h.1.below hb, h.2⟩
/-- a body survives writes to blocks from base on that hold files -/
theorem BodyOK.fr {S : Nat → Prop} {l : List UInt8} (h : BodyOK w base A l) (hf : Fr S w w') (hS : ∀ g, S g → base ≤ g ∧ ∀ cs fr, w.heap[g]? ≠ some (.cells cs 5 fr)) : BodyOK w' base A l := by
  have hns : ∀ ad, A = some ad → ¬ S ad.block := fun ad e hs => by
    obtain ⟨h1, h2⟩ := hS _ hs
    rcases h.2 ad e with h3 | ⟨cs, fr, h3⟩
    · omega
    · exact h2 _ _ h3
  refine ⟨h.1.fr hf hns, fun ad e => ?_⟩
  rcases h.2 ad e with h1 | ⟨cs, fr, h1⟩
  · exact .inl h1
  · have hlt : ad.block < w.heap.size := by
      rcases Nat.lt_or_ge ad.block w.heap.size with h2 | h2
      · exact h2
      · rw [Array.getElem?_eq_none h2] at h1; cases h1
    exact .inr ⟨cs, fr, (hf.block _ hlt (hns ad e)).trans h1⟩
theorem FVok.fr {S : Nat → Prop} {f : FV} (h : FVok w base f) (hf : Fr S w w') (hS : ∀ g, S g → base ≤ g ∧ ∀ cs fr, w.heap[g]? ≠ some (.cells cs 5 fr)) : FVok w' base f := ⟨h.1.fr hf hS, h.2⟩
theorem OFl.nil (bb : Nat) (w : World) (base : Nat) : OFl bb w base (.slice none 0 0) [] := ⟨World.ownsRow_nil _ _ _ _, fun f hf => by cases hf⟩
theorem OFl.below (h : OFl bb w base v fs) (hb : Below w.heap.size w w') : OFl bb w' base v fs := by
  refine ⟨⟨h.1.1, ?_⟩, fun f hf => (h.2 f hf).below hb⟩
  rcases h.1.2 with h0 | ⟨g, cap, cur, hv, hg, hh, hn⟩
  · exact .inl h0
  · exact .inr ⟨g, cap, cur, hv, hg, (hb.block g (Blk.lt (t := 55) hh)).trans hh, hn⟩
theorem OFl.ge (h : OFl bb w base v fs) : ∀ k, v.ownBlock = some k → base ≤ k := fun k hk => (World.ownsRow.lt h.1 k hk).1
theorem OFl.lt (h : OFl bb w base v fs) : ∀ k, v.ownBlock = some k → k < w.heap.size := fun k hk => (World.ownsRow.lt h.1 k hk).2
theorem OFl.shape (h : OFl bb w base v fs) : ∃ A c, v = .slice A fs.length c ∧ fs.length ≤ c ∧ c ≤ maxLen ∧ Fls w A fs ∧ (∀ ad, A = some ad → base ≤ ad.block ∧ ad.block < w.heap.size ∧ ad = ⟨ad.block, 0, none⟩) ∧ (A = none → c = 0 ∧ fs = []) := by
  have hf : ∀ f ∈ fs, RB w f.A f.b ∧ f.b.length ≤ f.c ∧ f.c ≤ maxLen := fun f hf => ⟨(h.2 f hf).1.1, (h.2 f hf).2⟩
  rcases h.1.2 with ⟨hv, h0⟩ | ⟨g, cap, cur, hv, hg, hh, hn, hm, hcs⟩
  · have : fs = [] := List.eq_nil_of_length_eq_zero h0
    subst this
    exact ⟨none, 0, hv, by simp, by simp [maxLen], Fls.nil w none, by simp, fun _ => ⟨rfl, rfl⟩⟩
  · subst hv
    refine ⟨_, _, rfl, hn, hm, ⟨Reads.of_own h.1, hf⟩, ?_, fun e => by cases e⟩
    rintro ad ⟨rfl⟩
    exact ⟨hg, Blk.lt (t := 55) hh, rfl⟩
theorem OFl.row (h : OFl bb w base v fs) : ∀ g, v.ownBlock = some g → ∀ cs fr, w.heap[g]? ≠ some (.cells cs 5 fr) := by
  intro g hg cs fr e
  rcases h.1.2 with ⟨hv, _⟩ | ⟨g', cap, cur, hv, _, hh, _⟩
  · subst hv; simp [Value.ownBlock] at hg
  · subst hv
    simp [Value.ownBlock] at hg
    subst hg
    rw [hh] at e
    injection e with e
    injection e with _ e2 _
    exact absurd e2 (by decide)
theorem OFl.fr {S : Nat → Prop} (h : OFl bb w base v fs) (hf : Fr S w w') (hv : ∀ g, v.ownBlock = some g → ¬ S g) (hS : ∀ g, S g → bb ≤ g ∧ ∀ cs fr, w.heap[g]? ≠ some (.cells cs 5 fr)) : OFl bb w' base v fs := by
  refine ⟨⟨h.1.1, ?_⟩, fun f hf' => (h.2 f hf').fr hf hS⟩
  rcases h.1.2 with h0 | ⟨g, cap, cur, hv', hg, hh, hn⟩
  · exact .inl h0
  · exact .inr ⟨g, cap, cur, hv', hg, (hf.block g (Blk.lt (t := 55) hh) (hv g (by rw [hv']; rfl))).trans hh, hn⟩
end
/-- files that are the same to a reader -/
def fiL (fs : List FV) : List Fi := fs.map FV.fi
theorem fiL_len (fs : List FV) : (fiL fs).length = fs.length := by simp [fiL]
theorem fiL_at {fs : List FV} {k : Nat} (h : k < fs.length) : (fiL fs)[k]'(by rw [fiL_len]; exact h) = ⟨fs[k].nm, fs[k].b⟩ := by simp [fiL, FV.fi]
end Go.Proofs.YtgpcinfhcamgpaaGreatDoor
