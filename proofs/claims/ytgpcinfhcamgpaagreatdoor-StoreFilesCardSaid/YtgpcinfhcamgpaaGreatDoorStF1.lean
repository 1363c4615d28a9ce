/-
  Files that a call owns: rows of two cells, whose texts lie ahead of them, or in blocks of bytes; a row is appended to; slices.Clone.
-/
import Derived.Test.YtgpcinfhcamgpaaGreatDoorStM2
import Derived.Test.YtgpcinfhcamgpaaGreatDoorStD1
import Derived.Handy
namespace Go.Proofs.YtgpcinfhcamgpaaGreatDoor
open Go.RowKit
attribute [local go_sem ↓] Go.wp_at_zero Go.wp_at_succ
set_option linter.unusedVariables false
set_option linter.unusedSimpArgs false

/-- bytes that are read, and that no write to a row of files from block B on turns -/
def BodyS (w : World) (B : Nat) (A : Option Addr) (l : List UInt8) : Prop :=
  RB w A l ∧ (l ≠ [] → ∀ ad, A = some ad → ad.block < B ∨ ∃ cs fr, w.heap[ad.block]? = some (.cells cs 5 fr))
def FVs (w : World) (B : Nat) (f : FV) : Prop := BodyS w B f.A f.b ∧ f.b.length ≤ f.c ∧ f.c ≤ maxLen
/-- a row of files that is owned, from block base on -/
def OFs (B : Nat) (w : World) (base : Nat) (v : Value) (fs : List FV) : Prop := w.ownsRow base 55 2 v fs.length (fs.flatMap FV.cells) ∧ ∀ f ∈ fs, FVs w B f
/-- blocks from B on that hold no bytes -/
def NoB8 (w : World) (B : Nat) (S : Nat → Prop) : Prop := ∀ g, S g → B ≤ g ∧ ∀ cs fr, w.heap[g]? ≠ some (.cells cs 5 fr)
section
variable {w w' : World} {A : Option Addr} {fs : List FV} {base B : Nat} {v : Value} {S : Nat → Prop} {l : List UInt8}
theorem heap_lt {g : Nat} {o : Obj} (h : w.heap[g]? = some o) : g < w.heap.size := by
  rcases Nat.lt_or_ge g w.heap.size with h2 | h2
  · exact h2
  · rw [Array.getElem?_eq_none h2] at h; cases h
theorem BodyS.below (h : BodyS w B A l) (hb : Below w.heap.size w w') : BodyS w' B A l := by
  refine ⟨h.1.below hb, fun hl ad e => ?_⟩
  rcases h.2 hl ad e with h1 | ⟨cs, fr, h1⟩
  · exact .inl h1
  · exact .inr ⟨cs, fr, (hb.block _ (heap_lt h1)).trans h1⟩
theorem RB.nil_any (w : World) (A : Option Addr) : RB w A [] := ⟨by simp [Lib.byteCells], fun h => by simp at h⟩
theorem BodyS.fr (h : BodyS w B A l) (hf : Fr S w w') (hS : NoB8 w B S) : BodyS w' B A l := by
  by_cases hl : l = []
  · subst hl
    exact ⟨RB.nil_any _ _, fun h => absurd rfl h⟩
  have hns : ∀ ad, A = some ad → ¬ S ad.block := fun ad e hs => by
    obtain ⟨h1, h2⟩ := hS _ hs
    rcases h.2 hl ad e with h3 | ⟨cs, fr, h3⟩
    · omega
    · exact h2 _ _ h3
  refine ⟨h.1.fr hf hns, fun hl ad e => ?_⟩
  rcases h.2 hl ad e with h1 | ⟨cs, fr, h1⟩
  · exact .inl h1
  · exact .inr ⟨cs, fr, (hf.block _ (heap_lt h1) (hns ad e)).trans h1⟩
theorem BodyS.of_rb (h : RB w A l) (hB : w.heap.size ≤ B) : BodyS w B A l := by
  refine ⟨h, fun hl ad e => .inl ?_⟩
  obtain ⟨ad', e', hlt, _⟩ := h.2 (List.length_pos_iff.2 hl)
  rw [e] at e'
  cases e'
  omega
theorem BodyS.of_ob {n c b' : Nat} (h : OB w b' (.slice A n c) l) : BodyS w B A l := by
  obtain ⟨A', c', e, _, _, hr, _⟩ := h.shape
  injection e with e1 e2 e3
  subst e1
  refine ⟨hr, fun _ ad e => .inr ?_⟩
  subst e
  rcases h.2 with ⟨e, _⟩ | ⟨g, cap, cur, e, hg, hh, hn⟩
  · cases e
  · injection e with e1
    cases e1
    exact ⟨_, _, hh⟩
theorem FVs.below {f : FV} (h : FVs w B f) (hb : Below w.heap.size w w') : FVs w' B f := ⟨h.1.below hb, h.2⟩
theorem FVs.fr {f : FV} (h : FVs w B f) (hf : Fr S w w') (hS : NoB8 w B S) : FVs w' B f := ⟨h.1.fr hf hS, h.2⟩
theorem Fls.vs (h : Fls w A fs) (hB : w.heap.size ≤ B) : ∀ f ∈ fs, FVs w B f := fun f hf => ⟨BodyS.of_rb (h.2 f hf).1 hB, (h.2 f hf).2⟩
theorem OFs.nil (B : Nat) (w : World) (base : Nat) : OFs B w base (.slice none 0 0) [] := ⟨World.ownsRow_nil _ _ _ _, fun f hf => by cases hf⟩
theorem OFs.below (h : OFs B w base v fs) (hb : Below w.heap.size w w') : OFs B w' base v fs := by
  refine ⟨⟨h.1.1, ?_⟩, fun f hf => (h.2 f hf).below hb⟩
  rcases h.1.2 with h0 | ⟨g, cap, cur, hv, hg, hh, hn⟩
  · exact .inl h0
  · exact .inr ⟨g, cap, cur, hv, hg, (hb.block g (Blk.lt (t := 55) hh)).trans hh, hn⟩
theorem OFs.base_le {base' : Nat} (h : OFs B w base v fs) (hb : base' ≤ base) : OFs B w base' v fs := by
  refine ⟨⟨h.1.1, ?_⟩, h.2⟩
  rcases h.1.2 with h0 | ⟨g, cap, cur, hv, hg, hh, hn⟩
  · exact .inl h0
  · exact .inr ⟨g, cap, cur, hv, by omega, hh, hn⟩
theorem OFs.ge (h : OFs B w base v fs) : ∀ k, v.ownBlock = some k → base ≤ k := fun k hk => (World.ownsRow.lt h.1 k hk).1
theorem OFs.lt (h : OFs B w base v fs) : ∀ k, v.ownBlock = some k → k < w.heap.size := fun k hk => (World.ownsRow.lt h.1 k hk).2
theorem OFs.fls (h : OFs B w base v fs) : ∃ A c, v = .slice A fs.length c ∧ fs.length ≤ c ∧ c ≤ maxLen ∧ Fls w A fs := by
  have hf : ∀ f ∈ fs, RB w f.A f.b ∧ f.b.length ≤ f.c ∧ f.c ≤ maxLen := fun f hf => ⟨(h.2 f hf).1.1, (h.2 f hf).2⟩
  rcases h.1.2 with ⟨hv, h0⟩ | ⟨g, cap, cur, hv, hg, hh, hn, hm, hcs⟩
  · have : fs = [] := List.eq_nil_of_length_eq_zero h0
    subst this
    exact ⟨none, 0, hv, by simp, by simp [maxLen], Fls.nil w none⟩
  · subst hv
    exact ⟨_, _, rfl, hn, hm, ⟨Reads.of_own h.1, hf⟩⟩
theorem OFs.noB (h : OFs B w base v fs) (hB : B ≤ base) : NoB8 w B (fun g => v.ownBlock = some g) := by
  intro g hg
  refine ⟨Nat.le_trans hB (h.ge g hg), fun cs fr e => ?_⟩
  rcases h.1.2 with ⟨hv, _⟩ | ⟨g', cap, cur, hv, _, hh, _⟩
  · subst hv; simp [Value.ownBlock] at hg
  · subst hv
    simp [Value.ownBlock] at hg
    subst hg
    rw [hh] at e
    injection e with e
    injection e with _ e2 _
    exact absurd e2 (by decide)
/-- its block, if there is one -/
theorem OFs.cut (h : OFs B w base v fs) (hne : fs ≠ []) : ∃ g cap cur, v = .slice (some ⟨g, 0, none⟩) fs.length cap ∧ base ≤ g ∧ Blk w g 55 cur ∧ fs.length ≤ cap ∧ cap ≤ maxLen ∧ cur.size = cap * 2 ∧ cur.toList.take (fs.length * 2) = fs.flatMap FV.cells := by
  rcases h.1.2 with ⟨hv, h0⟩ | ⟨g, cap, cur, hv, hg, hh, hn, hm, hcs, ht⟩
  · exact absurd (List.eq_nil_of_length_eq_zero h0) hne
  · exact ⟨g, cap, cur, hv, hg, hh, hn, hm, hcs, ht⟩
theorem OFs.of_blk {g cap : Nat} {cur : Array Value} (hg : base ≤ g) (hb : Blk w g 55 cur) (hn : fs.length ≤ cap) (hm : cap ≤ maxLen) (hc : cur.size = cap * 2) (ht : cur.toList.take (fs.length * 2) = fs.flatMap FV.cells) (hf : ∀ f ∈ fs, FVs w B f) : OFs B w base (.slice (some ⟨g, 0, none⟩) fs.length cap) fs :=
  ⟨⟨flat_len fs, .inr ⟨g, cap, cur, rfl, hg, hb, hn, hm, hc, ht⟩⟩, hf⟩
end
theorem app_files (w : World) {ops : Array Oper} {rest : List Oper} {o : Oper} {a : Act} {Q : Exit → Act → World → Prop} (hgd : o.guard = none) (s x : Operand)
    (ho : o.op = .call { callee := .builtin .append, args := #[s, x], argTypes := #[23, 23] })
    (B base : Nat) (hbb : B ≤ base) (v : Value) (fs : List FV) (hs : a.eval s = v) (hown : OFs B w base v fs) (A : Option Addr) (m c : Nat) (gs : List FV) (hx : a.eval x = .slice A m c) (hgs : Fls w A gs) (hm : gs.length = m) (hvs : ∀ f ∈ gs, FVs w B f)
    (hlen : fs.length + m ≤ 3000000000000) (hbase : base ≤ w.heap.size)
    (h : ∀ v' w', OFs B w' base v' (fs ++ gs) → w.grownBy w' v.ownBlock → (v'.ownBlock = v.ownBlock ∨ v'.ownBlock = some w.heap.size) → wpList Tryz.prog ops Q rest (a.put o.dst v') w') : wpList Tryz.prog ops Q (o :: rest) a w := by
  subst hm
  obtain ⟨i0, hi0, hz0, hz1, hz2⟩ := info_parts infoFile
  refine wpList_append_any _ hgd s x 23 ho base 55 i0 _ 2 40 Tryz.underlying23 hi0 hz0 hz1 hz2 rfl (by omega) v fs.length (fs.flatMap FV.cells) hs hown.1 _ _ gs.length c (gs.flatMap FV.cells) hx hgs.1 (fun u hu => by
    rw [List.mem_flatMap] at hu
    obtain ⟨f, _, hu⟩ := hu
    simp only [FV.cells, List.mem_cons, List.not_mem_nil, or_false] at hu
    rcases hu with rfl | rfl <;> rfl) (by simp only [maxLen]; omega) (by omega) hbase ?_
  intro v' w' h1 h2 h3
  refine h v' w' ⟨?_, fun g hg => ?_⟩ h2 h3
  · rw [List.length_append, List.flatMap_append]
    exact h1
  · refine FVs.fr (S := fun k => v.ownBlock = some k) ?_ (Fr.of_grown h2 (fun k e => e)) (hown.noB hbb)
    rcases List.mem_append.1 hg with hg | hg
    · exact hown.2 g hg
    · exact hvs g hg
theorem emptyFiles (w : World) (B base : Nat) (hB : base ≤ w.heap.size) : OFs B (w.alloc (.cells #[] 55)) base (.slice (some ⟨w.heap.size, 0, none⟩) 0 0) [] :=
  ⟨⟨rfl, .inr ⟨w.heap.size, 0, #[], rfl, hB, heap_alloc_new w _, Nat.le_refl _, by simp [maxLen], rfl, rfl⟩⟩, fun f hf => by cases hf⟩
set_option maxRecDepth 100000 in
set_option maxHeartbeats 2000000 in
theorem fclone_any (B : Nat) (A : Option Addr) (n c : Nat) (fs : List FV) (w : World) (hl : Fls w A fs) (hn : fs.length = n) (hbig : n ≤ 2000000000000) (hv : ∀ f ∈ fs, FVs w B f) (hB : B ≤ w.heap.size) :
    Calls Tryz.prog 98 #[.slice A n c] w fun e w' => ∃ v, e = .returned v ∧ OFs B w' w.heap.size v fs ∧ Below w.heap.size w w' := by
  have hne := fun W => Lib.run_eql_slice_nil (P := Tryz.prog) W 23 55 A n c 0 0 Tryz.underlying23
  rcases A with _ | ad
  · have h0 : fs = [] := by
      rcases Nat.eq_zero_or_pos fs.length with h0 | h0
      · exact List.eq_nil_of_length_eq_zero h0
      · obtain ⟨ad, h, _⟩ := hl.1.2 h0; cases h
    subst h0
    simp only [List.length_nil] at hn
    subst hn
    go_enter Tryz.func98, Tryz.ntmps98
    go_wp2
    go_ret
    exact ⟨_, rfl, OFs.nil _ _ _, Below.refl _ _⟩
  · have hb1 : Below w.heap.size w (w.alloc (.cells #[] 55)) := (Below.refl _ _).alloc (Nat.le_refl _) _
    have HL := Lib.hid (hl.below hb1)
    have HN := Lib.hid hn
    have HV := Lib.hid (fun f hf => (hv f hf).below hb1)
    have HO := Lib.hid (emptyFiles w B w.heap.size (Nat.le_refl _))
    have HB := Lib.hid hB
    clear hl hn hv hB
    go_enter Tryz.func98, Tryz.ntmps98
    go_wp2_with (at_builtin; refine app_files _ rfl _ _ rfl B w.heap.size HB.out _ [] rfl HO.out (some ad) n c fs rfl HL.out HN.out HV.out (by simp; omega) (by simp) ?_; intro v1 w1 hown1 hg1 hat1)
    go_ret
    refine ⟨v1, rfl, by simpa using hown1, ?_⟩
    exact ((Below.refl _ _).alloc (Nat.le_refl _) _).grown hg1 (by simp) (by intro k hk; cases hk; exact Nat.le_refl _)
end Go.Proofs.YtgpcinfhcamgpaaGreatDoor
