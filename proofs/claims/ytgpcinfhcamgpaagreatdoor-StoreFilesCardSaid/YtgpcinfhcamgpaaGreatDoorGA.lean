/-
  Words for memory that the walks of this claim use: a slice that reads as a list, a block known whole, an append onto a row of the call's own. Plain lemmas; nothing is assumed.
  More words: what stays outside a set of blocks, rows of bytes that the call owns, bytes read through a slice.
  strings.Builder at this program: copyCheck and WriteByte, stated with the library's own words (IsBuilder, BuilderAt).
  append onto a row of bytes of the call's own: one byte, a slice of bytes, a text.
  A row of one-cell elements that the call owns; append of one element onto it.
  Bytes that are read survive writes to blocks that hold no bytes.
  An append of one-cell elements that are no bytes keeps its row clean of bytes.
  A map from numbers to values of any kind, each value kept verbatim: look, put, clear, range.
  slices.Clone, Grow, Concat at []byte.
  octet.Put: what it returns.
  slices.Equal at []byte, in a seat without octet.Same: what it returns.
  octet.Reader, in a seat without octet.Text: the reader's bytes; From.
  octet.Reader's methods: what they return, and what the reader is behind them.
  string(b): what it yields.
  []byte(s): what it yields.
  octet.Text, Reader.Text, Reader.Done, for a seat without octet.Same (cut out of Clone, Reader, Reader2).
  Big-endian numbers: plain facts (cut out of BePlain).
  pursuivantref01.Reader (as RefReader, for a seat without octet.Same).
  pursuivantref01.Put and Text: what they return.
  A map from numbers to bools of which nothing is known but that it holds bools.
-/
import Derived.Test.YtgpcinfhcamgpaaGreatDoorProg
import Derived.WalkKit
import Derived.WalkSpells
import Derived.WalkLawsBesides
import Derived.Below
import Derived.Laws.OwnMore
import Derived.Deep.AppendLies
import Derived.Deep.Draws
import Derived.Laws.Rows
import Derived.Maps.AppendAt
import Derived.RegionTactic
import Derived.OwnWalk
import Derived.Lib.Hide
import Derived.IntWalk
import Derived.Lib.UnsafeStr
import Derived.Lib.Builder
import Derived.Lib.AppendStr
import Derived.Lib.Slices
import Derived.Laws.Externs
import Derived.Deep.RegionHeld3
import Derived.Maps.Own
import Derived.Maps.OwnOps
import Derived.Maps.Views
import Derived.Maps.RangeWalk
import Derived.WalkSmall
import Derived.Lib.AppendZeros
import Derived.Handy
import Derived.Deep.QuietTactic
import Derived.BigQuiet
import Derived.Lib.BufferRead
import Derived.Lib.ConvBytes
import Derived.Deep.RegionHeld
import Derived.ChangeKeys
namespace Go.Proofs.YtgpcinfhcamgpaaGreatDoor
open Go.RowKit

theorem block_of_add (a : Addr) (n : Nat) : (a.add n).block = a.block := by unfold Addr.add; split <;> rfl
theorem add_of_add (a : Addr) (i j : Nat) : (a.add i).add j = a.add (i + j) := by
  unfold Addr.add
  by_cases hi : i = 0 <;> by_cases hj : j = 0 <;> simp [hi, hj, Nat.add_assoc]

def Reads (w : World) (B size : Nat) (A : Option Addr) (n : Nat) (xs : List Value) : Prop :=
  xs.length = n * size ∧ (0 < n → ∃ ad, A = some ad ∧ ad.block < B ∧ ∀ j u, xs[j]? = some u → w.cell? (ad.add j) = some u)

section
variable {w w' : World} {B B' size n : Nat} {A : Option Addr} {xs : List Value}
theorem Reads.none_ : Reads w B size A 0 [] := ⟨by simp, fun h => absurd h (by omega)⟩
theorem Reads.at_ {k : Nat} (h : Reads w B 1 A n xs) (hk : k < n) : ∃ ad u, A = some ad ∧ ad.block < B ∧ xs[k]? = some u ∧ w.cell? (ad.add k) = some u := by
  obtain ⟨ad, e, hb, hc⟩ := h.2 (by omega)
  have hl : k < xs.length := by have := h.1; omega
  exact ⟨ad, xs[k], e, hb, List.getElem?_eq_getElem hl, hc k _ (List.getElem?_eq_getElem hl)⟩
theorem Reads.keep (h : Reads w B size A n xs) (hk : ∀ p : Addr, p.block < B → w'.cell? p = w.cell? p) : Reads w' B size A n xs :=
  ⟨h.1, fun hn => by
    obtain ⟨ad, e, hb, hc⟩ := h.2 hn
    exact ⟨ad, e, hb, fun j u hu => (hk _ (by rw [block_of_add]; exact hb)).trans (hc j u hu)⟩⟩
theorem Reads.more (h : Reads w B size A n xs) (hB : B ≤ B') : Reads w B' size A n xs :=
  ⟨h.1, fun hn => by
    obtain ⟨ad, e, hb, hc⟩ := h.2 hn
    exact ⟨ad, e, by omega, hc⟩⟩
theorem Reads.below (h : Reads w B size A n xs) (hb : Below B w w') : Reads w' B size A n xs := h.keep fun _ hp => hb.cell hp
theorem Reads.drew (h : Reads w B size A n xs) : Reads w.drew B size A n xs := h
theorem Reads.drewN (h : Reads w B size A n xs) (k : Nat) : Reads (w.drewN k) B size A n xs := h
theorem Reads.alloc (h : Reads w B size A n xs) (hB : B ≤ w.heap.size) (o : Obj) : Reads (w.alloc o) B size A n xs := h.keep fun p hp => World.cell?_alloc_lt w o p (by omega)
theorem Reads.setCell (h : Reads w B size A n xs) {p : Addr} (hB : B ≤ p.block) (u : Value) : Reads (w.setCell p u) B size A n xs :=
  h.keep fun q hq => World.cell?_setCell_other w p q u (fun e => by subst e; omega)
theorem Reads.grown (h : Reads w B size A n xs) {row : Option Nat} (hg : w.grownBy w' row) (hB : B ≤ w.heap.size) (hr : ∀ g, row = some g → B ≤ g) : Reads w' B size A n xs :=
  h.keep fun p hp => World.cell?_of_block (hg.block p.block (by omega) (fun e => by have := hr _ e.symm; omega))
theorem Reads.cut (h : Reads w B size A n xs) {k cap : Nat} (hk : k ≤ n) (hc : n ≤ cap) :
    Reads w B size (if cap = k then A else A.map (·.add (k * size))) (n - k) (xs.drop (k * size)) := by
  refine ⟨by rw [List.length_drop, h.1, Nat.sub_mul], fun hn => ?_⟩
  obtain ⟨ad, rfl, hb, hcell⟩ := h.2 (by omega)
  rw [if_neg (by omega)]
  refine ⟨ad.add (k * size), rfl, by rw [block_of_add]; exact hb, fun j u hu => ?_⟩
  rw [add_of_add]
  exact hcell _ u (by rw [← hu, List.getElem?_drop])
theorem Reads.of_own {base : Nat} {e : TypeId} {c : Nat} (h : w.ownsRow base e size (.slice A n c) n xs) : Reads w w.heap.size size A n xs := by
  refine ⟨h.1, fun hn => ?_⟩
  obtain ⟨g, cap, hv, _, hlt⟩ := h.form hn
  have hA : A = some ⟨g, 0, none⟩ := by injection hv
  subst hA
  exact ⟨_, rfl, hlt, h.cells (g := g) rfl⟩
end
def Blk (w : World) (g : Nat) (t : TypeId) (cs : Array Value) : Prop := w.heap[g]? = some (.cells cs t (0, 0))

section
variable {w w' : World} {g : Nat} {t : TypeId} {cs : Array Value}
theorem Blk.lt (h : Blk w g t cs) : g < w.heap.size := by
  rcases Nat.lt_or_ge g w.heap.size with hlt | hge
  · exact hlt
  · unfold Blk at h; rw [Array.getElem?_eq_none hge] at h; cases h
theorem Blk.cell (h : Blk w g t cs) (i : Nat) : w.cell? ⟨g, i, none⟩ = cs[i]? := cell_of_row w g i cs t (0, 0) h
theorem Blk.frozen (h : Blk w g t cs) (i : Nat) : w.frozen? ⟨g, i, none⟩ = false := by
  unfold Blk at h
  simp [World.frozen?, h]
theorem Blk.new (w : World) (t : TypeId) (cs : Array Value) : Blk (w.alloc (.cells cs t)) w.heap.size t cs := heap_alloc_new w _
theorem Blk.drew (h : Blk w g t cs) : Blk w.drew g t cs := h
theorem Blk.drewN (h : Blk w g t cs) (n : Nat) : Blk (w.drewN n) g t cs := h
theorem Blk.alloc (h : Blk w g t cs) (o : Obj) : Blk (w.alloc o) g t cs := (Below.heap_alloc w o g h.lt).trans h
theorem Blk.set_ (h : Blk w g t cs) (i : Nat) (u : Value) : Blk (w.setCell ⟨g, i, none⟩ u) g t (cs.setIfInBounds i u) := by
  unfold Blk at h ⊢
  simp [World.setCell, Array.getElem?_modify, h]
theorem Blk.far (h : Blk w g t cs) {p : Addr} (hp : g ≠ p.block) (u : Value) : Blk (w.setCell p u) g t cs := (Below.heap_setCell w p u g hp).trans h
theorem Blk.below {B : Nat} (h : Blk w g t cs) (hb : Below B w w') (hg : g < B) : Blk w' g t cs := (hb.block g hg).trans h
theorem Blk.grown {row : Option Nat} (h : Blk w g t cs) (hb : w.grownBy w' row) (hg : some g ≠ row) : Blk w' g t cs := (hb.block g h.lt hg).trans h
theorem Blk.ne_ {g' : Nat} {t' : TypeId} {cs' : Array Value} (h : Blk w g t cs) (h' : Blk w g' t' cs') (hne : t ≠ t') : g ≠ g' := by
  rintro rfl
  unfold Blk at h h'
  rw [h] at h'
  injection h' with h'
  injection h' with _ ht
  exact hne ht
theorem own_blk_ne {base : Nat} {e : TypeId} {size n : Nat} {v : Value} {xs : List Value} (h : w.ownsRow base e size v n xs) (hg : Blk w g t cs) (hne : e ≠ t) : v.ownBlock ≠ some g := by
  rcases h.2 with ⟨rfl, _⟩ | ⟨g', cap, cur, rfl, _, hh, _⟩
  · simp [Value.ownBlock]
  · intro he
    have : g' = g := by simpa [Value.ownBlock] using he
    subst this
    exact Blk.ne_ (t := e) hh hg hne rfl
end
section
variable {P : Program} (w : World)

theorem run_append_of_nil (base : Nat) (t ty e : TypeId) (i : TypeInfo) (size : Nat) (ht : P.underlying t = some (.slice e)) (hi : P.info? e = some i)
    (v : Value) (n : Nat) (xs : List Value) (hown : w.ownsRow base e size v n xs) (c : Nat) : (Builtin.append_ #[t, t] ty #[v, .slice none 0 c]).run P w = .ok v w := by
  rcases hown.2 with ⟨rfl, rfl⟩ | ⟨g, cap, cur, rfl, _, _, hnc, _⟩
  · simp [Builtin.append_, run_underlying ht, sizeOf, typeInfo, hi, Builtin.lenOf, Builtin.firstCells]
  · simp [Builtin.append_, run_underlying ht, sizeOf, typeInfo, hi, Builtin.lenOf, Builtin.firstCells, hnc, storeCells]

theorem run_append_any (base : Nat) (t ty e : TypeId) (i : TypeInfo) (z : Value) (size bytes : Nat) (ht : P.underlying t = some (.slice e)) (hi : P.info? e = some i) (hz : i.zero = some z)
    (hsize : i.size = size) (hby : i.bytes = bytes) (hzs : z.cells.size = size) (hsz : 0 < size)
    (v : Value) (n : Nat) (xs : List Value) (hown : w.ownsRow base e size v n xs)
    (B : Nat) (A : Option Addr) (m c : Nat) (news : List Value) (hr : Reads w B size A m news) (h1 : ∀ u ∈ news, u.oneCell' = true)
    (h63 : n + m ≤ maxLen) (hbytes : (n + m) * bytes ≤ 140737488355328) (hbase : base ≤ w.heap.size) :
    ∃ v' w', (Builtin.append_ #[t, t] ty #[v, .slice A m c]).run P w = .ok v' w' ∧ w'.ownsRow base e size v' (n + m) (xs ++ news) ∧ w.grownBy w' v.ownBlock ∧
      (v'.ownBlock = v.ownBlock ∨ v'.ownBlock = some w.heap.size) := by
  rcases A with _ | ad
  · have hm : m = 0 := by
      rcases Nat.eq_zero_or_pos m with h0 | h0
      · exact h0
      · obtain ⟨ad, h, _⟩ := hr.2 h0
        cases h
    subst hm
    have hn : news = [] := List.eq_nil_of_length_eq_zero (by simpa using hr.1)
    subst hn
    exact ⟨v, w, run_append_of_nil w base t ty e i size ht hi v n xs hown c, by simpa using hown, World.grownBy.refl w _, .inl rfl⟩
  · have hcells : ∀ j u, news[j]? = some u → w.cell? (ad.add j) = some u := by
      intro j u hu
      rcases Nat.eq_zero_or_pos m with h0 | h0
      · subst h0
        have hn : news = [] := List.eq_nil_of_length_eq_zero (by simpa using hr.1)
        subst hn
        simp at hu
      · obtain ⟨ad', h, _, hc⟩ := hr.2 h0
        injection h with h
        subst h
        exact hc j u hu
    obtain ⟨v', w', hrun, h2, h3, _, h5⟩ := run_append_own_at (P := P) w base t ty e i z size bytes ht hi hz hsize hby hzs hsz v n xs hown ad m c news hr.1 hcells h1 h63 hbytes hbase
    exact ⟨v', w', hrun, h2, h3, h5⟩

theorem wp_append_any {o : Oper} {a : Act} {K : Act → World → Prop} {Q : Exit → Act → World → Prop} (s x : Operand) (t : TypeId)
    (ho : o.op = .call { callee := .builtin .append, args := #[s, x], argTypes := #[t, t] })
    (base : Nat) (e : TypeId) (i : TypeInfo) (z : Value) (size bytes : Nat) (ht : P.underlying t = some (.slice e)) (hi : P.info? e = some i) (hz : i.zero = some z)
    (hsize : i.size = size) (hby : i.bytes = bytes) (hzs : z.cells.size = size) (hsz : 0 < size)
    (v : Value) (n : Nat) (xs : List Value) (hs : a.eval s = v) (hown : w.ownsRow base e size v n xs)
    (B : Nat) (A : Option Addr) (m c : Nat) (news : List Value) (hx : a.eval x = .slice A m c) (hr : Reads w B size A m news) (h1 : ∀ u ∈ news, u.oneCell' = true)
    (h63 : n + m ≤ maxLen) (hbytes : (n + m) * bytes ≤ 140737488355328) (hbase : base ≤ w.heap.size)
    (h : ∀ v' w', w'.ownsRow base e size v' (n + m) (xs ++ news) → w.grownBy w' v.ownBlock → (v'.ownBlock = v.ownBlock ∨ v'.ownBlock = some w.heap.size) → K (a.put o.dst v') w') : o.wp P a w K Q := by
  obtain ⟨v', w', hrun, h2, h3, h4⟩ := run_append_any (P := P) w base t o.type e i z size bytes ht hi hz hsize hby hzs hsz v n xs hown B A m c news hr h1 h63 hbytes hbase
  unfold Oper.wp execOp
  simp only [ho, resolve, invoke, builtin, Sem.run_bind, Sem.run_pure, Result.andThen_ok, List.map_toArray, List.map_cons, List.map_nil, hs, hx, hrun]
  exact h v' w' h2 h3 h4

theorem wpList_append_any {ops : Array Oper} {rest : List Oper} {o : Oper} {a : Act} {Q : Exit → Act → World → Prop} (hgd : o.guard = none) (s x : Operand) (t : TypeId)
    (ho : o.op = .call { callee := .builtin .append, args := #[s, x], argTypes := #[t, t] })
    (base : Nat) (e : TypeId) (i : TypeInfo) (z : Value) (size bytes : Nat) (ht : P.underlying t = some (.slice e)) (hi : P.info? e = some i) (hz : i.zero = some z)
    (hsize : i.size = size) (hby : i.bytes = bytes) (hzs : z.cells.size = size) (hsz : 0 < size)
    (v : Value) (n : Nat) (xs : List Value) (hs : a.eval s = v) (hown : w.ownsRow base e size v n xs)
    (B : Nat) (A : Option Addr) (m c : Nat) (news : List Value) (hx : a.eval x = .slice A m c) (hr : Reads w B size A m news) (h1 : ∀ u ∈ news, u.oneCell' = true)
    (h63 : n + m ≤ maxLen) (hbytes : (n + m) * bytes ≤ 140737488355328) (hbase : base ≤ w.heap.size)
    (h : ∀ v' w', w'.ownsRow base e size v' (n + m) (xs ++ news) → w.grownBy w' v.ownBlock → (v'.ownBlock = v.ownBlock ∨ v'.ownBlock = some w.heap.size) → wpList P ops Q rest (a.put o.dst v') w') : wpList P ops Q (o :: rest) a w :=
  wpList_plain hgd fun _ hK => wp_append_any w s x t ho base e i z size bytes ht hi hz hsize hby hzs hsz v n xs hs hown B A m c news hx hr h1 h63 hbytes hbase fun v' w' h2 h3 h4 => hK _ _ (h v' w' h2 h3 h4)

theorem step_append_any {ops : Array Oper} {o : Oper} {a : Act} {K : Act → World → Prop} {Q : Exit → Act → World → Prop} {E : Prop} (hgd : o.guard = none) (s x : Operand) (t : TypeId)
    (ho : o.op = .call { callee := .builtin .append, args := #[s, x], argTypes := #[t, t] })
    (base : Nat) (e : TypeId) (i : TypeInfo) (z : Value) (size bytes : Nat) (ht : P.underlying t = some (.slice e)) (hi : P.info? e = some i) (hz : i.zero = some z)
    (hsize : i.size = size) (hby : i.bytes = bytes) (hzs : z.cells.size = size) (hsz : 0 < size)
    (v : Value) (n : Nat) (xs : List Value) (hs : a.eval s = v) (hown : w.ownsRow base e size v n xs)
    (B : Nat) (A : Option Addr) (m c : Nat) (news : List Value) (hx : a.eval x = .slice A m c) (hr : Reads w B size A m news) (h1 : ∀ u ∈ news, u.oneCell' = true)
    (h63 : n + m ≤ maxLen) (hbytes : (n + m) * bytes ≤ 140737488355328) (hbase : base ≤ w.heap.size)
    (h : ∀ v' w', w'.ownsRow base e size v' (n + m) (xs ++ news) → w.grownBy w' v.ownBlock → (v'.ownBlock = v.ownBlock ∨ v'.ownBlock = some w.heap.size) → K (a.put o.dst v') w') :
    if Region.wanted o (yielded ops a.tmps) = true then Oper.wp P o a w K Q else E := by
  have hw : Region.wanted o (yielded ops a.tmps) = true := by simp [Region.wanted, hgd]
  rw [if_pos hw]
  exact wp_append_any w s x t ho base e i z size bytes ht hi hz hsize hby hzs hsz v n xs hs hown B A m c news hx hr h1 h63 hbytes hbase h
end

end Go.Proofs.YtgpcinfhcamgpaaGreatDoor

namespace Go.Proofs.YtgpcinfhcamgpaaGreatDoor
open Go.RowKit

/-- Outside the blocks of S every old block is as it was; no block has gone. -/
structure Fr (S : Nat → Prop) (w w' : World) : Prop where
  os : w'.os = w.os
  tape : w'.tape = w.tape
  output : w'.output = w.output
  size : w.heap.size ≤ w'.heap.size
  block : ∀ k, k < w.heap.size → ¬ S k → w'.heap[k]? = w.heap[k]?

section
variable {S T : Nat → Prop} {a w w' w'' : World}
theorem Fr.refl (S : Nat → Prop) (w : World) : Fr S w w := ⟨rfl, rfl, rfl, Nat.le_refl _, fun _ _ _ => rfl⟩
theorem Fr.trans (h : Fr S a w) (k : Fr S w w') : Fr S a w' :=
  ⟨k.os.trans h.os, k.tape.trans h.tape, k.output.trans h.output, Nat.le_trans h.size k.size, fun i hi hs => (k.block i (Nat.lt_of_lt_of_le hi h.size) hs).trans (h.block i hi hs)⟩
theorem Fr.mono (h : Fr S a w) (hST : ∀ k, k < a.heap.size → S k → T k) : Fr T a w := ⟨h.os, h.tape, h.output, h.size, fun i hi hs => h.block i hi (fun x => hs (hST i hi x))⟩
theorem Fr.trans_new (h : Fr S a w) (k : Fr T w w') (hT : ∀ j, j < a.heap.size → T j → S j) : Fr S a w' :=
  ⟨k.os.trans h.os, k.tape.trans h.tape, k.output.trans h.output, Nat.le_trans h.size k.size, fun i hi hs => (k.block i (Nat.lt_of_lt_of_le hi h.size) (fun x => hs (hT i hi x))).trans (h.block i hi hs)⟩
theorem Fr.drew (h : Fr S a w) : Fr S a w.drew := ⟨h.os, h.tape, h.output, h.size, h.block⟩
theorem Fr.drewN (h : Fr S a w) (n : Nat) : Fr S a (w.drewN n) := ⟨h.os, h.tape, h.output, h.size, h.block⟩
theorem Fr.alloc (h : Fr S a w) (o : Obj) : Fr S a (w.alloc o) :=
  ⟨h.os, h.tape, h.output, Nat.le_trans h.size (by simp), fun i hi hs => (Below.heap_alloc w o i (Nat.lt_of_lt_of_le hi h.size)).trans (h.block i hi hs)⟩
theorem Fr.setCell (h : Fr S a w) {p : Addr} (hp : p.block < a.heap.size → S p.block) (u : Value) : Fr S a (w.setCell p u) :=
  ⟨h.os, h.tape, h.output, by simpa [World.setCell] using h.size, fun i hi hs => (Below.heap_setCell w p u i (by rintro rfl; exact hs (hp hi))).trans (h.block i hi hs)⟩
theorem Fr.of_below (h : Below a.heap.size a w) : Fr S a w := ⟨h.os, h.tape, h.output, h.size, fun i hi _ => h.block i hi⟩
theorem Fr.below (h : Fr S a w) (k : Below w.heap.size w w') : Fr S a w' := h.trans (Fr.of_below k)
theorem Fr.to_below (h : Fr S a w) (hS : ∀ k, k < a.heap.size → ¬ S k) : Below a.heap.size a w := ⟨h.os, h.tape, h.output, h.size, fun i hi => h.block i hi (hS i hi)⟩
theorem Fr.of_grown {row : Option Nat} (h : w.grownBy w' row) (hS : ∀ k, row = some k → S k) : Fr S w w' := ⟨h.os, h.tape, h.output, h.size, fun i hi hs => h.block i hi (fun e => hs (hS i e.symm))⟩
theorem Fr.grown {row : Option Nat} (h : Fr S a w) (hg : w.grownBy w' row) (hS : ∀ k, row = some k → k < a.heap.size → S k) : Fr S a w' :=
  ⟨hg.os.trans h.os, hg.tape.trans h.tape, hg.output.trans h.output, Nat.le_trans h.size hg.size, fun i hi hs => (hg.block i (Nat.lt_of_lt_of_le hi h.size) (fun e => hs (hS i e.symm hi))).trans (h.block i hi hs)⟩
theorem Fr.below_trans {B : Nat} (hb : Below B a w) (h : Fr S w w') (hB : B ≤ w.heap.size) (hS : ∀ k, S k → B ≤ k) : Below B a w' :=
  ⟨h.os.trans hb.os, h.tape.trans hb.tape, h.output.trans hb.output, Nat.le_trans hb.size h.size, fun i hi => (h.block i (Nat.lt_of_lt_of_le hi hB) (fun x => by have := hS i x; omega)).trans (hb.block i hi)⟩
theorem Fr.cell (h : Fr S w w') {p : Addr} (hp : p.block < w.heap.size) (hs : ¬ S p.block) : w'.cell? p = w.cell? p := World.cell?_of_block (h.block p.block hp hs)
theorem Fr.frozen (h : Fr S w w') {p : Addr} (hp : p.block < w.heap.size) (hs : ¬ S p.block) : w'.frozen? p = w.frozen? p := World.frozen?_of_block (h.block p.block hp hs)
theorem Blk.fr {g : Nat} {t : TypeId} {cs : Array Value} (h : Blk w g t cs) (hf : Fr S w w') (hg : ¬ S g) : Blk w' g t cs := (hf.block g h.lt hg).trans h
theorem Reads.fr {B size n : Nat} {A : Option Addr} {xs : List Value} (h : Reads w B size A n xs) (hf : Fr S w w') (hB : B ≤ w.heap.size) (hs : ∀ ad, A = some ad → ¬ S ad.block) : Reads w' B size A n xs :=
  ⟨h.1, fun hn => by
    obtain ⟨ad, e, hb, hc⟩ := h.2 hn
    exact ⟨ad, e, hb, fun j u hu => (hf.cell (by rw [block_of_add]; omega) (by rw [block_of_add]; exact hs ad e)).trans (hc j u hu)⟩⟩
end

/-- A slice of bytes, at whatever address, that reads as l: it lies below the heap's end. -/
def RB (w : World) (A : Option Addr) (l : List UInt8) : Prop := Reads w w.heap.size 1 A l.length (Lib.byteCells l)
/-- A slice value of bytes that the call owns, from block base on. -/
def OB (w : World) (base : Nat) (v : Value) (l : List UInt8) : Prop := w.ownsRow base 5 1 v l.length (Lib.byteCells l)

section
variable {S : Nat → Prop} {w w' : World} {A : Option Addr} {l : List UInt8} {base : Nat} {v : Value}
theorem RB.nil (w : World) : RB w none [] := Reads.none_
theorem RB.below (h : RB w A l) (hb : Below w.heap.size w w') : RB w' A l := (Reads.below h hb).more hb.size
theorem RB.fr (h : RB w A l) (hf : Fr S w w') (hs : ∀ ad, A = some ad → ¬ S ad.block) : RB w' A l := (Reads.fr h hf (Nat.le_refl _) hs).more hf.size
theorem RB.at_ (h : RB w A l) {k : Nat} (hk : k < l.length) : ∃ ad, A = some ad ∧ ad.block < w.heap.size ∧ w.cell? (ad.add k) = some (.int .u8 (l[k].toNat : Int)) := by
  obtain ⟨ad, u, e, hb, hx, hc⟩ := Reads.at_ h hk
  refine ⟨ad, e, hb, ?_⟩
  rw [hc]
  simp [Lib.byteCells, hk] at hx
  rw [hx]
theorem RB.cut (h : RB w A l) {k cap : Nat} (hk : k ≤ l.length) (hc : l.length ≤ cap) : RB w (if cap = k then A else A.map (·.add k)) (l.drop k) := by
  have := Reads.cut h hk hc
  unfold RB
  simp only [Nat.mul_one] at this
  rw [List.length_drop]
  simpa [Lib.byteCells, List.map_drop] using this
theorem RB.take (h : RB w A l) {k : Nat} (hk : k ≤ l.length) : RB w A (l.take k) := by
  refine ⟨by simp [Lib.byteCells], fun hn => ?_⟩
  have hkl : (l.take k).length = k := by rw [List.length_take]; omega
  rw [hkl] at hn
  obtain ⟨ad, e, hb, hc⟩ := h.2 (by omega)
  refine ⟨ad, e, hb, fun j u hu => hc j u ?_⟩
  have hj : j < (l.take k).length := by
    rcases Nat.lt_or_ge j (l.take k).length with h1 | h1
    · exact h1
    · rw [List.getElem?_eq_none (by simpa [Lib.byteCells] using h1)] at hu; cases hu
  rw [← hu]
  simp only [Lib.byteCells, List.getElem?_map]
  rw [List.getElem?_take_of_lt (by omega)]
theorem OB.shape (h : OB w base v l) : ∃ A c, v = .slice A l.length c ∧ l.length ≤ c ∧ c ≤ maxLen ∧ RB w A l ∧ (∀ ad, A = some ad → base ≤ ad.block ∧ ad.block < w.heap.size ∧ ad = ⟨ad.block, 0, none⟩) := by
  rcases h.2 with ⟨hv, h0⟩ | ⟨g, cap, cur, hv, hg, hh, hn, hm, _⟩
  · have : l = [] := List.eq_nil_of_length_eq_zero h0
    subst this
    exact ⟨none, 0, hv, by simp, by simp [maxLen], RB.nil w, by simp⟩
  · subst hv
    refine ⟨_, _, rfl, hn, hm, Reads.of_own h, ?_⟩
    rintro ad ⟨rfl⟩
    exact ⟨hg, Blk.lt (t := 5) hh, rfl⟩
theorem OB.below (h : OB w base v l) (hb : Below w.heap.size w w') : OB w' base v l := by
  refine ⟨h.1, ?_⟩
  rcases h.2 with h0 | ⟨g, cap, cur, hv, hg, hh, hn⟩
  · exact .inl h0
  · exact .inr ⟨g, cap, cur, hv, hg, (hb.block g (Blk.lt (t := 5) hh)).trans hh, hn⟩
theorem OB.fr (h : OB w base v l) (hf : Fr S w w') (hs : ∀ g, v.ownBlock = some g → ¬ S g) : OB w' base v l := by
  refine ⟨h.1, ?_⟩
  rcases h.2 with h0 | ⟨g, cap, cur, hv, hg, hh, hn⟩
  · exact .inl h0
  · exact .inr ⟨g, cap, cur, hv, hg, (hf.block g (Blk.lt (t := 5) hh) (hs g (by rw [hv]; rfl))).trans hh, hn⟩
theorem OB.mono (h : OB w base v l) {b' : Nat} (hb : b' ≤ base) : OB w b' v l := by
  refine ⟨h.1, ?_⟩
  rcases h.2 with h0 | ⟨g, cap, cur, hv, hg, hh⟩
  · exact .inl h0
  · exact .inr ⟨g, cap, cur, hv, by omega, hh⟩
theorem OB.nil (w : World) (base : Nat) : OB w base (.slice none 0 0) [] := World.ownsRow_nil _ _ _ _
end
end Go.Proofs.YtgpcinfhcamgpaaGreatDoor

namespace Go.Proofs.YtgpcinfhcamgpaaGreatDoor
open Go.RowKit

theorem infoByte : (Tryz.prog.info? 5).map (fun i => (i.zero, i.size, i.bytes)) = some (some (.int .u8 0), 1, 1) := by kernel_rfl

end Go.Proofs.YtgpcinfhcamgpaaGreatDoor

namespace Go.Proofs.YtgpcinfhcamgpaaGreatDoor
open Go.RowKit

theorem oneCell_bytes (l : List UInt8) : ∀ u ∈ Lib.byteCells l, u.oneCell' = true := by
  intro u hu
  simp only [Lib.byteCells, List.mem_map] at hu
  obtain ⟨b, _, rfl⟩ := hu
  rfl

theorem app_bytes (w : World) {ops : Array Oper} {rest : List Oper} {o : Oper} {a : Act} {Q : Exit → Act → World → Prop} (hgd : o.guard = none) (s x : Operand)
    (ho : o.op = .call { callee := .builtin .append, args := #[s, x], argTypes := #[22, 22] })
    (base : Nat) (v : Value) (l : List UInt8) (hs : a.eval s = v) (hown : OB w base v l) (A : Option Addr) (n c : Nat) (l2 : List UInt8) (hx : a.eval x = .slice A n c) (hn : l2.length = n) (hr : RB w A l2)
    (hlen : l.length + n ≤ 140737488355328) (hbase : base ≤ w.heap.size)
    (h : ∀ v' w', OB w' base v' (l ++ l2) → w.grownBy w' v.ownBlock → (v'.ownBlock = v.ownBlock ∨ v'.ownBlock = some w.heap.size) → wpList Tryz.prog ops Q rest (a.put o.dst v') w') : wpList Tryz.prog ops Q (o :: rest) a w := by
  obtain ⟨i0, hi0, hz0, hz1, hz2⟩ := info_parts infoByte
  subst hn
  refine wpList_append_any w hgd s x _ ho base 5 i0 _ 1 1 Tryz.underlying22 hi0 hz0 hz1 hz2 rfl (by omega) v l.length (Lib.byteCells l) hs hown w.heap.size A l2.length c (Lib.byteCells l2) hx hr (oneCell_bytes l2) (by simp only [maxLen]; omega) (by omega) hbase ?_
  intro v' w' h1 h2 h3
  refine h v' w' ?_ h2 h3
  unfold OB
  rw [Lib.byteCells_append, List.length_append]
  exact h1

theorem RB.one {w : World} {g : Nat} {b : UInt8} {x : Value} (h : w.cell? ⟨g, 0, none⟩ = some x) (hx : x = .int .u8 (b.toNat : Int)) (hg : g < w.heap.size) : RB w (some ⟨g, 0, none⟩) [b] :=
  ⟨rfl, fun _ => ⟨_, rfl, hg, fun j u hu => by
    match j, hu with
    | 0, hu => simp [Lib.byteCells] at hu; subst hu; rw [← hx]; simpa [Addr.add] using h⟩⟩

/-- one byte, that lies in a block of its own (what 'append(out, x)' makes of x). -/
theorem app_one (w : World) {ops : Array Oper} {rest : List Oper} {o : Oper} {a : Act} {Q : Exit → Act → World → Prop} (hgd : o.guard = none) (s x : Operand)
    (ho : o.op = .call { callee := .builtin .append, args := #[s, x], argTypes := #[22, 22] })
    (base : Nat) (v : Value) (l : List UInt8) (hs : a.eval s = v) (hown : OB w base v l) (b : UInt8) (y : Value) (hy : y = .int .u8 (b.toNat : Int)) (hx : a.eval x = .slice (some ⟨w.heap.size, 0, none⟩) 1 1)
    (hlen : l.length + 1 ≤ 140737488355328) (hbase : base ≤ w.heap.size)
    (h : ∀ v' w', OB w' base v' (l ++ [b]) → (w.alloc (.cells #[y] 5)).grownBy w' v.ownBlock → (v'.ownBlock = v.ownBlock ∨ v'.ownBlock = some (w.heap.size + 1)) → wpList Tryz.prog ops Q rest (a.put o.dst v') w') : wpList Tryz.prog ops Q (o :: rest) a (w.alloc (.cells #[y] 5)) := by
  have h1 : RB (w.alloc (.cells #[y] 5)) (some ⟨w.heap.size, 0, none⟩) [b] := RB.one (x := y) (by rw [World.cell?_alloc_new]; rfl) hy (by simp)
  refine app_bytes _ hgd s x ho base v l hs (hown.below ((Below.refl _ _).alloc (Nat.le_refl _) _)) _ 1 1 [b] hx rfl h1 hlen (by simp; omega) ?_
  intro v' w' g1 g2 g3
  exact h v' w' g1 g2 (by simpa using g3)

/-- a text. -/
theorem app_text (w : World) {ops : Array Oper} {rest : List Oper} {o : Oper} {a : Act} {Q : Exit → Act → World → Prop} (hgd : o.guard = none) (s x : Operand)
    (ho : o.op = .call { callee := .builtin .append, args := #[s, x], argTypes := #[22, 9] })
    (base : Nat) (v : Value) (l : List UInt8) (hs : a.eval s = v) (hown : OB w base v l) (t : ByteArray) (hx : a.eval x = .string t)
    (hlen : l.length + t.size ≤ 140737488355328) (hbase : base ≤ w.heap.size)
    (h : ∀ v' w', OB w' base v' (l ++ t.data.toList) → w.grownBy w' v.ownBlock → wpList Tryz.prog ops Q rest (a.put o.dst v') w') : wpList Tryz.prog ops Q (o :: rest) a w := by
  obtain ⟨i0, hi0, hz0, hz1, hz2⟩ := info_parts infoByte
  refine Lib.wpList_append_own_string w hgd s x _ _ ho base 5 i0 Tryz.underlying22 Tryz.underlying9 hi0 hz0 hz1 hz2 v _ _ hs hown t hx (by simp only [maxLen]; omega) hlen hbase ?_
  intro v' w' h1 h2 _
  refine h v' w' ?_ h2
  unfold OB
  rw [Lib.byteCells_append, List.length_append]
  exact h1

/-- The same inside a region that draws its order. -/
theorem step_app_bytes (w : World) {ops : Array Oper} {o : Oper} {a : Act} {K : Act → World → Prop} {Q : Exit → Act → World → Prop} {E : Prop} (hgd : o.guard = none) (s x : Operand)
    (ho : o.op = .call { callee := .builtin .append, args := #[s, x], argTypes := #[22, 22] })
    (base : Nat) (v : Value) (l : List UInt8) (hs : a.eval s = v) (hown : OB w base v l) (A : Option Addr) (n c : Nat) (l2 : List UInt8) (hx : a.eval x = .slice A n c) (hn : l2.length = n) (hr : RB w A l2)
    (hlen : l.length + n ≤ 140737488355328) (hbase : base ≤ w.heap.size)
    (h : ∀ v' w', OB w' base v' (l ++ l2) → w.grownBy w' v.ownBlock → (v'.ownBlock = v.ownBlock ∨ v'.ownBlock = some w.heap.size) → K (a.put o.dst v') w') :
    if Region.wanted o (yielded ops a.tmps) = true then Oper.wp Tryz.prog o a w K Q else E := by
  obtain ⟨i0, hi0, hz0, hz1, hz2⟩ := info_parts infoByte
  subst hn
  refine step_append_any w hgd s x _ ho base 5 i0 _ 1 1 Tryz.underlying22 hi0 hz0 hz1 hz2 rfl (by omega) v l.length (Lib.byteCells l) hs hown w.heap.size A l2.length c (Lib.byteCells l2) hx hr (oneCell_bytes l2) (by simp only [maxLen]; omega) (by omega) hbase ?_
  intro v' w' h1 h2 h3
  refine h v' w' ?_ h2 h3
  unfold OB
  rw [Lib.byteCells_append, List.length_append]
  exact h1
theorem lit_rb (w : World) (l : List UInt8) (cs : Array Value) (h : cs = (Lib.byteCells l).toArray) : RB (w.alloc (.cells cs 5)) (some ⟨w.heap.size, 0, none⟩) l := by
  subst h
  refine ⟨by simp [Lib.byteCells], fun hn => ⟨_, rfl, by simp, fun j u hu => ?_⟩⟩
  have : ((⟨w.heap.size, 0, none⟩ : Addr).add j) = ⟨w.heap.size, j, none⟩ := by unfold Addr.add; split <;> simp_all
  rw [this, (Blk.new w 5 _).cell j]
  simpa using hu
theorem RB.drew' {w : World} {A : Option Addr} {l : List UInt8} (h : RB w A l) : RB w.drew A l := h
theorem OB.drew {w : World} {b : Nat} {v : Value} {l : List UInt8} (h : OB w b v l) : OB w.drew b v l := h
theorem OB.alloc {w : World} {b : Nat} {v : Value} {l : List UInt8} (h : OB w b v l) (o : Obj) : OB (w.alloc o) b v l := h.below ((Below.refl _ _).alloc (Nat.le_refl _) _)

/-- where the old row lay at base or above, what grew is at base or above -/
theorem OB.grown_ge {w : World} {base : Nat} {v : Value} {l : List UInt8} (h : OB w base v l) : ∀ k, v.ownBlock = some k → base ≤ k := fun k hk => (World.ownsRow.lt h k hk).1

end Go.Proofs.YtgpcinfhcamgpaaGreatDoor

namespace Go.Proofs.YtgpcinfhcamgpaaGreatDoor
open Go.RowKit
set_option linter.unusedVariables false

/-- a slice value that owns a row of one-cell elements of type e, from block base on -/
def OR (e : TypeId) (w : World) (base : Nat) (v : Value) (xs : List Value) : Prop := w.ownsRow base e 1 v xs.length xs
section
variable {e : TypeId} {S : Nat → Prop} {w w' : World} {base : Nat} {v : Value} {xs : List Value}
theorem OR.nil (e : TypeId) (w : World) (base : Nat) : OR e w base (.slice none 0 0) [] := World.ownsRow_nil _ _ _ _
theorem OR.shape (h : OR e w base v xs) : ∃ A c, v = .slice A xs.length c ∧ xs.length ≤ c ∧ c ≤ maxLen ∧ Reads w w.heap.size 1 A xs.length xs ∧ (∀ ad, A = some ad → base ≤ ad.block ∧ ad.block < w.heap.size ∧ ad = ⟨ad.block, 0, none⟩) := by
  rcases h.2 with ⟨hv, h0⟩ | ⟨g, cap, cur, hv, hg, hh, hn, hm, _⟩
  · have : xs = [] := List.eq_nil_of_length_eq_zero h0
    subst this
    exact ⟨none, 0, hv, by simp, by simp [maxLen], Reads.none_, by simp⟩
  · subst hv
    refine ⟨_, _, rfl, hn, hm, Reads.of_own h, ?_⟩
    rintro ad ⟨rfl⟩
    exact ⟨hg, Blk.lt (t := e) hh, rfl⟩
theorem OR.below (h : OR e w base v xs) (hb : Below w.heap.size w w') : OR e w' base v xs := by
  refine ⟨h.1, ?_⟩
  rcases h.2 with h0 | ⟨g, cap, cur, hv, hg, hh, hn⟩
  · exact .inl h0
  · exact .inr ⟨g, cap, cur, hv, hg, (hb.block g (Blk.lt (t := e) hh)).trans hh, hn⟩
theorem OR.fr (h : OR e w base v xs) (hf : Fr S w w') (hs : ∀ g, v.ownBlock = some g → ¬ S g) : OR e w' base v xs := by
  refine ⟨h.1, ?_⟩
  rcases h.2 with h0 | ⟨g, cap, cur, hv, hg, hh, hn⟩
  · exact .inl h0
  · exact .inr ⟨g, cap, cur, hv, hg, (hf.block g (Blk.lt (t := e) hh) (hs g (by rw [hv]; rfl))).trans hh, hn⟩
theorem OR.mono (h : OR e w base v xs) {b' : Nat} (hb : b' ≤ base) : OR e w b' v xs := by
  refine ⟨h.1, ?_⟩
  rcases h.2 with h0 | ⟨g, cap, cur, hv, hg, hh⟩
  · exact .inl h0
  · exact .inr ⟨g, cap, cur, hv, by omega, hh⟩
theorem OR.drew (h : OR e w base v xs) : OR e w.drew base v xs := h
theorem OR.drewN (h : OR e w base v xs) (n : Nat) : OR e (w.drewN n) base v xs := h
theorem OR.alloc (h : OR e w base v xs) (o : Obj) : OR e (w.alloc o) base v xs := h.below ((Below.refl _ _).alloc (Nat.le_refl _) _)
theorem OR.ge (h : OR e w base v xs) : ∀ k, v.ownBlock = some k → base ≤ k := fun k hk => (World.ownsRow.lt h k hk).1
theorem OR.lt (h : OR e w base v xs) : ∀ k, v.ownBlock = some k → k < w.heap.size := fun k hk => (World.ownsRow.lt h k hk).2
end

/-- one element, that lies in a block of its own (what 'append(out, x)' makes of x) -/
theorem app_cell (w : World) {ops : Array Oper} {rest : List Oper} {o : Oper} {a : Act} {Q : Exit → Act → World → Prop} (hgd : o.guard = none) (s x : Operand) (t e : TypeId) (z : Value) (bytes : Nat)
    (ht : Tryz.prog.underlying t = some (.slice e)) (hinfo : (Tryz.prog.info? e).map (fun i => (i.zero, i.size, i.bytes)) = some (some z, 1, bytes)) (hzs : z.cells.size = 1)
    (ho : o.op = .call { callee := .builtin .append, args := #[s, x], argTypes := #[t, t] })
    (base : Nat) (v : Value) (xs : List Value) (hs : a.eval s = v) (hown : OR e w base v xs) (y : Value) (hy : y.oneCell' = true) (hx : a.eval x = .slice (some ⟨w.heap.size, 0, none⟩) 1 1)
    (hlen : xs.length + 1 ≤ maxLen) (hby : (xs.length + 1) * bytes ≤ 140737488355328) (hbase : base ≤ w.heap.size)
    (h : ∀ v' w', OR e w' base v' (xs ++ [y]) → (w.alloc (.cells #[y] e)).grownBy w' v.ownBlock → (v'.ownBlock = v.ownBlock ∨ v'.ownBlock = some (w.heap.size + 1)) → wpList Tryz.prog ops Q rest (a.put o.dst v') w') : wpList Tryz.prog ops Q (o :: rest) a (w.alloc (.cells #[y] e)) := by
  obtain ⟨i0, hi0, hz0, hz1, hz2⟩ := info_parts hinfo
  have hr : Reads (w.alloc (.cells #[y] e)) (w.alloc (.cells #[y] e)).heap.size 1 (some ⟨w.heap.size, 0, none⟩) 1 [y] := by
    refine ⟨rfl, fun _ => ⟨_, rfl, by simp, fun j u hu => ?_⟩⟩
    match j, hu with
    | 0, hu =>
      simp at hu
      subst hu
      have := (Blk.new w e #[y]).cell 0
      simp [Addr.add, this]
  refine wpList_append_any _ hgd s x t ho base e i0 z 1 bytes ht hi0 hz0 hz1 hz2 hzs (by omega) v xs.length xs hs (hown.alloc _) _ _ 1 1 [y] hx hr (fun u hu => by simp at hu; subst hu; exact hy) hlen hby (by simp; omega) ?_
  intro v' w' h1 h2 h3
  refine h v' w' ?_ h2 (by simpa using h3)
  unfold OR
  rw [List.length_append]
  exact h1
theorem below_grown {w w1 w' : World} {B : Nat} {v : Value} (hb : Below B w w1) (hg : w1.grownBy w' v.ownBlock) (hB : B ≤ w1.heap.size) (hv : ∀ k, v.ownBlock = some k → B ≤ k) : Below B w w' := hb.grown hg hB hv
end Go.Proofs.YtgpcinfhcamgpaaGreatDoor

namespace Go.Proofs.YtgpcinfhcamgpaaGreatDoor
open Go.RowKit
set_option linter.unusedVariables false

/-- no byte lies in block g -/
def NoBy (w : World) (g : Nat) : Prop := ∀ (o : Nat) (x : Int), w.cell? ⟨g, o, none⟩ ≠ some (.int .u8 x)
theorem cell_spot {w : World} {a : Addr} {v : Value} (h : w.cell? a = some v) : a = ⟨a.block, a.off, none⟩ := by
  obtain ⟨b, o, sp⟩ := a
  unfold World.cell? at h
  cases sp with
  | none => rfl
  | some k =>
    exfalso
    revert h
    simp only
    split
    · simp
    · simp
theorem RB.fr2 {S : Nat → Prop} {w w' : World} {A : Option Addr} {l : List UInt8} (h : RB w A l) (hf : Fr S w w') (hS : ∀ g, S g → g < w.heap.size → NoBy w g) : RB w' A l := by
  rcases Nat.eq_zero_or_pos l.length with h0 | h0
  · exact ⟨h.1, fun hn => by omega⟩
  · obtain ⟨ad, hA, hlt, hc⟩ := RB.at_ h h0
    refine RB.fr h hf ?_
    intro ad' hA' hs
    rw [hA] at hA'
    cases hA'
    have e := cell_spot hc
    rw [e] at hc
    have hb : (ad.add 0).block = ad.block := by unfold Addr.add; split <;> rfl
    rw [hb] at hc
    exact hS _ hs hlt _ _ hc
theorem NoBy.of_blk {w : World} {g : Nat} {t : TypeId} {cs : Array Value} (h : Blk w g t cs) (hno : ∀ (k : Nat) (x : Int), cs[k]? ≠ some (.int .u8 x)) : NoBy w g := fun o x => by rw [h.cell]; exact hno o x
theorem fr_cell {w : World} {g k : Nat} (u : Value) : Fr (· = g) w (w.setCell ⟨g, k, none⟩ u) := (Fr.refl (fun x => x = g) w).setCell (p := ⟨g, k, none⟩) (fun _ => rfl) u
theorem RB.of_blk {w : World} {g : Nat} {t : TypeId} {l : List UInt8} (h : Blk w g t (Lib.byteCells l).toArray) : RB w (some ⟨g, 0, none⟩) l := by
  refine ⟨by simp [Lib.byteCells], fun hn => ⟨_, rfl, h.lt, fun j u hu => ?_⟩⟩
  rw [Addr.add_lit, Nat.zero_add, h.cell j]
  simpa using hu
theorem made_zeros (z : Nat) : madeCells #[Value.int .u8 0] z = (Lib.byteCells (List.replicate z 0)).toArray := by
  simp only [madeCells, Lib.byteCells, List.map_replicate]
  apply Array.ext_getElem?
  intro j
  rcases Nat.lt_or_ge j z with hj | hj
  · simp [hj, Nat.mod_one]
  · rw [Array.getElem?_eq_none (by simp; omega), Array.getElem?_eq_none (by simp; omega)]
end Go.Proofs.YtgpcinfhcamgpaaGreatDoor

namespace Go.Proofs.YtgpcinfhcamgpaaGreatDoor
open Go.RowKit
set_option linter.unusedVariables false

/-- no byte lies in the row that the value owns -/
def Clean (w : World) (v : Value) : Prop := ∀ g, v.ownBlock = some g → NoBy w g
/-- no value of the list is a byte -/
def NoB (xs : List Value) : Prop := ∀ u ∈ xs, ∀ x : Int, u ≠ .int .u8 x
section
variable {w w' : World} {v : Value}
theorem Clean.nil (w : World) : Clean w (.slice none 0 0) := fun g h => by cases h
theorem Clean.cell {w' : World} (h : Clean w v) (hc : ∀ g o, v.ownBlock = some g → w'.cell? ⟨g, o, none⟩ = w.cell? ⟨g, o, none⟩) : Clean w' v := fun g hg o x => by rw [hc g o hg]; exact h g hg o x
theorem NoBy.fr {S : Nat → Prop} {g : Nat} (h : NoBy w g) (hf : Fr S w w') (hg : g < w.heap.size) (hS : ¬ S g) : NoBy w' g := fun o x => by
  rw [hf.cell (p := ⟨g, o, none⟩) hg hS]; exact h o x
theorem Clean.fr {S : Nat → Prop} (h : Clean w v) (hf : Fr S w w') (hv : ∀ g, v.ownBlock = some g → g < w.heap.size ∧ ¬ S g) : Clean w' v := fun g hg => (h g hg).fr hf (hv g hg).1 (hv g hg).2
theorem noBy_of_list {g : Nat} {e : TypeId} {cs : Array Value} (h : w.heap[g]? = some (.cells cs e (0, 0))) (hn : NoB cs.toList) : NoBy w g := by
  refine NoBy.of_blk (t := e) h (fun k x hk => ?_)
  exact hn _ (Array.mem_toList_iff.2 (Array.mem_of_getElem? hk)) x rfl
theorem noB_of_blk {g : Nat} {e : TypeId} {cs : Array Value} (h : w.heap[g]? = some (.cells cs e (0, 0))) (hn : NoBy w g) : NoB cs.toList := by
  intro u hu x e
  subst e
  obtain ⟨k, hk⟩ := List.getElem?_of_mem hu
  have := hn k x
  rw [Blk.cell h] at this
  exact this (by simpa using hk)
theorem NoB.append {xs ys : List Value} (h : NoB xs) (k : NoB ys) : NoB (xs ++ ys) := fun u hu => by
  rcases List.mem_append.1 hu with hu | hu
  · exact h u hu
  · exact k u hu
theorem noB_zero {z : Value} (hz : z.cells = #[z]) (hz2 : ∀ x : Int, z ≠ .int .u8 x) (n : Nat) : NoB (Builtin.zeroCells z.cells n).toList := by
  intro u hu
  have : u = z := by
    rw [hz] at hu
    simp [Builtin.zeroCells, Nat.mod_one] at hu
    exact hu.2.symm
  subst this
  exact hz2
end
section
variable {P : Program} (w : World)
theorem run_append_clean (base : Nat) (t ty e : TypeId) (i : TypeInfo) (z : Value) (bytes : Nat) (ht : P.underlying t = some (.slice e)) (hi : P.info? e = some i) (hz : i.zero = some z)
    (hsize : i.size = 1) (hby : i.bytes = bytes) (hzc : z.cells = #[z]) (hz2 : ∀ x : Int, z ≠ .int .u8 x)
    (v : Value) (n : Nat) (xs : List Value) (hown : w.ownsRow base e 1 v n xs) (hcl : Clean w v)
    (a : Addr) (m c : Nat) (news : List Value) (hl : news.length = m) (hm : 0 < m) (hnews : ∀ j u, news[j]? = some u → w.cell? (a.add j) = some u) (h1 : ∀ u ∈ news, u.oneCell' = true) (hnn : NoB news)
    (h63 : n + m ≤ maxLen) (hbytes : (n + m) * bytes ≤ 140737488355328) {v' : Value} {w' : World}
    (hrun : (Builtin.append_ #[t, t] ty #[v, .slice (some a) m c]).run P w = .ok v' w') : Clean w' v' := by
  subst hby
  have hsmall : n + m ≤ 9223372036854775807 := by simp only [maxLen] at h63; omega
  have hl' : news.length = m * i.size := by rw [hsize]; omega
  rcases hown.2 with ⟨rfl, rfl⟩ | ⟨g, cap, cur, rfl, hbg, hg, hnc, hcm, hcs, htake⟩
  · have hr := run_append_nil (P := P) w t ty e i z ht hi hz a m c news hl' hnews hm (by omega) (by have hb := hbytes; simp only [Nat.zero_add] at hb; omega)
    rw [hr] at hrun
    injection hrun with e1 e2
    subst e1 e2
    intro g' hg'
    injection hg' with hg'
    subst hg'
    refine noBy_of_list (heap_alloc_new w.drew _) ?_
    rw [Array.toList_append]
    exact NoB.append hnn (noB_zero hzc hz2 _)
  · have hcur : NoB cur.toList := noB_of_blk hg (hcl g rfl)
    by_cases hroom : n + m ≤ cap
    · have hr := run_append_room (P := P) w t ty e i ht hi g n cap cur hg a m c news hl' hnews h1 hroom (by rw [hsize]; omega)
      rw [hr] at hrun
      injection hrun with e1 e2
      subst e1 e2
      intro g' hg'
      injection hg' with hg'
      subst hg'
      refine noBy_of_list (setRow_heap w g cur _ e _ hg) ?_
      refine NoB.append (NoB.append (fun u hu => hcur u (List.mem_of_mem_take hu)) hnn) (fun u hu => hcur u (List.mem_of_mem_drop hu))
    · have holds : ∀ j u, xs[j]? = some u → w.cell? ((⟨g, 0, none⟩ : Addr).add j) = some u := hown.cells (g := g) rfl
      have hxs : NoB xs := fun u hu => hcur u (List.mem_of_mem_take (htake ▸ hu))
      have hr := run_append_grow (P := P) w t ty e i z ht hi hz ⟨g, 0, none⟩ n cap xs (by rw [hsize]; exact hown.1) holds a m c news hl' hnews (by omega) (by omega) (growslice_fits (by omega) hbytes)
      rw [hr] at hrun
      injection hrun with e1 e2
      subst e1 e2
      intro g' hg'
      injection hg' with hg'
      subst hg'
      refine noBy_of_list (heap_alloc_new w.drew _) ?_
      rw [Array.toList_append, Array.toList_append]
      exact NoB.append (NoB.append hxs hnn) (noB_zero hzc hz2 _)

theorem step_append_clean {ops : Array Oper} {o : Oper} {a : Act} {K : Act → World → Prop} {Q : Exit → Act → World → Prop} {E : Prop} (hgd : o.guard = none) (s x : Operand) (t : TypeId)
    (ho : o.op = .call { callee := .builtin .append, args := #[s, x], argTypes := #[t, t] })
    (base : Nat) (e : TypeId) (i : TypeInfo) (z : Value) (bytes : Nat) (ht : P.underlying t = some (.slice e)) (hi : P.info? e = some i) (hz : i.zero = some z)
    (hsize : i.size = 1) (hby : i.bytes = bytes) (hzs : z.cells = #[z]) (hz2 : ∀ x : Int, z ≠ .int .u8 x)
    (v : Value) (n : Nat) (xs : List Value) (hs : a.eval s = v) (hown : w.ownsRow base e 1 v n xs) (hcl : Clean w v)
    (B : Nat) (A : Addr) (m c : Nat) (news : List Value) (hx : a.eval x = .slice (some A) m c) (hr : Reads w B 1 (some A) m news) (hm : 0 < m) (h1 : ∀ u ∈ news, u.oneCell' = true) (hnn : NoB news)
    (h63 : n + m ≤ maxLen) (hbytes : (n + m) * bytes ≤ 140737488355328) (hbase : base ≤ w.heap.size)
    (h : ∀ v' w', w'.ownsRow base e 1 v' (n + m) (xs ++ news) → w.grownBy w' v.ownBlock → (v'.ownBlock = v.ownBlock ∨ v'.ownBlock = some w.heap.size) → Clean w' v' → K (a.put o.dst v') w') :
    if Region.wanted o (yielded ops a.tmps) = true then Oper.wp P o a w K Q else E := by
  have hw : Region.wanted o (yielded ops a.tmps) = true := by simp [Region.wanted, hgd]
  rw [if_pos hw]
  obtain ⟨v', w', hrun, h2, h3, h4⟩ := run_append_any (P := P) w base t o.type e i z 1 bytes ht hi hz hsize hby (by rw [hzs]; rfl) (by omega) v n xs hown B (some A) m c news hr h1 h63 hbytes hbase
  have hnews : ∀ j u, news[j]? = some u → w.cell? (A.add j) = some u := by
    obtain ⟨ad, e1, _, hc⟩ := hr.2 hm
    cases e1
    exact hc
  have h5 := run_append_clean (P := P) w base t o.type e i z bytes ht hi hz hsize hby hzs hz2 v n xs hown hcl A m c news (by have := hr.1; omega) hm hnews h1 hnn h63 hbytes hrun
  unfold Oper.wp execOp
  simp only [ho, resolve, invoke, builtin, Sem.run_bind, Sem.run_pure, Result.andThen_ok, List.map_toArray, List.map_cons, List.map_nil, hs, hx, hrun]
  exact h v' w' h2 h3 h4 h5
end
end Go.Proofs.YtgpcinfhcamgpaaGreatDoor

namespace Go.Proofs.YtgpcinfhcamgpaaGreatDoor
open Go.RowKit Go.Maps
set_option linter.unusedVariables false

def R0 (v : Value) : Option (DataW Value × List MemPlace) := some (.held v, [])
theorem keyedI : Keyed Tryz.prog 3 := int_keyed Tryz.underlying3
def keyI (i : Nat) : Lit := .int .i64 (i : Int)
theorem keyI_wf (i : Nat) (h : i < 1000000) : (Lit.int .i64 (i : Int)).wf = true := by
  simp only [Lit.wf, IntKind.min, IntKind.max, IntKind.signed, IntKind.bits, Bool.and_eq_true, decide_eq_true_eq, if_true]
  omega
theorem keyI_of (i : Nat) (h : i < 1000000) : keyOf Tryz.prog 3 (.int .i64 (i : Int)) = some (keyI i) := keyOf_int_mk Tryz.underlying3 (keyI_wf i h)
theorem keyI_inj {i j : Nat} (h : keyI i = keyI j) : i = j := by
  unfold keyI at h
  injection h with _ h
  omega
theorem keyI_lit (i : Nat) : WideAt.IsKeyLit (keyI i) := trivial
theorem zeroSl (w : World) : (zeroValue 22).run Tryz.prog w = .ok (.slice none 0 0) w := by kernel_rfl

/-- block M is a map of at most n entries; at number i it holds f i -/
def LMap (w : World) (M n : Nat) (f : Nat → Option Value) : Prop :=
  ∃ D : DataW Value, w.ownsMap Tryz.prog 3 R0 M n D ∧ (∀ i, i < 1000000 → ∀ z, D.atKey (keyI i) z = match f i with | none => z | some v => .held v) ∧ (∀ kl, has D kl = true → ∃ i, i < 1000000 ∧ kl = keyI i ∧ (f i).isSome = true)
section
variable {w w' : World} {M n : Nat} {f : Nat → Option Value} {S : Nat → Prop}
theorem LMap.new (w : World) : LMap (w.alloc (.map #[] 0)) w.heap.size 0 (fun _ => none) :=
  ⟨_, World.ownsMap_made _ _ _ _, fun i _ z => rfl, fun kl h => by simp [has] at h⟩
theorem LMap.lt (h : LMap w M n f) : M < w.heap.size := by obtain ⟨D, h, _⟩ := h; exact h.lt
theorem LMap.of_block (h : LMap w M n f) (hb : w'.heap[M]? = w.heap[M]?) : LMap w' M n f := by
  obtain ⟨D, ⟨es, clock, h1, h2⟩, h3⟩ := h
  exact ⟨D, ⟨es, clock, hb.trans h1, h2⟩, h3⟩
theorem LMap.below (h : LMap w M n f) (hb : Below w.heap.size w w') : LMap w' M n f := h.of_block (hb.block M h.lt)
theorem LMap.fr (h : LMap w M n f) (hf : Fr S w w') (hM : ¬ S M) : LMap w' M n f := h.of_block (hf.block M h.lt hM)
theorem LMap.drew (h : LMap w M n f) : LMap w.drew M n f := h
theorem LMap.mono (h : LMap w M n f) {m : Nat} (hm : n ≤ m) : LMap w M m f := by
  obtain ⟨D, h1, h2⟩ := h
  exact ⟨D, h1.mono hm, h2⟩
theorem LMap.not_blk (h : LMap w M n f) {t : TypeId} {cs : Array Value} {g : Nat} (hb : Blk w g t cs) : g ≠ M := by
  rintro rfl
  obtain ⟨D, ⟨es, clock, h, _⟩, _⟩ := h
  unfold Blk at hb
  rw [h] at hb
  cases hb
theorem LMap.noCell (h : LMap w M n f) (o : Nat) : w.cell? ⟨M, o, none⟩ = none := by
  obtain ⟨D, ⟨es, clock, h, _⟩, _⟩ := h
  simp [World.cell?, h]
theorem LMap.isMap {D : DataW Value} (h : w.ownsMap Tryz.prog 3 R0 M n D) : IsMap D := by
  obtain ⟨es, clock, _, _, _, rfl⟩ := h
  exact ⟨_, rfl⟩
/-- 'v, is := m[i]' -/
theorem LMap.look (h : LMap w M n f) {i : Nat} (hi : i < 1000000) : (Instr.lookup 92 (.map (some M)) (.int .i64 (i : Int)) true).run Tryz.prog w = .ok (.tuple #[(f i).getD (.slice none 0 0), .bool (f i).isSome]) w := by
  obtain ⟨D, ⟨es, clock, hb, F, _, rfl⟩, h2, _⟩ := h
  have h2i := h2 i hi
  rcases fit_look true keyedI Tryz.underlying92 (zeroSl w) hb F (keyI_of i hi) with ⟨hrun, _, hat⟩ | ⟨e0, y, _, _, hrun, hRv, hat, _⟩
  · cases hf : f i with
    | none => rw [hrun]; rfl
    | some v =>
      exfalso
      have h3 := (hat (.map [])).symm.trans (h2i (.map []))
      rw [hf] at h3
      cases h3
  · cases hf : f i with
    | none =>
      exfalso
      have h3 := (hat (.held (.bool true))).symm.trans (h2i (.held (.bool true)))
      have h4 := (hat (.held (.bool false))).symm.trans (h2i (.held (.bool false)))
      rw [hf] at h3 h4
      simp only at h3 h4
      rw [h3] at h4
      cases h4
    | some v =>
      have h3 := (hat (.map [])).symm.trans (h2i (.map []))
      rw [hf] at h3
      unfold R0 at hRv
      cases hRv
      cases h3
      rw [hrun]; rfl
/-- 'm[i]' -/
theorem LMap.look1 (h : LMap w M n f) {i : Nat} (hi : i < 1000000) : (Instr.lookup 92 (.map (some M)) (.int .i64 (i : Int)) false).run Tryz.prog w = .ok ((f i).getD (.slice none 0 0)) w := by
  obtain ⟨D, ⟨es, clock, hb, F, _, rfl⟩, h2, _⟩ := h
  have h2i := h2 i hi
  rcases fit_look false keyedI Tryz.underlying92 (zeroSl w) hb F (keyI_of i hi) with ⟨hrun, _, hat⟩ | ⟨e0, y, _, _, hrun, hRv, hat, _⟩
  · cases hf : f i with
    | none => rw [hrun]; rfl
    | some v =>
      exfalso
      have h3 := (hat (.map [])).symm.trans (h2i (.map []))
      rw [hf] at h3
      cases h3
  · cases hf : f i with
    | none =>
      exfalso
      have h3 := (hat (.held (.bool true))).symm.trans (h2i (.held (.bool true)))
      have h4 := (hat (.held (.bool false))).symm.trans (h2i (.held (.bool false)))
      rw [hf] at h3 h4
      simp only at h3 h4
      rw [h3] at h4
      cases h4
    | some v =>
      have h3 := (hat (.map [])).symm.trans (h2i (.map []))
      rw [hf] at h3
      unfold R0 at hRv
      cases hRv
      cases h3
      rw [hrun]; rfl
/-- at a number that may be no place: nothing is there -/
theorem LMap.look_far (h : LMap w M n f) {i : Int} (hw : (Lit.int .i64 i).wf = true) (hi : i < 0 ∨ 1000000 ≤ i) (c : Bool) : (Instr.lookup 92 (.map (some M)) (.int .i64 i) c).run Tryz.prog w = .ok (if c then .tuple #[.slice none 0 0, .bool false] else .slice none 0 0) w := by
  obtain ⟨D, hD, h2, h3⟩ := h
  obtain ⟨es, clock, hb, F, _, rfl⟩ := hD
  rcases fit_look c keyedI Tryz.underlying92 (zeroSl w) hb F (keyOf_int_mk Tryz.underlying3 hw) with ⟨hrun, _, hat⟩ | ⟨e0, y, _, _, hrun, hRv, hat, _⟩
  · exact hrun
  · exfalso
    obtain ⟨j, hj, e, _⟩ := h3 _ (has_true_of_atKey hat)
    unfold keyI at e
    injection e with _ e
    omega
theorem LMap.update {D : DataW Value} {i : Nat} (hi : i < 1000000) (v : Value) (hm : IsMap D) (h2 : ∀ i, i < 1000000 → ∀ z, D.atKey (keyI i) z = match f i with | none => z | some v => .held v) (h3 : ∀ kl, has D kl = true → ∃ i, i < 1000000 ∧ kl = keyI i ∧ (f i).isSome = true) :
    (∀ j, j < 1000000 → ∀ z, (D.put (keyI i) (.held v)).atKey (keyI j) z = match (if j = i then some v else f j) with | none => z | some v => .held v) ∧ (∀ kl, has (D.put (keyI i) (.held v)) kl = true → ∃ j, j < 1000000 ∧ kl = keyI j ∧ (if j = i then some v else f j).isSome = true) := by
  constructor
  · intro j hj z
    by_cases e : j = i
    · subst e
      rw [atKey_put_same hm (keyI_lit j), if_pos rfl]
    · rw [atKey_put_other (fun x => e (keyI_inj x)), if_neg e]
      exact h2 j hj z
  · intro kl hk
    by_cases e : kl = keyI i
    · exact ⟨i, hi, e, by rw [if_pos rfl]; rfl⟩
    · rw [has_put_other e] at hk
      obtain ⟨j, hj, e2, e3⟩ := h3 kl hk
      refine ⟨j, hj, e2, ?_⟩
      by_cases ej : j = i
      · rw [if_pos ej]; rfl
      · rw [if_neg ej]; exact e3
/-- 'm[i] = v' -/
theorem LMap.put (h : LMap w M n f) {i : Nat} (hi : i < 1000000) (hn : n < maxLen) (v : Value) :
    ∃ w', (Instr.mapUpdate 92 (.map (some M)) (.int .i64 (i : Int)) v).run Tryz.prog w = .ok () w' ∧ LMap w' M (n + 1) (fun j => if j = i then some v else f j) ∧ Fr (· = M) w w' := by
  obtain ⟨D, h1, h2, h3⟩ := h
  obtain ⟨w', hrun, ho, hg⟩ := h1.update keyedI Tryz.underlying92 hn (keyI_of i hi) (show R0 v = some (.held v, []) from rfl)
  have hu := LMap.update hi v (LMap.isMap h1) h2 h3
  exact ⟨w', hrun, ⟨_, ho, hu.1, hu.2⟩, Fr.of_grown hg (fun k e => by cases e; rfl)⟩
/-- 'clear(m)' -/
theorem LMap.clear (h : LMap w M n f) (ty : TypeId) :
    ∃ w', (Builtin.clear_ #[92] ty #[.map (some M)]).run Tryz.prog w = .ok (.tuple #[]) w' ∧ LMap w' M 0 (fun _ => none) ∧ Fr (· = M) w w' := by
  obtain ⟨D, ⟨es, clock, hb, F, _, rfl⟩, h2, h3⟩ := h
  refine ⟨ChangeMaps.setBlock w M (.map #[] clock), ?_, ⟨.map [], ⟨#[], clock, ChangeMaps.heap_setBlock_same hb _, ⟨by simp, Go.MapKept.stamped_empty _, by simp⟩, Nat.le_refl _, rfl⟩, fun i _ z => rfl, fun kl h => by simp [has] at h⟩, ?_⟩
  · simp [Builtin.clear_, run_underlying Tryz.underlying92, MapKept.run_getObj_map hb, MapKept.run_setObj_map _ hb, Result.andThen, ChangeMaps.setBlock]
  · exact ⟨rfl, rfl, rfl, by simp [ChangeMaps.setBlock], fun i _ hi => ChangeMaps.heap_setBlock_other hb _ hi⟩
end
end Go.Proofs.YtgpcinfhcamgpaaGreatDoor

namespace Go.Proofs.YtgpcinfhcamgpaaGreatDoor
open Go.RowKit
set_option linter.unusedVariables false

theorem emptyRow (w : World) (B : Nat) (hB : B ≤ w.heap.size) : (w.alloc (.cells #[] 5)).ownsRow B 5 1 (.slice (some ⟨w.heap.size, 0, none⟩) 0 0) 0 [] :=
  ⟨rfl, .inr ⟨w.heap.size, 0, #[], rfl, hB, heap_alloc_new w _, Nat.le_refl _, by simp [maxLen], rfl, rfl⟩⟩

set_option maxRecDepth 100000 in
set_option maxHeartbeats 400000 in
theorem clone_any (A : Option Addr) (c : Nat) (l : List UInt8) (w : World) (hn : l.length ≤ 140737488355328) (hr : RB w A l) :
    Calls Tryz.prog 64 #[.slice A l.length c] w fun e w' => ∃ v, e = .returned v ∧ OB w' w.heap.size v l ∧ Below w.heap.size w w' := by
  have hne := fun W => Lib.run_eql_slice_nil (P := Tryz.prog) W 22 5 A l.length c 0 0 Tryz.underlying22
  rcases A with _ | ad
  · have hl : l = [] := by
      rcases Nat.eq_zero_or_pos l.length with h0 | h0
      · exact List.eq_nil_of_length_eq_zero h0
      · obtain ⟨ad, h, _⟩ := hr.2 h0; cases h
    subst hl
    simp only [List.length_nil] at hne
    go_enter Tryz.func64, Tryz.ntmps64
    go_wp2
    go_ret
    exact ⟨_, rfl, OB.nil _ _, Below.refl _ _⟩
  · obtain ⟨i0, hi0, hz0, hz1, hz2⟩ := info_parts infoByte
    have hr1 : Reads (w.alloc (.cells #[] 5)) w.heap.size 1 (some ad) l.length (Lib.byteCells l) := Reads.alloc hr (Nat.le_refl _) _
    have hown := emptyRow w w.heap.size (Nat.le_refl _)
    go_enter Tryz.func64, Tryz.ntmps64
    go_wp2_with (at_builtin; refine wpList_append_any _ rfl _ _ _ rfl w.heap.size 5 i0 _ 1 1 Tryz.underlying22 hi0 hz0 hz1 hz2 rfl (by omega) _ 0 [] rfl hown w.heap.size (some ad) l.length c _ rfl hr1 (oneCell_bytes l) (by simp only [maxLen]; omega) (by omega) (by simp) ?_; intro v1 w1 hown1 hg1 hat1)
    go_ret
    refine ⟨v1, rfl, by simpa [OB] using hown1, ?_⟩
    exact ((Below.refl _ _).alloc (Nat.le_refl _) _).grown hg1 (by simp) (by intro k hk; cases hk; exact Nat.le_refl _)
theorem clone_n (A : Option Addr) (n c : Nat) (l : List UInt8) (w : World) (hl : l.length = n) (hn : n ≤ 140737488355328) (hr : RB w A l) :
    Calls Tryz.prog 64 #[.slice A n c] w fun e w' => ∃ v, e = .returned v ∧ OB w' w.heap.size v l ∧ Below w.heap.size w w' := by
  subst hl; exact clone_any A c l w hn hr

set_option maxRecDepth 100000 in
set_option maxHeartbeats 400000 in
theorem grow_any (n : Nat) (w : World) (hn : n ≤ 140737488355328) :
    Calls Tryz.prog 97 #[.slice none 0 0, .int .i64 (n : Int)] w fun e w' => ∃ v, e = .returned v ∧ OB w' w.heap.size v [] ∧ Below w.heap.size w w' := by
  rcases Nat.eq_zero_or_pos n with h0 | h0
  · subst h0
    go_enter Tryz.func97, Tryz.ntmps97
    go_wp2
    go_ret
    exact ⟨_, rfl, OB.nil _ _, Below.refl _ _⟩
  · obtain ⟨i0, hi0, hz0, hz1, hz2⟩ := info_parts infoByte
    have hi0' := hi0
    have hsz : 0 < i0.size := by omega
    have hrun := Lib.run_append_nil_zeros (P := Tryz.prog) w 22 3 22 5 i0 (.int .u8 0) .i64 .i64 Tryz.underlying22 Tryz.underlying3 hi0 hz0 n h0 (by omega) (by omega) (by rw [hz2]; omega)
    obtain ⟨cap, hcap⟩ : ∃ c, c = grownCap w n 0 5 := ⟨_, rfl⟩
    have hge := grownCap_ge w n 0 5
    have hle := grownCap_le_maxLen w n 0 5 (by unfold maxLen; omega)
    rw [← hcap] at hrun hge hle
    obtain ⟨C, hC⟩ : ∃ C, C = Builtin.zeroCells (Value.int .u8 0).cells n ++ Builtin.zeroCells (Value.int .u8 0).cells (cap - n) := ⟨_, rfl⟩
    rw [← hC] at hrun
    have hCs : C.size = cap := by
      rw [hC, Array.size_append, size_zeroCells, size_zeroCells]
      have : (Value.int .u8 0).cells.size = 1 := rfl
      rw [this]; omega
    have HR := Lib.hid hrun
    have hown : OB (w.drew.alloc (.cells C 5)) w.heap.size (.slice (some ⟨w.heap.size, 0, none⟩) 0 cap) [] :=
      ⟨rfl, .inr ⟨w.heap.size, cap, C, rfl, Nat.le_refl _, heap_alloc_new w.drew _, Nat.zero_le _, hle, by rw [hCs, Nat.mul_one], by simp [Lib.byteCells]⟩⟩
    have HO := Lib.hid hown
    have hnn : decide ((n : Int) < 0) = false := by rw [decide_eq_false_iff_not]; omega
    have hn0 : decide ((0 : Int) < (n : Int)) = true := by rw [decide_eq_true_iff]; omega
    have hcap2 : decide ((0 : Int) ≤ (cap : Int)) = true := by rw [decide_eq_true_iff]; omega
    clear hrun hown hcap hC hCs hi0 hi0' hz0 hz1 hz2 hsz
    unfold maxLen at hle
    go_enter Tryz.func97, Tryz.ntmps97
    go_wp2_with (at_builtin; refine Lib.wpList_append_run _ rfl _ _ _ _ rfl _ _ rfl rfl _ _ HR.out ?_)
    go_ret
    exact ⟨_, rfl, HO.out, ((below_drewN (Below.refl _ _) 1).alloc (Nat.le_refl _) _)⟩

/-- parts of bytes: an address, a capacity, the bytes -/
structure Pt where
  A : Option Addr
  c : Nat
  l : List UInt8
def Pt.v (p : Pt) : Value := .slice p.A p.l.length p.c
def catP (ps : List Pt) : List UInt8 := ps.flatMap (·.l)
/-- a row of slices of bytes -/
def Pts (w : World) (A : Option Addr) (ps : List Pt) : Prop := Reads w w.heap.size 1 A ps.length (ps.map Pt.v) ∧ ∀ p ∈ ps, RB w p.A p.l
theorem Pts.below {w w' : World} {A : Option Addr} {ps : List Pt} (h : Pts w A ps) (hb : Below w.heap.size w w') : Pts w' A ps := ⟨(Reads.below h.1 hb).more hb.size, fun p hp => (h.2 p hp).below hb⟩
theorem Pts.at_ {w : World} {A : Option Addr} {ps : List Pt} (h : Pts w A ps) {k : Nat} (hk : k < ps.length) : ∃ ad, A = some ad ∧ ad.block < w.heap.size ∧ w.cell? (ad.add k) = some (.slice ps[k].A ps[k].l.length ps[k].c) ∧ RB w ps[k].A ps[k].l := by
  obtain ⟨ad, u, e, hb, hx, hc⟩ := Reads.at_ h.1 hk
  refine ⟨ad, e, hb, ?_, h.2 _ (List.getElem_mem hk)⟩
  rw [hc]
  simp [hk] at hx
  rw [← hx]; rfl
theorem Pts.of_block {w : World} {g : Nat} {t : TypeId} {ps : List Pt} (h : Blk w g t (ps.map Pt.v).toArray) (hp : ∀ p ∈ ps, RB w p.A p.l) : Pts w (some ⟨g, 0, none⟩) ps := by
  refine ⟨⟨by simp, fun hn => ⟨_, rfl, h.lt, fun j u hu => ?_⟩⟩, hp⟩
  rw [Addr.add_lit, Nat.zero_add, h.cell j]
  simpa using hu
theorem catP_take (ps : List Pt) (k : Nat) (hk : k < ps.length) : catP (ps.take (k + 1)) = catP (ps.take k) ++ ps[k].l := by
  unfold catP
  rw [List.take_succ_eq_append_getElem hk, List.flatMap_append]; simp
theorem catP_le (ps : List Pt) (k : Nat) : (catP (ps.take k)).length ≤ (catP ps).length := by
  have : catP ps = catP (ps.take k) ++ catP (ps.drop k) := by
    unfold catP
    rw [← List.flatMap_append, List.take_append_drop]
  rw [this, List.length_append]; omega

theorem below_grown' {w w1 w' : World} {B : Nat} {v : Value} (hb : Below B w w1) (hg : w1.grownBy w' v.ownBlock) (hB : B ≤ w1.heap.size) (hv : ∀ k, v.ownBlock = some k → B ≤ k) : Below B w w' := hb.grown hg hB hv
set_option maxRecDepth 100000 in
set_option maxHeartbeats 2000000 in
theorem concat_any (A : Option Addr) (n c : Nat) (ps : List Pt) (w : World) (hps : Pts w A ps) (hn : ps.length = n) (hnb : n ≤ 9223372036854775807) (hz : (catP ps).length ≤ 140737488355328) :
    Calls Tryz.prog 63 #[.slice A n c] w fun e w' => ∃ v, e = .returned v ∧ OB w' w.heap.size v (catP ps) ∧ Below w.heap.size w w' := by
  have HN := Lib.hid hn
  have HZ := Lib.hid hz
  clear hn hz
  go_enter Tryz.func63, Tryz.ntmps63
  go_wp2
  go_loop [3, 11] (fun s i => ∃ k : Nat, k ≤ n ∧ i = .int .i64 k ∧ s = .int .i64 ((catP (ps.take k)).length : Int)) (fun _ i => n - (intOf i).toNat)
  case atStart => exact ⟨0, Nat.zero_le _, rfl, rfl⟩
  case round =>
    obtain ⟨k, hk, rfl, rfl⟩ := hrel
    rcases (by omega : k < n ∨ k = n) with hlt | heq
    · have hkl : k < ps.length := by rw [HN.out]; exact hlt
      obtain ⟨ad, rfl, hb, hc, _⟩ := hps.at_ hkl
      have hs := catP_take ps k hkl
      have hb1 := catP_le ps k
      have hb2 := catP_le ps (k + 1)
      have hz := HZ.out
      have HS : Hid ((catP (ps.take (k + 1))).length = (catP (ps.take k)).length + ps[k].l.length) := by show _ = _; rw [hs, List.length_append]
      obtain ⟨a, ha⟩ : ∃ a, a = (catP (ps.take k)).length := ⟨_, rfl⟩
      obtain ⟨b, hbb⟩ : ∃ a, a = ps[k].l.length := ⟨_, rfl⟩
      have HAB : Hid (a + b = (catP (ps.take (k + 1))).length) := by show _ = _; rw [ha, hbb, HS.out]
      have hab : a + b ≤ 140737488355328 := by rw [HAB.out]; omega
      rw [← ha]
      rw [← hbb] at hc
      have hki : decide ((k : Int) < (n : Int)) = true := by rw [decide_eq_true_iff]; omega
      have hnn : decide ((a : Int) + (b : Int) < 0) = false := by rw [decide_eq_false_iff_not]; omega
      clear hs hb1 hb2 hz HS ha hbb hps
      go_wp2
      go_round
      case rel => exact ⟨k + 1, by omega, by go_num, by rw [← HAB.out]; go_num⟩
      case measure => simp [intOf]; omega
    · subst heq
      have hki : decide ((k : Int) < (k : Int)) = false := by rw [decide_eq_false_iff_not]; omega
      have hall : Hid (catP (ps.take k) = catP ps) := by show _ = _; rw [List.take_of_length_le (by rw [HN.out]; omega)]
      have hlen : (catP (ps.take k)).length ≤ 140737488355328 := by rw [hall.out]; exact HZ.out
      obtain ⟨a, ha⟩ : ∃ a, a = (catP (ps.take k)).length := ⟨_, rfl⟩
      rw [← ha] at hlen ⊢
      have HP := Lib.hid hps
      clear ha hps
      go_wp2_with fail
      refine (grow_any a w hlen).mono ?_
      rintro e w1 ⟨v, rfl, hv, hb1⟩
      have HV := Lib.hid hv
      have HB := Lib.hid hb1
      clear hv hb1
      go_wp2
      go_loopw [6, 27] (fun v i wr => ∃ j : Nat, j ≤ k ∧ i = .int .i64 j ∧ Hid (OB wr w.heap.size v (catP (ps.take j))) ∧ Hid (Below w.heap.size w wr)) (fun _ i _ => k - (intOf i).toNat)
      case atStart => exact ⟨0, Nat.zero_le _, rfl, HV, HB⟩
      case round =>
        obtain ⟨j, hj, rfl, HV, HB⟩ := hrel
        rcases (by omega : j < k ∨ j = k) with hjl | heq
        · have hjk : j < ps.length := by rw [HN.out]; exact hjl
          obtain ⟨ad, rfl, hb, hc, hr⟩ := (HP.out.below HB.out).at_ hjk
          have HS := Lib.hid (catP_take ps j hjk)
          have hji : decide ((j : Int) < (k : Int)) = true := by rw [decide_eq_true_iff]; omega
          have hlen : (catP (ps.take j)).length + ps[j].l.length ≤ 140737488355328 := by
            have h1 := catP_le ps (j + 1)
            rw [HS.out, List.length_append] at h1
            have := HZ.out
            omega
          have HR := Lib.hid hr
          have HGE := Lib.hid HV.out.grown_ge
          obtain ⟨L, hL⟩ : ∃ L, L = ps[j].l.length := ⟨_, rfl⟩
          have HL := Lib.hid hL
          rw [← hL] at hc hlen
          have hbase := HB.out.size
          clear hr hb hL HP
          go_wp2_with (at_builtin; refine app_bytes _ rfl _ _ rfl w.heap.size _ _ rfl HV.out _ _ _ _ rfl HL.out.symm HR.out hlen hbase ?_; intro v' w' hown hg _)
          have HN2 := Lib.hid hown
          have HB2 := Lib.hid (below_grown' HB.out hg hbase HGE.out)
          clear hown hg
          rw [← HS.out] at HN2
          go_wp2
          go_roundw
          case rel => exact ⟨j + 1, by omega, by go_num, HN2, HB2⟩
          case measure => simp [intOf]; omega
        · subst heq
          have hji : decide ((j : Int) < (j : Int)) = false := by rw [decide_eq_false_iff_not]; omega
          rw [hall.out] at HV
          go_wp2
          go_ret
          exact ⟨_, rfl, HV.out, HB.out⟩
end Go.Proofs.YtgpcinfhcamgpaaGreatDoor

namespace Go.Proofs.YtgpcinfhcamgpaaGreatDoor
open Go.RowKit

def u8v (b : UInt8) : Value := .int .u8 (b.toNat : Int)
def byteAt (n s k : Nat) : UInt8 := UInt8.ofNat (n / 2 ^ (8 * (s - 1 - k)))
def beBytes (n s : Nat) : List UInt8 := (List.range s).map (byteAt n s)
def putCells (n s k : Nat) : Array Value := ((List.range s).map fun i => if i < k then u8v (byteAt n s i) else .int .u8 0).toArray
theorem beBytes_length (n s : Nat) : (beBytes n s).length = s := by simp [beBytes]
theorem putCells_size (n s k : Nat) : (putCells n s k).size = s := by simp [putCells]
theorem putCells_set (n s k : Nat) : (putCells n s k).setIfInBounds k (u8v (byteAt n s k)) = putCells n s (k + 1) := by
  apply Array.ext_getElem?
  intro i
  simp only [Array.getElem?_setIfInBounds, putCells_size]
  by_cases e : k = i
  · subst e
    by_cases h : k < s <;> simp [putCells, h]
  · rw [if_neg e]
    simp only [putCells, List.getElem?_toArray, List.getElem?_map]
    by_cases hi : i < s
    · have : (i < k) = (i < k + 1) := by rw [eq_iff_iff]; omega
      simp [hi, this]
    · simp [hi]
theorem putCells_at (n s k i : Nat) (h : i < s) : ∃ v, (putCells n s k)[i]? = some v := by
  rw [← putCells_size n s k] at h
  exact ⟨_, Array.getElem?_eq_getElem h⟩
theorem putCells_all (n s : Nat) : (putCells n s s).toList = Lib.byteCells (beBytes n s) := by
  simp only [putCells, Lib.byteCells, beBytes, List.map_map]
  apply List.map_congr_left
  intro i hi
  simp at hi
  simp [hi, u8v]
theorem putCells_zero (n s : Nat) : madeCells #[Value.int .u8 0] s = putCells n s 0 := by
  apply Array.ext'
  rw [toList_madeCells_one]
  simp [putCells]
  rw [List.map_const', List.length_range]

theorem run_make_bytes (s : Nat) (hs : s ≤ 70368744177664) (w : World) : (Instr.makeSlice 22 (.int .i64 s) (.int .i64 s)).run Tryz.prog w = .ok (.slice (some ⟨w.heap.size, 0, none⟩) s s) (w.alloc (.cells (madeCells #[Value.int .u8 0] s) 5)) := by
  obtain ⟨i0, hi, hz0, hz1, hz2⟩ := info_parts infoByte
  have hb : (i0.bytes : Int) * (s : Int) ≤ 281474976710656 := by rw [hz2]; omega
  have hr := run_make (P := Tryz.prog) w 22 5 i0 (.int .u8 0) Tryz.underlying22 hi hz0 .i64 .i64 s s (by omega) (by omega) hb (by omega)
  rw [hz1, Nat.mul_one] at hr
  exact hr

theorem byteAt_eq (n s k : Nat) : Value.int .u8 ((n : Int) / 2 ^ (8 * (s - 1 - k)) % 256) = u8v (byteAt n s k) := by
  unfold u8v byteAt
  congr 1

theorem own_of_put {n s k : Nat} {w wr : World} (hks : k = s) (hB : Blk wr w.heap.size 5 (putCells n s k)) (hs : s ≤ 8 := by omega) : OB wr w.heap.size (.slice (some ⟨w.heap.size, 0, none⟩) s s) (beBytes n s) := by
  subst hks
  refine ⟨by simp [Lib.byteCells], .inr ⟨_, k, _, by rw [beBytes_length], Nat.le_refl _, hB, by rw [beBytes_length]; exact Nat.le_refl _, by unfold maxLen; omega, by simp [putCells_size], ?_⟩⟩
  rw [← putCells_all, List.take_of_length_le (by simp [beBytes_length, putCells_size])]

set_option maxRecDepth 100000 in
set_option maxHeartbeats 400000 in
theorem put_ok (n s : Nat) (w : World) (h : 1 ≤ s) (h2 : s ≤ 8) (hn : s < 8 → n / 2 ^ (8 * s) = 0) :
    Calls Tryz.prog 73 #[.int .i64 n, .int .i64 s] w fun e w' => ∃ v, e = .returned (.tuple #[v, .int .i64 0]) ∧ OB w' w.heap.size v (beBytes n s) ∧ Below w.heap.size w w' := by
  have hs8 : s < 8 → ((n : Int) / 2 ^ (8 * s) != 0) = false := by
    intro h8
    have := hn h8
    have e : ((n : Int) / 2 ^ (8 * s)) = ((n / 2 ^ (8 * s) : Nat) : Int) := by simp
    rw [e, this]; rfl
  have hr := run_make_bytes s (by omega) w
  have d1 : decide ((s : Int) < 1) = false := by simp; omega
  have d2 : decide (8 < (s : Int)) = false := by simp; omega
  have d3 : decide ((n : Int) < 0) = false := by simp
  have hB : Blk (w.alloc (.cells (madeCells #[Value.int .u8 0] s) 5)) w.heap.size 5 (putCells n s 0) := by rw [putCells_zero n s]; exact Blk.new _ _ _
  have hb : Below w.heap.size w (w.alloc (.cells (madeCells #[Value.int .u8 0] s) 5)) := (Below.refl _ _).alloc (Nat.le_refl _) _
  generalize w.alloc (.cells (madeCells #[Value.int .u8 0] s) 5) = w1 at *
  rcases Nat.lt_or_ge s 8 with h8 | h8
  · replace hs8 := hs8 h8
    go_enter Tryz.func73, Tryz.ntmps73
    go_wp2
    go_loopw [33] (fun v wr => ∃ k : Nat, k ≤ s ∧ v = .int .i64 k ∧ Blk wr w.heap.size 5 (putCells n s k) ∧ Below w.heap.size w wr) (fun v _ => s - (intOf v).toNat)
    case atStart => exact ⟨0, Nat.zero_le _, rfl, hB, hb⟩
    case round =>
      obtain ⟨k, hk, rfl, hB', hb'⟩ := hrel
      clear hB hb hr
      by_cases hlt : k < s
      · obtain ⟨v0, hv0⟩ := putCells_at n s k k hlt
        have hc := (hB'.cell k).trans hv0
        have hf := hB'.frozen k
        clear hv0
        go_wp2
        go_roundw
        case rel => exact ⟨k + 1, by omega, by go_num, by rw [byteAt_eq, ← putCells_set]; exact hB'.set_ k _, hb'.setCell (Nat.le_refl _) _⟩
        case measure => simp [intOf]; omega
      · go_wp2
        go_ret2
        refine ⟨_, rfl, ?_, hb'⟩
        have hks : k = s := by omega
        exact own_of_put hks hB'
  · clear hs8
    have d4 : decide ((s : Int) < 8) = false := by simp; omega
    go_enter Tryz.func73, Tryz.ntmps73
    go_wp2
    go_loopw [33] (fun v wr => ∃ k : Nat, k ≤ s ∧ v = .int .i64 k ∧ Blk wr w.heap.size 5 (putCells n s k) ∧ Below w.heap.size w wr) (fun v _ => s - (intOf v).toNat)
    case atStart => exact ⟨0, Nat.zero_le _, rfl, hB, hb⟩
    case round =>
      obtain ⟨k, hk, rfl, hB', hb'⟩ := hrel
      clear hB hb hr
      by_cases hlt : k < s
      · obtain ⟨v0, hv0⟩ := putCells_at n s k k hlt
        have hc := (hB'.cell k).trans hv0
        have hf := hB'.frozen k
        clear hv0
        go_wp2
        go_roundw
        case rel => exact ⟨k + 1, by omega, by go_num, by rw [byteAt_eq, ← putCells_set]; exact hB'.set_ k _, hb'.setCell (Nat.le_refl _) _⟩
        case measure => simp [intOf]; omega
      · go_wp2
        go_ret2
        refine ⟨_, rfl, ?_, hb'⟩
        have hks : k = s := by omega
        exact own_of_put hks hB'

set_option maxRecDepth 100000 in
set_option maxHeartbeats 400000 in
theorem put_no1 (n size : Int) (w : World) (h : size < 1 ∨ 8 < size ∨ n < 0) :
    Calls Tryz.prog 73 #[.int .i64 n, .int .i64 size] w fun e w' => e = .returned (.tuple #[.slice none 0 0, .int .i64 1]) ∧ w = w' := by
  rcases (by omega : size < 1 ∨ 1 ≤ size) with h1 | h1
  · have d1 : decide (size < 1) = true := by simpa using h1
    go_enter Tryz.func73, Tryz.ntmps73
    go_wp2
    go_ret2
    exact ⟨rfl, rfl⟩
  · have d1 : decide (size < 1) = false := by simpa using h1
    rcases (by omega : 8 < size ∨ size ≤ 8) with h2 | h2
    · have d2 : decide (8 < size) = true := by simpa using h2
      go_enter Tryz.func73, Tryz.ntmps73
      go_wp2
      go_ret2
      exact ⟨rfl, rfl⟩
    · have d2 : decide (8 < size) = false := by simpa using h2
      have h3 : n < 0 := by omega
      have d3 : decide (n < 0) = true := by simpa using h3
      go_enter Tryz.func73, Tryz.ntmps73
      go_wp2
      go_ret2
      exact ⟨rfl, rfl⟩
set_option maxRecDepth 100000 in
set_option maxHeartbeats 400000 in
theorem put_no2 (n s : Nat) (w : World) (h1 : 1 ≤ s) (h2 : s < 8) (hn : n / 2 ^ (8 * s) ≠ 0) :
    Calls Tryz.prog 73 #[.int .i64 n, .int .i64 s] w fun e w' => e = .returned (.tuple #[.slice none 0 0, .int .i64 1]) ∧ w = w' := by
  have hs8 : ((n : Int) / 2 ^ (8 * s) != 0) = true := by
    have e : ((n : Int) / 2 ^ (8 * s)) = ((n / 2 ^ (8 * s) : Nat) : Int) := by simp
    rw [e]
    simp only [bne_iff_ne, ne_eq]
    omega
  have d1 : decide ((s : Int) < 1) = false := by simp; omega
  have d2 : decide (8 < (s : Int)) = false := by simp; omega
  have d3 : decide ((n : Int) < 0) = false := by simp
  have d4 : decide ((s : Int) < 8) = true := by simp; omega
  clear hn
  go_enter Tryz.func73, Tryz.ntmps73
  go_wp2
  go_ret2
  exact ⟨rfl, rfl⟩

end Go.Proofs.YtgpcinfhcamgpaaGreatDoor

namespace Go.Proofs.YtgpcinfhcamgpaaGreatDoor
open Go.RowKit

set_option linter.unusedVariables false

theorem equal_len (A B : Option Addr) (n m c d : Nat) (w : World) (h : n ≠ m) (hn : n ≤ maxLen) (hm : m ≤ maxLen) :
    Calls Tryz.prog 115 #[.slice A n c, .slice B m d] w fun e w' => e = .returned (.bool false) ∧ w = w' := by
  unfold maxLen at hn hm
  have h1 : ((n : Int) != m) = true := by simp; omega
  go_enter Tryz.func115, Tryz.ntmps115
  go_wp2
  go_ret
  exact ⟨rfl, rfl⟩

def firstDiff (a b : List UInt8) (k : Nat) : Prop := a.take k = b.take k
set_option maxRecDepth 100000 in
set_option maxHeartbeats 400000 in
theorem equal_any (A B : Option Addr) (n c d : Nat) (a b : List UInt8) (w : World) (hn : n ≤ 140737488355328) (ha : Reads w w.heap.size 1 A n (Lib.byteCells a)) (hb : Reads w w.heap.size 1 B n (Lib.byteCells b)) :
    Calls Tryz.prog 115 #[.slice A n c, .slice B n d] w fun e w' => e = .returned (.bool (decide (a = b))) ∧ ∃ q, w' = w.drewN q := by
  have hal : a.length = n := by have := ha.1; simpa [Lib.byteCells] using this
  have hbl : b.length = n := by have := hb.1; simpa [Lib.byteCells] using this
  have HAL := Lib.hid hal
  have HBL := Lib.hid hbl
  clear hal hbl
  have h1 : ((n : Int) != n) = false := by simp
  go_enter Tryz.func115, Tryz.ntmps115
  go_wp2
  go_loopw [13] (fun v wr => ∃ k : Nat, k ≤ n ∧ v = .int .i64 k ∧ a.take k = b.take k ∧ ∃ q, wr = w.drewN q) (fun v _ => n - (intOf v).toNat)
  case atStart => exact ⟨0, Nat.zero_le _, rfl, rfl, 0, rfl⟩
  case round =>
    obtain ⟨k, hk, rfl, hab, q, rfl⟩ := hrel
    have HAB := Lib.hid hab
    clear hab
    by_cases hlt : k < n
    · obtain ⟨ad, u, rfl, _, hx, hc⟩ := ha.at_ hlt
      obtain ⟨bd, v, rfl, _, hy, hd⟩ := hb.at_ hlt
      have hka : k < a.length := by rw [HAL.out]; exact hlt
      have hkb : k < b.length := by rw [HBL.out]; exact hlt
      obtain rfl : Value.int .u8 (a[k].toNat : Int) = u := by simpa [Lib.byteCells, hka] using hx
      obtain rfl : Value.int .u8 (b[k].toNat : Int) = v := by simpa [Lib.byteCells, hkb] using hy
      clear hx hy ha hb
      by_cases hxy : a[k] = b[k]
      · have hne : ((a[k].toNat : Int) != (b[k].toNat : Int)) = false := by rw [hxy]; simp
        have HXY := Lib.hid hxy
        have hki : (k : Int) < (n : Int) := by omega
        have hki0 : (0 : Int) ≤ (k : Int) := by omega
        clear hxy
        go_wp2
        go_quiet (fail)
        go_wp2
        go_roundw
        case rel => exact ⟨k + 1, by omega, by go_num, by rw [List.take_succ_eq_append_getElem hka, List.take_succ_eq_append_getElem hkb, HAB.out, HXY.out], q + nq, by first | rfl | rw [World.drewN_drewN]⟩
        case measure => simp [intOf]; omega
      · have hne : ((a[k].toNat : Int) != (b[k].toNat : Int)) = true := by
          rw [bne_iff_ne]
          intro e
          exact hxy (UInt8.toNat.inj (by omega))
        have hki : (k : Int) < (n : Int) := by omega
        have hki0 : (0 : Int) ≤ (k : Int) := by omega
        have HXY := Lib.hid hxy
        clear hxy
        go_wp2
        go_quiet (fail)
        go_wp2
        go_ret
        refine ⟨?_, q + nq, by first | rfl | rw [World.drewN_drewN]⟩
        have : a ≠ b := by rintro rfl; exact HXY.out rfl
        simp [this]
    · go_wp2
      go_ret
      refine ⟨?_, q, rfl⟩
      have hkn : k = n := by omega
      have hab := HAB.out
      rw [List.take_of_length_le (by rw [HAL.out]; omega), List.take_of_length_le (by rw [HBL.out]; omega)] at hab
      simp [hab]
theorem take_both (a b : List UInt8) (k : Nat) (h1 : k < a.length) (h2 : k < b.length) : a.take (k + 1) = b.take (k + 1) ↔ (a.take k = b.take k ∧ a[k] = b[k]) := by
  rw [List.take_succ_eq_append_getElem h1, List.take_succ_eq_append_getElem h2]
  constructor
  · intro h
    have := List.append_inj h (by simp; omega)
    exact ⟨this.1, by simpa using this.2⟩
  · rintro ⟨h, e⟩
    rw [h, e]
end Go.Proofs.YtgpcinfhcamgpaaGreatDoor

namespace Go.Proofs.YtgpcinfhcamgpaaGreatDoor
open Go.RowKit
set_option linter.unusedVariables false

/-- A reader: the bytes that are left; is it bad? -/
def RD (w : World) (r : Nat) (l : List UInt8) (bad : Bool) : Prop :=
  ∃ A c, Blk w r 111 #[.slice A l.length c, .bool bad] ∧ RB w A l ∧ l.length ≤ c ∧ c ≤ maxLen ∧ l.length ≤ 70368744177664 ∧ (bad = true → l = []) ∧ ∀ ad, A = some ad → ∃ cs, Blk w ad.block 5 cs
theorem RD.fr {S : Nat → Prop} {w w' : World} {r : Nat} {l : List UInt8} {bad : Bool} (h : RD w r l bad) (hf : Fr S w w') (hr : ¬ S r) (hS : ∀ k cs, S k → ¬ Blk w k 5 cs) : RD w' r l bad := by
  obtain ⟨A, c, hb, hR, hc, hm, hln, hbad, hA⟩ := h
  have hA' : ∀ ad, A = some ad → ¬ S ad.block := fun ad e hs => by
    obtain ⟨cs, hcs⟩ := hA ad e
    exact hS _ cs hs hcs
  exact ⟨A, c, hb.fr hf hr, hR.fr hf hA', hc, hm, hln, hbad, fun ad e => by
    obtain ⟨cs, hcs⟩ := hA ad e
    exact ⟨cs, hcs.fr hf (hA' ad e)⟩⟩
theorem RD.below {w w' : World} {r : Nat} {l : List UInt8} {bad : Bool} (h : RD w r l bad) (hb : Below w.heap.size w w') : RD w' r l bad :=
  h.fr (S := fun _ => False) (Fr.of_below hb) (fun x => x) (fun _ _ x => x.elim)
theorem OB.typed {w : World} {base : Nat} {A : Option Addr} {n c : Nat} {l : List UInt8} (h : OB w base (.slice A n c) l) : ∀ ad, A = some ad → ∃ cs, Blk w ad.block 5 cs := by
  intro ad e
  subst e
  rcases h.2 with ⟨hv, _⟩ | ⟨g, cap, cur, hv, _, hh, _⟩
  · cases hv
  · injection hv with hv _ _
    injection hv with hv
    subst hv
    exact ⟨cur, hh⟩

set_option maxRecDepth 100000 in
set_option maxHeartbeats 400000 in
theorem from_any (A : Option Addr) (c : Nat) (l : List UInt8) (w : World) (hn : l.length ≤ 70368744177664) (hr : RB w A l) :
    Calls Tryz.prog 37 #[.slice A l.length c] w fun e w' => ∃ r, e = .returned (.pointer (some ⟨r, 0, none⟩)) ∧ w.heap.size ≤ r ∧ RD w' r l false ∧ Below w.heap.size w w' := by
  go_enter Tryz.func37, Tryz.ntmps37
  go_wp2_with (go_at_call 64; refine (clone_any A c l _ (by omega) hr).mono ?_)
  rintro e w1 ⟨v, rfl, hv, hb⟩
  obtain ⟨A', c', rfl, hlc, hm, hR, hA⟩ := hv.shape
  have hT := hv.typed
  go_wp2
  go_ret
  refine ⟨w1.heap.size, rfl, hb.size, ⟨A', c', Blk.new _ _ _, RB.below hR ((Below.refl _ _).alloc (Nat.le_refl _) _), hlc, hm, hn, by simp, fun ad e => ?_⟩, hb.trans ?_⟩
  · obtain ⟨cs, hcs⟩ := hT ad e
    exact ⟨cs, hcs.alloc _⟩
  · exact (Below.refl _ _).alloc hb.size _

end Go.Proofs.YtgpcinfhcamgpaaGreatDoor

namespace Go.Proofs.YtgpcinfhcamgpaaGreatDoor
open Go.RowKit
set_option linter.unusedVariables false

theorem RD.parts {w : World} {r : Nat} {l : List UInt8} {bad : Bool} (h : RD w r l bad) :
    ∃ A c, w.cell? ⟨r, 0, none⟩ = some (.slice A l.length c) ∧ w.cell? ⟨r, 1, none⟩ = some (.bool bad) ∧ w.frozen? ⟨r, 0, none⟩ = false ∧ w.frozen? ⟨r, 1, none⟩ = false := by
  obtain ⟨A, c, hb, _⟩ := h
  exact ⟨A, c, hb.cell 0, hb.cell 1, hb.frozen 0, hb.frozen 1⟩
theorem RD.len {w : World} {r : Nat} {l : List UInt8} {bad : Bool} (h : RD w r l bad) : l.length ≤ 70368744177664 := by
  obtain ⟨A, c, hb, hR, hc, hm, hln, hbad, hA⟩ := h
  exact hln
theorem RD.spoiled {w : World} {r : Nat} {l : List UInt8} {bad : Bool} (h : RD w r l bad) : RD ((w.setCell ⟨r, 0, none⟩ (.slice none 0 0)).setCell ⟨r, 1, none⟩ (.bool true)) r [] true := by
  obtain ⟨A, c, hb, hR, hc, hm, hln, hbad, hA⟩ := h
  exact ⟨none, 0, (hb.set_ 0 _).set_ 1 _, RB.nil _, by simp, by simp [maxLen], by simp, by simp, by simp⟩

set_option maxHeartbeats 400000 in
theorem left_nil (w : World) : Calls Tryz.prog 78 #[.pointer none] w fun e w' => e = .returned (.int .i64 0) ∧ w = w' := by
  go_enter Tryz.func78, Tryz.ntmps78
  go_wp2
  go_ret
  exact ⟨rfl, rfl⟩
set_option maxHeartbeats 400000 in
theorem left_any (w : World) (r : Nat) (l : List UInt8) (bad : Bool) (h : RD w r l bad) : Calls Tryz.prog 78 #[.pointer (some ⟨r, 0, none⟩)] w fun e w' => e = .returned (.int .i64 l.length) ∧ w = w' := by
  have hln := h.len
  obtain ⟨A, c, h0, _, _, _⟩ := h.parts
  go_enter Tryz.func78, Tryz.ntmps78
  go_wp2
  go_ret
  exact ⟨rfl, rfl⟩
set_option maxHeartbeats 400000 in
theorem bad_nil (w : World) : Calls Tryz.prog 75 #[.pointer none] w fun e w' => e = .returned (.bool true) ∧ w = w' := by
  go_enter Tryz.func75, Tryz.ntmps75
  go_wp2
  go_ret
  exact ⟨rfl, rfl⟩
set_option maxHeartbeats 400000 in
theorem bad_any (w : World) (r : Nat) (l : List UInt8) (bad : Bool) (h : RD w r l bad) : Calls Tryz.prog 75 #[.pointer (some ⟨r, 0, none⟩)] w fun e w' => e = .returned (.bool bad) ∧ w = w' := by
  obtain ⟨A, c, _, h1, _, _⟩ := h.parts
  go_enter Tryz.func75, Tryz.ntmps75
  go_wp2
  go_ret
  exact ⟨rfl, rfl⟩
set_option maxHeartbeats 400000 in
theorem spoil_nil (w : World) : Calls Tryz.prog 76 #[.pointer none] w fun e w' => e = .returned (.tuple #[]) ∧ w = w' := by
  go_enter Tryz.func76, Tryz.ntmps76
  go_wp2
  go_end0
  exact ⟨rfl, rfl⟩
set_option maxHeartbeats 400000 in
theorem spoil_any (w : World) (r : Nat) (l : List UInt8) (bad : Bool) (h : RD w r l bad) : Calls Tryz.prog 76 #[.pointer (some ⟨r, 0, none⟩)] w fun e w' => e = .returned (.tuple #[]) ∧ RD w' r [] true ∧ Fr (· = r) w w' := by
  have hs := h.spoiled
  obtain ⟨A, c, h0, h1, h2, h3⟩ := h.parts
  go_enter Tryz.func76, Tryz.ntmps76
  go_wp2
  go_end0
  exact ⟨rfl, hs, ((Fr.refl _ _).setCell (by simp) _).setCell (by simp) _⟩

theorem RD.advance {w : World} {r : Nat} {l : List UInt8} {n c : Nat} {A : Option Addr} (hb : Blk w r 111 #[.slice A l.length c, .bool false]) (hR : RB w A l) (hc : l.length ≤ c) (hm : c ≤ maxLen) (hln : l.length ≤ 70368744177664)
    (hA : ∀ ad, A = some ad → ∃ cs, Blk w ad.block 5 cs) (hn : n ≤ l.length) :
    (c = n → RD (w.setCell ⟨r, 0, none⟩ (.slice A (l.length - n) 0)) r (l.drop n) false) ∧
    (¬ c = n → RD (w.setCell ⟨r, 0, none⟩ (.slice (A.map fun x => x.add n) (l.length - n) (c - n))) r (l.drop n) false) := by
  have hne : ∀ ad, A = some ad → ad.block ≠ r := fun ad e => by
    obtain ⟨cs, hcs⟩ := hA ad e
    exact hcs.ne_ hb (by decide)
  have hcut := hR.cut (cap := c) hn hc
  have hF : ∀ u, Fr (· = r) w (w.setCell ⟨r, 0, none⟩ u) := fun u => (Fr.refl _ _).setCell (by simp) u
  constructor
  · intro e
    rw [if_pos e] at hcut
    have hl0 : l.length - n = 0 := by omega
    refine ⟨A, 0, ?_, hcut.fr (hF _) hne, by rw [List.length_drop]; omega, by simp [maxLen], by rw [List.length_drop]; omega, by simp, fun ad e' => ?_⟩
    · have := hb.set_ 0 (.slice A (l.length - n) 0)
      rw [List.length_drop]
      exact this
    · obtain ⟨cs, hcs⟩ := hA ad e'
      exact ⟨cs, hcs.fr (hF _) (hne ad e')⟩
  · intro e
    rw [if_neg e] at hcut
    refine ⟨A.map fun x => x.add n, c - n, ?_, hcut.fr (hF _) ?_, by rw [List.length_drop]; omega, by omega, by rw [List.length_drop]; omega, by simp, fun ad e' => ?_⟩
    · have := hb.set_ 0 (.slice (A.map fun x => x.add n) (l.length - n) (c - n))
      rw [List.length_drop]
      exact this
    · intro ad e'
      cases A with
      | none => cases e'
      | some a0 => cases e'; rw [block_of_add]; exact hne a0 rfl
    · cases A with
      | none => cases e'
      | some a0 =>
        cases e'
        obtain ⟨cs, hcs⟩ := hA a0 rfl
        rw [block_of_add]
        exact ⟨cs, hcs.fr (hF _) (hne a0 rfl)⟩
theorem OB.below_set {w w1 : World} {v : Value} {l : List UInt8} {r : Nat} (h : OB w1 w.heap.size v l) (hr : r < w.heap.size) (j : Nat) (u : Value) : OB (w1.setCell ⟨r, j, none⟩ u) w.heap.size v l :=
  h.fr (S := (· = r)) ((Fr.refl _ _).setCell (by simp) u) (fun g hg e => by have := (World.ownsRow.lt h g hg).1; omega)

set_option maxRecDepth 100000 in
set_option maxHeartbeats 400000 in
theorem bytes_ok (w : World) (r : Nat) (l : List UInt8) (n : Nat) (h : RD w r l false) (hn : n ≤ l.length) :
    Calls Tryz.prog 77 #[.pointer (some ⟨r, 0, none⟩), .int .i64 n] w fun e w' => ∃ v, e = .returned v ∧ OB w' w.heap.size v (l.take n) ∧ RD w' r (l.drop n) false ∧ Fr (· = r) w w' := by
  have hln := h.len
  have hd0 : decide ((n : Int) < 0) = false := by simp
  have hd1 : decide (l.length < n) = false := by rw [decide_eq_false_iff_not]; omega
  have H := Lib.hid h
  obtain ⟨A, c, hb, hR, hc, hm, _, hbad, hA⟩ := h
  have h0 := hb.cell 0
  have h1 := hb.cell 1
  have h2 := hb.frozen 0
  have h3 := hb.frozen 1
  have htl : (l.take n).length = n := by rw [List.length_take]; omega
  have HT := Lib.hid htl
  have HR := Lib.hid (hR.take hn)
  have hrlt := hb.lt
  have HB := Lib.hid hb
  have HA := Lib.hid hA
  have HR0 := Lib.hid hR
  have HM := Lib.hid hm
  clear hb htl hbad hA hR
  unfold maxLen at hm
  go_enter Tryz.func77, Tryz.ntmps77
  go_wp2_with (first | (go_at_call 75; refine (bad_any _ r l false H.out).mono ?_; rintro e w' ⟨rfl, rfl⟩) | (go_at_call 78; refine (left_any _ r l false H.out).mono ?_; rintro e w' ⟨rfl, rfl⟩) | fail)
  refine (clone_n A n c _ _ HT.out (by omega) HR.out).mono ?_
  rintro e w1 ⟨v, rfl, hv, hbw⟩
  have hv0 := hv.shape
  rw [HT.out] at hv0
  obtain ⟨A', c', rfl, -⟩ := hv0
  have HV := Lib.hid hv
  have HAD := Lib.hid (RD.advance (n := n) (HB.out.below hbw hrlt) (HR0.out.below hbw) hc HM.out hln (fun ad e => by obtain ⟨cs, hcs⟩ := HA.out ad e; exact ⟨cs, hcs.below hbw hcs.lt⟩) hn)
  clear hv
  have k0 : w1.cell? ⟨r, 0, none⟩ = some (.slice A l.length c) := (hbw.cell (p := ⟨r, 0, none⟩) hrlt).trans h0
  have k2 : w1.frozen? ⟨r, 0, none⟩ = false := (hbw.frozen (p := ⟨r, 0, none⟩) hrlt).trans h2
  go_wp2
  · have hcn : c = n := by assumption
    go_ret
    refine ⟨_, rfl, HV.out.below_set hrlt _ _, HAD.out.1 hcn, (Fr.of_below hbw).setCell (by simp) _⟩
  · have hcn : ¬ c = n := by assumption
    go_ret
    refine ⟨_, rfl, HV.out.below_set hrlt _ _, HAD.out.2 hcn, (Fr.of_below hbw).setCell (by simp) _⟩

set_option maxRecDepth 100000 in
set_option maxHeartbeats 400000 in
theorem bytes_no (w : World) (r : Nat) (l : List UInt8) (bad : Bool) (n : Int) (h : RD w r l bad) (hn : n < 0 ∨ (l.length : Int) < n ∨ bad = true) :
    Calls Tryz.prog 77 #[.pointer (some ⟨r, 0, none⟩), .int .i64 n] w fun e w' => e = .returned (.slice none 0 0) ∧ RD w' r [] true ∧ Fr (· = r) w w' := by
  have hln := h.len
  rcases (by omega : n < 0 ∨ 0 ≤ n) with h1 | h1
  · have d1 : decide (n < 0) = true := by rw [decide_eq_true_iff]; omega
    go_enter Tryz.func77, Tryz.ntmps77
    go_wp2_with (first | (go_at_call 75; refine (bad_any _ r l bad h).mono ?_; rintro e w' ⟨rfl, rfl⟩) | (go_at_call 78; refine (left_any _ r l bad h).mono ?_; rintro e w' ⟨rfl, rfl⟩) | (go_at_call 76; refine (spoil_any _ r l bad h).mono ?_; rintro e w' ⟨rfl, hsp, hfr⟩))
    go_ret
    exact ⟨rfl, hsp, hfr⟩
  · have d1 : decide (n < 0) = false := by rw [decide_eq_false_iff_not]; omega
    rcases (by omega : (l.length : Int) < n ∨ n ≤ l.length) with h2 | h2
    · have d2 : decide ((l.length : Int) < n) = true := by rw [decide_eq_true_iff]; omega
      go_enter Tryz.func77, Tryz.ntmps77
      go_wp2_with (first | (go_at_call 75; refine (bad_any _ r l bad h).mono ?_; rintro e w' ⟨rfl, rfl⟩) | (go_at_call 78; refine (left_any _ r l bad h).mono ?_; rintro e w' ⟨rfl, rfl⟩) | (go_at_call 76; refine (spoil_any _ r l bad h).mono ?_; rintro e w' ⟨rfl, hsp, hfr⟩))
      go_ret
      exact ⟨rfl, hsp, hfr⟩
    · have d2 : decide ((l.length : Int) < n) = false := by rw [decide_eq_false_iff_not]; omega
      obtain rfl : bad = true := by
        rcases hn with hn | hn | hn
        · omega
        · omega
        · exact hn
      go_enter Tryz.func77, Tryz.ntmps77
      go_wp2_with (first | (go_at_call 75; refine (bad_any _ r l true h).mono ?_; rintro e w' ⟨rfl, rfl⟩) | (go_at_call 78; refine (left_any _ r l true h).mono ?_; rintro e w' ⟨rfl, rfl⟩) | (go_at_call 76; refine (spoil_any _ r l true h).mono ?_; rintro e w' ⟨rfl, hsp, hfr⟩))
      go_ret
      exact ⟨rfl, hsp, hfr⟩

theorem ret_int {k : IntKind} {a b : Int} (h : a = b) : Ending.returned (.int k a) = .returned (.int k b) := by rw [h]
theorem addr_add_zero (a : Addr) : a.add 0 = a := by simp [Addr.add]
theorem OB.shape_n {w : World} {base n : Nat} {v : Value} {l : List UInt8} (h : OB w base v l) (hn : l.length = n) : ∃ A c, v = .slice A n c ∧ n ≤ c ∧ c ≤ maxLen ∧ RB w A l ∧ (∀ ad, A = some ad → base ≤ ad.block ∧ ad.block < w.heap.size ∧ ad = ⟨ad.block, 0, none⟩) := by
  subst hn; exact h.shape
def beVal (l : List UInt8) : Nat := l.foldl (fun n c => n * 256 + c.toNat) 0
theorem beVal_snoc (l : List UInt8) (c : UInt8) : beVal (l ++ [c]) = beVal l * 256 + c.toNat := by simp [beVal]
theorem beVal_lt (l : List UInt8) : beVal l < 256 ^ l.length := by
  suffices h : ∀ (r : List UInt8), beVal r.reverse < 256 ^ r.length by
    have := h l.reverse
    simpa using this
  intro r
  induction r with
  | nil => simp [beVal]
  | cons c r ih =>
    rw [List.reverse_cons, beVal_snoc, List.length_cons, Nat.pow_succ]
    have := c.toNat_lt
    omega

set_option maxRecDepth 100000 in
set_option maxHeartbeats 400000 in
theorem int_no (w : World) (r : Nat) (l : List UInt8) (bad : Bool) (n : Int) (h : RD w r l bad) (hn : n < 1 ∨ 8 < n ∨ (l.length : Int) < n) :
    Calls Tryz.prog 74 #[.pointer (some ⟨r, 0, none⟩), .int .i64 n] w fun e w' => e = .returned (.int .i64 0) ∧ RD w' r [] true ∧ Fr (· = r) w w' := by
  have hln := h.len
  rcases (by omega : n < 1 ∨ 1 ≤ n) with h1 | h1
  · have d1 : decide (n < 1) = true := by rw [decide_eq_true_iff]; omega
    go_enter Tryz.func74, Tryz.ntmps74
    go_wp2_with (first | (go_at_call 75; refine (bad_any _ r l bad h).mono ?_; rintro e w' ⟨rfl, rfl⟩) | (go_at_call 78; refine (left_any _ r l bad h).mono ?_; rintro e w' ⟨rfl, rfl⟩) | (go_at_call 76; refine (spoil_any _ r l bad h).mono ?_; rintro e w' ⟨rfl, hsp, hfr⟩))
    go_ret
    exact ⟨rfl, hsp, hfr⟩
  · have d1 : decide (n < 1) = false := by rw [decide_eq_false_iff_not]; omega
    rcases (by omega : 8 < n ∨ n ≤ 8) with h2 | h2
    · have d2 : decide (8 < n) = true := by rw [decide_eq_true_iff]; omega
      go_enter Tryz.func74, Tryz.ntmps74
      go_wp2_with (first | (go_at_call 75; refine (bad_any _ r l bad h).mono ?_; rintro e w' ⟨rfl, rfl⟩) | (go_at_call 78; refine (left_any _ r l bad h).mono ?_; rintro e w' ⟨rfl, rfl⟩) | (go_at_call 76; refine (spoil_any _ r l bad h).mono ?_; rintro e w' ⟨rfl, hsp, hfr⟩))
      go_ret
      exact ⟨rfl, hsp, hfr⟩
    · have d2 : decide (8 < n) = false := by rw [decide_eq_false_iff_not]; omega
      have h3 : (l.length : Int) < n := by omega
      have d3 : decide ((l.length : Int) < n) = true := by rw [decide_eq_true_iff]; omega
      go_enter Tryz.func74, Tryz.ntmps74
      go_wp2_with (first | (go_at_call 75; refine (bad_any _ r l bad h).mono ?_; rintro e w' ⟨rfl, rfl⟩) | (go_at_call 78; refine (left_any _ r l bad h).mono ?_; rintro e w' ⟨rfl, rfl⟩) | (go_at_call 76; refine (spoil_any _ r l bad h).mono ?_; rintro e w' ⟨rfl, hsp, hfr⟩))
      go_ret
      exact ⟨rfl, hsp, hfr⟩
set_option maxRecDepth 100000 in
set_option maxHeartbeats 400000 in
theorem int_big (w : World) (r : Nat) (c : UInt8) (l : List UInt8) (bad : Bool) (h : RD w r (c :: l) bad) (hn : 7 ≤ l.length) (hc : 127 < c.toNat) :
    Calls Tryz.prog 74 #[.pointer (some ⟨r, 0, none⟩), .int .i64 8] w fun e w' => e = .returned (.int .i64 0) ∧ RD w' r [] true ∧ Fr (· = r) w w' := by
  have hln := h.len
  have H := Lib.hid h
  obtain ⟨A, cp, hb, hR, hcc, hm, _, hbad, hA⟩ := h
  have h0 := hb.cell 0
  obtain ⟨ad, rfl, _, hcell⟩ := hR.at_ (k := 0) (by simp)
  have hlc : (c :: l).length = l.length + 1 := rfl
  rw [hlc] at h0 hln
  have d3 : decide ((l.length : Int) + 1 < 8) = false := by rw [decide_eq_false_iff_not]; omega
  have d4 : decide (127 < (c.toNat : Int)) = true := by rw [decide_eq_true_iff]; omega
  clear hb hR hA hbad hlc
  rw [addr_add_zero] at hcell
  simp only [List.getElem_cons_zero] at hcell
  go_enter Tryz.func74, Tryz.ntmps74
  go_wp2_with (first | (go_at_call 75; refine (bad_any _ r (c :: l) bad H.out).mono ?_; rintro e w' ⟨rfl, rfl⟩) | (go_at_call 78; refine (left_any _ r (c :: l) bad H.out).mono ?_; rintro e w' ⟨rfl, rfl⟩) | (go_at_call 76; refine (spoil_any _ r (c :: l) bad H.out).mono ?_; rintro e w' ⟨rfl, hsp, hfr⟩))
  go_ret
  exact ⟨rfl, hsp, hfr⟩

theorem ofInt_i64' (a : Nat) (ha : a < 9223372036854775808) : (BitVec.ofInt 64 (a : Int)).toNat = a := by
  rw [BitVec.ofInt_natCast, BitVec.toNat_ofNat]; exact Nat.mod_eq_of_lt (by omega)
theorem or_byteR (v x : Nat) (hv : v < 36028797018963968) (hx : x < 256) : bits .or .i64 ((v : Int) * 256) (x : Int) = ((v * 256 + x : Nat) : Int) := by
  have e : ((v : Int) * 256) = ((v * 256 : Nat) : Int) := by simp
  have h2 : v * 256 ||| x = v * 256 + x := by
    have := Nat.two_pow_add_eq_or_of_lt (i := 8) (b := x) hx v
    rw [Nat.mul_comm v 256]
    exact this.symm
  rw [e]
  show IntKind.i64.wrap ((BitVec.ofInt 64 ((v * 256 : Nat) : Int) ||| BitVec.ofInt 64 (x : Int)).toNat : Int) = _
  rw [BitVec.toNat_or, ofInt_i64' _ (by omega), ofInt_i64' x (by omega), h2, IntKind.wrap_i64]
  omega
theorem beVal_take (l : List UInt8) (k : Nat) (h : k < l.length) : beVal (l.take (k + 1)) = beVal (l.take k) * 256 + (l[k]).toNat := by
  rw [List.take_succ_eq_append_getElem h, beVal_snoc]
theorem beVal_take_lt (l : List UInt8) (k : Nat) (h : k ≤ 6) : beVal (l.take k) < 281474976710656 := by
  have hvb := beVal_lt (l.take k)
  have hp : 256 ^ (l.take k).length ≤ 256 ^ 6 := Nat.pow_le_pow_right (by omega) (by rw [List.length_take]; omega)
  omega
theorem beVal_cons (c : UInt8) (l : List UInt8) : beVal (c :: l) = c.toNat * 256 ^ l.length + beVal l := by
  suffices h : ∀ (r : List UInt8), beVal (c :: r.reverse) = c.toNat * 256 ^ r.length + beVal r.reverse by
    have := h l.reverse
    simpa using this
  intro r
  induction r with
  | nil => simp [beVal]
  | cons d r ih =>
    rw [List.reverse_cons, ← List.cons_append, beVal_snoc, beVal_snoc, ih, List.length_cons, Nat.pow_succ]
    rw [Nat.add_mul, ← Nat.mul_assoc, Nat.add_assoc]
theorem beVal_take_lt8 (c : UInt8) (l : List UInt8) (hc : c.toNat ≤ 127) (k : Nat) (h : k ≤ 7) : beVal ((c :: l).take k) < 36028797018963968 := by
  rcases k with _ | k
  · simp [beVal]
  · rw [List.take_succ_cons, beVal_cons]
    have hvb := beVal_lt (l.take k)
    have hl : (l.take k).length ≤ 6 := by rw [List.length_take]; omega
    have hp : 256 ^ (l.take k).length ≤ 256 ^ 6 := Nat.pow_le_pow_right (by omega) hl
    have : c.toNat * 256 ^ (l.take k).length ≤ 127 * 256 ^ 6 := Nat.mul_le_mul hc hp
    omega

set_option maxRecDepth 100000 in
set_option maxHeartbeats 400000 in
theorem int_ok (w : World) (r : Nat) (l : List UInt8) (n : Nat) (h : RD w r l false) (h1 : 1 ≤ n) (h8 : n < 8) (hnl : n ≤ l.length) :
    Calls Tryz.prog 74 #[.pointer (some ⟨r, 0, none⟩), .int .i64 n] w fun e w' => e = .returned (.int .i64 (beVal (l.take n))) ∧ RD w' r (l.drop n) false ∧ Fr (· = r) w w' := by
  have hln := h.len
  have H := Lib.hid h
  have d1 : decide ((n : Int) < 1) = false := by rw [decide_eq_false_iff_not]; omega
  have d2 : decide (8 < (n : Int)) = false := by rw [decide_eq_false_iff_not]; omega
  have d3 : decide (l.length < n) = false := by rw [decide_eq_false_iff_not]; omega
  have d4 : ((n : Int) == 8) = false := by rw [beq_eq_false_iff_ne]; omega
  have HTL : Hid ((l.take n).length = n) := by show _ = _; rw [List.length_take]; omega
  clear h
  go_enter Tryz.func74, Tryz.ntmps74
  go_wp2_with (first | (go_at_call 78; refine (left_any _ r l false H.out).mono ?_; rintro e w' ⟨rfl, rfl⟩) | (go_at_call 77; refine (bytes_ok _ r l n H.out hnl).mono ?_; rintro e w1 ⟨v, rfl, hv, hrd, hfr⟩; obtain ⟨A, c, rfl, hcl, hcm, hRB, hAd⟩ := hv.shape_n HTL.out; have HRD := Lib.hid hrd; clear hv hrd hAd))
  go_loopw [5, 39] (fun v i wr => ∃ k : Nat, k ≤ n ∧ i = .int .i64 k ∧ v = .int .i64 (beVal ((l.take n).take k)) ∧ wr = w1) (fun _ i _ => n - (intOf i).toNat)
  case atStart => exact ⟨0, Nat.zero_le _, rfl, rfl, rfl⟩
  case round =>
    obtain ⟨k, hk, rfl, rfl, rfl⟩ := hrel
    by_cases hlt : k < n
    · have hkl : k < (l.take n).length := by rw [HTL.out]; exact hlt
      obtain ⟨ad, rfl, _, hc⟩ := hRB.at_ (k := k) hkl
      clear hRB
      have hvb2 := beVal_take_lt (l.take n) k (by omega)
      have hx := (l.take n)[k].toNat_lt
      have HS := Lib.hid ((beVal_take (l.take n) k hkl).symm.trans rfl)
      generalize beVal ((l.take n).take k) = v at *
      generalize (l.take n)[k] = x at *
      have hor := or_byteR v x.toNat (by omega) hx
      go_wp2
      go_roundw
      case rel => exact ⟨k + 1, by omega, by go_num, by rw [← HS.out]; go_num, by first | rfl | trivial⟩
      case measure => simp [intOf]; omega
    · have hkn : k = n := by omega
      have HK := Lib.hid hkn
      clear hkn
      go_wp2
      go_ret
      refine ⟨ret_int ?_, HRD.out, hfr⟩
      rw [HK.out, List.take_of_length_le (by rw [HTL.out]; exact Nat.le_refl _)]
set_option maxRecDepth 100000 in
set_option maxHeartbeats 400000 in
theorem int8_ok (w : World) (r : Nat) (c0 : UInt8) (l : List UInt8) (h : RD w r (c0 :: l) false) (hnl : 7 ≤ l.length) (hc0 : c0.toNat ≤ 127) :
    Calls Tryz.prog 74 #[.pointer (some ⟨r, 0, none⟩), .int .i64 8] w fun e w' => e = .returned (.int .i64 (beVal ((c0 :: l).take 8))) ∧ RD w' r ((c0 :: l).drop 8) false ∧ Fr (· = r) w w' := by
  have hln := h.len
  have H := Lib.hid h
  obtain ⟨A, cp, hb, hR, hcc, hm, _, hbad, hA⟩ := h
  have h0 := hb.cell 0
  obtain ⟨ad, rfl, _, hcell⟩ := hR.at_ (k := 0) (by simp)
  have hlc : (c0 :: l).length = l.length + 1 := rfl
  have d3 : decide (((c0 :: l).length : Int) < 8) = false := by rw [decide_eq_false_iff_not]; omega
  have d4 : decide (127 < (c0.toNat : Int)) = false := by rw [decide_eq_false_iff_not]; omega
  clear hb hR hA hbad hlc
  rw [addr_add_zero] at hcell
  simp only [List.getElem_cons_zero] at hcell
  have HTL : Hid (((c0 :: l).take 8).length = 8) := by show _ = _; rw [List.length_take, List.length_cons]; omega
  have HB8 := Lib.hid (beVal_take_lt8 c0 (l.take 7) hc0)
  rw [show c0 :: l.take 7 = (c0 :: l).take 8 from rfl] at HB8
  have HN : Hid (8 ≤ (c0 :: l).length) := by show 8 ≤ _; simp; omega
  have hpos : 0 < (c0 :: l).length := by simp
  generalize c0 :: l = L at *
  go_enter Tryz.func74, Tryz.ntmps74
  go_wp2_with (first | (go_at_call 78; refine (left_any _ r L false H.out).mono ?_; rintro e w' ⟨rfl, rfl⟩) | (go_at_call 77; refine (bytes_ok _ r L 8 H.out HN.out).mono ?_; rintro e w1 ⟨v, rfl, hv, hrd, hfr⟩; obtain ⟨A, c, rfl, hcl, hcm, hRB, hAd⟩ := hv.shape_n HTL.out; have HRD := Lib.hid hrd; clear hv hrd hAd))
  go_loopw [5, 39] (fun v i wr => ∃ k : Nat, k ≤ 8 ∧ i = .int .i64 k ∧ v = .int .i64 (beVal ((L.take 8).take k)) ∧ wr = w1) (fun _ i _ => 8 - (intOf i).toNat)
  case atStart => exact ⟨0, Nat.zero_le _, rfl, rfl, rfl⟩
  case round =>
    obtain ⟨k, hk, rfl, rfl, rfl⟩ := hrel
    by_cases hlt : k < 8
    · have hkl : k < (L.take 8).length := by rw [HTL.out]; exact hlt
      obtain ⟨ad, rfl, _, hc⟩ := hRB.at_ (k := k) hkl
      clear hRB
      have hvb2 := HB8.out k (by omega)
      have hx := (L.take 8)[k].toNat_lt
      have HS := Lib.hid ((beVal_take (L.take 8) k hkl).symm.trans rfl)
      generalize beVal ((L.take 8).take k) = v at *
      generalize (L.take 8)[k] = x at *
      have hor := or_byteR v x.toNat (by omega) hx
      go_wp2
      go_roundw
      case rel => exact ⟨k + 1, by omega, by go_num, by rw [← HS.out]; go_num, by first | rfl | trivial⟩
      case measure => simp [intOf]; omega
    · have hkn : k = 8 := by omega
      have HK := Lib.hid hkn
      clear hkn
      go_wp2
      go_ret
      refine ⟨ret_int ?_, HRD.out, hfr⟩
      rw [HK.out, List.take_of_length_le (by rw [HTL.out]; exact Nat.le_refl _)]

end Go.Proofs.YtgpcinfhcamgpaaGreatDoor

namespace Go.Proofs.YtgpcinfhcamgpaaGreatDoor
open Go.RowKit
set_option linter.unusedVariables false

theorem run_string {w : World} {A : Option Addr} {l : List UInt8} (h : RB w A l) (n c : Nat) (hn : l.length = n) :
    (convert 22 9 (.slice A n c)).run Tryz.prog w = .ok (.string ⟨l.toArray⟩) w := by
  subst hn
  rcases A with _ | ad
  · have hl : l = [] := by
      rcases Nat.eq_zero_or_pos l.length with h0 | h0
      · exact List.eq_nil_of_length_eq_zero h0
      · obtain ⟨ad, h, _⟩ := h.2 h0; cases h
    subst hl
    exact Lib.run_convert_nil_bytes w _ _ _ c Tryz.underlying22 Tryz.underlying5 Tryz.underlying9
  · refine run_convert_bytes_back w _ _ _ ad c l Tryz.underlying22 Tryz.underlying5 Tryz.underlying9 (fun j hj => ?_)
    obtain ⟨a', e, _, hc⟩ := h.at_ hj
    cases e
    exact hc
end Go.Proofs.YtgpcinfhcamgpaaGreatDoor

namespace Go.Proofs.YtgpcinfhcamgpaaGreatDoor
open Go.RowKit
set_option linter.unusedVariables false

theorem conv_bytes (s : ByteArray) (w : World) (hs : s.size ≤ maxLen) : ∃ cap W', (convert 9 22 (.string s)).run Tryz.prog w = .ok (.slice (some ⟨w.heap.size, 0, none⟩) s.size cap) W' ∧ s.size ≤ cap ∧ cap ≤ maxLen ∧ RB W' (some ⟨w.heap.size, 0, none⟩) s.data.toList ∧ Below w.heap.size w W' := by
  refine ⟨grownCap w s.size 0 5, Lib.bytesWorld w 5 s, Lib.run_convert_string_bytes w 9 22 5 s Tryz.underlying9 Tryz.underlying22 Tryz.underlying5, grownCap_ge _ _ _ _, grownCap_le_maxLen _ _ _ _ hs, ?_, ?_⟩
  · refine ⟨by simp [Lib.byteCells], fun hn => ⟨_, rfl, by rw [Lib.bytesWorld_size]; exact Nat.lt_succ_self _, fun j u hu => ?_⟩⟩
    rw [Addr.add_lit, Nat.zero_add]
    have hj : j < s.data.toList.length := by
      rcases Nat.lt_or_ge j s.data.toList.length with h | h
      · exact h
      · rw [List.getElem?_eq_none (by simpa [Lib.byteCells] using h)] at hu; cases hu
    have hl : s.data.toList.length = s.size := by cases s; simp [ByteArray.size]
    rw [Lib.bytesWorld_cell w 5 s j (by omega)]
    rw [← hu]
    simp only [Lib.byteCells, List.getElem?_map, List.getElem?_eq_getElem hj, Option.map_some]
    rw [List.getD_eq_getElem?_getD, List.getElem?_eq_getElem hj]; rfl
  · exact ⟨rfl, rfl, rfl, by rw [Lib.bytesWorld_size]; exact Nat.le_succ _, fun k hk => Lib.bytesWorld_at_old w 5 s k hk⟩
end Go.Proofs.YtgpcinfhcamgpaaGreatDoor

namespace Go.Proofs.YtgpcinfhcamgpaaGreatDoor
open Go.RowKit
set_option linter.unusedVariables false

theorem put4 (n : Nat) (w : World) (hn : n < 4294967296) :
    Calls Tryz.prog 73 #[.int .i64 n, .int .i64 4] w fun e w' => ∃ v, e = .returned (.tuple #[v, .int .i64 0]) ∧ OB w' w.heap.size v (beBytes n 4) ∧ Below w.heap.size w w' :=
  put_ok n 4 w (by omega) (by omega) (fun _ => by show n / 4294967296 = 0; omega)
theorem put8 (n : Nat) (w : World) :
    Calls Tryz.prog 73 #[.int .i64 n, .int .i64 8] w fun e w' => ∃ v, e = .returned (.tuple #[v, .int .i64 0]) ∧ OB w' w.heap.size v (beBytes n 8) ∧ Below w.heap.size w w' :=
  put_ok n 8 w (by omega) (by omega) (fun h => by omega)

def textBytes (s : List UInt8) : List UInt8 := beBytes s.length 4 ++ s
set_option maxRecDepth 100000 in
set_option maxHeartbeats 400000 in
theorem text_ok (s : ByteArray) (w : World) (hs : s.size ≤ 1048576) :
    Calls Tryz.prog 72 #[.string s] w fun e w' => ∃ v, e = .returned (.tuple #[v, .int .i64 0]) ∧ OB w' w.heap.size v (textBytes s.data.toList) ∧ Below w.heap.size w w' := by
  obtain ⟨i0, hi0, hz0, hz1, hz2⟩ := info_parts infoByte
  have hd : decide (1048576 < (s.size : Int)) = false := by simp; omega
  go_enter Tryz.func72, Tryz.ntmps72
  go_wp2_with (go_at_call 73; refine (put4 s.size _ (by omega)).mono ?_)
  rintro e w1 ⟨v, rfl, hv, hb⟩
  go_wp2_with (at_builtin; refine Lib.wpList_append_own_string _ rfl _ _ _ _ rfl w.heap.size 5 i0 Tryz.underlying22 Tryz.underlying9 hi0 hz0 hz1 hz2 v _ _ rfl hv s rfl ?c1 ?c2 hb.size ?_)
  case c1 => simp only [beBytes_length, maxLen]; omega
  case c2 => simp only [beBytes_length]; omega
  intro v1 w2 hown1 hg1 _
  go_wp2
  go_ret2
  refine ⟨v1, rfl, ?_, hb.grown hg1 hb.size (fun k hk => ?_)⟩
  · unfold OB textBytes
    rw [Lib.byteCells_append, List.length_append]
    exact hown1
  · obtain ⟨A, c, rfl, _, _, _, hA⟩ := hv.shape
    rcases A with _ | ad
    · simp [Value.ownBlock] at hk
    · simp [Value.ownBlock] at hk; subst hk; exact (hA ad rfl).1
set_option maxHeartbeats 400000 in
theorem text_no (s : ByteArray) (w : World) (hs : 1048576 < s.size) :
    Calls Tryz.prog 72 #[.string s] w fun e w' => e = .returned (.tuple #[.slice none 0 0, .int .i64 3]) ∧ w = w' := by
  have hd : decide (1048576 < (s.size : Int)) = true := by simp; omega
  go_enter Tryz.func72, Tryz.ntmps72
  go_wp2
  go_ret2
  exact ⟨rfl, rfl⟩

set_option maxHeartbeats 400000 in
theorem done_nil (w : World) : Calls Tryz.prog 41 #[.pointer none] w fun e w' => e = .returned (.int .i64 11) ∧ w = w' := by
  go_enter Tryz.func41, Tryz.ntmps41
  go_wp2_with (go_at_call 75; refine (bad_nil _).mono ?_; rintro e w' ⟨rfl, rfl⟩)
  go_ret
  exact ⟨rfl, rfl⟩
def doneCode (n : Nat) : Int := if n = 0 then 0 else 11
set_option maxHeartbeats 400000 in
theorem done_bad (w : World) (r : Nat) (l : List UInt8) (h : RD w r l true) : Calls Tryz.prog 41 #[.pointer (some ⟨r, 0, none⟩)] w fun e w' => e = .returned (.int .i64 11) ∧ w = w' := by
  go_enter Tryz.func41, Tryz.ntmps41
  go_wp2_with (go_at_call 75; refine (bad_any _ r l true h).mono ?_; rintro e w' ⟨rfl, rfl⟩)
  go_ret
  exact ⟨rfl, rfl⟩
set_option maxHeartbeats 400000 in
theorem done_any (w : World) (r : Nat) (l : List UInt8) (h : RD w r l false) : Calls Tryz.prog 41 #[.pointer (some ⟨r, 0, none⟩)] w fun e w' => e = .returned (.int .i64 (doneCode l.length)) ∧ w = w' := by
  have hln := h.len
  rcases Nat.eq_zero_or_pos l.length with h0 | h0
  · have hd : decide (0 < (l.length : Int)) = false := by rw [decide_eq_false_iff_not]; omega
    have hd' : decide (0 < l.length) = false := by rw [decide_eq_false_iff_not]; omega
    have H0 := Lib.hid h0
    clear h0
    go_enter Tryz.func41, Tryz.ntmps41
    go_wp2_with (first | (go_at_call 75; refine (bad_any _ r l false h).mono ?_; rintro e w' ⟨rfl, rfl⟩) | (go_at_call 78; refine (left_any _ r l false h).mono ?_; rintro e w' ⟨rfl, rfl⟩))
    go_ret
    exact ⟨by rw [doneCode, if_pos H0.out]; rfl, rfl⟩
  · have hd : decide (0 < (l.length : Int)) = true := by rw [decide_eq_true_iff]; omega
    go_enter Tryz.func41, Tryz.ntmps41
    go_wp2_with (first | (go_at_call 75; refine (bad_any _ r l false h).mono ?_; rintro e w' ⟨rfl, rfl⟩) | (go_at_call 78; refine (left_any _ r l false h).mono ?_; rintro e w' ⟨rfl, rfl⟩))
    go_ret
    exact ⟨by rw [doneCode, if_neg (by omega)]; rfl, rfl⟩

theorem int4_ok (w : World) (r : Nat) (l : List UInt8) (h : RD w r l false) (hnl : 4 ≤ l.length) :
    Calls Tryz.prog 74 #[.pointer (some ⟨r, 0, none⟩), .int .i64 4] w fun e w' => e = .returned (.int .i64 (beVal (l.take 4))) ∧ RD w' r (l.drop 4) false ∧ Fr (· = r) w w' :=
  int_ok w r l 4 h (by omega) (by omega) hnl
theorem int4_no (w : World) (r : Nat) (l : List UInt8) (bad : Bool) (h : RD w r l bad) (hnl : l.length < 4) :
    Calls Tryz.prog 74 #[.pointer (some ⟨r, 0, none⟩), .int .i64 4] w fun e w' => e = .returned (.int .i64 0) ∧ RD w' r [] true ∧ Fr (· = r) w w' :=
  int_no w r l bad 4 h (by omega)

set_option maxRecDepth 100000 in
set_option maxHeartbeats 400000 in
theorem rtext_no (w : World) (r : Nat) (l : List UInt8) (bad : Bool) (most : Int) (h : RD w r l bad) (hnl : l.length < 4) :
    Calls Tryz.prog 39 #[.pointer (some ⟨r, 0, none⟩), .int .i64 most] w fun e w' => e = .returned (.string ⟨#[]⟩) ∧ RD w' r [] true ∧ Fr (· = r) w w' := by
  go_enter Tryz.func39, Tryz.ntmps39
  go_wp2_with fail
  refine (int4_no _ r l bad h hnl).mono ?_
  rintro e w1 ⟨rfl, h1, hf1⟩
  go_wp2_with fail
  refine (bad_any _ r [] true h1).mono ?_
  rintro e w' ⟨rfl, rfl⟩
  go_wp2_with fail
  refine (spoil_any _ r [] true h1).mono ?_
  rintro e w2 ⟨rfl, h2, hf2⟩
  go_wp2
  go_ret
  exact ⟨rfl, h2, hf1.trans hf2⟩
set_option maxRecDepth 100000 in
set_option maxHeartbeats 400000 in
theorem rtext_long (w : World) (r : Nat) (l : List UInt8) (most : Int) (h : RD w r l false) (hnl : 4 ≤ l.length) (hm : most < beVal (l.take 4)) :
    Calls Tryz.prog 39 #[.pointer (some ⟨r, 0, none⟩), .int .i64 most] w fun e w' => e = .returned (.string ⟨#[]⟩) ∧ RD w' r [] true ∧ Fr (· = r) w w' := by
  have d1 : decide (most < (beVal (l.take 4) : Int)) = true := by rw [decide_eq_true_iff]; exact hm
  go_enter Tryz.func39, Tryz.ntmps39
  go_wp2_with fail
  refine (int4_ok _ r l h hnl).mono ?_
  rintro e w1 ⟨rfl, h1, hf1⟩
  go_wp2_with fail
  refine (bad_any _ r _ false h1).mono ?_
  rintro e w' ⟨rfl, rfl⟩
  go_wp2_with fail
  refine (spoil_any _ r _ false h1).mono ?_
  rintro e w2 ⟨rfl, h2, hf2⟩
  go_wp2
  go_ret
  exact ⟨rfl, h2, hf1.trans hf2⟩
set_option maxRecDepth 100000 in
set_option maxHeartbeats 400000 in
theorem rtext_short (w : World) (r : Nat) (l : List UInt8) (most : Int) (h : RD w r l false) (hnl : 4 ≤ l.length) (hm : (beVal (l.take 4) : Int) ≤ most) (hs : l.length - 4 < beVal (l.take 4)) :
    Calls Tryz.prog 39 #[.pointer (some ⟨r, 0, none⟩), .int .i64 most] w fun e w' => e = .returned (.string ⟨#[]⟩) ∧ RD w' r [] true ∧ Fr (· = r) w w' := by
  have d1 : decide (most < (beVal (l.take 4) : Int)) = false := by rw [decide_eq_false_iff_not]; omega
  have hsn := fun W => run_string (RB.nil W) 0 0 rfl
  go_enter Tryz.func39, Tryz.ntmps39
  go_wp2_with fail
  refine (int4_ok _ r l h hnl).mono ?_
  rintro e w1 ⟨rfl, h1, hf1⟩
  go_wp2_with fail
  refine (bad_any _ r _ false h1).mono ?_
  rintro e w' ⟨rfl, rfl⟩
  go_wp2_with fail
  refine (bytes_no _ r _ false _ h1 (.inr (.inl (by rw [List.length_drop]; omega)))).mono ?_
  rintro e w2 ⟨rfl, h2, hf2⟩
  go_wp2
  go_ret
  exact ⟨rfl, h2, hf1.trans hf2⟩
set_option maxRecDepth 100000 in
set_option maxHeartbeats 400000 in
theorem rtext_ok (w : World) (r : Nat) (l : List UInt8) (most : Int) (h : RD w r l false) (hnl : 4 ≤ l.length) (hm : (beVal (l.take 4) : Int) ≤ most) (hs : beVal (l.take 4) ≤ l.length - 4) :
    Calls Tryz.prog 39 #[.pointer (some ⟨r, 0, none⟩), .int .i64 most] w fun e w' => e = .returned (.string ⟨((l.drop 4).take (beVal (l.take 4))).toArray⟩) ∧ RD w' r ((l.drop 4).drop (beVal (l.take 4))) false ∧ Fr (· = r) w w' := by
  have d1 : decide (most < (beVal (l.take 4) : Int)) = false := by rw [decide_eq_false_iff_not]; omega
  go_enter Tryz.func39, Tryz.ntmps39
  go_wp2_with fail
  refine (int4_ok _ r l h hnl).mono ?_
  rintro e w1 ⟨rfl, h1, hf1⟩
  have HTL : Hid (((l.drop 4).take (beVal (l.take 4))).length = beVal (l.take 4)) := by show _ = _; rw [List.length_take, List.length_drop]; omega
  go_wp2_with fail
  refine (bad_any _ r _ false h1).mono ?_
  rintro e w' ⟨rfl, rfl⟩
  go_wp2_with fail
  refine (bytes_ok _ r _ _ h1 (by rw [List.length_drop]; omega)).mono ?_
  rintro e w2 ⟨v, rfl, hv, h2, hf2⟩
  obtain ⟨A, c, rfl, hcl, hcm, hRB, hAd⟩ := hv.shape_n HTL.out
  have hstr := run_string hRB _ c HTL.out
  have HRD := Lib.hid h2
  clear hv hAd h2 hRB
  go_wp2
  go_ret
  exact ⟨rfl, HRD.out, hf1.trans hf2⟩

end Go.Proofs.YtgpcinfhcamgpaaGreatDoor

namespace Go.Proofs.YtgpcinfhcamgpaaGreatDoor
open Go.RowKit
set_option linter.unusedVariables false

theorem byteAt_succ (n s k : Nat) (h : k < s) : byteAt n (s + 1) k = byteAt (n / 256) s k := by
  unfold byteAt
  congr 1
  rw [show s + 1 - 1 - k = (s - 1 - k) + 1 from by omega, Nat.mul_add, Nat.pow_add, Nat.mul_comm (2 ^ _) (2 ^ _), ← Nat.div_div_eq_div_mul]
theorem beBytes_succ (n s : Nat) : beBytes n (s + 1) = beBytes (n / 256) s ++ [UInt8.ofNat n] := by
  unfold beBytes
  rw [List.range_succ, List.map_append]
  congr 1
  · apply List.map_congr_left
    intro k hk
    simp at hk
    exact byteAt_succ n s k hk
  · simp [byteAt]
theorem beVal_beBytes (n s : Nat) : beVal (beBytes n s) = n % 256 ^ s := by
  induction s generalizing n with
  | zero => simp [beBytes, beVal, Nat.mod_one]
  | succ s ih =>
    have e1 : (UInt8.ofNat n).toNat = n % 256 := UInt8.toNat_ofNat'
    have e2 : 256 ^ (s + 1) = 256 * 256 ^ s := by rw [Nat.pow_succ, Nat.mul_comm]
    rw [beBytes_succ, beVal_snoc, ih, e1, e2, Nat.mod_mul]
    omega
theorem beVal_text (s rest : List UInt8) (h : s.length < 4294967296) : beVal ((textBytes s ++ rest).take 4) = s.length := by
  have e : (textBytes s ++ rest).take 4 = beBytes s.length 4 := by
    unfold textBytes
    rw [List.append_assoc, List.take_append_of_le_length (by rw [beBytes_length]; exact Nat.le_refl _), List.take_of_length_le (by rw [beBytes_length]; exact Nat.le_refl _)]
  rw [e, beVal_beBytes]
  exact Nat.mod_eq_of_lt h
theorem drop_text (s rest : List UInt8) : (textBytes s ++ rest).drop 4 = s ++ rest := by
  unfold textBytes
  rw [List.append_assoc, List.drop_append_of_le_length (by rw [beBytes_length]; exact Nat.le_refl _), List.drop_of_length_le (by rw [beBytes_length]; exact Nat.le_refl _), List.nil_append]
theorem textBytes_length (s : List UInt8) : (textBytes s).length = 4 + s.length := by unfold textBytes; rw [List.length_append, beBytes_length]

/-- a text that stands next is read, whatever stands behind it -/
theorem rtext_next (w : World) (r : Nat) (s rest : List UInt8) (most : Int) (h : RD w r (textBytes s ++ rest) false) (hs : s.length < 4294967296) (hm : (s.length : Int) ≤ most) :
    Calls Tryz.prog 39 #[.pointer (some ⟨r, 0, none⟩), .int .i64 most] w fun e w' => e = .returned (.string ⟨s.toArray⟩) ∧ RD w' r rest false ∧ Fr (· = r) w w' := by
  have e1 := beVal_text s rest hs
  have e2 := drop_text s rest
  have hl : (textBytes s ++ rest).length = 4 + s.length + rest.length := by rw [List.length_append, textBytes_length]
  refine (rtext_ok w r (textBytes s ++ rest) most h (by omega) (by rw [e1]; exact hm) (by rw [e1]; omega)).mono ?_
  rw [e1, e2]
  rintro e w' ⟨rfl, h1, h2⟩
  refine ⟨?_, ?_, h2⟩
  · rw [List.take_left' rfl]
  · rwa [List.drop_left' rfl] at h1

theorem RB.alloc {w : World} {A : Option Addr} {l : List UInt8} (h : RB w A l) (o : Obj) : RB (w.alloc o) A l := h.below ((Below.refl _ _).alloc (Nat.le_refl _) _)
theorem emptyOB (w : World) (B : Nat) (hB : B ≤ w.heap.size) : OB (w.alloc (.cells #[] 5)) B (.slice (some ⟨w.heap.size, 0, none⟩) 0 0) [] := emptyRow w B hB
def KB (w : World) (B : Nat) (A : Option Addr) (l : List UInt8) : Prop := RB w A l ∧ ∀ ad, A = some ad → ad.block < B
theorem KB.below {w w' : World} {B : Nat} {A : Option Addr} {l : List UInt8} (h : KB w B A l) (hb : Below w.heap.size w w') : KB w' B A l := ⟨h.1.below hb, h.2⟩
theorem KB.mono {w : World} {B B' : Nat} {A : Option Addr} {l : List UInt8} (h : KB w B A l) (hB : B ≤ B') : KB w B' A l := ⟨h.1, fun ad e => by have := h.2 ad e; omega⟩
theorem OB.kb {w : World} {base : Nat} {v : Value} {l : List UInt8} (h : OB w base v l) : ∃ A c, v = .slice A l.length c ∧ l.length ≤ c ∧ c ≤ maxLen ∧ KB w w.heap.size A l := by
  obtain ⟨A, c, hv, h1, h2, h3, h4⟩ := h.shape
  exact ⟨A, c, hv, h1, h2, h3, fun ad e => (h4 ad e).2.1⟩
theorem OB.kb_n {w : World} {base n : Nat} {v : Value} {l : List UInt8} (h : OB w base v l) (hn : l.length = n) : ∃ A c, v = .slice A n c ∧ n ≤ c ∧ c ≤ maxLen ∧ KB w w.heap.size A l := by
  subst hn; exact h.kb
end Go.Proofs.YtgpcinfhcamgpaaGreatDoor

namespace Go.Proofs.YtgpcinfhcamgpaaGreatDoor
open Go.RowKit
set_option linter.unusedVariables false

theorem RB.fr0 {S : Nat → Prop} {w w' : World} {A : Option Addr} {l : List UInt8} (h : RB w A l) (hf : Fr S w w') (hs : 0 < l.length → ∀ ad, A = some ad → ¬ S ad.block) : RB w' A l := by
  rcases Nat.eq_zero_or_pos l.length with h0 | h0
  · exact ⟨h.1, fun hn => by omega⟩
  · exact h.fr hf (hs h0)
/-- The reference's reader: the bytes that are left; is it bad? -/
def RX (w : World) (r : Nat) (l : List UInt8) (bad : Bool) : Prop :=
  ∃ A c, Blk w r 75 #[.slice A l.length c, .bool bad] ∧ RB w A l ∧ l.length ≤ c ∧ c ≤ maxLen ∧ l.length ≤ 70368744177664 ∧ (bad = true → l = []) ∧ (0 < l.length → ∀ ad, A = some ad → ad.block < r ∨ ∃ cs, Blk w ad.block 5 cs)
theorem RX.fr {S : Nat → Prop} {w w' : World} {r : Nat} {l : List UInt8} {bad : Bool} (h : RX w r l bad) (hf : Fr S w w') (hr : ¬ S r) (hS : ∀ k cs, S k → ¬ Blk w k 5 cs) (hS2 : ∀ k, S k → r ≤ k) : RX w' r l bad := by
  obtain ⟨A, c, hb, hR, hc, hm, hln, hbad, hA⟩ := h
  have hA' : 0 < l.length → ∀ ad, A = some ad → ¬ S ad.block := fun hp ad e hs => by
    rcases hA hp ad e with h1 | ⟨cs, hcs⟩
    · have := hS2 _ hs; omega
    · exact hS _ cs hs hcs
  exact ⟨A, c, hb.fr hf hr, hR.fr0 hf hA', hc, hm, hln, hbad, fun hp ad e => by
    rcases hA hp ad e with h1 | ⟨cs, hcs⟩
    · exact .inl h1
    · exact .inr ⟨cs, hcs.fr hf (hA' hp ad e)⟩⟩
theorem RX.below {w w' : World} {r : Nat} {l : List UInt8} {bad : Bool} (h : RX w r l bad) (hb : Below w.heap.size w w') : RX w' r l bad :=
  h.fr (S := fun _ => False) (Fr.of_below hb) (fun x => x) (fun _ _ x => x.elim) (fun _ x => x.elim)
theorem RX.parts {w : World} {r : Nat} {l : List UInt8} {bad : Bool} (h : RX w r l bad) :
    ∃ A c, w.cell? ⟨r, 0, none⟩ = some (.slice A l.length c) ∧ w.cell? ⟨r, 1, none⟩ = some (.bool bad) ∧ w.frozen? ⟨r, 0, none⟩ = false ∧ w.frozen? ⟨r, 1, none⟩ = false := by
  obtain ⟨A, c, hb, _⟩ := h
  exact ⟨A, c, hb.cell 0, hb.cell 1, hb.frozen 0, hb.frozen 1⟩
theorem RX.len {w : World} {r : Nat} {l : List UInt8} {bad : Bool} (h : RX w r l bad) : l.length ≤ 70368744177664 := by
  obtain ⟨A, c, hb, hR, hc, hm, hln, hbad, hA⟩ := h
  exact hln
theorem RX.spoiled {w : World} {r : Nat} {l : List UInt8} {bad : Bool} (h : RX w r l bad) : RX ((w.setCell ⟨r, 1, none⟩ (.bool true)).setCell ⟨r, 0, none⟩ (.slice none 0 0)) r [] true := by
  obtain ⟨A, c, hb, hR, hc, hm, hln, hbad, hA⟩ := h
  exact ⟨none, 0, (hb.set_ 1 _).set_ 0 _, RB.nil _, by simp, by simp [maxLen], by simp, by simp, by simp⟩

theorem RX.advance {w : World} {r : Nat} {l : List UInt8} {n c : Nat} {A : Option Addr} {bad : Bool} (hb : Blk w r 75 #[.slice A l.length c, .bool bad]) (hR : RB w A l) (hc : l.length ≤ c) (hm : c ≤ maxLen) (hln : l.length ≤ 70368744177664)
    (hA : 0 < l.length → ∀ ad, A = some ad → ad.block < r ∨ ∃ cs, Blk w ad.block 5 cs) (hn : n ≤ l.length) (hbad : bad = true → l = []) :
    (c = n → RX (w.setCell ⟨r, 0, none⟩ (.slice A (l.length - n) 0)) r (l.drop n) bad) ∧
    (¬ c = n → RX (w.setCell ⟨r, 0, none⟩ (.slice (A.map fun x => x.add n) (l.length - n) (c - n))) r (l.drop n) bad) := by
  have hlp : 0 < (l.drop n).length → 0 < l.length := fun hp => by rw [List.length_drop] at hp; omega
  have hne : 0 < l.length → ∀ ad, A = some ad → ad.block ≠ r := fun hp ad e => by
    rcases hA hp ad e with h1 | ⟨cs, hcs⟩
    · omega
    · exact hcs.ne_ hb (by decide)
  have hcut := hR.cut (cap := c) hn hc
  have hF : ∀ u, Fr (· = r) w (w.setCell ⟨r, 0, none⟩ u) := fun u => (Fr.refl _ _).setCell (by simp) u
  constructor
  · intro e
    rw [if_pos e] at hcut
    have hl0 : l.length - n = 0 := by omega
    refine ⟨A, 0, ?_, hcut.fr0 (hF _) (fun hp => hne (hlp hp)), by rw [List.length_drop]; omega, by simp [maxLen], by rw [List.length_drop]; omega, fun hb2 => by rw [hbad hb2]; simp, fun hp ad e' => ?_⟩
    · have := hb.set_ 0 (.slice A (l.length - n) 0)
      rw [List.length_drop]
      exact this
    · rcases hA (hlp hp) ad e' with h1 | ⟨cs, hcs⟩
      · exact .inl h1
      · exact .inr ⟨cs, hcs.fr (hF _) (hne (hlp hp) ad e')⟩
  · intro e
    rw [if_neg e] at hcut
    refine ⟨A.map fun x => x.add n, c - n, ?_, hcut.fr0 (hF _) ?_, by rw [List.length_drop]; omega, by omega, by rw [List.length_drop]; omega, fun hb2 => by rw [hbad hb2]; simp, fun hp ad e' => ?_⟩
    · have := hb.set_ 0 (.slice (A.map fun x => x.add n) (l.length - n) (c - n))
      rw [List.length_drop]
      exact this
    · intro hp ad e'
      cases A with
      | none => cases e'
      | some a0 => cases e'; rw [block_of_add]; exact hne (hlp hp) a0 rfl
    · cases A with
      | none => cases e'
      | some a0 =>
        cases e'
        rw [block_of_add]
        rcases hA (hlp hp) a0 rfl with h1 | ⟨cs, hcs⟩
        · exact .inl h1
        · exact .inr ⟨cs, hcs.fr (hF _) (hne (hlp hp) a0 rfl)⟩

set_option maxHeartbeats 400000 in
theorem xspoil_any (w : World) (r : Nat) (l : List UInt8) (bad : Bool) (h : RX w r l bad) : Calls Tryz.prog 80 #[.pointer (some ⟨r, 0, none⟩)] w fun e w' => e = .returned (.tuple #[]) ∧ RX w' r [] true ∧ Fr (· = r) w w' := by
  have hs := h.spoiled
  obtain ⟨A, c, h0, h1, h2, h3⟩ := h.parts
  go_enter Tryz.func80, Tryz.ntmps80
  go_wp2
  go_end0
  exact ⟨rfl, hs, ((Fr.refl _ _).setCell (by simp) _).setCell (by simp) _⟩

set_option maxRecDepth 100000 in
set_option maxHeartbeats 400000 in
theorem xbytes_no (w : World) (r : Nat) (l : List UInt8) (bad : Bool) (n : Int) (h : RX w r l bad) (hn : n < 0 ∨ (l.length : Int) < n) :
    Calls Tryz.prog 81 #[.pointer (some ⟨r, 0, none⟩), .int .i64 n] w fun e w' => e = .returned (.slice none 0 0) ∧ RX w' r [] true ∧ Fr (· = r) w w' := by
  have hln := h.len
  obtain ⟨A, c, h0, h1, h2, h3⟩ := h.parts
  rcases (by omega : n < 0 ∨ 0 ≤ n) with h1 | h1
  · have d1 : decide (n < 0) = true := by rw [decide_eq_true_iff]; omega
    go_enter Tryz.func81, Tryz.ntmps81
    go_wp2_with (go_at_call 80; refine (xspoil_any _ r l bad h).mono ?_; rintro e w' ⟨rfl, hsp, hfr⟩)
    go_ret
    exact ⟨rfl, hsp, hfr⟩
  · have d1 : decide (n < 0) = false := by rw [decide_eq_false_iff_not]; omega
    have d2 : decide ((l.length : Int) < n) = true := by rw [decide_eq_true_iff]; omega
    go_enter Tryz.func81, Tryz.ntmps81
    go_wp2_with (go_at_call 80; refine (xspoil_any _ r l bad h).mono ?_; rintro e w' ⟨rfl, hsp, hfr⟩)
    go_ret
    exact ⟨rfl, hsp, hfr⟩

set_option maxRecDepth 100000 in
set_option maxHeartbeats 400000 in
theorem xbytes_ok (w : World) (r : Nat) (l : List UInt8) (bad : Bool) (n : Nat) (h : RX w r l bad) (hn : n ≤ l.length) :
    Calls Tryz.prog 81 #[.pointer (some ⟨r, 0, none⟩), .int .i64 n] w fun e w' => ∃ v, e = .returned v ∧ OB w' w.heap.size v (l.take n) ∧ RX w' r (l.drop n) bad ∧ Fr (· = r) w w' := by
  have hln := h.len
  have hd0 : decide ((n : Int) < 0) = false := by simp
  have hd1 : decide (l.length < n) = false := by rw [decide_eq_false_iff_not]; omega
  obtain ⟨A, c, hb, hR, hc, hm, _, hbad, hA⟩ := h
  have h0 := hb.cell 0
  have h1 := hb.cell 1
  have h2 := hb.frozen 0
  have h3 := hb.frozen 1
  have HT : Hid ((l.take n).length = n) := by show _ = _; rw [List.length_take]; omega
  have HR := Lib.hid (hR.take hn)
  have hrlt := hb.lt
  have HB := Lib.hid hb
  have HA := Lib.hid hA
  have HR0 := Lib.hid hR
  have HM := Lib.hid hm
  have HBAD := Lib.hid hbad
  clear hb hbad hA hR
  unfold maxLen at hm
  go_enter Tryz.func81, Tryz.ntmps81
  go_wp2_with (at_builtin; refine app_bytes _ rfl _ _ rfl w.heap.size _ [] rfl (emptyOB w w.heap.size (Nat.le_refl _)) A n c (l.take n) rfl HT.out (HR.out.alloc _) (by simp; omega) (by simp) ?_; intro v1 w1 ho1 hg1 hat1; have hb1 : Below w.heap.size w w1 := ((Below.refl _ _).alloc (Nat.le_refl _) _).grown hg1 (by simp) (by intro j hj; cases hj; exact Nat.le_refl _); have ho1' : OB w1 w.heap.size v1 (l.take n) := ho1; obtain ⟨A3, c3, rfl, hh1, hh2, hk3⟩ := ho1'.kb_n HT.out; have k0 : w1.cell? ⟨r, 0, none⟩ = some (.slice A l.length c) := (hb1.cell (p := ⟨r, 0, none⟩) hrlt).trans h0; have k2 : w1.frozen? ⟨r, 0, none⟩ = false := (hb1.frozen (p := ⟨r, 0, none⟩) hrlt).trans h2; have HV := Lib.hid ho1'; clear ho1 ho1' hg1 hat1 hk3)
  all_goals
    have HAD := Lib.hid (RX.advance (n := n) (HB.out.below hb1 hrlt) (HR0.out.below hb1) hc HM.out hln (fun hp ad e => (HA.out hp ad e).imp id (fun ⟨cs, hcs⟩ => ⟨cs, hcs.below hb1 hcs.lt⟩)) hn HBAD.out)
    go_ret
  · have hcn : c = n := by assumption
    exact ⟨_, rfl, HV.out.below_set hrlt _ _, HAD.out.1 hcn, (Fr.of_below hb1).setCell (by simp) _⟩
  · have hcn : ¬ c = n := by assumption
    exact ⟨_, rfl, HV.out.below_set hrlt _ _, HAD.out.2 hcn, (Fr.of_below hb1).setCell (by simp) _⟩


set_option maxRecDepth 100000 in
set_option maxHeartbeats 400000 in
theorem xint_no (w : World) (r : Nat) (l : List UInt8) (bad : Bool) (n : Int) (h : RX w r l bad) (hn : n < 1 ∨ 8 < n ∨ (l.length : Int) < n) :
    Calls Tryz.prog 79 #[.pointer (some ⟨r, 0, none⟩), .int .i64 n] w fun e w' => e = .returned (.int .i64 0) ∧ RX w' r [] true ∧ Fr (· = r) w w' := by
  have hln := h.len
  obtain ⟨A, c, h0, h1, h2, h3⟩ := h.parts
  rcases (by omega : n < 1 ∨ 1 ≤ n) with h1 | h1
  · have d1 : decide (n < 1) = true := by rw [decide_eq_true_iff]; omega
    go_enter Tryz.func79, Tryz.ntmps79
    go_wp2_with (go_at_call 80; refine (xspoil_any _ r l bad h).mono ?_; rintro e w' ⟨rfl, hsp, hfr⟩)
    go_ret
    exact ⟨rfl, hsp, hfr⟩
  · have d1 : decide (n < 1) = false := by rw [decide_eq_false_iff_not]; omega
    rcases (by omega : 8 < n ∨ n ≤ 8) with h2 | h2
    · have d2 : decide (8 < n) = true := by rw [decide_eq_true_iff]; omega
      go_enter Tryz.func79, Tryz.ntmps79
      go_wp2_with (go_at_call 80; refine (xspoil_any _ r l bad h).mono ?_; rintro e w' ⟨rfl, hsp, hfr⟩)
      go_ret
      exact ⟨rfl, hsp, hfr⟩
    · have d2 : decide (8 < n) = false := by rw [decide_eq_false_iff_not]; omega
      have h3 : (l.length : Int) < n := by omega
      have d3 : decide ((l.length : Int) < n) = true := by rw [decide_eq_true_iff]; omega
      go_enter Tryz.func79, Tryz.ntmps79
      go_wp2_with (go_at_call 80; refine (xspoil_any _ r l bad h).mono ?_; rintro e w' ⟨rfl, hsp, hfr⟩)
      go_ret
      exact ⟨rfl, hsp, hfr⟩
set_option maxRecDepth 100000 in
set_option maxHeartbeats 400000 in
theorem xint_ok (w : World) (r : Nat) (l : List UInt8) (bad : Bool) (n : Nat) (h : RX w r l bad) (h1 : 1 ≤ n) (h8 : n < 8) (hnl : n ≤ l.length) :
    Calls Tryz.prog 79 #[.pointer (some ⟨r, 0, none⟩), .int .i64 n] w fun e w' => e = .returned (.int .i64 (beVal (l.take n))) ∧ RX w' r (l.drop n) bad ∧ Fr (· = r) w w' := by
  have hln := h.len
  obtain ⟨A, c, hb, hR, hc, hm, _, hbad, hA⟩ := h
  have h0 := hb.cell 0
  have h2 := hb.frozen 0
  have d1 : decide ((n : Int) < 1) = false := by rw [decide_eq_false_iff_not]; omega
  have d2 : decide (8 < (n : Int)) = false := by rw [decide_eq_false_iff_not]; omega
  have d3 : decide (l.length < n) = false := by rw [decide_eq_false_iff_not]; omega
  have d4 : ((n : Int) == 8) = false := by rw [beq_eq_false_iff_ne]; omega
  have HTL : Hid ((l.take n).length = n) := by show _ = _; rw [List.length_take]; omega
  have HAD := Lib.hid (RX.advance (n := n) hb hR hc hm hln hA hnl hbad)
  have HR := Lib.hid hR
  unfold maxLen at hm
  clear hb hR hbad hA
  go_enter Tryz.func79, Tryz.ntmps79
  go_wp2
  go_loopw [5, 6] (fun v i wr => ∃ k : Nat, k ≤ n ∧ i = .int .i64 k ∧ v = .int .i64 (beVal ((l.take n).take k)) ∧ wr = w) (fun _ i _ => n - (intOf i).toNat)
  case atStart => exact ⟨0, Nat.zero_le _, rfl, rfl, rfl⟩
  case round =>
    obtain ⟨k, hk, rfl, rfl, rfl⟩ := hrel
    by_cases hlt : k < n
    · have hkl : k < (l.take n).length := by rw [HTL.out]; exact hlt
      have hkll : k < l.length := by omega
      obtain ⟨ad, rfl, _, hc1⟩ := HR.out.at_ (k := k) hkll
      have hxe : (l.take n)[k] = l[k] := List.getElem_take
      have hvb2 := beVal_take_lt (l.take n) k (by omega)
      have hx := l[k].toNat_lt
      have HS := Lib.hid ((beVal_take (l.take n) k hkl).symm.trans rfl)
      rw [hxe] at HS
      clear hxe
      generalize beVal ((l.take n).take k) = v at *
      generalize l[k] = x at *
      go_wp2
      go_roundw
      case rel => exact ⟨k + 1, by omega, by go_num, by rw [← HS.out]; exact congrArg (Value.int .i64) (by omega), by first | rfl | trivial⟩
      case measure => simp [intOf]; omega
    · have hkn : k = n := by omega
      have HK := Lib.hid hkn
      clear hkn
      go_wp2
      · have hcn : c = n := by assumption
        go_ret
        refine ⟨ret_int ?_, HAD.out.1 hcn, (Fr.refl _ _).setCell (by simp) _⟩
        rw [HK.out, List.take_of_length_le (by rw [HTL.out]; exact Nat.le_refl _)]
      · have hcn : ¬ c = n := by assumption
        go_ret
        refine ⟨ret_int ?_, HAD.out.2 hcn, (Fr.refl _ _).setCell (by simp) _⟩
        rw [HK.out, List.take_of_length_le (by rw [HTL.out]; exact Nat.le_refl _)]

set_option maxRecDepth 100000 in
set_option maxHeartbeats 400000 in
theorem xint8_ok (w : World) (r : Nat) (c0 : UInt8) (l : List UInt8) (bad : Bool) (h : RX w r (c0 :: l) bad) (hnl0 : 7 ≤ l.length) (hc0 : c0.toNat ≤ 127) :
    Calls Tryz.prog 79 #[.pointer (some ⟨r, 0, none⟩), .int .i64 8] w fun e w' => e = .returned (.int .i64 (beVal ((c0 :: l).take 8))) ∧ RX w' r ((c0 :: l).drop 8) bad ∧ Fr (· = r) w w' := by
  have hln := h.len
  obtain ⟨A, c, hb, hR, hc, hm, _, hbad, hA⟩ := h
  have h0 := hb.cell 0
  have h2 := hb.frozen 0
  obtain ⟨ad, rfl, _, hcell⟩ := hR.at_ (k := 0) (by simp)
  have d3 : decide (((c0 :: l).length : Int) < 8) = false := by rw [decide_eq_false_iff_not]; simp; omega
  have d4 : decide (127 < (c0.toNat : Int)) = false := by rw [decide_eq_false_iff_not]; omega
  rw [addr_add_zero] at hcell
  simp only [List.getElem_cons_zero] at hcell
  have HTL : Hid (((c0 :: l).take 8).length = 8) := by show _ = _; rw [List.length_take, List.length_cons]; omega
  have HB8 := Lib.hid (beVal_take_lt8 c0 (l.take 7) hc0)
  rw [show c0 :: l.take 7 = (c0 :: l).take 8 from rfl] at HB8
  have hnl : 8 ≤ (c0 :: l).length := by simp; omega
  have hpos : 0 < (c0 :: l).length := by simp
  generalize c0 :: l = L at *
  have HAD := Lib.hid (RX.advance (n := 8) hb hR hc hm hln hA hnl hbad)
  have HR := Lib.hid hR
  unfold maxLen at hm
  clear hb hR hbad hA
  go_enter Tryz.func79, Tryz.ntmps79
  go_wp2
  go_loopw [5, 6] (fun v i wr => ∃ k : Nat, k ≤ 8 ∧ i = .int .i64 k ∧ v = .int .i64 (beVal ((L.take 8).take k)) ∧ wr = w) (fun _ i _ => 8 - (intOf i).toNat)
  case atStart => exact ⟨0, Nat.zero_le _, rfl, rfl, rfl⟩
  case round =>
    obtain ⟨k, hk, rfl, rfl, rfl⟩ := hrel
    by_cases hlt : k < 8
    · have hkl : k < (L.take 8).length := by rw [HTL.out]; exact hlt
      have hkll : k < L.length := by omega
      obtain ⟨ad', e', _, hc1⟩ := HR.out.at_ (k := k) hkll
      cases e'
      have hxe : (L.take 8)[k] = L[k] := List.getElem_take
      have hvb2 := HB8.out k (by omega)
      have hx := L[k].toNat_lt
      have HS := Lib.hid ((beVal_take (L.take 8) k hkl).symm.trans rfl)
      rw [hxe] at HS
      clear hxe
      generalize beVal ((L.take 8).take k) = v at *
      generalize L[k] = x at *
      go_wp2
      go_roundw
      case rel => exact ⟨k + 1, by omega, by go_num, by rw [← HS.out]; exact congrArg (Value.int .i64) (by omega), by first | rfl | trivial⟩
      case measure => simp [intOf]; omega
    · have hkn : k = 8 := by omega
      have HK := Lib.hid hkn
      clear hkn
      go_wp2
      · have hcn : c = 8 := by assumption
        go_ret
        refine ⟨ret_int ?_, HAD.out.1 hcn, (Fr.refl _ _).setCell (by simp) _⟩
        rw [HK.out, List.take_of_length_le (by rw [HTL.out]; exact Nat.le_refl _)]
      · have hcn : ¬ c = 8 := by assumption
        go_ret
        refine ⟨ret_int ?_, HAD.out.2 hcn, (Fr.refl _ _).setCell (by simp) _⟩
        rw [HK.out, List.take_of_length_le (by rw [HTL.out]; exact Nat.le_refl _)]


set_option maxRecDepth 100000 in
set_option maxHeartbeats 400000 in
theorem xint_big (w : World) (r : Nat) (c0 : UInt8) (l : List UInt8) (bad : Bool) (h : RX w r (c0 :: l) bad) (hn : 7 ≤ l.length) (hc : 127 < c0.toNat) :
    Calls Tryz.prog 79 #[.pointer (some ⟨r, 0, none⟩), .int .i64 8] w fun e w' => e = .returned (.int .i64 0) ∧ RX w' r [] true ∧ Fr (· = r) w w' := by
  have hln := h.len
  have H := Lib.hid h
  obtain ⟨A, cp, hb, hR, hcc, hm, _, hbad, hA⟩ := h
  have h0 := hb.cell 0
  obtain ⟨ad, rfl, _, hcell⟩ := hR.at_ (k := 0) (by simp)
  have hlc : (c0 :: l).length = l.length + 1 := rfl
  rw [hlc] at h0 hln
  have d3 : decide ((l.length : Int) + 1 < 8) = false := by rw [decide_eq_false_iff_not]; omega
  have d4 : decide (127 < (c0.toNat : Int)) = true := by rw [decide_eq_true_iff]; omega
  clear hb hR hA hbad hlc
  rw [addr_add_zero] at hcell
  simp only [List.getElem_cons_zero] at hcell
  go_enter Tryz.func79, Tryz.ntmps79
  go_wp2_with (go_at_call 80; refine (xspoil_any _ r (c0 :: l) bad H.out).mono ?_; rintro e w' ⟨rfl, hsp, hfr⟩)
  go_ret
  exact ⟨rfl, hsp, hfr⟩

theorem xint4_ok (w : World) (r : Nat) (l : List UInt8) (bad : Bool) (h : RX w r l bad) (hnl : 4 ≤ l.length) :
    Calls Tryz.prog 79 #[.pointer (some ⟨r, 0, none⟩), .int .i64 4] w fun e w' => e = .returned (.int .i64 (beVal (l.take 4))) ∧ RX w' r (l.drop 4) bad ∧ Fr (· = r) w w' :=
  xint_ok w r l bad 4 h (by omega) (by omega) hnl
theorem xint4_no (w : World) (r : Nat) (l : List UInt8) (bad : Bool) (h : RX w r l bad) (hnl : l.length < 4) :
    Calls Tryz.prog 79 #[.pointer (some ⟨r, 0, none⟩), .int .i64 4] w fun e w' => e = .returned (.int .i64 0) ∧ RX w' r [] true ∧ Fr (· = r) w w' :=
  xint_no w r l bad 4 h (by omega)

set_option maxRecDepth 100000 in
set_option maxHeartbeats 400000 in
theorem xtext_no (w : World) (r : Nat) (l : List UInt8) (bad : Bool) (most : Int) (h : RX w r l bad) (hnl : l.length < 4) :
    Calls Tryz.prog 42 #[.pointer (some ⟨r, 0, none⟩), .int .i64 most] w fun e w' => e = .returned (.string ⟨#[]⟩) ∧ RX w' r [] true ∧ Fr (· = r) w w' := by
  go_enter Tryz.func42, Tryz.ntmps42
  go_wp2_with fail
  refine (xint4_no _ r l bad h hnl).mono ?_
  rintro e w1 ⟨rfl, h1, hf1⟩
  obtain ⟨A, c, q0, q1, q2, q3⟩ := h1.parts
  go_wp2_with fail
  refine (xspoil_any _ r [] true h1).mono ?_
  rintro e w2 ⟨rfl, h2, hf2⟩
  clear q0 q1 q2 q3
  go_wp2
  go_ret
  exact ⟨rfl, h2, hf1.trans hf2⟩
set_option maxRecDepth 100000 in
set_option maxHeartbeats 400000 in
theorem xtext_long (w : World) (r : Nat) (l : List UInt8) (most : Int) (h : RX w r l false) (hnl : 4 ≤ l.length) (hm : most < beVal (l.take 4)) :
    Calls Tryz.prog 42 #[.pointer (some ⟨r, 0, none⟩), .int .i64 most] w fun e w' => e = .returned (.string ⟨#[]⟩) ∧ RX w' r [] true ∧ Fr (· = r) w w' := by
  have d1 : decide (most < (beVal (l.take 4) : Int)) = true := by rw [decide_eq_true_iff]; exact hm
  go_enter Tryz.func42, Tryz.ntmps42
  go_wp2_with fail
  refine (xint4_ok _ r l false h hnl).mono ?_
  rintro e w1 ⟨rfl, h1, hf1⟩
  obtain ⟨A, c, q0, q1, q2, q3⟩ := h1.parts
  go_wp2_with fail
  refine (xspoil_any _ r _ false h1).mono ?_
  rintro e w2 ⟨rfl, h2, hf2⟩
  clear q0 q1 q2 q3
  go_wp2
  go_ret
  exact ⟨rfl, h2, hf1.trans hf2⟩
set_option maxRecDepth 100000 in
set_option maxHeartbeats 400000 in
theorem xtext_short (w : World) (r : Nat) (l : List UInt8) (most : Int) (h : RX w r l false) (hnl : 4 ≤ l.length) (hm : (beVal (l.take 4) : Int) ≤ most) (hs : l.length - 4 < beVal (l.take 4)) :
    Calls Tryz.prog 42 #[.pointer (some ⟨r, 0, none⟩), .int .i64 most] w fun e w' => e = .returned (.string ⟨#[]⟩) ∧ RX w' r [] true ∧ Fr (· = r) w w' := by
  have d1 : decide (most < (beVal (l.take 4) : Int)) = false := by rw [decide_eq_false_iff_not]; omega
  have hsn := fun W => run_string (RB.nil W) 0 0 rfl
  go_enter Tryz.func42, Tryz.ntmps42
  go_wp2_with fail
  refine (xint4_ok _ r l false h hnl).mono ?_
  rintro e w1 ⟨rfl, h1, hf1⟩
  obtain ⟨A, c, q0, q1, q2, q3⟩ := h1.parts
  go_wp2_with fail
  refine (xbytes_no _ r _ false _ h1 (.inr (by rw [List.length_drop]; omega))).mono ?_
  rintro e w2 ⟨rfl, h2, hf2⟩
  clear q0 q1 q2 q3
  go_wp2
  go_ret
  exact ⟨rfl, h2, hf1.trans hf2⟩
set_option maxRecDepth 100000 in
set_option maxHeartbeats 400000 in
theorem xtext_ok (w : World) (r : Nat) (l : List UInt8) (most : Int) (h : RX w r l false) (hnl : 4 ≤ l.length) (hm : (beVal (l.take 4) : Int) ≤ most) (hs : beVal (l.take 4) ≤ l.length - 4) :
    Calls Tryz.prog 42 #[.pointer (some ⟨r, 0, none⟩), .int .i64 most] w fun e w' => e = .returned (.string ⟨((l.drop 4).take (beVal (l.take 4))).toArray⟩) ∧ RX w' r ((l.drop 4).drop (beVal (l.take 4))) false ∧ Fr (· = r) w w' := by
  have d1 : decide (most < (beVal (l.take 4) : Int)) = false := by rw [decide_eq_false_iff_not]; omega
  go_enter Tryz.func42, Tryz.ntmps42
  go_wp2_with fail
  refine (xint4_ok _ r l false h hnl).mono ?_
  rintro e w1 ⟨rfl, h1, hf1⟩
  have HTL : Hid (((l.drop 4).take (beVal (l.take 4))).length = beVal (l.take 4)) := by show _ = _; rw [List.length_take, List.length_drop]; omega
  obtain ⟨A0, c0, q0, q1, q2, q3⟩ := h1.parts
  go_wp2_with fail
  refine (xbytes_ok _ r _ false _ h1 (by rw [List.length_drop]; omega)).mono ?_
  rintro e w2 ⟨v, rfl, hv, h2, hf2⟩
  clear q0 q1 q2 q3
  obtain ⟨A, c, rfl, hcl, hcm, hRB, hAd⟩ := hv.shape_n HTL.out
  have hstr := run_string hRB _ c HTL.out
  have HRD := Lib.hid h2
  clear hv hAd h2 hRB
  go_wp2
  go_ret
  exact ⟨rfl, HRD.out, hf1.trans hf2⟩

end Go.Proofs.YtgpcinfhcamgpaaGreatDoor

namespace Go.Proofs.YtgpcinfhcamgpaaGreatDoor
open Go.RowKit
set_option linter.unusedVariables false

def rputCells (n s k : Nat) : Array Value := ((List.range s).map fun i => if k ≤ i then u8v (byteAt n s i) else .int .u8 0).toArray
theorem rputCells_size (n s k : Nat) : (rputCells n s k).size = s := by simp [rputCells]
theorem rputCells_set (n s k : Nat) : (rputCells n s (k + 1)).setIfInBounds k (u8v (byteAt n s k)) = rputCells n s k := by
  apply Array.ext_getElem?
  intro i
  simp only [Array.getElem?_setIfInBounds, rputCells_size]
  by_cases e : k = i
  · subst e
    by_cases h : k < s <;> simp [rputCells, h]
  · rw [if_neg e]
    simp only [rputCells, List.getElem?_toArray, List.getElem?_map]
    by_cases hi : i < s
    · have : (k + 1 ≤ i) = (k ≤ i) := by rw [eq_iff_iff]; omega
      simp [hi, this]
    · simp [hi]
theorem rputCells_at (n s k i : Nat) (h : i < s) : ∃ v, (rputCells n s k)[i]? = some v := by
  rw [← rputCells_size n s k] at h
  exact ⟨_, Array.getElem?_eq_getElem h⟩
theorem rputCells_zero (n s : Nat) : rputCells n s 0 = putCells n s s := by
  unfold rputCells putCells
  congr 1
  apply List.map_congr_left
  intro i hi
  simp at hi
  simp [hi]
theorem rputCells_all (n s : Nat) : madeCells #[Value.int .u8 0] s = rputCells n s s := by
  rw [putCells_zero n s]
  unfold rputCells putCells
  congr 1
  apply List.map_congr_left
  intro i hi
  simp at hi
  rw [if_neg (by omega), if_neg (by omega)]
theorem byte_div (n s k : Nat) (h : k < s) : Value.int .u8 (((n / 256 ^ (s - 1 - k) : Nat) : Int) % 256) = u8v (byteAt n s k) := by
  unfold u8v byteAt
  have e : (256 : Nat) ^ (s - 1 - k) = 2 ^ (8 * (s - 1 - k)) := by rw [Nat.pow_mul]
  rw [e, UInt8.toNat_ofNat']
  rfl

set_option maxRecDepth 100000 in
set_option maxHeartbeats 400000 in
theorem refPut_no (n size : Int) (w : World) (h : size < 1 ∨ 8 < size ∨ n < 0) :
    Calls Tryz.prog 88 #[.int .i64 n, .int .i64 size] w fun e w' => e = .returned (.tuple #[.slice none 0 0, .bool false]) ∧ w = w' := by
  rcases (by omega : size < 1 ∨ 1 ≤ size) with h1 | h1
  · have d1 : decide (size < 1) = true := by simpa using h1
    go_enter Tryz.func88, Tryz.ntmps88
    go_wp2
    go_ret2
    exact ⟨rfl, rfl⟩
  · have d1 : decide (size < 1) = false := by simpa using h1
    rcases (by omega : 8 < size ∨ size ≤ 8) with h2 | h2
    · have d2 : decide (8 < size) = true := by simpa using h2
      go_enter Tryz.func88, Tryz.ntmps88
      go_wp2
      go_ret2
      exact ⟨rfl, rfl⟩
    · have d2 : decide (8 < size) = false := by simpa using h2
      have h3 : n < 0 := by omega
      have d3 : decide (n < 0) = true := by simpa using h3
      go_enter Tryz.func88, Tryz.ntmps88
      go_wp2
      go_ret2
      exact ⟨rfl, rfl⟩

def PutPost (n s : Nat) (w : World) (e : Ending) (w' : World) : Prop :=
  (n / 256 ^ s = 0 ∧ ∃ v, e = .returned (.tuple #[v, .bool true]) ∧ OB w' w.heap.size v (beBytes n s) ∧ Below w.heap.size w w') ∨ (n / 256 ^ s ≠ 0 ∧ e = .returned (.tuple #[.slice none 0 0, .bool false]) ∧ Below w.heap.size w w')
theorem rput_rel (n s k m : Nat) (w wr : World) (hk : k + 1 ≤ s) (hn : n ≤ 9223372036854775807) (hm : n / 256 ^ (s - (k + 1)) = m) (hB : Blk wr w.heap.size 5 (rputCells n s (k + 1))) (hb : Below w.heap.size w wr) :
    ∃ k_1 : Nat, k_1 ≤ s ∧ Value.int .i64 ((k : Int) - 1) = Value.int .i64 ((k_1 : Int) - 1) ∧ Value.int .i64 (wrap64 ((m : Int) / 256)) = Value.int .i64 ((n / 256 ^ (s - k_1) : Nat) : Int) ∧
      Blk (wr.setCell ⟨w.heap.size, k, none⟩ (.int .u8 ((m : Int) % 256))) w.heap.size 5 (rputCells n s k_1) ∧ Below w.heap.size w (wr.setCell ⟨w.heap.size, k, none⟩ (.int .u8 ((m : Int) % 256))) := by
  have hmn : m ≤ n := by rw [← hm]; exact Nat.div_le_self _ _
  refine ⟨k, by omega, rfl, ?_, ?_, hb.setCell (Nat.le_refl _) _⟩
  · have e : n / 256 ^ (s - k) = m / 256 := by
      rw [← hm, Nat.div_div_eq_div_mul, show s - k = (s - (k + 1)) + 1 from by omega, Nat.pow_succ]
    rw [e, IntWalk.wrap64_in _ (by omega)]
    simp
  · have e := byte_div n s k (by omega)
    rw [show s - 1 - k = s - (k + 1) from by omega, hm] at e
    rw [e, ← rputCells_set]
    exact hB.set_ k _

set_option maxRecDepth 100000 in
set_option maxHeartbeats 400000 in
theorem refPut_any (n s : Nat) (w : World) (h : 1 ≤ s) (h2 : s ≤ 8) (hn : n ≤ 9223372036854775807) :
    Calls Tryz.prog 88 #[.int .i64 n, .int .i64 s] w (PutPost n s w) := by
  have hr := run_make_bytes s (by omega) w
  have HN := Lib.hid hn
  clear hn
  have d1 : decide ((s : Int) < 1) = false := by simp; omega
  have d2 : decide (8 < (s : Int)) = false := by simp; omega
  have d3 : decide ((n : Int) < 0) = false := by simp
  have hB : Blk (w.alloc (.cells (madeCells #[Value.int .u8 0] s) 5)) w.heap.size 5 (rputCells n s s) := by rw [rputCells_all n s]; exact Blk.new _ _ _
  have hb : Below w.heap.size w (w.alloc (.cells (madeCells #[Value.int .u8 0] s) 5)) := (Below.refl _ _).alloc (Nat.le_refl _) _
  generalize w.alloc (.cells (madeCells #[Value.int .u8 0] s) 5) = w1 at *
  go_enter Tryz.func88, Tryz.ntmps88
  go_wp2
  go_loopw [0, 7] (fun m v wr => ∃ k : Nat, k ≤ s ∧ v = .int .i64 ((k : Int) - 1) ∧ m = .int .i64 ((n / 256 ^ (s - k) : Nat) : Int) ∧ Blk wr w.heap.size 5 (rputCells n s k) ∧ Below w.heap.size w wr) (fun _ v _ => ((intOf v) + 1).toNat)
  case atStart => exact ⟨s, Nat.le_refl _, rfl, by simp, hB, hb⟩
  case round =>
    obtain ⟨k, hk, rfl, rfl, hB', hb'⟩ := hrel
    clear hB hb hr
    rcases k with _ | k
    · rw [show (((0 : Nat) : Int) - 1) = -1 from rfl, Nat.sub_zero]
      rw [rputCells_zero] at hB'
      have HO := Lib.hid (own_of_put rfl hB' h2)
      clear hB'
      generalize hm : n / 256 ^ s = m
      have HM := Lib.hid hm
      clear hm
      rcases Nat.eq_zero_or_pos m with h0 | h0
      · subst h0
        rw [show (((0 : Nat) : Int)) = 0 from rfl]
        go_wp2
        go_ret2
        exact .inl ⟨HM.out, _, rfl, HO.out, hb'⟩
      · have d5 : decide (0 < (m : Int)) = true := by rw [decide_eq_true_iff]; omega
        have d6 : decide (0 < m) = true := by rw [decide_eq_true_iff]; omega
        go_wp2
        go_ret2
        exact .inr ⟨by rw [HM.out]; omega, rfl, hb'⟩
    · obtain ⟨v0, hv0⟩ := rputCells_at n s (k + 1) k (by omega)
      have hc := (hB'.cell k).trans hv0
      have hf := hB'.frozen k
      clear hv0
      have e0 : ((k + 1 : Nat) : Int) - 1 = (k : Int) := by omega
      rw [e0]
      generalize hm : n / 256 ^ (s - (k + 1)) = m
      have HREL := Lib.hid (rput_rel n s k m w wr hk HN.out hm hB' hb')
      clear hm e0
      go_wp2
      go_roundw
      case rel => exact HREL.out
      case measure => simp [intOf] <;> omega
end Go.Proofs.YtgpcinfhcamgpaaGreatDoor

namespace Go.Proofs.YtgpcinfhcamgpaaGreatDoor
open Go.RowKit Go.Maps
set_option linter.unusedVariables false

theorem zeroB (w : World) : (zeroValue 4).run Tryz.prog w = .ok (.bool false) w := by kernel_rfl
def BMap (w : World) (M n : Nat) : Prop := ∃ D : DataW Unit, w.ownsMap Tryz.prog 3 (plainElem Tryz.prog 4) M n D
section
variable {w w' : World} {M n : Nat} {S : Nat → Prop}
theorem BMap.new (w : World) : BMap (w.alloc (.map #[] 0)) w.heap.size 0 := ⟨_, World.ownsMap_made _ _ _ _⟩
theorem BMap.lt (h : BMap w M n) : M < w.heap.size := by obtain ⟨D, h⟩ := h; exact h.lt
theorem BMap.of_block (h : BMap w M n) (hb : w'.heap[M]? = w.heap[M]?) : BMap w' M n := by
  obtain ⟨D, ⟨es, clock, h1, h2⟩⟩ := h
  exact ⟨D, ⟨es, clock, hb.trans h1, h2⟩⟩
theorem BMap.below (h : BMap w M n) (hb : Below w.heap.size w w') : BMap w' M n := h.of_block (hb.block M h.lt)
theorem BMap.fr (h : BMap w M n) (hf : Fr S w w') (hM : ¬ S M) : BMap w' M n := h.of_block (hf.block M h.lt hM)
set_option maxRecDepth 100000 in
theorem BMap.look (h : BMap w M n) {i : Int} (hi : (Lit.int .i64 i).wf = true) : ∃ b, (Instr.lookup 125 (.map (some M)) (.int .i64 i) false).run Tryz.prog w = .ok (.bool b) w := by
  obtain ⟨D, h3⟩ := h
  obtain ⟨v, ps, hrun, hv⟩ := h3.lookup keyedI Tryz.underlying125 (zeroB w) (plainElem_bool (H := Unit) Tryz.underlying4 false) (keyOf_int_mk Tryz.underlying3 hi)
  generalize DataW.atKey _ _ _ = q at hv
  unfold plainElem at hv
  rw [Tryz.underlying4] at hv
  cases v <;> simp at hv
  exact ⟨_, hrun⟩
theorem BMap.put (h : BMap w M n) {i : Int} (hi : (Lit.int .i64 i).wf = true) (hn : n < maxLen) :
    ∃ w', (Instr.mapUpdate 125 (.map (some M)) (.int .i64 i) (.bool true)).run Tryz.prog w = .ok () w' ∧ BMap w' M (n + 1) ∧ Fr (· = M) w w' := by
  obtain ⟨D, h3⟩ := h
  obtain ⟨w', hrun, hown, hg⟩ := h3.update keyedI Tryz.underlying125 hn (keyOf_int_mk Tryz.underlying3 hi) (plainElem_bool (H := Unit) Tryz.underlying4 true)
  exact ⟨w', hrun, ⟨_, hown⟩, Fr.of_grown hg (fun k e => by cases e; rfl)⟩
end
end Go.Proofs.YtgpcinfhcamgpaaGreatDoor
