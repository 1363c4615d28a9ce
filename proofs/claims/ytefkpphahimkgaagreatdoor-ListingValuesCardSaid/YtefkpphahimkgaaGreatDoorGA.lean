/-
 Words for memory that the walks of this claim use: a slice that reads as a list, a block known whole, an append onto a row of the call's own. Plain lemmas; nothing is assumed.
 More words: what stays outside a set of blocks, rows of bytes that the call owns, bytes read through a slice.
 strings.Builder at this program: copyCheck and WriteByte, stated with the library's own words (IsBuilder, BuilderAt).
 append onto a row of bytes of the call's own: one byte, a slice of bytes, a text.
 A row of one-cell elements that the call owns; append of one element onto it.
 Bytes that are read survive writes to blocks that hold no bytes.
 An append of one-cell elements that are no bytes keeps its row clean of bytes.
 A map from numbers to values of any kind, each value kept verbatim: look, put, clear, range.
 slices.Clone, Grow, Concat at []byte.
 octet.Put: what it returns.
 []byte(s): what it yields.
 pursuivantref01.Put and Text: what they return.
-/
import Derived.Test.YtefkpphahimkgaaGreatDoorTk
import Derived.Test.YtefkpphahimkgaaGreatDoorProg
import Derived.WalkKit
import Derived.WalkSpells
import Derived.WalkLawsBesides
import Derived.Below
import Derived.Laws.OwnMore
import Derived.Deep.AppendLies
import Derived.Deep.Draws
import Derived.Laws.Rows
import Derived.Maps.AppendAt
import Derived.RegionTactic
import Derived.OwnWalk
import Derived.Lib.Hide
import Derived.IntWalk
import Derived.Lib.UnsafeStr
import Derived.Lib.Builder
import Derived.Lib.AppendStr
import Derived.Lib.Slices
import Derived.Laws.Externs
import Derived.Deep.RegionHeld3
import Derived.Maps.Own
import Derived.Maps.OwnOps
import Derived.Maps.Views
import Derived.Maps.RangeWalk
import Derived.WalkSmall
import Derived.Lib.AppendZeros
import Derived.Handy
import Derived.Lib.ConvBytes
namespace Go.Proofs.YtefkpphahimkgaaGreatDoor
open Go.RowKit
theorem block_of_add (a : Addr) (n : Nat) : (a.add n).block = a.block := by unfold Addr.add; split <;> rfl
theorem add_of_add (a : Addr) (i j : Nat) : (a.add i).add j = a.add (i + j) := by
 unfold Addr.add
 by_cases hi : i = 0 <;> by_cases hj : j = 0 <;> simp [hi, hj, Nat.add_assoc]
def Reads (w : World) (B size : Nat) (A : Option Addr) (n : Nat) (xs : List Value) : Prop :=
 xs.length = n * size ∧ (0 < n → ∃ ad, A = some ad ∧ ad.block < B ∧ ∀ j u, xs[j]? = some u → w.cell? (ad.add j) = some u)
section
variable {w w' : World} {B B' size n : Nat} {A : Option Addr} {xs : List Value}
theorem Reads.none_ : Reads w B size A 0 [] := ⟨by simp, fun h => absurd h (by omega)⟩
theorem Reads.at_ {k : Nat} (h : Reads w B 1 A n xs) (hk : k < n) : ∃ ad u, A = some ad ∧ ad.block < B ∧ xs[k]? = some u ∧ w.cell? (ad.add k) = some u := by
 obtain ⟨ad, e, hb, hc⟩ := h.2 (by omega)
 have hl : k < xs.length := by have := h.1; omega
 exact ⟨ad, xs[k], e, hb, List.getElem?_eq_getElem hl, hc k _ (List.getElem?_eq_getElem hl)⟩
theorem Reads.keep (h : Reads w B size A n xs) (hk : ∀ p : Addr, p.block < B → w'.cell? p = w.cell? p) : Reads w' B size A n xs :=
 ⟨h.1, fun hn => by
  obtain ⟨ad, e, hb, hc⟩ := h.2 hn
  exact ⟨ad, e, hb, fun j u hu => (hk _ (by rw [block_of_add]; exact hb)).trans (hc j u hu)⟩⟩
theorem Reads.more (h : Reads w B size A n xs) (hB : B ≤ B') : Reads w B' size A n xs :=
 ⟨h.1, fun hn => by
  obtain ⟨ad, e, hb, hc⟩ := h.2 hn
  exact ⟨ad, e, by omega, hc⟩⟩
theorem Reads.below (h : Reads w B size A n xs) (hb : Below B w w') : Reads w' B size A n xs := h.keep fun _ hp => hb.cell hp
theorem Reads.drew (h : Reads w B size A n xs) : Reads w.drew B size A n xs := h
theorem Reads.drewN (h : Reads w B size A n xs) (k : Nat) : Reads (w.drewN k) B size A n xs := h
theorem Reads.alloc (h : Reads w B size A n xs) (hB : B ≤ w.heap.size) (o : Obj) : Reads (w.alloc o) B size A n xs := h.keep fun p hp => World.cell?_alloc_lt w o p (by omega)
theorem Reads.setCell (h : Reads w B size A n xs) {p : Addr} (hB : B ≤ p.block) (u : Value) : Reads (w.setCell p u) B size A n xs :=
 h.keep fun q hq => World.cell?_setCell_other w p q u (fun e => by subst e; omega)
theorem Reads.grown (h : Reads w B size A n xs) {row : Option Nat} (hg : w.grownBy w' row) (hB : B ≤ w.heap.size) (hr : ∀ g, row = some g → B ≤ g) : Reads w' B size A n xs :=
 h.keep fun p hp => World.cell?_of_block (hg.block p.block (by omega) (fun e => by have := hr _ e.symm; omega))
theorem Reads.cut (h : Reads w B size A n xs) {k cap : Nat} (hk : k ≤ n) (hc : n ≤ cap) :
  Reads w B size (if cap = k then A else A.map (·.add (k * size))) (n - k) (xs.drop (k * size)) := by
 refine ⟨by rw [List.length_drop, h.1, Nat.sub_mul], fun hn => ?_⟩
 obtain ⟨ad, rfl, hb, hcell⟩ := h.2 (by omega)
 rw [if_neg (by omega)]
 refine ⟨ad.add (k * size), rfl, by rw [block_of_add]; exact hb, fun j u hu => ?_⟩
 rw [add_of_add]
 exact hcell _ u (by rw [← hu, List.getElem?_drop])
theorem Reads.of_own {base : Nat} {e : TypeId} {c : Nat} (h : w.ownsRow base e size (.slice A n c) n xs) : Reads w w.heap.size size A n xs := by
 refine ⟨h.1, fun hn => ?_⟩
 obtain ⟨g, cap, hv, _, hlt⟩ := h.form hn
 have hA : A = some ⟨g, 0, none⟩ := by injection hv
 subst hA
 exact ⟨_, rfl, hlt, h.cells (g := g) rfl⟩
end
def Blk (w : World) (g : Nat) (t : TypeId) (cs : Array Value) : Prop := w.heap[g]? = some (.cells cs t (0, 0))
section
variable {w w' : World} {g : Nat} {t : TypeId} {cs : Array Value}
theorem Blk.lt (h : Blk w g t cs) : g < w.heap.size := by
 rcases Nat.lt_or_ge g w.heap.size with hlt | hge
 ·exact hlt
 ·unfold Blk at h; rw [Array.getElem?_eq_none hge] at h; cases h
theorem Blk.cell (h : Blk w g t cs) (i : Nat) : w.cell? ⟨g, i, none⟩ = cs[i]? := cell_of_row w g i cs t (0, 0) h
theorem Blk.frozen (h : Blk w g t cs) (i : Nat) : w.frozen? ⟨g, i, none⟩ = false := by
 unfold Blk at h
 simp [World.frozen?, h]
theorem Blk.new (w : World) (t : TypeId) (cs : Array Value) : Blk (w.alloc (.cells cs t)) w.heap.size t cs := heap_alloc_new w _
theorem Blk.drew (h : Blk w g t cs) : Blk w.drew g t cs := h
theorem Blk.drewN (h : Blk w g t cs) (n : Nat) : Blk (w.drewN n) g t cs := h
theorem Blk.alloc (h : Blk w g t cs) (o : Obj) : Blk (w.alloc o) g t cs := (Below.heap_alloc w o g h.lt).trans h
theorem Blk.set_ (h : Blk w g t cs) (i : Nat) (u : Value) : Blk (w.setCell ⟨g, i, none⟩ u) g t (cs.setIfInBounds i u) := by
 unfold Blk at h ⊢
 simp [World.setCell, Array.getElem?_modify, h]
theorem Blk.far (h : Blk w g t cs) {p : Addr} (hp : g ≠ p.block) (u : Value) : Blk (w.setCell p u) g t cs := (Below.heap_setCell w p u g hp).trans h
theorem Blk.below {B : Nat} (h : Blk w g t cs) (hb : Below B w w') (hg : g < B) : Blk w' g t cs := (hb.block g hg).trans h
theorem Blk.grown {row : Option Nat} (h : Blk w g t cs) (hb : w.grownBy w' row) (hg : some g ≠ row) : Blk w' g t cs := (hb.block g h.lt hg).trans h
theorem Blk.ne_ {g' : Nat} {t' : TypeId} {cs' : Array Value} (h : Blk w g t cs) (h' : Blk w g' t' cs') (hne : t ≠ t') : g ≠ g' := by
 rintro rfl
 unfold Blk at h h'
 rw [h] at h'
 injection h' with h'
 injection h' with _ ht
 exact hne ht
end
section
variable {P : Program} (w : World)
theorem run_append_of_nil (base : Nat) (t ty e : TypeId) (i : TypeInfo) (size : Nat) (ht : P.underlying t = some (.slice e)) (hi : P.info? e = some i)
  (v : Value) (n : Nat) (xs : List Value) (hown : w.ownsRow base e size v n xs) (c : Nat) : (Builtin.append_ #[t, t] ty #[v, .slice none 0 c]).run P w = .ok v w := by
 rcases hown.2 with ⟨rfl, rfl⟩ | ⟨g, cap, cur, rfl, _, _, hnc, _⟩
 ·simp [Builtin.append_, run_underlying ht, sizeOf, typeInfo, hi, Builtin.lenOf, Builtin.firstCells]
 ·simp [Builtin.append_, run_underlying ht, sizeOf, typeInfo, hi, Builtin.lenOf, Builtin.firstCells, hnc, storeCells]
theorem run_append_any (base : Nat) (t ty e : TypeId) (i : TypeInfo) (z : Value) (size bytes : Nat) (ht : P.underlying t = some (.slice e)) (hi : P.info? e = some i) (hz : i.zero = some z)
  (hsize : i.size = size) (hby : i.bytes = bytes) (hzs : z.cells.size = size) (hsz : 0 < size)
  (v : Value) (n : Nat) (xs : List Value) (hown : w.ownsRow base e size v n xs)
  (B : Nat) (A : Option Addr) (m c : Nat) (news : List Value) (hr : Reads w B size A m news) (h1 : ∀ u ∈ news, u.oneCell' = true)
  (h63 : n + m ≤ maxLen) (hbytes : (n + m) * bytes ≤ 140737488355328) (hbase : base ≤ w.heap.size) :
  ∃ v' w', (Builtin.append_ #[t, t] ty #[v, .slice A m c]).run P w = .ok v' w' ∧ w'.ownsRow base e size v' (n + m) (xs ++ news) ∧ w.grownBy w' v.ownBlock ∧
   (v'.ownBlock = v.ownBlock ∨ v'.ownBlock = some w.heap.size) := by
 rcases A with _ | ad
 ·have hm : m = 0 := by
   rcases Nat.eq_zero_or_pos m with h0 | h0
   ·exact h0
   ·obtain ⟨ad, h, _⟩ := hr.2 h0
    cases h
  subst hm
  have hn : news = [] := List.eq_nil_of_length_eq_zero (by simpa using hr.1)
  subst hn
  exact ⟨v, w, run_append_of_nil w base t ty e i size ht hi v n xs hown c, by simpa using hown, World.grownBy.refl w _, .inl rfl⟩
 ·have hcells : ∀ j u, news[j]? = some u → w.cell? (ad.add j) = some u := by
   intro j u hu
   rcases Nat.eq_zero_or_pos m with h0 | h0
   ·subst h0
    have hn : news = [] := List.eq_nil_of_length_eq_zero (by simpa using hr.1)
    subst hn
    simp at hu
   ·obtain ⟨ad', h, _, hc⟩ := hr.2 h0
    injection h with h
    subst h
    exact hc j u hu
  obtain ⟨v', w', hrun, h2, h3, _, h5⟩ := run_append_own_at (P := P) w base t ty e i z size bytes ht hi hz hsize hby hzs hsz v n xs hown ad m c news hr.1 hcells h1 h63 hbytes hbase
  exact ⟨v', w', hrun, h2, h3, h5⟩
theorem wp_append_any {o : Oper} {a : Act} {K : Act → World → Prop} {Q : Exit → Act → World → Prop} (s x : Operand) (t : TypeId)
  (ho : o.op = .call { callee := .builtin .append, args := #[s, x], argTypes := #[t, t] })
  (base : Nat) (e : TypeId) (i : TypeInfo) (z : Value) (size bytes : Nat) (ht : P.underlying t = some (.slice e)) (hi : P.info? e = some i) (hz : i.zero = some z)
  (hsize : i.size = size) (hby : i.bytes = bytes) (hzs : z.cells.size = size) (hsz : 0 < size)
  (v : Value) (n : Nat) (xs : List Value) (hs : a.eval s = v) (hown : w.ownsRow base e size v n xs)
  (B : Nat) (A : Option Addr) (m c : Nat) (news : List Value) (hx : a.eval x = .slice A m c) (hr : Reads w B size A m news) (h1 : ∀ u ∈ news, u.oneCell' = true)
  (h63 : n + m ≤ maxLen) (hbytes : (n + m) * bytes ≤ 140737488355328) (hbase : base ≤ w.heap.size)
  (h : ∀ v' w', w'.ownsRow base e size v' (n + m) (xs ++ news) → w.grownBy w' v.ownBlock → (v'.ownBlock = v.ownBlock ∨ v'.ownBlock = some w.heap.size) → K (a.put o.dst v') w') : o.wp P a w K Q := by
 obtain ⟨v', w', hrun, h2, h3, h4⟩ := run_append_any (P := P) w base t o.type e i z size bytes ht hi hz hsize hby hzs hsz v n xs hown B A m c news hr h1 h63 hbytes hbase
 unfold Oper.wp execOp
 simp only [ho, resolve, invoke, builtin, Sem.run_bind, Sem.run_pure, Result.andThen_ok, List.map_toArray, List.map_cons, List.map_nil, hs, hx, hrun]
 exact h v' w' h2 h3 h4
theorem wpList_append_any {ops : Array Oper} {rest : List Oper} {o : Oper} {a : Act} {Q : Exit → Act → World → Prop} (hgd : o.guard = none) (s x : Operand) (t : TypeId)
  (ho : o.op = .call { callee := .builtin .append, args := #[s, x], argTypes := #[t, t] })
  (base : Nat) (e : TypeId) (i : TypeInfo) (z : Value) (size bytes : Nat) (ht : P.underlying t = some (.slice e)) (hi : P.info? e = some i) (hz : i.zero = some z)
  (hsize : i.size = size) (hby : i.bytes = bytes) (hzs : z.cells.size = size) (hsz : 0 < size)
  (v : Value) (n : Nat) (xs : List Value) (hs : a.eval s = v) (hown : w.ownsRow base e size v n xs)
  (B : Nat) (A : Option Addr) (m c : Nat) (news : List Value) (hx : a.eval x = .slice A m c) (hr : Reads w B size A m news) (h1 : ∀ u ∈ news, u.oneCell' = true)
  (h63 : n + m ≤ maxLen) (hbytes : (n + m) * bytes ≤ 140737488355328) (hbase : base ≤ w.heap.size)
  (h : ∀ v' w', w'.ownsRow base e size v' (n + m) (xs ++ news) → w.grownBy w' v.ownBlock → (v'.ownBlock = v.ownBlock ∨ v'.ownBlock = some w.heap.size) → wpList P ops Q rest (a.put o.dst v') w') : wpList P ops Q (o :: rest) a w :=
 wpList_plain hgd fun _ hK => wp_append_any w s x t ho base e i z size bytes ht hi hz hsize hby hzs hsz v n xs hs hown B A m c news hx hr h1 h63 hbytes hbase fun v' w' h2 h3 h4 => hK _ _ (h v' w' h2 h3 h4)
theorem step_append_any {ops : Array Oper} {o : Oper} {a : Act} {K : Act → World → Prop} {Q : Exit → Act → World → Prop} {E : Prop} (hgd : o.guard = none) (s x : Operand) (t : TypeId)
  (ho : o.op = .call { callee := .builtin .append, args := #[s, x], argTypes := #[t, t] })
  (base : Nat) (e : TypeId) (i : TypeInfo) (z : Value) (size bytes : Nat) (ht : P.underlying t = some (.slice e)) (hi : P.info? e = some i) (hz : i.zero = some z)
  (hsize : i.size = size) (hby : i.bytes = bytes) (hzs : z.cells.size = size) (hsz : 0 < size)
  (v : Value) (n : Nat) (xs : List Value) (hs : a.eval s = v) (hown : w.ownsRow base e size v n xs)
  (B : Nat) (A : Option Addr) (m c : Nat) (news : List Value) (hx : a.eval x = .slice A m c) (hr : Reads w B size A m news) (h1 : ∀ u ∈ news, u.oneCell' = true)
  (h63 : n + m ≤ maxLen) (hbytes : (n + m) * bytes ≤ 140737488355328) (hbase : base ≤ w.heap.size)
  (h : ∀ v' w', w'.ownsRow base e size v' (n + m) (xs ++ news) → w.grownBy w' v.ownBlock → (v'.ownBlock = v.ownBlock ∨ v'.ownBlock = some w.heap.size) → K (a.put o.dst v') w') :
  if Region.wanted o (yielded ops a.tmps) = true then Oper.wp P o a w K Q else E := by
 have hw : Region.wanted o (yielded ops a.tmps) = true := by simp [Region.wanted, hgd]
 rw [if_pos hw]
 exact wp_append_any w s x t ho base e i z size bytes ht hi hz hsize hby hzs hsz v n xs hs hown B A m c news hx hr h1 h63 hbytes hbase h
end
end Go.Proofs.YtefkpphahimkgaaGreatDoor
namespace Go.Proofs.YtefkpphahimkgaaGreatDoor
open Go.RowKit
structure Fr (S : Nat → Prop) (w w' : World) : Prop where
 os : w'.os = w.os
 tape : w'.tape = w.tape
 output : w'.output = w.output
 size : w.heap.size ≤ w'.heap.size
 block : ∀ k, k < w.heap.size → ¬ S k → w'.heap[k]? = w.heap[k]?
section
variable {S T : Nat → Prop} {a w w' w'' : World}
theorem Fr.refl (S : Nat → Prop) (w : World) : Fr S w w := ⟨rfl, rfl, rfl, Nat.le_refl _, fun _ _ _ => rfl⟩
theorem Fr.trans (h : Fr S a w) (k : Fr S w w') : Fr S a w' :=
 ⟨k.os.trans h.os, k.tape.trans h.tape, k.output.trans h.output, Nat.le_trans h.size k.size, fun i hi hs => (k.block i (Nat.lt_of_lt_of_le hi h.size) hs).trans (h.block i hi hs)⟩
theorem Fr.mono (h : Fr S a w) (hST : ∀ k, k < a.heap.size → S k → T k) : Fr T a w := ⟨h.os, h.tape, h.output, h.size, fun i hi hs => h.block i hi (fun x => hs (hST i hi x))⟩
theorem Fr.drew (h : Fr S a w) : Fr S a w.drew := ⟨h.os, h.tape, h.output, h.size, h.block⟩
theorem Fr.drewN (h : Fr S a w) (n : Nat) : Fr S a (w.drewN n) := ⟨h.os, h.tape, h.output, h.size, h.block⟩
theorem Fr.alloc (h : Fr S a w) (o : Obj) : Fr S a (w.alloc o) :=
 ⟨h.os, h.tape, h.output, Nat.le_trans h.size (by simp), fun i hi hs => (Below.heap_alloc w o i (Nat.lt_of_lt_of_le hi h.size)).trans (h.block i hi hs)⟩
theorem Fr.setCell (h : Fr S a w) {p : Addr} (hp : p.block < a.heap.size → S p.block) (u : Value) : Fr S a (w.setCell p u) :=
 ⟨h.os, h.tape, h.output, by simpa [World.setCell] using h.size, fun i hi hs => (Below.heap_setCell w p u i (by rintro rfl; exact hs (hp hi))).trans (h.block i hi hs)⟩
theorem Fr.of_below (h : Below a.heap.size a w) : Fr S a w := ⟨h.os, h.tape, h.output, h.size, fun i hi _ => h.block i hi⟩
theorem Fr.below (h : Fr S a w) (k : Below w.heap.size w w') : Fr S a w' := h.trans (Fr.of_below k)
theorem Fr.to_below (h : Fr S a w) (hS : ∀ k, k < a.heap.size → ¬ S k) : Below a.heap.size a w := ⟨h.os, h.tape, h.output, h.size, fun i hi => h.block i hi (hS i hi)⟩
theorem Fr.of_grown {row : Option Nat} (h : w.grownBy w' row) (hS : ∀ k, row = some k → S k) : Fr S w w' := ⟨h.os, h.tape, h.output, h.size, fun i hi hs => h.block i hi (fun e => hs (hS i e.symm))⟩
theorem Fr.grown {row : Option Nat} (h : Fr S a w) (hg : w.grownBy w' row) (hS : ∀ k, row = some k → k < a.heap.size → S k) : Fr S a w' :=
 ⟨hg.os.trans h.os, hg.tape.trans h.tape, hg.output.trans h.output, Nat.le_trans h.size hg.size, fun i hi hs => (hg.block i (Nat.lt_of_lt_of_le hi h.size) (fun e => hs (hS i e.symm hi))).trans (h.block i hi hs)⟩
theorem Fr.below_trans {B : Nat} (hb : Below B a w) (h : Fr S w w') (hB : B ≤ w.heap.size) (hS : ∀ k, S k → B ≤ k) : Below B a w' :=
 ⟨h.os.trans hb.os, h.tape.trans hb.tape, h.output.trans hb.output, Nat.le_trans hb.size h.size, fun i hi => (h.block i (Nat.lt_of_lt_of_le hi hB) (fun x => by have := hS i x; omega)).trans (hb.block i hi)⟩
theorem Fr.cell (h : Fr S w w') {p : Addr} (hp : p.block < w.heap.size) (hs : ¬ S p.block) : w'.cell? p = w.cell? p := World.cell?_of_block (h.block p.block hp hs)
theorem Fr.frozen (h : Fr S w w') {p : Addr} (hp : p.block < w.heap.size) (hs : ¬ S p.block) : w'.frozen? p = w.frozen? p := World.frozen?_of_block (h.block p.block hp hs)
theorem Blk.fr {g : Nat} {t : TypeId} {cs : Array Value} (h : Blk w g t cs) (hf : Fr S w w') (hg : ¬ S g) : Blk w' g t cs := (hf.block g h.lt hg).trans h
theorem Reads.fr {B size n : Nat} {A : Option Addr} {xs : List Value} (h : Reads w B size A n xs) (hf : Fr S w w') (hB : B ≤ w.heap.size) (hs : ∀ ad, A = some ad → ¬ S ad.block) : Reads w' B size A n xs :=
 ⟨h.1, fun hn => by
  obtain ⟨ad, e, hb, hc⟩ := h.2 hn
  exact ⟨ad, e, hb, fun j u hu => (hf.cell (by rw [block_of_add]; omega) (by rw [block_of_add]; exact hs ad e)).trans (hc j u hu)⟩⟩
end
def RB (w : World) (A : Option Addr) (l : List UInt8) : Prop := Reads w w.heap.size 1 A l.length (Lib.byteCells l)
def OB (w : World) (base : Nat) (v : Value) (l : List UInt8) : Prop := w.ownsRow base 5 1 v l.length (Lib.byteCells l)
section
variable {S : Nat → Prop} {w w' : World} {A : Option Addr} {l : List UInt8} {base : Nat} {v : Value}
theorem RB.nil (w : World) : RB w none [] := Reads.none_
theorem RB.below (h : RB w A l) (hb : Below w.heap.size w w') : RB w' A l := (Reads.below h hb).more hb.size
theorem RB.fr (h : RB w A l) (hf : Fr S w w') (hs : ∀ ad, A = some ad → ¬ S ad.block) : RB w' A l := (Reads.fr h hf (Nat.le_refl _) hs).more hf.size
theorem RB.at_ (h : RB w A l) {k : Nat} (hk : k < l.length) : ∃ ad, A = some ad ∧ ad.block < w.heap.size ∧ w.cell? (ad.add k) = some (.int .u8 (l[k].toNat : Int)) := by
 obtain ⟨ad, u, e, hb, hx, hc⟩ := Reads.at_ h hk
 refine ⟨ad, e, hb, ?_⟩
 rw [hc]
 simp [Lib.byteCells, hk] at hx
 rw [hx]
theorem RB.cut (h : RB w A l) {k cap : Nat} (hk : k ≤ l.length) (hc : l.length ≤ cap) : RB w (if cap = k then A else A.map (·.add k)) (l.drop k) := by
 have := Reads.cut h hk hc
 unfold RB
 simp only [Nat.mul_one] at this
 rw [List.length_drop]
 simpa [Lib.byteCells, List.map_drop] using this
theorem RB.take (h : RB w A l) {k : Nat} (hk : k ≤ l.length) : RB w A (l.take k) := by
 refine ⟨by simp [Lib.byteCells], fun hn => ?_⟩
 have hkl : (l.take k).length = k := by rw [List.length_take]; omega
 rw [hkl] at hn
 obtain ⟨ad, e, hb, hc⟩ := h.2 (by omega)
 refine ⟨ad, e, hb, fun j u hu => hc j u ?_⟩
 have hj : j < (l.take k).length := by
  rcases Nat.lt_or_ge j (l.take k).length with h1 | h1
  ·exact h1
  ·rw [List.getElem?_eq_none (by simpa [Lib.byteCells] using h1)] at hu; cases hu
 rw [← hu]
 simp only [Lib.byteCells, List.getElem?_map]
 rw [List.getElem?_take_of_lt (by omega)]
theorem OB.shape (h : OB w base v l) : ∃ A c, v = .slice A l.length c ∧ l.length ≤ c ∧ c ≤ maxLen ∧ RB w A l ∧ (∀ ad, A = some ad → base ≤ ad.block ∧ ad.block < w.heap.size ∧ ad = ⟨ad.block, 0, none⟩) := by
 rcases h.2 with ⟨hv, h0⟩ | ⟨g, cap, cur, hv, hg, hh, hn, hm, _⟩
 ·have : l = [] := List.eq_nil_of_length_eq_zero h0
  subst this
  exact ⟨none, 0, hv, by simp, by simp [maxLen], RB.nil w, by simp⟩
 ·subst hv
  refine ⟨_, _, rfl, hn, hm, Reads.of_own h, ?_⟩
  rintro ad ⟨rfl⟩
  exact ⟨hg, Blk.lt (t := 5) hh, rfl⟩
theorem OB.below (h : OB w base v l) (hb : Below w.heap.size w w') : OB w' base v l := by
 refine ⟨h.1, ?_⟩
 rcases h.2 with h0 | ⟨g, cap, cur, hv, hg, hh, hn⟩
 ·exact .inl h0
 ·exact .inr ⟨g, cap, cur, hv, hg, (hb.block g (Blk.lt (t := 5) hh)).trans hh, hn⟩
theorem OB.fr (h : OB w base v l) (hf : Fr S w w') (hs : ∀ g, v.ownBlock = some g → ¬ S g) : OB w' base v l := by
 refine ⟨h.1, ?_⟩
 rcases h.2 with h0 | ⟨g, cap, cur, hv, hg, hh, hn⟩
 ·exact .inl h0
 ·exact .inr ⟨g, cap, cur, hv, hg, (hf.block g (Blk.lt (t := 5) hh) (hs g (by rw [hv]; rfl))).trans hh, hn⟩
theorem OB.mono (h : OB w base v l) {b' : Nat} (hb : b' ≤ base) : OB w b' v l := by
 refine ⟨h.1, ?_⟩
 rcases h.2 with h0 | ⟨g, cap, cur, hv, hg, hh⟩
 ·exact .inl h0
 ·exact .inr ⟨g, cap, cur, hv, by omega, hh⟩
theorem OB.nil (w : World) (base : Nat) : OB w base (.slice none 0 0) [] := World.ownsRow_nil _ _ _ _
end
end Go.Proofs.YtefkpphahimkgaaGreatDoor
namespace Go.Proofs.YtefkpphahimkgaaGreatDoor
open Go.RowKit
theorem sizeBuilder : (Tryz.prog.info? 132).map (fun i => i.size) = some 2 := by kernel_rfl
theorem liesBuilder : liesAt Tryz.prog Tryz.prog.depth 132 (2 / Tryz.prog.cellsOf 132) 0 132 1 = true := by kernel_rfl
theorem infoByte : (Tryz.prog.info? 5).map (fun i => (i.zero, i.size, i.bytes)) = some (some (.int .u8 0), 1, 1) := by kernel_rfl
set_option maxHeartbeats 1000000 in
set_option maxRecDepth 100000 in
theorem copyCheck_used (b : Nat) (w : World) (h0 : w.cell? ⟨b, 0, none⟩ = some (.pointer (some ⟨b, 0, none⟩))) :
  Calls Tryz.prog 136 #[.pointer (some ⟨b, 0, none⟩)] w fun e w' => e = .returned (.tuple #[]) ∧ w' = w := by
 obtain ⟨j, hj, _⟩ := Option.map_eq_some_iff.1 sizeBuilder
 go_enter Tryz.func136, Tryz.ntmps136
 go_wp2
 rw [Lib.run_neq_ptr_same w _ Tryz.underlying130 hj]
 go_wp2
 go_end0
 exact ⟨rfl, rfl⟩
set_option maxHeartbeats 1000000 in
set_option maxRecDepth 100000 in
theorem copyCheck_fresh (b : Nat) (w : World) (h0 : w.cell? ⟨b, 0, none⟩ = some (.pointer none)) (hsh : w.shape? b = some (132, 2)) (hfz : w.frozen? ⟨b, 0, none⟩ = false) :
  Calls Tryz.prog 136 #[.pointer (some ⟨b, 0, none⟩)] w fun e w' => e = .returned (.tuple #[]) ∧ w' = w.setCell ⟨b, 0, none⟩ (.pointer (some ⟨b, 0, none⟩)) := by
 obtain ⟨j, hj, hjs⟩ := Option.map_eq_some_iff.1 sizeBuilder
 go_enter Tryz.func136, Tryz.ntmps136
 go_wp2
 rw [Lib.run_to_unsafe w ⟨b, 0, none⟩ Tryz.underlying130 Tryz.underlying195 hj (by rw [hjs]; decide) hsh (Nat.zero_lt_succ 1)]
 simp only [Result.andThen]
 rw [Oper.upon_value]
 go_wp2
 rw [run_callFunc_extern Tryz.func163 (by kernel_rfl) (by kernel_rfl) (by kernel_rfl) (e := Extern.AbiNoEscape.same) (by kernel_rfl)]
 rw [Lib.run_noEscape]
 simp only [Result.andThen]
 rw [Oper.upon_value]
 go_wp2
 rw [Lib.run_from_unsafe w ⟨b, 0, none⟩ Tryz.underlying195 Tryz.underlying130 hj hsh liesBuilder]
 simp only [Result.andThen]
 rw [Oper.upon_value]
 go_wp2
 go_end0
 exact ⟨rfl, rfl⟩
theorem copyCheck_any (B b : Nat) (bs : List Value) (w : World) (h : Lib.IsBuilder 132 5 B b bs w) :
  Calls Tryz.prog 136 #[.pointer (some ⟨b, 0, none⟩)] w fun e w' => e = .returned (.tuple #[]) ∧ (Lib.BuilderAt 132 5 B b (.pointer (some ⟨b, 0, none⟩)) bs w' ∧ Below B w w') := by
 rcases h with h | h
 ·refine (copyCheck_fresh b w h.cell0 h.shape h.frozen0).mono ?_
  rintro e w' ⟨rfl, rfl⟩
  exact ⟨rfl, h.used _, (Below.refl B w).setCell (p := ⟨b, 0, none⟩) h.1 _⟩
 ·refine (copyCheck_used b w h.cell0).mono ?_
  rintro e w' ⟨rfl, rfl⟩
  exact ⟨rfl, h, Below.refl B _⟩
set_option maxHeartbeats 2000000 in
set_option maxRecDepth 100000 in
theorem writeByte_any (B b : Nat) (bs : List Value) (c : Int) (w : World) (h : Lib.IsBuilder 132 5 B b bs w) (hlen : bs.length + 1 ≤ 140737488355328) (hBw : B ≤ w.heap.size) :
  Calls Tryz.prog 99 #[.pointer (some ⟨b, 0, none⟩), .int .u8 c] w fun e w' => e = .returned .nilIface ∧ (Lib.BuilderAt 132 5 B b (.pointer (some ⟨b, 0, none⟩)) (bs ++ [.int .u8 c]) w' ∧ Below B w w') := by
 obtain ⟨i0, hi, hz0, hz1, hz2⟩ := info_parts infoByte
 go_enter Tryz.func99, Tryz.ntmps99
 go_wp2_with (go_at_call 136; refine (copyCheck_any B b bs _ h).mono ?_)
 rintro e w1 ⟨rfl, h1, hb1⟩
 obtain ⟨hB, v, hbk, hown, hne⟩ := h1
 have c0 : w1.cell? ⟨b, 0, none⟩ = some (.pointer (some ⟨b, 0, none⟩)) := by rw [Lib.cell_of_heap hbk]; rfl
 have c1 : w1.cell? ⟨b, 1, none⟩ = some v := by rw [Lib.cell_of_heap hbk]; rfl
 go_wp2_with (at_builtin; refine wpList_append_own _ rfl _ _ 45 rfl B 5 i0 (.int .u8 0) 1 1 Tryz.underlying45 hi hz0 hz1 hz2 rfl (by decide) _ _ _ rfl (hown.alloc _) ⟨w1.heap.size, 0, none⟩ 1 1 [.int .u8 c] rfl rfl ?c1 ?c2 ?c3 ?c4 ?c5 ?_)
 case c1 =>
  intro j u hj
  match j, hj with
  | 0, hj => simp at hj; subst hj; simp [Addr.add]
 case c2 => intro u hu; simp at hu; subst hu; rfl
 case c3 => unfold maxLen; omega
 case c4 => omega
 case c5 => have := hb1.size; simp; omega
 intro v' w2 hown' hgrow _
 have hlt : b < w1.heap.size := by
  rcases Nat.lt_or_ge b w1.heap.size with h' | h'
  ·exact h'
  ·simp [Array.getElem?_eq_none h'] at hbk
 have hb2 : w2.heap[b]? = some (.cells #[.pointer (some ⟨b, 0, none⟩), v] 132 (0, 0)) := by
  rw [hgrow.block b (by simp; omega) (fun e => hne e.symm), Lib.alloc_old w1 _ b hlt]
  exact hbk
 have d0 : w2.cell? ⟨b, 0, none⟩ = some (.pointer (some ⟨b, 0, none⟩)) := by rw [Lib.cell_of_heap hb2]; rfl
 have d1 : w2.cell? ⟨b, 1, none⟩ = some v := by rw [Lib.cell_of_heap hb2]; rfl
 have f1 : w2.frozen? ⟨b, 1, none⟩ = false := Lib.frozen_of_heap hb2 1
 obtain ⟨g, cap, rfl⟩ : ∃ g cap, v' = .slice (some ⟨g, 0, none⟩) (bs.length + 1) cap := by
  rcases hown'.2 with ⟨_, h0⟩ | ⟨g, cap, cur, hv, _⟩
  ·omega
  ·exact ⟨g, cap, hv⟩
 go_wp2
 go_ret
 refine ⟨rfl, ?_, ?_⟩
 ·exact Lib.BuilderAt.put (T := 132) (e := 5) hB hb2 (bs' := bs ++ [.int .u8 c]) (by simpa using hown') (by decide)
 ·exact ((hb1.alloc (by have := hb1.size; omega) _).grown hgrow (by have := hb1.size; simp; omega) (fun k hk => (hown.lt k hk).1)).setCell (p := ⟨b, 1, none⟩) hB _
theorem oneCell_bytes (l : List UInt8) : ∀ u ∈ Lib.byteCells l, u.oneCell' = true := by
 intro u hu
 simp only [Lib.byteCells, List.mem_map] at hu
 obtain ⟨b, _, rfl⟩ := hu
 rfl
theorem app_bytes (w : World) {ops : Array Oper} {rest : List Oper} {o : Oper} {a : Act} {Q : Exit → Act → World → Prop} (hgd : o.guard = none) (s x : Operand)
  (ho : o.op = .call { callee := .builtin .append, args := #[s, x], argTypes := #[45, 45] })
  (base : Nat) (v : Value) (l : List UInt8) (hs : a.eval s = v) (hown : OB w base v l) (A : Option Addr) (n c : Nat) (l2 : List UInt8) (hx : a.eval x = .slice A n c) (hn : l2.length = n) (hr : RB w A l2)
  (hlen : l.length + n ≤ 140737488355328) (hbase : base ≤ w.heap.size)
  (h : ∀ v' w', OB w' base v' (l ++ l2) → w.grownBy w' v.ownBlock → (v'.ownBlock = v.ownBlock ∨ v'.ownBlock = some w.heap.size) → wpList Tryz.prog ops Q rest (a.put o.dst v') w') : wpList Tryz.prog ops Q (o :: rest) a w := by
 obtain ⟨i0, hi0, hz0, hz1, hz2⟩ := info_parts infoByte
 subst hn
 refine wpList_append_any w hgd s x _ ho base 5 i0 _ 1 1 Tryz.underlying45 hi0 hz0 hz1 hz2 rfl (by omega) v l.length (Lib.byteCells l) hs hown w.heap.size A l2.length c (Lib.byteCells l2) hx hr (oneCell_bytes l2) (by simp only [maxLen]; omega) (by omega) hbase ?_
 intro v' w' h1 h2 h3
 refine h v' w' ?_ h2 h3
 unfold OB
 rw [Lib.byteCells_append, List.length_append]
 exact h1
theorem RB.one {w : World} {g : Nat} {b : UInt8} {x : Value} (h : w.cell? ⟨g, 0, none⟩ = some x) (hx : x = .int .u8 (b.toNat : Int)) (hg : g < w.heap.size) : RB w (some ⟨g, 0, none⟩) [b] :=
 ⟨rfl, fun _ => ⟨_, rfl, hg, fun j u hu => by
  match j, hu with
  | 0, hu => simp [Lib.byteCells] at hu; subst hu; rw [← hx]; simpa [Addr.add] using h⟩⟩
theorem app_one (w : World) {ops : Array Oper} {rest : List Oper} {o : Oper} {a : Act} {Q : Exit → Act → World → Prop} (hgd : o.guard = none) (s x : Operand)
  (ho : o.op = .call { callee := .builtin .append, args := #[s, x], argTypes := #[45, 45] })
  (base : Nat) (v : Value) (l : List UInt8) (hs : a.eval s = v) (hown : OB w base v l) (b : UInt8) (y : Value) (hy : y = .int .u8 (b.toNat : Int)) (hx : a.eval x = .slice (some ⟨w.heap.size, 0, none⟩) 1 1)
  (hlen : l.length + 1 ≤ 140737488355328) (hbase : base ≤ w.heap.size)
  (h : ∀ v' w', OB w' base v' (l ++ [b]) → (w.alloc (.cells #[y] 5)).grownBy w' v.ownBlock → (v'.ownBlock = v.ownBlock ∨ v'.ownBlock = some (w.heap.size + 1)) → wpList Tryz.prog ops Q rest (a.put o.dst v') w') : wpList Tryz.prog ops Q (o :: rest) a (w.alloc (.cells #[y] 5)) := by
 have h1 : RB (w.alloc (.cells #[y] 5)) (some ⟨w.heap.size, 0, none⟩) [b] := RB.one (x := y) (by rw [World.cell?_alloc_new]; rfl) hy (by simp)
 refine app_bytes _ hgd s x ho base v l hs (hown.below ((Below.refl _ _).alloc (Nat.le_refl _) _)) _ 1 1 [b] hx rfl h1 hlen (by simp; omega) ?_
 intro v' w' g1 g2 g3
 exact h v' w' g1 g2 (by simpa using g3)
theorem step_app_bytes (w : World) {ops : Array Oper} {o : Oper} {a : Act} {K : Act → World → Prop} {Q : Exit → Act → World → Prop} {E : Prop} (hgd : o.guard = none) (s x : Operand)
  (ho : o.op = .call { callee := .builtin .append, args := #[s, x], argTypes := #[45, 45] })
  (base : Nat) (v : Value) (l : List UInt8) (hs : a.eval s = v) (hown : OB w base v l) (A : Option Addr) (n c : Nat) (l2 : List UInt8) (hx : a.eval x = .slice A n c) (hn : l2.length = n) (hr : RB w A l2)
  (hlen : l.length + n ≤ 140737488355328) (hbase : base ≤ w.heap.size)
  (h : ∀ v' w', OB w' base v' (l ++ l2) → w.grownBy w' v.ownBlock → (v'.ownBlock = v.ownBlock ∨ v'.ownBlock = some w.heap.size) → K (a.put o.dst v') w') :
  if Region.wanted o (yielded ops a.tmps) = true then Oper.wp Tryz.prog o a w K Q else E := by
 obtain ⟨i0, hi0, hz0, hz1, hz2⟩ := info_parts infoByte
 subst hn
 refine step_append_any w hgd s x _ ho base 5 i0 _ 1 1 Tryz.underlying45 hi0 hz0 hz1 hz2 rfl (by omega) v l.length (Lib.byteCells l) hs hown w.heap.size A l2.length c (Lib.byteCells l2) hx hr (oneCell_bytes l2) (by simp only [maxLen]; omega) (by omega) hbase ?_
 intro v' w' h1 h2 h3
 refine h v' w' ?_ h2 h3
 unfold OB
 rw [Lib.byteCells_append, List.length_append]
 exact h1
theorem lit_rb (w : World) (l : List UInt8) (cs : Array Value) (h : cs = (Lib.byteCells l).toArray) : RB (w.alloc (.cells cs 5)) (some ⟨w.heap.size, 0, none⟩) l := by
 subst h
 refine ⟨by simp [Lib.byteCells], fun hn => ⟨_, rfl, by simp, fun j u hu => ?_⟩⟩
 have : ((⟨w.heap.size, 0, none⟩ : Addr).add j) = ⟨w.heap.size, j, none⟩ := by unfold Addr.add; split <;> simp_all
 rw [this, (Blk.new w 5 _).cell j]
 simpa using hu
theorem RB.drew' {w : World} {A : Option Addr} {l : List UInt8} (h : RB w A l) : RB w.drew A l := h
theorem OB.drew {w : World} {b : Nat} {v : Value} {l : List UInt8} (h : OB w b v l) : OB w.drew b v l := h
theorem OB.alloc {w : World} {b : Nat} {v : Value} {l : List UInt8} (h : OB w b v l) (o : Obj) : OB (w.alloc o) b v l := h.below ((Below.refl _ _).alloc (Nat.le_refl _) _)
theorem OB.grown_ge {w : World} {base : Nat} {v : Value} {l : List UInt8} (h : OB w base v l) : ∀ k, v.ownBlock = some k → base ≤ k := fun k hk => (World.ownsRow.lt h k hk).1
end Go.Proofs.YtefkpphahimkgaaGreatDoor
namespace Go.Proofs.YtefkpphahimkgaaGreatDoor
open Go.RowKit
set_option linter.unusedVariables false
def OR (e : TypeId) (w : World) (base : Nat) (v : Value) (xs : List Value) : Prop := w.ownsRow base e 1 v xs.length xs
section
variable {e : TypeId} {S : Nat → Prop} {w w' : World} {base : Nat} {v : Value} {xs : List Value}
theorem OR.nil (e : TypeId) (w : World) (base : Nat) : OR e w base (.slice none 0 0) [] := World.ownsRow_nil _ _ _ _
theorem OR.shape (h : OR e w base v xs) : ∃ A c, v = .slice A xs.length c ∧ xs.length ≤ c ∧ c ≤ maxLen ∧ Reads w w.heap.size 1 A xs.length xs ∧ (∀ ad, A = some ad → base ≤ ad.block ∧ ad.block < w.heap.size ∧ ad = ⟨ad.block, 0, none⟩) := by
 rcases h.2 with ⟨hv, h0⟩ | ⟨g, cap, cur, hv, hg, hh, hn, hm, _⟩
 ·have : xs = [] := List.eq_nil_of_length_eq_zero h0
  subst this
  exact ⟨none, 0, hv, by simp, by simp [maxLen], Reads.none_, by simp⟩
 ·subst hv
  refine ⟨_, _, rfl, hn, hm, Reads.of_own h, ?_⟩
  rintro ad ⟨rfl⟩
  exact ⟨hg, Blk.lt (t := e) hh, rfl⟩
theorem OR.below (h : OR e w base v xs) (hb : Below w.heap.size w w') : OR e w' base v xs := by
 refine ⟨h.1, ?_⟩
 rcases h.2 with h0 | ⟨g, cap, cur, hv, hg, hh, hn⟩
 ·exact .inl h0
 ·exact .inr ⟨g, cap, cur, hv, hg, (hb.block g (Blk.lt (t := e) hh)).trans hh, hn⟩
theorem OR.fr (h : OR e w base v xs) (hf : Fr S w w') (hs : ∀ g, v.ownBlock = some g → ¬ S g) : OR e w' base v xs := by
 refine ⟨h.1, ?_⟩
 rcases h.2 with h0 | ⟨g, cap, cur, hv, hg, hh, hn⟩
 ·exact .inl h0
 ·exact .inr ⟨g, cap, cur, hv, hg, (hf.block g (Blk.lt (t := e) hh) (hs g (by rw [hv]; rfl))).trans hh, hn⟩
theorem OR.mono (h : OR e w base v xs) {b' : Nat} (hb : b' ≤ base) : OR e w b' v xs := by
 refine ⟨h.1, ?_⟩
 rcases h.2 with h0 | ⟨g, cap, cur, hv, hg, hh⟩
 ·exact .inl h0
 ·exact .inr ⟨g, cap, cur, hv, by omega, hh⟩
theorem OR.drew (h : OR e w base v xs) : OR e w.drew base v xs := h
theorem OR.drewN (h : OR e w base v xs) (n : Nat) : OR e (w.drewN n) base v xs := h
theorem OR.alloc (h : OR e w base v xs) (o : Obj) : OR e (w.alloc o) base v xs := h.below ((Below.refl _ _).alloc (Nat.le_refl _) _)
theorem OR.ge (h : OR e w base v xs) : ∀ k, v.ownBlock = some k → base ≤ k := fun k hk => (World.ownsRow.lt h k hk).1
theorem OR.lt (h : OR e w base v xs) : ∀ k, v.ownBlock = some k → k < w.heap.size := fun k hk => (World.ownsRow.lt h k hk).2
end
theorem app_cell (w : World) {ops : Array Oper} {rest : List Oper} {o : Oper} {a : Act} {Q : Exit → Act → World → Prop} (hgd : o.guard = none) (s x : Operand) (t e : TypeId) (z : Value) (bytes : Nat)
  (ht : Tryz.prog.underlying t = some (.slice e)) (hinfo : (Tryz.prog.info? e).map (fun i => (i.zero, i.size, i.bytes)) = some (some z, 1, bytes)) (hzs : z.cells.size = 1)
  (ho : o.op = .call { callee := .builtin .append, args := #[s, x], argTypes := #[t, t] })
  (base : Nat) (v : Value) (xs : List Value) (hs : a.eval s = v) (hown : OR e w base v xs) (y : Value) (hy : y.oneCell' = true) (hx : a.eval x = .slice (some ⟨w.heap.size, 0, none⟩) 1 1)
  (hlen : xs.length + 1 ≤ maxLen) (hby : (xs.length + 1) * bytes ≤ 140737488355328) (hbase : base ≤ w.heap.size)
  (h : ∀ v' w', OR e w' base v' (xs ++ [y]) → (w.alloc (.cells #[y] e)).grownBy w' v.ownBlock → (v'.ownBlock = v.ownBlock ∨ v'.ownBlock = some (w.heap.size + 1)) → wpList Tryz.prog ops Q rest (a.put o.dst v') w') : wpList Tryz.prog ops Q (o :: rest) a (w.alloc (.cells #[y] e)) := by
 obtain ⟨i0, hi0, hz0, hz1, hz2⟩ := info_parts hinfo
 have hr : Reads (w.alloc (.cells #[y] e)) (w.alloc (.cells #[y] e)).heap.size 1 (some ⟨w.heap.size, 0, none⟩) 1 [y] := by
  refine ⟨rfl, fun _ => ⟨_, rfl, by simp, fun j u hu => ?_⟩⟩
  match j, hu with
  | 0, hu =>
   simp at hu
   subst hu
   have := (Blk.new w e #[y]).cell 0
   simp [Addr.add, this]
 refine wpList_append_any _ hgd s x t ho base e i0 z 1 bytes ht hi0 hz0 hz1 hz2 hzs (by omega) v xs.length xs hs (hown.alloc _) _ _ 1 1 [y] hx hr (fun u hu => by simp at hu; subst hu; exact hy) hlen hby (by simp; omega) ?_
 intro v' w' h1 h2 h3
 refine h v' w' ?_ h2 (by simpa using h3)
 unfold OR
 rw [List.length_append]
 exact h1
theorem below_grown {w w1 w' : World} {B : Nat} {v : Value} (hb : Below B w w1) (hg : w1.grownBy w' v.ownBlock) (hB : B ≤ w1.heap.size) (hv : ∀ k, v.ownBlock = some k → B ≤ k) : Below B w w' := hb.grown hg hB hv
end Go.Proofs.YtefkpphahimkgaaGreatDoor
namespace Go.Proofs.YtefkpphahimkgaaGreatDoor
open Go.RowKit
set_option linter.unusedVariables false
def NoBy (w : World) (g : Nat) : Prop := ∀ (o : Nat) (x : Int), w.cell? ⟨g, o, none⟩ ≠ some (.int .u8 x)
theorem cell_spot {w : World} {a : Addr} {v : Value} (h : w.cell? a = some v) : a = ⟨a.block, a.off, none⟩ := by
 obtain ⟨b, o, sp⟩ := a
 unfold World.cell? at h
 cases sp with
 | none => rfl
 | some k =>
  exfalso
  revert h
  simp only
  split
  ·simp
  ·simp
theorem RB.fr2 {S : Nat → Prop} {w w' : World} {A : Option Addr} {l : List UInt8} (h : RB w A l) (hf : Fr S w w') (hS : ∀ g, S g → g < w.heap.size → NoBy w g) : RB w' A l := by
 rcases Nat.eq_zero_or_pos l.length with h0 | h0
 ·exact ⟨h.1, fun hn => by omega⟩
 ·obtain ⟨ad, hA, hlt, hc⟩ := RB.at_ h h0
  refine RB.fr h hf ?_
  intro ad' hA' hs
  rw [hA] at hA'
  cases hA'
  have e := cell_spot hc
  rw [e] at hc
  have hb : (ad.add 0).block = ad.block := by unfold Addr.add; split <;> rfl
  rw [hb] at hc
  exact hS _ hs hlt _ _ hc
theorem NoBy.of_blk {w : World} {g : Nat} {t : TypeId} {cs : Array Value} (h : Blk w g t cs) (hno : ∀ (k : Nat) (x : Int), cs[k]? ≠ some (.int .u8 x)) : NoBy w g := fun o x => by rw [h.cell]; exact hno o x
theorem fr_cell {w : World} {g k : Nat} (u : Value) : Fr (· = g) w (w.setCell ⟨g, k, none⟩ u) := (Fr.refl (fun x => x = g) w).setCell (p := ⟨g, k, none⟩) (fun _ => rfl) u
theorem RB.of_blk {w : World} {g : Nat} {t : TypeId} {l : List UInt8} (h : Blk w g t (Lib.byteCells l).toArray) : RB w (some ⟨g, 0, none⟩) l := by
 refine ⟨by simp [Lib.byteCells], fun hn => ⟨_, rfl, h.lt, fun j u hu => ?_⟩⟩
 rw [Addr.add_lit, Nat.zero_add, h.cell j]
 simpa using hu
theorem made_zeros (z : Nat) : madeCells #[Value.int .u8 0] z = (Lib.byteCells (List.replicate z 0)).toArray := by
 simp only [madeCells, Lib.byteCells, List.map_replicate]
 apply Array.ext_getElem?
 intro j
 rcases Nat.lt_or_ge j z with hj | hj
 ·simp [hj, Nat.mod_one]
 ·rw [Array.getElem?_eq_none (by simp; omega), Array.getElem?_eq_none (by simp; omega)]
def Clean (w : World) (v : Value) : Prop := ∀ g, v.ownBlock = some g → NoBy w g
def NoB (xs : List Value) : Prop := ∀ u ∈ xs, ∀ x : Int, u ≠ .int .u8 x
section
variable {w w' : World} {v : Value}
theorem Clean.nil (w : World) : Clean w (.slice none 0 0) := fun g h => by cases h
theorem Clean.cell {w' : World} (h : Clean w v) (hc : ∀ g o, v.ownBlock = some g → w'.cell? ⟨g, o, none⟩ = w.cell? ⟨g, o, none⟩) : Clean w' v := fun g hg o x => by rw [hc g o hg]; exact h g hg o x
theorem NoBy.fr {S : Nat → Prop} {g : Nat} (h : NoBy w g) (hf : Fr S w w') (hg : g < w.heap.size) (hS : ¬ S g) : NoBy w' g := fun o x => by
 rw [hf.cell (p := ⟨g, o, none⟩) hg hS]; exact h o x
theorem Clean.fr {S : Nat → Prop} (h : Clean w v) (hf : Fr S w w') (hv : ∀ g, v.ownBlock = some g → g < w.heap.size ∧ ¬ S g) : Clean w' v := fun g hg => (h g hg).fr hf (hv g hg).1 (hv g hg).2
theorem NoB.append {xs ys : List Value} (h : NoB xs) (k : NoB ys) : NoB (xs ++ ys) := fun u hu => by
 rcases List.mem_append.1 hu with hu | hu
 ·exact h u hu
 ·exact k u hu
end
section
variable {P : Program} (w : World)
end
end Go.Proofs.YtefkpphahimkgaaGreatDoor
namespace Go.Proofs.YtefkpphahimkgaaGreatDoor
open Go.RowKit Go.Maps
set_option linter.unusedVariables false
def R0 (v : Value) : Option (DataW Value × List MemPlace) := some (.held v, [])
def keyI (i : Nat) : Lit := .int .i64 (i : Int)
def LMap (w : World) (M n : Nat) (f : Nat → Option Value) : Prop :=
 ∃ D : DataW Value, w.ownsMap Tryz.prog 3 R0 M n D ∧ (∀ i, i < 1000000 → ∀ z, D.atKey (keyI i) z = match f i with | none => z | some v => .held v) ∧ (∀ kl, has D kl = true → ∃ i, i < 1000000 ∧ kl = keyI i ∧ (f i).isSome = true)
section
variable {w w' : World} {M n : Nat} {f : Nat → Option Value} {S : Nat → Prop}
theorem LMap.new (w : World) : LMap (w.alloc (.map #[] 0)) w.heap.size 0 (fun _ => none) :=
 ⟨_, World.ownsMap_made _ _ _ _, fun i _ z => rfl, fun kl h => by simp [has] at h⟩
theorem LMap.lt (h : LMap w M n f) : M < w.heap.size := by obtain ⟨D, h, _⟩ := h; exact h.lt
theorem LMap.of_block (h : LMap w M n f) (hb : w'.heap[M]? = w.heap[M]?) : LMap w' M n f := by
 obtain ⟨D, ⟨es, clock, h1, h2⟩, h3⟩ := h
 exact ⟨D, ⟨es, clock, hb.trans h1, h2⟩, h3⟩
theorem LMap.below (h : LMap w M n f) (hb : Below w.heap.size w w') : LMap w' M n f := h.of_block (hb.block M h.lt)
theorem LMap.fr (h : LMap w M n f) (hf : Fr S w w') (hM : ¬ S M) : LMap w' M n f := h.of_block (hf.block M h.lt hM)
theorem LMap.drew (h : LMap w M n f) : LMap w.drew M n f := h
theorem LMap.mono (h : LMap w M n f) {m : Nat} (hm : n ≤ m) : LMap w M m f := by
 obtain ⟨D, h1, h2⟩ := h
 exact ⟨D, h1.mono hm, h2⟩
end
end Go.Proofs.YtefkpphahimkgaaGreatDoor
namespace Go.Proofs.YtefkpphahimkgaaGreatDoor
open Go.RowKit
set_option linter.unusedVariables false
theorem emptyRow (w : World) (B : Nat) (hB : B ≤ w.heap.size) : (w.alloc (.cells #[] 5)).ownsRow B 5 1 (.slice (some ⟨w.heap.size, 0, none⟩) 0 0) 0 [] :=
 ⟨rfl, .inr ⟨w.heap.size, 0, #[], rfl, hB, heap_alloc_new w _, Nat.le_refl _, by simp [maxLen], rfl, rfl⟩⟩
set_option maxRecDepth 100000 in
set_option maxHeartbeats 400000 in
theorem clone_any (A : Option Addr) (c : Nat) (l : List UInt8) (w : World) (hn : l.length ≤ 140737488355328) (hr : RB w A l) :
  Calls Tryz.prog 133 #[.slice A l.length c] w fun e w' => ∃ v, e = .returned v ∧ OB w' w.heap.size v l ∧ Below w.heap.size w w' := by
 have hne := fun W => Lib.run_eql_slice_nil (P := Tryz.prog) W 45 5 A l.length c 0 0 Tryz.underlying45
 rcases A with _ | ad
 ·have hl : l = [] := by
   rcases Nat.eq_zero_or_pos l.length with h0 | h0
   ·exact List.eq_nil_of_length_eq_zero h0
   ·obtain ⟨ad, h, _⟩ := hr.2 h0; cases h
  subst hl
  simp only [List.length_nil] at hne
  go_enter Tryz.func133, Tryz.ntmps133
  go_wp2
  go_ret
  exact ⟨_, rfl, OB.nil _ _, Below.refl _ _⟩
 ·obtain ⟨i0, hi0, hz0, hz1, hz2⟩ := info_parts infoByte
  have hr1 : Reads (w.alloc (.cells #[] 5)) w.heap.size 1 (some ad) l.length (Lib.byteCells l) := Reads.alloc hr (Nat.le_refl _) _
  have hown := emptyRow w w.heap.size (Nat.le_refl _)
  go_enter Tryz.func133, Tryz.ntmps133
  go_wp2_with (at_builtin; refine wpList_append_any _ rfl _ _ _ rfl w.heap.size 5 i0 _ 1 1 Tryz.underlying45 hi0 hz0 hz1 hz2 rfl (by omega) _ 0 [] rfl hown w.heap.size (some ad) l.length c _ rfl hr1 (oneCell_bytes l) (by simp only [maxLen]; omega) (by omega) (by simp) ?_; intro v1 w1 hown1 hg1 hat1)
  go_ret
  refine ⟨v1, rfl, by simpa [OB] using hown1, ?_⟩
  exact ((Below.refl _ _).alloc (Nat.le_refl _) _).grown hg1 (by simp) (by intro k hk; cases hk; exact Nat.le_refl _)
theorem clone_n (A : Option Addr) (n c : Nat) (l : List UInt8) (w : World) (hl : l.length = n) (hn : n ≤ 140737488355328) (hr : RB w A l) :
  Calls Tryz.prog 133 #[.slice A n c] w fun e w' => ∃ v, e = .returned v ∧ OB w' w.heap.size v l ∧ Below w.heap.size w w' := by
 subst hl; exact clone_any A c l w hn hr
set_option maxRecDepth 100000 in
set_option maxHeartbeats 400000 in
theorem grow_any (n : Nat) (w : World) (hn : n ≤ 140737488355328) :
  Calls Tryz.prog 160 #[.slice none 0 0, .int .i64 (n : Int)] w fun e w' => ∃ v, e = .returned v ∧ OB w' w.heap.size v [] ∧ Below w.heap.size w w' := by
 rcases Nat.eq_zero_or_pos n with h0 | h0
 ·subst h0
  go_enter Tryz.func160, Tryz.ntmps160
  go_wp2
  go_ret
  exact ⟨_, rfl, OB.nil _ _, Below.refl _ _⟩
 ·obtain ⟨i0, hi0, hz0, hz1, hz2⟩ := info_parts infoByte
  have hi0' := hi0
  have hsz : 0 < i0.size := by omega
  have hrun := Lib.run_append_nil_zeros (P := Tryz.prog) w 45 3 45 5 i0 (.int .u8 0) .i64 .i64 Tryz.underlying45 Tryz.underlying3 hi0 hz0 n h0 (by omega) (by omega) (by rw [hz2]; omega)
  obtain ⟨cap, hcap⟩ : ∃ c, c = grownCap w n 0 5 := ⟨_, rfl⟩
  have hge := grownCap_ge w n 0 5
  have hle := grownCap_le_maxLen w n 0 5 (by unfold maxLen; omega)
  rw [← hcap] at hrun hge hle
  obtain ⟨C, hC⟩ : ∃ C, C = Builtin.zeroCells (Value.int .u8 0).cells n ++ Builtin.zeroCells (Value.int .u8 0).cells (cap - n) := ⟨_, rfl⟩
  rw [← hC] at hrun
  have hCs : C.size = cap := by
   rw [hC, Array.size_append, size_zeroCells, size_zeroCells]
   have : (Value.int .u8 0).cells.size = 1 := rfl
   rw [this]; omega
  have HR := Ld hrun
  have hown : OB (w.drew.alloc (.cells C 5)) w.heap.size (.slice (some ⟨w.heap.size, 0, none⟩) 0 cap) [] :=
   ⟨rfl, .inr ⟨w.heap.size, cap, C, rfl, Nat.le_refl _, heap_alloc_new w.drew _, Nat.zero_le _, hle, by rw [hCs, Nat.mul_one], by simp [Lib.byteCells]⟩⟩
  have HO := Ld hown
  have hnn : decide ((n : Int) < 0) = false := by rw [decide_eq_false_iff_not]; omega
  have hn0 : decide ((0 : Int) < (n : Int)) = true := by rw [decide_eq_true_iff]; omega
  have hcap2 : decide ((0 : Int) ≤ (cap : Int)) = true := by rw [decide_eq_true_iff]; omega
  clear hrun hown hcap hC hCs hi0 hi0' hz0 hz1 hz2 hsz
  unfold maxLen at hle
  go_enter Tryz.func160, Tryz.ntmps160
  go_wp2_with (at_builtin; refine Lib.wpList_append_run _ rfl _ _ _ _ rfl _ _ rfl rfl _ _ HR.out ?_)
  go_ret
  exact ⟨_, rfl, HO.out, ((below_drewN (Below.refl _ _) 1).alloc (Nat.le_refl _) _)⟩
structure Pt where
 A : Option Addr
 c : Nat
 l : List UInt8
def Pt.v (p : Pt) : Value := .slice p.A p.l.length p.c
def catP (ps : List Pt) : List UInt8 := ps.flatMap (·.l)
def Pts (w : World) (A : Option Addr) (ps : List Pt) : Prop := Reads w w.heap.size 1 A ps.length (ps.map Pt.v) ∧ ∀ p ∈ ps, RB w p.A p.l
theorem Pts.below {w w' : World} {A : Option Addr} {ps : List Pt} (h : Pts w A ps) (hb : Below w.heap.size w w') : Pts w' A ps := ⟨(Reads.below h.1 hb).more hb.size, fun p hp => (h.2 p hp).below hb⟩
theorem Pts.at_ {w : World} {A : Option Addr} {ps : List Pt} (h : Pts w A ps) {k : Nat} (hk : k < ps.length) : ∃ ad, A = some ad ∧ ad.block < w.heap.size ∧ w.cell? (ad.add k) = some (.slice ps[k].A ps[k].l.length ps[k].c) ∧ RB w ps[k].A ps[k].l := by
 obtain ⟨ad, u, e, hb, hx, hc⟩ := Reads.at_ h.1 hk
 refine ⟨ad, e, hb, ?_, h.2 _ (List.getElem_mem hk)⟩
 rw [hc]
 simp [hk] at hx
 rw [← hx]; rfl
theorem Pts.of_block {w : World} {g : Nat} {t : TypeId} {ps : List Pt} (h : Blk w g t (ps.map Pt.v).toArray) (hp : ∀ p ∈ ps, RB w p.A p.l) : Pts w (some ⟨g, 0, none⟩) ps := by
 refine ⟨⟨by simp, fun hn => ⟨_, rfl, h.lt, fun j u hu => ?_⟩⟩, hp⟩
 rw [Addr.add_lit, Nat.zero_add, h.cell j]
 simpa using hu
theorem catP_take (ps : List Pt) (k : Nat) (hk : k < ps.length) : catP (ps.take (k + 1)) = catP (ps.take k) ++ ps[k].l := by
 unfold catP
 rw [List.take_succ_eq_append_getElem hk, List.flatMap_append]; simp
theorem catP_le (ps : List Pt) (k : Nat) : (catP (ps.take k)).length ≤ (catP ps).length := by
 have : catP ps = catP (ps.take k) ++ catP (ps.drop k) := by
  unfold catP
  rw [← List.flatMap_append, List.take_append_drop]
 rw [this, List.length_append]; omega
theorem below_grown' {w w1 w' : World} {B : Nat} {v : Value} (hb : Below B w w1) (hg : w1.grownBy w' v.ownBlock) (hB : B ≤ w1.heap.size) (hv : ∀ k, v.ownBlock = some k → B ≤ k) : Below B w w' := hb.grown hg hB hv
set_option maxRecDepth 100000 in
set_option maxHeartbeats 2000000 in
theorem concat_any (A : Option Addr) (n c : Nat) (ps : List Pt) (w : World) (hps : Pts w A ps) (hn : ps.length = n) (hnb : n ≤ 9223372036854775807) (hz : (catP ps).length ≤ 140737488355328) :
  Calls Tryz.prog 131 #[.slice A n c] w fun e w' => ∃ v, e = .returned v ∧ OB w' w.heap.size v (catP ps) ∧ Below w.heap.size w w' := by
 have HN := Ld hn
 have HZ := Ld hz
 clear hn hz
 go_enter Tryz.func131, Tryz.ntmps131
 go_wp2
 go_loop [3, 11] (fun s i => ∃ k : Nat, k ≤ n ∧ i = .int .i64 k ∧ s = .int .i64 ((catP (ps.take k)).length : Int)) (fun _ i => n - (intOf i).toNat)
 case atStart => exact ⟨0, Nat.zero_le _, rfl, rfl⟩
 case round =>
  obtain ⟨k, hk, rfl, rfl⟩ := hrel
  rcases (by omega : k < n ∨ k = n) with hlt | heq
  ·have hkl : k < ps.length := by rw [HN.out]; exact hlt
   obtain ⟨ad, rfl, hb, hc, _⟩ := hps.at_ hkl
   have hs := catP_take ps k hkl
   have hb1 := catP_le ps k
   have hb2 := catP_le ps (k + 1)
   have hz := HZ.out
   have HS : Hid ((catP (ps.take (k + 1))).length = (catP (ps.take k)).length + ps[k].l.length) := by show _ = _; rw [hs, List.length_append]
   obtain ⟨a, ha⟩ : ∃ a, a = (catP (ps.take k)).length := ⟨_, rfl⟩
   obtain ⟨b, hbb⟩ : ∃ a, a = ps[k].l.length := ⟨_, rfl⟩
   have HAB : Hid (a + b = (catP (ps.take (k + 1))).length) := by show _ = _; rw [ha, hbb, HS.out]
   have hab : a + b ≤ 140737488355328 := by rw [HAB.out]; omega
   rw [← ha]
   rw [← hbb] at hc
   have hki : decide ((k : Int) < (n : Int)) = true := by rw [decide_eq_true_iff]; omega
   have hnn : decide ((a : Int) + (b : Int) < 0) = false := by rw [decide_eq_false_iff_not]; omega
   clear hs hb1 hb2 hz HS ha hbb hps
   go_wp2
   go_round
   case rel => exact ⟨k + 1, by omega, by go_num, by rw [← HAB.out]; go_num⟩
   case measure => simp [intOf]; omega
  ·subst heq
   have hki : decide ((k : Int) < (k : Int)) = false := by rw [decide_eq_false_iff_not]; omega
   have hall : Hid (catP (ps.take k) = catP ps) := by show _ = _; rw [List.take_of_length_le (by rw [HN.out]; omega)]
   have hlen : (catP (ps.take k)).length ≤ 140737488355328 := by rw [hall.out]; exact HZ.out
   obtain ⟨a, ha⟩ : ∃ a, a = (catP (ps.take k)).length := ⟨_, rfl⟩
   rw [← ha] at hlen ⊢
   have HP := Ld hps
   clear ha hps
   go_wp2_with fail
   refine (grow_any a w hlen).mono ?_
   rintro e w1 ⟨v, rfl, hv, hb1⟩
   have HV := Ld hv
   have HB := Ld hb1
   clear hv hb1
   go_wp2
   go_loopw [6, 27] (fun v i wr => ∃ j : Nat, j ≤ k ∧ i = .int .i64 j ∧ Hid (OB wr w.heap.size v (catP (ps.take j))) ∧ Hid (Below w.heap.size w wr)) (fun _ i _ => k - (intOf i).toNat)
   case atStart => exact ⟨0, Nat.zero_le _, rfl, HV, HB⟩
   case round =>
    obtain ⟨j, hj, rfl, HV, HB⟩ := hrel
    rcases (by omega : j < k ∨ j = k) with hjl | heq
    ·have hjk : j < ps.length := by rw [HN.out]; exact hjl
     obtain ⟨ad, rfl, hb, hc, hr⟩ := (HP.out.below HB.out).at_ hjk
     have HS := Ld (catP_take ps j hjk)
     have hji : decide ((j : Int) < (k : Int)) = true := by rw [decide_eq_true_iff]; omega
     have hlen : (catP (ps.take j)).length + ps[j].l.length ≤ 140737488355328 := by
      have h1 := catP_le ps (j + 1)
      rw [HS.out, List.length_append] at h1
      have := HZ.out
      omega
     have HR := Ld hr
     have HGE := Ld HV.out.grown_ge
     obtain ⟨L, hL⟩ : ∃ L, L = ps[j].l.length := ⟨_, rfl⟩
     have HL := Ld hL
     rw [← hL] at hc hlen
     have hbase := HB.out.size
     clear hr hb hL HP
     go_wp2_with (at_builtin; refine app_bytes _ rfl _ _ rfl w.heap.size _ _ rfl HV.out _ _ _ _ rfl HL.out.symm HR.out hlen hbase ?_; intro v' w' hown hg _)
     have HN2 := Ld hown
     have HB2 := Ld (below_grown' HB.out hg hbase HGE.out)
     clear hown hg
     rw [← HS.out] at HN2
     go_wp2
     go_roundw
     case rel => exact ⟨j + 1, by omega, by go_num, HN2, HB2⟩
     case measure => simp [intOf]; omega
    ·subst heq
     have hji : decide ((j : Int) < (j : Int)) = false := by rw [decide_eq_false_iff_not]; omega
     rw [hall.out] at HV
     go_wp2
     go_ret
     exact ⟨_, rfl, HV.out, HB.out⟩
end Go.Proofs.YtefkpphahimkgaaGreatDoor
namespace Go.Proofs.YtefkpphahimkgaaGreatDoor
open Go.RowKit
def u8v (b : UInt8) : Value := .int .u8 (b.toNat : Int)
def byteAt (n s k : Nat) : UInt8 := UInt8.ofNat (n / 2 ^ (8 * (s - 1 - k)))
def beBytes (n s : Nat) : List UInt8 := (List.range s).map (byteAt n s)
def putCells (n s k : Nat) : Array Value := ((List.range s).map fun i => if i < k then u8v (byteAt n s i) else .int .u8 0).toArray
theorem beBytes_length (n s : Nat) : (beBytes n s).length = s := by simp [beBytes]
theorem putCells_size (n s k : Nat) : (putCells n s k).size = s := by simp [putCells]
theorem putCells_set (n s k : Nat) : (putCells n s k).setIfInBounds k (u8v (byteAt n s k)) = putCells n s (k + 1) := by
 apply Array.ext_getElem?
 intro i
 simp only [Array.getElem?_setIfInBounds, putCells_size]
 by_cases e : k = i
 ·subst e
  by_cases h : k < s <;> simp [putCells, h]
 ·rw [if_neg e]
  simp only [putCells, List.getElem?_toArray, List.getElem?_map]
  by_cases hi : i < s
  ·have : (i < k) = (i < k + 1) := by rw [eq_iff_iff]; omega
   simp [hi, this]
  ·simp [hi]
theorem putCells_at (n s k i : Nat) (h : i < s) : ∃ v, (putCells n s k)[i]? = some v := by
 rw [← putCells_size n s k] at h
 exact ⟨_, Array.getElem?_eq_getElem h⟩
theorem putCells_all (n s : Nat) : (putCells n s s).toList = Lib.byteCells (beBytes n s) := by
 simp only [putCells, Lib.byteCells, beBytes, List.map_map]
 apply List.map_congr_left
 intro i hi
 simp at hi
 simp [hi, u8v]
theorem putCells_zero (n s : Nat) : madeCells #[Value.int .u8 0] s = putCells n s 0 := by
 apply Array.ext'
 rw [toList_madeCells_one]
 simp [putCells]
 rw [List.map_const', List.length_range]
theorem run_make_bytes (s : Nat) (hs : s ≤ 70368744177664) (w : World) : (Instr.makeSlice 45 (.int .i64 s) (.int .i64 s)).run Tryz.prog w = .ok (.slice (some ⟨w.heap.size, 0, none⟩) s s) (w.alloc (.cells (madeCells #[Value.int .u8 0] s) 5)) := by
 obtain ⟨i0, hi, hz0, hz1, hz2⟩ := info_parts infoByte
 have hb : (i0.bytes : Int) * (s : Int) ≤ 281474976710656 := by rw [hz2]; omega
 have hr := run_make (P := Tryz.prog) w 45 5 i0 (.int .u8 0) Tryz.underlying45 hi hz0 .i64 .i64 s s (by omega) (by omega) hb (by omega)
 rw [hz1, Nat.mul_one] at hr
 exact hr
theorem byteAt_eq (n s k : Nat) : Value.int .u8 ((n : Int) / 2 ^ (8 * (s - 1 - k)) % 256) = u8v (byteAt n s k) := by
 unfold u8v byteAt
 congr 1
theorem own_of_put {n s k : Nat} {w wr : World} (hks : k = s) (hB : Blk wr w.heap.size 5 (putCells n s k)) (hs : s ≤ 8 := by omega) : OB wr w.heap.size (.slice (some ⟨w.heap.size, 0, none⟩) s s) (beBytes n s) := by
 subst hks
 refine ⟨by simp [Lib.byteCells], .inr ⟨_, k, _, by rw [beBytes_length], Nat.le_refl _, hB, by rw [beBytes_length]; exact Nat.le_refl _, by unfold maxLen; omega, by simp [putCells_size], ?_⟩⟩
 rw [← putCells_all, List.take_of_length_le (by simp [beBytes_length, putCells_size])]
set_option maxRecDepth 100000 in
set_option maxHeartbeats 400000 in
theorem put_ok (n s : Nat) (w : World) (h : 1 ≤ s) (h2 : s ≤ 8) (hn : s < 8 → n / 2 ^ (8 * s) = 0) :
  Calls Tryz.prog 135 #[.int .i64 n, .int .i64 s] w fun e w' => ∃ v, e = .returned (.tuple #[v, .int .i64 0]) ∧ OB w' w.heap.size v (beBytes n s) ∧ Below w.heap.size w w' := by
 have hs8 : s < 8 → ((n : Int) / 2 ^ (8 * s) != 0) = false := by
  intro h8
  have := hn h8
  have e : ((n : Int) / 2 ^ (8 * s)) = ((n / 2 ^ (8 * s) : Nat) : Int) := by simp
  rw [e, this]; rfl
 have hr := run_make_bytes s (by omega) w
 have d1 : decide ((s : Int) < 1) = false := by simp; omega
 have d2 : decide (8 < (s : Int)) = false := by simp; omega
 have d3 : decide ((n : Int) < 0) = false := by simp
 have hB : Blk (w.alloc (.cells (madeCells #[Value.int .u8 0] s) 5)) w.heap.size 5 (putCells n s 0) := by rw [putCells_zero n s]; exact Blk.new _ _ _
 have hb : Below w.heap.size w (w.alloc (.cells (madeCells #[Value.int .u8 0] s) 5)) := (Below.refl _ _).alloc (Nat.le_refl _) _
 generalize w.alloc (.cells (madeCells #[Value.int .u8 0] s) 5) = w1 at *
 rcases Nat.lt_or_ge s 8 with h8 | h8
 ·replace hs8 := hs8 h8
  go_enter Tryz.func135, Tryz.ntmps135
  go_wp2
  go_loopw [33] (fun v wr => ∃ k : Nat, k ≤ s ∧ v = .int .i64 k ∧ Blk wr w.heap.size 5 (putCells n s k) ∧ Below w.heap.size w wr) (fun v _ => s - (intOf v).toNat)
  case atStart => exact ⟨0, Nat.zero_le _, rfl, hB, hb⟩
  case round =>
   obtain ⟨k, hk, rfl, hB', hb'⟩ := hrel
   clear hB hb hr
   by_cases hlt : k < s
   ·obtain ⟨v0, hv0⟩ := putCells_at n s k k hlt
    have hc := (hB'.cell k).trans hv0
    have hf := hB'.frozen k
    clear hv0
    go_wp2
    go_roundw
    case rel => exact ⟨k + 1, by omega, by go_num, by rw [byteAt_eq, ← putCells_set]; exact hB'.set_ k _, hb'.setCell (Nat.le_refl _) _⟩
    case measure => simp [intOf]; omega
   ·go_wp2
    go_ret2
    refine ⟨_, rfl, ?_, hb'⟩
    have hks : k = s := by omega
    exact own_of_put hks hB'
 ·clear hs8
  have d4 : decide ((s : Int) < 8) = false := by simp; omega
  go_enter Tryz.func135, Tryz.ntmps135
  go_wp2
  go_loopw [33] (fun v wr => ∃ k : Nat, k ≤ s ∧ v = .int .i64 k ∧ Blk wr w.heap.size 5 (putCells n s k) ∧ Below w.heap.size w wr) (fun v _ => s - (intOf v).toNat)
  case atStart => exact ⟨0, Nat.zero_le _, rfl, hB, hb⟩
  case round =>
   obtain ⟨k, hk, rfl, hB', hb'⟩ := hrel
   clear hB hb hr
   by_cases hlt : k < s
   ·obtain ⟨v0, hv0⟩ := putCells_at n s k k hlt
    have hc := (hB'.cell k).trans hv0
    have hf := hB'.frozen k
    clear hv0
    go_wp2
    go_roundw
    case rel => exact ⟨k + 1, by omega, by go_num, by rw [byteAt_eq, ← putCells_set]; exact hB'.set_ k _, hb'.setCell (Nat.le_refl _) _⟩
    case measure => simp [intOf]; omega
   ·go_wp2
    go_ret2
    refine ⟨_, rfl, ?_, hb'⟩
    have hks : k = s := by omega
    exact own_of_put hks hB'
end Go.Proofs.YtefkpphahimkgaaGreatDoor
namespace Go.Proofs.YtefkpphahimkgaaGreatDoor
open Go.RowKit
set_option linter.unusedVariables false
theorem conv_bytes (s : ByteArray) (w : World) (hs : s.size ≤ maxLen) : ∃ cap W', (convert 9 45 (.string s)).run Tryz.prog w = .ok (.slice (some ⟨w.heap.size, 0, none⟩) s.size cap) W' ∧ s.size ≤ cap ∧ cap ≤ maxLen ∧ RB W' (some ⟨w.heap.size, 0, none⟩) s.data.toList ∧ Below w.heap.size w W' := by
 refine ⟨grownCap w s.size 0 5, Lib.bytesWorld w 5 s, Lib.run_convert_string_bytes w 9 45 5 s Tryz.underlying9 Tryz.underlying45 Tryz.underlying5, grownCap_ge _ _ _ _, grownCap_le_maxLen _ _ _ _ hs, ?_, ?_⟩
 ·refine ⟨by simp [Lib.byteCells], fun hn => ⟨_, rfl, by rw [Lib.bytesWorld_size]; exact Nat.lt_succ_self _, fun j u hu => ?_⟩⟩
  rw [Addr.add_lit, Nat.zero_add]
  have hj : j < s.data.toList.length := by
   rcases Nat.lt_or_ge j s.data.toList.length with h | h
   ·exact h
   ·rw [List.getElem?_eq_none (by simpa [Lib.byteCells] using h)] at hu; cases hu
  have hl : s.data.toList.length = s.size := by cases s; simp [ByteArray.size]
  rw [Lib.bytesWorld_cell w 5 s j (by omega)]
  rw [← hu]
  simp only [Lib.byteCells, List.getElem?_map, List.getElem?_eq_getElem hj, Option.map_some]
  rw [List.getD_eq_getElem?_getD, List.getElem?_eq_getElem hj]; rfl
 ·exact ⟨rfl, rfl, rfl, by rw [Lib.bytesWorld_size]; exact Nat.le_succ _, fun k hk => Lib.bytesWorld_at_old w 5 s k hk⟩
end Go.Proofs.YtefkpphahimkgaaGreatDoor
