/-
 Listings: files and listings, in plain Lean and in memory.
-/
import Derived.Test.YtefkpphahimkgaaGreatDoorGP
import Derived.Test.YtefkpphahimkgaaGreatDoorGV
namespace Go.Proofs.YtefkpphahimkgaaGreatDoor
open Go.RowKit
set_option linter.unusedVariables false
set_option linter.unusedSimpArgs false
structure ME where
 name : ByteArray
 ver : Int
 len : Int
 hash : ByteArray
instance : Inhabited ME := ⟨⟨⟨#[]⟩, 0, 0, ⟨#[]⟩⟩⟩
namespace ME
def cs (m : ME) : List Value := [.string m.name, .int .i64 m.ver, .int .i64 m.len, .string m.hash]
def val (m : ME) : Value := .agg #[.string m.name, .int .i64 m.ver, .int .i64 m.len, .string m.hash]
def none_ : ME := ⟨⟨#[]⟩, 0, 0, ⟨#[]⟩⟩
end ME
def idL (l : List UInt8) : Bool := okHex l && decide (l.length = 64)
def ME.ok (m : ME) : Bool := fnameL m.name.data.toList && (decide (1 ≤ m.ver) && (decide (m.ver ≤ 1099511627776) && (decide (-1 ≤ m.len) && (decide (m.len ≤ 1048576) && (decide (m.hash = ⟨#[]⟩) || idL m.hash.data.toList)))))
def stepB (l : List ME) (i : Nat) : Bool := match l[i]? with
 | none => false
 | some m => m.ok && (decide (i = 0) || (match l[i - 1]? with | none => false | some p => bl p.name m.name))
def allB (l : List ME) : Bool := (List.range l.length).all (stepB l)
def risB (l : List ME) : Bool := allB l && decide (l.length ≤ 64)
def tsN : ByteArray := ⟨#[116, 105, 109, 101, 115, 116, 97, 109, 112]⟩
def ssN : ByteArray := ⟨#[115, 110, 97, 112, 115, 104, 111, 116]⟩
def tgJ : ByteArray := ⟨#[116, 97, 114, 103, 101, 116, 115, 46, 106, 115, 111, 110]⟩
def ssJ : ByteArray := ⟨#[115, 110, 97, 112, 115, 104, 111, 116, 46, 106, 115, 111, 110]⟩
def sufJ (s : ByteArray) : Bool := Lib.hasSuffix s.data.toList [46, 106, 115, 111, 110]
def mayL (kind : ByteArray) (v e : Int) (l : List ME) : Bool :=
 decide (1 ≤ v) && (decide (v ≤ 1099511627776) && (decide (0 ≤ e) && (decide (e ≤ 253402300799) && (risB l &&
  ((decide (kind = tsN) && (decide (l.length = 1) && l.all (fun m => decide (m.name = ssJ)))) ||
  (decide (kind = ssN) && (l.any (fun m => decide (m.name = tgJ)) && l.all (fun m => sufJ m.name))))))))
def findL (l : List ME) (n : ByteArray) : Option ME := l.find? (fun m => decide (m.name = n))
def BoP (r : Bool) (w : World) (e : Ending) (w' : World) : Prop := e = .returned (.bool r) ∧ Below w.heap.size w w'
def PFb (P : Ending → World → Prop) (e : Ending) (w : World) : Prop := P e w
structure MAt (w : World) (A : Option Addr) (c : Nat) (l : List ME) : Prop where
 rd : Reads w w.heap.size 4 A l.length (l.flatMap ME.cs)
 cap : l.length ≤ c
 mx : c ≤ maxLen
 wf : ∀ m ∈ l, (Lit.int .i64 m.ver).wf = true ∧ (Lit.int .i64 m.len).wf = true
 sz : ∀ m ∈ l, m.name.size ≤ 140737488351232 ∧ m.hash.size ≤ 140737488351232
theorem csE_at : ∀ (l : List ME) (i : Nat) (hi : i < l.length) (j : Nat), j < 4 → (l.flatMap ME.cs)[i * 4 + j]? = l[i].cs[j]?
 | [], i, h, _, _ => by simp at h
 | v :: r, 0, _, j, hj => by
  rw [List.flatMap_cons, List.getElem?_append_left (by simp [ME.cs]; omega), Nat.zero_mul, Nat.zero_add]
  rfl
 | v :: r, i + 1, h, j, hj => by
  rw [List.flatMap_cons, List.getElem?_append_right (by simp [ME.cs]; omega), show (i + 1) * 4 + j - v.cs.length = i * 4 + j by simp [ME.cs]; omega, csE_at r i (by simpa using h) j hj]
  rfl
section
variable {w w' : World} {A : Option Addr} {c : Nat} {l : List ME}
theorem MAt.bel (h : MAt w A c l) (hb : Below w.heap.size w w') : MAt w' A c l := ⟨(Reads.below h.rd hb).more hb.size, h.cap, h.mx, h.wf, h.sz⟩
theorem MAt.nil (w : World) : MAt w none 0 [] := ⟨Reads.none_, Nat.le_refl _, by simp [maxLen], by simp, by simp⟩
theorem MAt.at_ (h : MAt w A c l) (hl : 0 < l.length) : ∃ b o, A = some ⟨b, o, none⟩ ∧ b < w.heap.size ∧ ∀ i (hi : i < l.length) j, j < 4 → w.cell? ⟨b, o + i * 4 + j, none⟩ = (l[i]).cs[j]? := by
 obtain ⟨ad, hA, hlt, hc⟩ := h.rd.2 hl
 have h0 : w.cell? (ad.add 0) = some (.string (l[0]'hl).name) := by
  refine hc 0 _ ?_
  have := csE_at l 0 hl 0 (by omega)
  rw [Nat.zero_mul, Nat.zero_add] at this
  rw [this]
  rfl
 have e1 : ad.add 0 = ad := by simp [Addr.add]
 rw [e1] at h0
 have e2 := cell_spot h0
 refine ⟨ad.block, ad.off, by rw [← e2]; exact hA, hlt, fun i hi j hj => ?_⟩
 have h1 := csE_at l i hi j hj
 have hx : ∃ u, (l[i]'hi).cs[j]? = some u := by
  rw [List.getElem?_eq_getElem (show j < (l[i]'hi).cs.length by simp [ME.cs]; omega)]
  exact ⟨_, rfl⟩
 obtain ⟨u, hu⟩ := hx
 have h2 := hc _ u (h1.trans hu)
 rw [e2, Addr.add_lit, ← Nat.add_assoc] at h2
 exact h2.trans hu.symm
theorem MAt.four (h : MAt w A c l) {i : Nat} (hi : i < l.length) : ∃ b o, A = some ⟨b, o, none⟩ ∧ b < w.heap.size ∧ w.cell? ⟨b, o + i * 4, none⟩ = some (.string l[i].name) ∧ w.cell? ⟨b, o + i * 4 + 1, none⟩ = some (.int .i64 l[i].ver) ∧ w.cell? ⟨b, o + i * 4 + 2, none⟩ = some (.int .i64 l[i].len) ∧ w.cell? ⟨b, o + i * 4 + 3, none⟩ = some (.string l[i].hash) := by
 obtain ⟨b, o, hA, hb, hc⟩ := h.at_ (by omega)
 exact ⟨b, o, hA, hb, hc i hi 0 (by omega), hc i hi 1 (by omega), hc i hi 2 (by omega), hc i hi 3 (by omega)⟩
end
theorem new2_ (w : World) (c1 c2 : Array Value) (t1 t2 : TypeId) (W : World) (hW : W = (w.alloc (.cells c1 t1)).alloc (.cells c2 t2)) : Below w.heap.size w W ∧ Blk W w.heap.size t1 c1 ∧ Blk W (w.heap.size + 1) t2 c2 ∧ W.heap.size = w.heap.size + 2 := by
 subst hW
 refine ⟨((Below.refl _ _).alloc (Nat.le_refl _) _).alloc (by simp) _, (Blk.new _ _ _).alloc _, ?_, by simp⟩
 have h2 := Blk.new (w.alloc (.cells c1 t1)) t2 c2
 simpa using h2
theorem new3_ (w : World) (c1 c2 c3 : Array Value) (t1 t2 t3 : TypeId) (W : World) (hW : W = ((w.alloc (.cells c1 t1)).alloc (.cells c2 t2)).alloc (.cells c3 t3)) : Below w.heap.size w W ∧ Blk W w.heap.size t1 c1 ∧ Blk W (w.heap.size + 1) t2 c2 ∧ Blk W (w.heap.size + 2) t3 c3 ∧ W.heap.size = w.heap.size + 3 := by
 subst hW
 obtain ⟨h1, h2, h3, h4⟩ := new2_ w c1 c2 t1 t2 _ rfl
 refine ⟨h1.alloc h1.size _, h2.alloc _, h3.alloc _, ?_, by simp⟩
 have h5 := Blk.new ((w.alloc (.cells c1 t1)).alloc (.cells c2 t2)) t3 c3
 rw [h4] at h5
 exact h5
theorem leq_dec (a b : List UInt8) : (a == b) = decide (a = b) := by
 by_cases h : a = b
 ·subst h; simp
 ·rw [beq_eq_false_iff_ne.2 h, decide_eq_false h]
theorem step_zero {l : List ME} (h : 0 < l.length) : stepB l 0 = (l[0]).ok := by
 unfold stepB
 rw [List.getElem?_eq_getElem h]
 simp
theorem step_succ {l : List ME} {i : Nat} (h : i + 1 < l.length) : stepB l (i + 1) = ((l[i + 1]).ok && bl (l[i]'(by omega)).name (l[i + 1]).name) := by
 unfold stepB
 rw [List.getElem?_eq_getElem h]
 simp only [Nat.add_one_sub_one, List.getElem?_eq_getElem (show i < l.length by omega)]
 simp
theorem allB_iff {l : List ME} : allB l = true ↔ ∀ i, i < l.length → stepB l i = true := by
 unfold allB
 rw [List.all_eq_true]
 exact ⟨fun h i hi => h i (List.mem_range.2 hi), fun h i hi => h i (List.mem_range.1 hi)⟩
theorem allB_no {l : List ME} {i : Nat} (h : i < l.length) (hs : stepB l i = false) : allB l = false := by
 rw [← Bool.not_eq_true, allB_iff]
 intro h2
 rw [h2 i h] at hs
 cases hs
theorem allB_ok {l : List ME} (h : allB l = true) : ∀ m ∈ l, m.ok = true := fun m hm => by
 obtain ⟨i, hi, rfl⟩ := List.getElem_of_mem hm
 have := allB_iff.1 h i hi
 unfold stepB at this
 rw [List.getElem?_eq_getElem hi] at this
 simp only [Bool.and_eq_true] at this
 exact this.1
theorem bl_trans {a b c : ByteArray} (h1 : bl a b = true) (h2 : bl b c = true) : bl a c = true := by
 cases h : bl a c with
 | true => rfl
 | false =>
  have h3 : bl c b = false := bytesLess_asym _ _ h2
  have h4 : bl a b = false := bytesLess_ntr _ _ _ h h3
  rw [h1] at h4
  cases h4
theorem allB_lt {l : List ME} (h : allB l = true) : ∀ i j (hi : i < j) (hj : j < l.length), bl (l[i]'(by omega)).name (l[j]).name = true
 | i, 0, hi, _ => by omega
 | i, j + 1, hi, hj => by
  have h1 := allB_iff.1 h (j + 1) hj
  rw [step_succ hj, Bool.and_eq_true] at h1
  rcases (by omega : i = j ∨ i < j) with rfl | h2
  ·exact h1.2
  ·exact bl_trans (allB_lt h i j h2 (by omega)) h1.2
theorem allB_inj {l : List ME} (h : allB l = true) {i j : Nat} (hi : i < l.length) (hj : j < l.length) (e : (l[i]).name = (l[j]).name) : i = j := by
 have irr : ∀ a : ByteArray, bl a a = false := fun a => bytesLess_irrefl _
 rcases (by omega : i < j ∨ i = j ∨ j < i) with h1 | h1 | h1
 ·have := allB_lt h i j h1 hj
  rw [e, irr] at this; cases this
 ·exact h1
 ·have := allB_lt h j i h1 hi
  rw [e, irr] at this; cases this
end Go.Proofs.YtefkpphahimkgaaGreatDoor
