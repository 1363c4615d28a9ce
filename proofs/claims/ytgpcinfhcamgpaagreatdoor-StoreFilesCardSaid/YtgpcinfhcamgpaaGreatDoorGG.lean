/-
  Texts cut at each byte c: the plain law (no program in sight).
  A segment's pattern, matched piece by piece as the code does, and as the document says: the plain law.
  glob's pieces: fits, head, tail.
  glob's pieces: head, tail.
  glob's pieces: next.
  Rows of strings; slices.IndexFunc, ContainsFunc, EqualFunc at strings, whatever the function value is.
  glob.plain: bytes that may be, and none of some.
  glob.segments, Path, Pattern, Split, Plain.
  The document's Split.
  Hex digits: plain facts, no program.
  The document's may, Path, Pattern, Prefix.
-/
import Derived.Lib.SplitLaws
import Derived.Test.YtgpcinfhcamgpaaGreatDoorGA
import Derived.Deep.QuietTactic
import Derived.BigQuiet
import Derived.Deep.RegionHeld
import Derived.Test.YtgpcinfhcamgpaaGreatDoorShelf
import Derived.Handy
import Derived.Laws.RangeAny
import Derived.Lib.SlTrimSet
import Derived.Lib.Strings
import Derived.Lib.Bytealg
namespace Go.Proofs.YtgpcinfhcamgpaaGreatDoor.Glob

/-- a text cut at each c -/
def cutS (c : UInt8) : List UInt8 → List (List UInt8)
  | [] => [[]]
  | b :: l => if b = c then [] :: cutS c l else (b :: (cutS c l).headD []) :: (cutS c l).tail

theorem cutS_miss (c : UInt8) : ∀ (l : List UInt8), c ∉ l → cutS c l = [l]
  | [], _ => rfl
  | b :: l, h => by
    have h1 : b ≠ c := fun e => h (by rw [e]; exact .head _)
    have h2 : c ∉ l := fun e => h (.tail _ e)
    unfold cutS
    rw [if_neg h1, cutS_miss c l h2]
    rfl
theorem cutS_hit (c : UInt8) (l : List UInt8) : ∀ (a : List UInt8), c ∉ a → cutS c (a ++ c :: l) = a :: cutS c l
  | [], _ => by show cutS c (c :: l) = _; rw [cutS, if_pos rfl]
  | b :: a, h => by
    have h1 : b ≠ c := fun e => h (by rw [e]; exact .head _)
    have h2 : c ∉ a := fun e => h (.tail _ e)
    show cutS c (b :: (a ++ c :: l)) = _
    rw [cutS, if_neg h1, cutS_hit c l a h2]
    rfl
theorem index_one_eq (c : UInt8) (l : List UInt8) : Lib.index (c :: l) [c] = 0 := by
  unfold Lib.index
  rw [if_pos (by simp [List.isPrefixOf])]
theorem index_one_ne (b c : UInt8) (l : List UInt8) (h : b ≠ c) : Lib.index (b :: l) [c] = if Lib.index l [c] == -1 then -1 else Lib.index l [c] + 1 := by
  conv => lhs; unfold Lib.index
  have : (c == b) = false := beq_eq_false_iff_ne.2 (Ne.symm h)
  rw [if_neg (by simp [List.isPrefixOf, this])]
theorem splitK_cutS (c : UInt8) : ∀ (l : List UInt8), Lib.splitK [c] 0 (Lib.count l [c]) l = cutS c l
  | [] => by
    have : Lib.count [] [c] = 0 := Lib.count_miss (by simp [Lib.index])
    rw [this]; rfl
  | b :: l => by
    have ih := splitK_cutS c l
    by_cases hb : b = c
    · subst hb
      rw [Lib.count_cons_eq, Nat.add_comm, Lib.splitK, index_one_eq, if_neg (by decide)]
      show _ :: Lib.splitK [b] 0 (Lib.count l [b]) l = _
      rw [ih, cutS, if_pos rfl]
      rfl
    · rw [Lib.count_cons_ne _ _ _ hb, cutS, if_neg hb, ← ih]
      cases hk : Lib.count l [c] with
      | zero => rfl
      | succ k =>
        have hi : ¬ (Lib.index l [c] == -1) = true := fun e => by
          have := Lib.count_miss (beq_iff_eq.1 e); omega
        have hge := Lib.index_ge l [c]
        have h0 : 0 ≤ Lib.index l [c] := by
          have : Lib.index l [c] ≠ -1 := fun e => hi (beq_iff_eq.2 e)
          omega
        obtain ⟨i, hii⟩ : ∃ i : Nat, Lib.index l [c] = i := ⟨_, (Int.toNat_of_nonneg h0).symm⟩
        have hj : Lib.index (b :: l) [c] = ((i + 1 : Nat) : Int) := by rw [index_one_ne _ _ _ hb, if_neg hi, hii]; omega
        rw [Lib.splitK, Lib.splitK, if_neg hi, hj, hii, if_neg (by rw [beq_iff_eq]; omega)]
        rfl
/-- what strings.Split hands back at a single byte -/
theorem splitB_cutS (c : UInt8) (s : ByteArray) : (Lib.splitB ⟨#[c]⟩ 0 (Lib.countB s ⟨#[c]⟩) s).map (·.data.toList) = cutS c s.data.toList := by
  rw [Lib.splitB_data]
  exact splitK_cutS c s.data.toList
theorem countB_cutS (c : UInt8) (s : ByteArray) : Lib.countB s ⟨#[c]⟩ + 1 = (cutS c s.data.toList).length := by
  rw [← splitB_cutS, List.length_map]
  exact (Lib.splitB_all ⟨#[c]⟩ (Nat.le_refl 1) 0 _ s rfl).symm
end Go.Proofs.YtgpcinfhcamgpaaGreatDoor.Glob

namespace Go.Proofs.YtgpcinfhcamgpaaGreatDoor.Glob

end Go.Proofs.YtgpcinfhcamgpaaGreatDoor.Glob

namespace Go.Proofs.YtgpcinfhcamgpaaGreatDoor
open Go.RowKit Glob
set_option linter.unusedVariables false

end Go.Proofs.YtgpcinfhcamgpaaGreatDoor

namespace Go.Proofs.YtgpcinfhcamgpaaGreatDoor
open Go.RowKit Glob
set_option linter.unusedVariables false

end Go.Proofs.YtgpcinfhcamgpaaGreatDoor

namespace Go.Proofs.YtgpcinfhcamgpaaGreatDoor
open Go.RowKit Glob
set_option linter.unusedVariables false

end Go.Proofs.YtgpcinfhcamgpaaGreatDoor

namespace Go.Proofs.YtgpcinfhcamgpaaGreatDoor
open Go.RowKit
set_option linter.unusedVariables false

/-- strings in a row -/
def SS (w : World) (A : Option Addr) (l : List ByteArray) : Prop := Reads w w.heap.size 1 A l.length (l.map Value.string)
theorem SS.below {w w' : World} {A : Option Addr} {l : List ByteArray} (h : SS w A l) (hb : Below w.heap.size w w') : SS w' A l := (Reads.below h hb).more hb.size
theorem SS.at_ {w : World} {A : Option Addr} {l : List ByteArray} (h : SS w A l) {k : Nat} (hk : k < l.length) : ∃ ad, A = some ad ∧ ad.block < w.heap.size ∧ w.cell? (ad.add k) = some (.string l[k]) := by
  obtain ⟨ad, u, e, hb, hx, hc⟩ := Reads.at_ h hk
  refine ⟨ad, e, hb, ?_⟩
  rw [hc]
  simp [hk] at hx
  rw [hx]
theorem SS.nil (w : World) : SS w none [] := Reads.none_
theorem SS.of_block {w : World} {g : Nat} {t : TypeId} {l : List ByteArray} (h : Blk w g t (l.map Value.string).toArray) : SS w (some ⟨g, 0, none⟩) l := by
  refine ⟨by simp, fun hn => ⟨_, rfl, h.lt, fun j u hu => ?_⟩⟩
  rw [Addr.add_lit, Nat.zero_add, h.cell j]
  simpa using hu

/-- what a function value at one string is asked: it answers p, and leaves what was there -/
def PredS (g : Nat) (lb : Array Value) (w : World) (l : List ByteArray) (p : ByteArray → Bool) : Prop :=
  ∀ (k : Nat) (hk : k < l.length) (W : World), Below w.heap.size w W → Calls Tryz.prog g (#[.string l[k]] ++ lb) W fun e w' => e = .returned (.bool (p l[k])) ∧ Below w.heap.size w w'
def idxS (p : ByteArray → Bool) (l : List ByteArray) : Int := if l.findIdx p < l.length then (l.findIdx p : Int) else -1
theorem idxS_hit (p : ByteArray → Bool) (l : List ByteArray) (k : Nat) (hk : k < l.length) (h : p l[k] = true) (hb : ∀ j (hj : j < l.length), j < k → p l[j] = false) : idxS p l = k := by
  have : l.findIdx p = k := (List.findIdx_eq hk).2 ⟨h, fun j hj => hb j (by omega) hj⟩
  unfold idxS
  rw [this, if_pos hk]
theorem idxS_miss (p : ByteArray → Bool) (l : List ByteArray) (hb : ∀ j (hj : j < l.length), p l[j] = false) : idxS p l = -1 := by
  unfold idxS
  rw [if_neg]
  intro h
  have := List.findIdx_getElem (w := h)
  rw [hb _ h] at this
  cases this
theorem idxS_any (p : ByteArray → Bool) (l : List ByteArray) : decide (0 ≤ idxS p l) = l.any p := by
  unfold idxS
  rw [Bool.eq_iff_iff, decide_eq_true_iff, List.any_eq_true]
  split
  · rename_i h
    exact ⟨fun _ => ⟨_, List.getElem_mem h, List.findIdx_getElem (w := h)⟩, fun _ => by omega⟩
  · rename_i h
    constructor
    · intro h; omega
    · rintro ⟨x, hx, hp⟩
      exact absurd (List.findIdx_lt_length_of_exists ⟨x, hx, hp⟩) h
set_option maxHeartbeats 1000000 in
theorem indexFunc_any (g : Nat) (lb : Array Value) (eg : ∀ args w, (callFunc g args).run Tryz.prog w = .ok (.enter g args) w) (A : Option Addr) (n c : Nat) (l : List ByteArray) (w : World) (p : ByteArray → Bool)
    (hl : SS w A l) (hn : l.length = n) (hbig : n ≤ 9223372036854775807) (hp : PredS g lb w l p) :
    Calls Tryz.prog 126 #[.slice A n c, .func (.func g) #[] lb] w fun e w' => e = .returned (.int .i64 (idxS p l)) ∧ Below w.heap.size w w' := by
  have HN := Lib.hid hn
  clear hn
  obtain ⟨r, hr⟩ : ∃ r, r = idxS p l := ⟨_, rfl⟩
  rw [← hr]
  have HR := Lib.hid hr
  clear hr
  go_enter Tryz.func126, Tryz.ntmps126
  go_wp2
  go_loopw [5, 8] (fun _ i wr => ∃ k : Nat, k ≤ n ∧ i = .int .i64 k ∧ Hid (∀ j (hj : j < l.length), j < k → p l[j] = false) ∧ Hid (Below w.heap.size w wr)) (fun _ i _ => n - (intOf i).toNat)
  case atStart => exact ⟨0, Nat.zero_le _, rfl, Lib.hid (fun j hj h => by omega), Lib.hid (Below.refl _ _)⟩
  case round =>
    obtain ⟨k, hk, rfl, HB, HW⟩ := hrel
    rcases (by omega : k < n ∨ k = n) with hlt | heq
    · have hkl : k < l.length := by rw [HN.out]; exact hlt
      obtain ⟨ad, rfl, hb, hc⟩ := (hl.below HW.out).at_ hkl
      have hcall := hp k hkl wr HW.out
      clear hl hp
      have hki : (k : Int) < (n : Int) := by omega
      obtain ⟨x, hx⟩ : ∃ x, x = l[k] := ⟨_, rfl⟩
      rw [← hx] at hc hcall
      have HX := Lib.hid hx
      clear hx
      cases hq : p x with
      | true =>
        rw [hq] at hcall
        have HQ := Lib.hid hq
        clear hq
        have HI : Hid (r = (k : Int)) := by show _ = _; rw [HR.out]; exact idxS_hit p l k hkl (by rw [← HX.out]; exact HQ.out) (fun j hj h => HB.out j hj h)
        go_wp2_with (go_at_fn g; refine hcall.mono ?_; rintro e w' ⟨rfl, hb'⟩)
        go_ret
        exact ⟨by rw [HI.out]; rfl, hb'⟩
      | false =>
        rw [hq] at hcall
        have HQ := Lib.hid hq
        clear hq
        go_wp2_with (go_at_fn g; refine hcall.mono ?_; rintro e w' ⟨rfl, hb'⟩)
        go_roundw
        case rel => exact ⟨k + 1, by omega, by go_num, Lib.hid (fun j hj h => by
          rcases (by omega : j < k ∨ j = k) with h1 | h1
          · exact HB.out j hj h1
          · subst h1; rw [← HX.out]; exact HQ.out), Lib.hid hb'⟩
        case measure => simp [intOf]; omega
    · have e1 : ¬ (k : Int) < (n : Int) := by omega
      have HI : Hid (r = -1) := by show _ = _; rw [HR.out]; exact idxS_miss p l (fun j hj => HB.out j hj (by rw [HN.out] at hj; omega))
      clear heq hl hp
      go_wp2
      go_ret
      exact ⟨by rw [HI.out]; rfl, HW.out⟩

set_option maxHeartbeats 1000000 in
theorem containsFunc_any (g : Nat) (lb : Array Value) (eg : ∀ args w, (callFunc g args).run Tryz.prog w = .ok (.enter g args) w) (A : Option Addr) (n c : Nat) (l : List ByteArray) (w : World) (p : ByteArray → Bool)
    (hl : SS w A l) (hn : l.length = n) (hbig : n ≤ 9223372036854775807) (hp : PredS g lb w l p) :
    Calls Tryz.prog 110 #[.slice A n c, .func (.func g) #[] lb] w fun e w' => e = .returned (.bool (l.any p)) ∧ Below w.heap.size w w' := by
  have H := indexFunc_any g lb eg A n c l w p hl hn hbig hp
  rw [← idxS_any]
  obtain ⟨r, hr⟩ : ∃ r, r = idxS p l := ⟨_, rfl⟩
  rw [← hr] at H ⊢
  clear hr hl hn hp
  have HH := Lib.hid H
  clear H
  go_enter Tryz.func110, Tryz.ntmps110
  go_wp2_with fail
  refine HH.out.mono ?_
  rintro e w' ⟨rfl, hb⟩
  go_wp2
  go_ret
  exact ⟨rfl, hb⟩

end Go.Proofs.YtgpcinfhcamgpaaGreatDoor

namespace Go.Proofs.YtgpcinfhcamgpaaGreatDoor
open Go.RowKit Glob
set_option linter.unusedVariables false

namespace Glob
def okB (c : UInt8) : Bool := decide (33 ≤ c.toNat) && decide (c.toNat ≤ 126)
def plainL (not s : List UInt8) : Bool := s.all okB && (not.all (fun c => !s.contains c) && (!s.isEmpty && decide (s.length ≤ 128)))
theorem index_has (s : List UInt8) (c : UInt8) : s.contains c = decide (0 ≤ Lib.indexByte s c) := by
  induction s with
  | nil => rfl
  | cons b s ih =>
    unfold Lib.indexByte
    rw [List.contains_cons, ih]
    have hg := Lib.indexByte_ge s c
    by_cases h : b = c
    · subst h; simp
    · have h1 : (b == c) = false := beq_eq_false_iff_ne.2 h
      have h2 : (c == b) = false := beq_eq_false_iff_ne.2 (Ne.symm h)
      rw [h1, h2]
      simp only [Bool.false_or, Bool.false_eq_true, if_false]
      split
      · rename_i e; rw [beq_iff_eq] at e; rw [e]
      · rename_i e
        have e' : Lib.indexByte s c ≠ -1 := fun x => e (beq_iff_eq.2 x)
        rw [decide_eq_true (show 0 ≤ Lib.indexByte s c by omega), decide_eq_true (show 0 ≤ Lib.indexByte s c + 1 by omega)]
theorem plain_bad (t s : List UInt8) (c : UInt8) (h : c ∈ s) (hc : okB c = false) : plainL t s = false := by
  unfold plainL
  have : s.all okB = false := by rw [List.all_eq_false]; exact ⟨c, h, by rw [hc]; simp⟩
  rw [this]; rfl
theorem plain_has (t s : List UInt8) (c : UInt8) (h : c ∈ t) (hc : s.contains c = true) : plainL t s = false := by
  unfold plainL
  have : t.all (fun c => !s.contains c) = false := by rw [List.all_eq_false]; exact ⟨c, h, by rw [hc]; simp⟩
  rw [this]; simp
theorem mem_at (s : ByteArray) (k : Nat) (h : k < s.size) : s[k] ∈ s.data.toList := Array.mem_toList_iff.2 (Array.getElem_mem (xs := s.data) h)
end Glob

set_option maxHeartbeats 1600000 in
theorem plain_any (s t : ByteArray) (w : World) (hs : s.size ≤ 140737488351232) (ht : t.size ≤ 100) : Calls Tryz.prog 84 #[.string s, .string t] w fun e w' => e = .returned (.bool (plainL t.data.toList s.data.toList)) ∧ ∃ pos, w' = w.iter s pos := by
  have hsl : s.data.toList.length = s.size := by cases s; simp [ByteArray.size]
  have htl : t.data.toList.length = t.size := by cases t; simp [ByteArray.size]
  have HSL := Lib.hid hsl
  have HTL := Lib.hid htl
  clear hsl htl
  obtain ⟨r, hr⟩ : ∃ r, r = plainL t.data.toList s.data.toList := ⟨_, rfl⟩
  rw [← hr]
  have HR := Lib.hid hr
  clear hr
  go_enter Tryz.func84, Tryz.ntmps84
  go_wp2
  go_loopw [6] (fun _ wr => ∃ k : Nat, k ≤ s.size ∧ Hid ((s.data.toList.take k).all okB = true) ∧ wr = w.iter s k) (fun _ wr => s.size - wr.iterPos w.heap.size)
  case atStart => exact ⟨0, Nat.zero_le _, Lib.hid rfl, rfl⟩
  case round =>
    obtain ⟨k, hk, HB, rfl⟩ := hrel
    rcases (by omega : k < s.size ∨ k = s.size) with hlt | heq
    · rcases (by omega : (s[k]'hlt).toNat < 128 ∨ 128 ≤ (s[k]'hlt).toNat) with ha | ha
      · have hnx := fun ty => run_next_ascii (P := Tryz.prog) w s k ty hlt ha
        obtain ⟨c, hc⟩ : ∃ c, c = s[k]'hlt := ⟨_, rfl⟩
        rw [← hc] at hnx ha
        have HC := Lib.hid hc
        clear hc
        rcases (by omega : c.toNat < 33 ∨ (33 ≤ c.toNat ∧ 126 < c.toNat) ∨ (33 ≤ c.toNat ∧ c.toNat ≤ 126)) with g | ⟨g, g2⟩ | ⟨g, g2⟩
        · have e1 : decide ((c.toNat : Int) < 33) = true := by rw [decide_eq_true_iff]; omega
          have HI : Hid (r = false) := by
            show _ = _
            rw [HR.out]
            exact plain_bad t.data.toList s.data.toList c (by rw [HC.out]; exact mem_at s k hlt) (by unfold okB; rw [Bool.and_eq_false_iff, decide_eq_false_iff_not, decide_eq_false_iff_not]; omega)
          go_wp2
          go_ret
          exact ⟨by rw [HI.out]; rfl, _, rfl⟩
        · have e1 : decide ((c.toNat : Int) < 33) = false := by rw [decide_eq_false_iff_not]; omega
          have e2 : decide (126 < (c.toNat : Int)) = true := by rw [decide_eq_true_iff]; omega
          have HI : Hid (r = false) := by
            show _ = _
            rw [HR.out]
            exact plain_bad t.data.toList s.data.toList c (by rw [HC.out]; exact mem_at s k hlt) (by unfold okB; rw [Bool.and_eq_false_iff, decide_eq_false_iff_not, decide_eq_false_iff_not]; omega)
          go_wp2
          go_ret
          exact ⟨by rw [HI.out]; rfl, _, rfl⟩
        · have e1 : decide ((c.toNat : Int) < 33) = false := by rw [decide_eq_false_iff_not]; omega
          have e2 : decide (126 < (c.toNat : Int)) = false := by rw [decide_eq_false_iff_not]; omega
          have HI : Hid ((s.data.toList.take (k + 1)).all okB = true) := by
            show _ = _
            rw [List.take_succ_eq_append_getElem (by rw [HSL.out]; exact hlt), List.all_append, HB.out]
            show okB s[k] && true = true
            rw [← HC.out]
            unfold okB
            rw [decide_eq_true g, decide_eq_true g2]; rfl
          go_wp2
          go_roundw
          case rel => exact ⟨k + 1, by omega, HI, rfl⟩
          case measure => rw [World.iterPos_iter, World.iterPos_iter]; omega
      · have hnx := fun ty => run_next_any (P := Tryz.prog) w s k ty hlt
        obtain ⟨hd, _⟩ := decode_high s k hlt ha
        have hd2 := decode_le s k
        obtain ⟨z, hz⟩ : ∃ z, z = (Utf8.decode s k).1 := ⟨_, rfl⟩
        obtain ⟨y, hy⟩ : ∃ y, y = (Utf8.decode s k).2 := ⟨_, rfl⟩
        rw [← hz, ← hy] at hnx
        rw [← hz] at hd hd2
        clear hz hy
        have e1 : decide ((z : Int) < 33) = false := by rw [decide_eq_false_iff_not]; omega
        have e2 : decide (126 < (z : Int)) = true := by rw [decide_eq_true_iff]; omega
        have HI : Hid (r = false) := by
          show _ = _
          rw [HR.out]
          exact plain_bad t.data.toList s.data.toList (s[k]'hlt) (mem_at s k hlt) (by unfold okB; rw [Bool.and_eq_false_iff, decide_eq_false_iff_not, decide_eq_false_iff_not]; omega)
        go_wp2
        go_ret
        exact ⟨by rw [HI.out]; rfl, _, rfl⟩
    · have hnx := fun ty => run_next_end (P := Tryz.prog) w s k ty (by omega)
      have HA : Hid (s.data.toList.all okB = true) := by show _ = _; rw [← HB.out, heq, List.take_of_length_le (by rw [HSL.out]; omega)]
      clear heq
      go_wp2
      go_loopw [7, 21] (fun _ i wr => ∃ j : Nat, j ≤ t.size ∧ i = .int .i64 j ∧ Hid ((t.data.toList.take j).all (fun c => !s.data.toList.contains c) = true) ∧ wr = w.iter s k) (fun _ i _ => t.size - (intOf i).toNat)
      case atStart => exact ⟨0, Nat.zero_le _, rfl, Lib.hid rfl, rfl⟩
      case round =>
        obtain ⟨j, hj, rfl, HJ, rfl⟩ := hrel
        rcases (by omega : j < t.size ∨ j = t.size) with hlt | heq
        · obtain ⟨c, hc⟩ : ∃ c, c = t[j]'hlt := ⟨_, rfl⟩
          have hc' := hc.symm
          have HC := Lib.hid hc
          clear hc
          have hix := index_has s.data.toList c
          have hge := Lib.indexByte_ge s.data.toList c
          obtain ⟨z, hz⟩ : ∃ z, z = Lib.indexByte s.data.toList c := ⟨_, rfl⟩
          have hcall := fun w => Tryz.strings_IndexByte s (c.toNat : Int) w
          rw [show ((c.toNat : Int)).toNat.toUInt8 = c from by simp] at hcall
          rw [← hz] at hix hge hcall
          clear hz
          have HCALL := Lib.hid hcall
          clear hcall
          have hj0 : (j : Int) < (t.size : Int) := by omega
          rcases (by omega : 0 ≤ z ∨ z = -1) with g | g
          · have HI : Hid (r = false) := by
              show _ = _
              rw [HR.out]
              exact plain_has t.data.toList s.data.toList c (by rw [HC.out]; exact mem_at t j hlt) (by rw [hix]; exact decide_eq_true g)
            clear hix
            go_wp2_with fail
            refine (HCALL.out _).mono ?_
            rintro e w' ⟨rfl, rfl⟩
            go_wp2
            go_ret
            exact ⟨by rw [HI.out]; rfl, _, rfl⟩
          · have HI : Hid ((t.data.toList.take (j + 1)).all (fun c => !s.data.toList.contains c) = true) := by
              show _ = _
              rw [List.take_succ_eq_append_getElem (by rw [HTL.out]; exact hlt), List.all_append, HJ.out]
              show (!s.data.toList.contains t[j] && true) = true
              rw [← HC.out, hix, g]; rfl
            clear hix
            subst g
            go_wp2_with fail
            refine (HCALL.out _).mono ?_
            rintro e w' ⟨rfl, rfl⟩
            go_wp2
            go_roundw
            case rel => exact ⟨j + 1, by omega, by go_num, HI, trivial⟩
            case measure => simp [intOf]; omega
        · have e0 : decide (j < t.size) = false := by rw [decide_eq_false_iff_not]; omega
          have HT : Hid (t.data.toList.all (fun c => !s.data.toList.contains c) = true) := by show _ = _; rw [← HJ.out, heq, List.take_of_length_le (by rw [HTL.out]; omega)]
          have HI : Hid (r = (!s.data.toList.isEmpty && decide (s.size ≤ 128))) := by
            show _ = _
            rw [HR.out]; unfold plainL; rw [HA.out, HT.out, HSL.out]; rfl
          clear heq
          have HZ : Hid (decide ((s.size : Int) ≤ 128) = decide (s.size ≤ 128)) := by show _ = _; rw [Bool.eq_iff_iff, decide_eq_true_iff, decide_eq_true_iff]; omega
          go_wp2
          · rename_i h
            go_ret
            exact ⟨by rw [HI.out, ← Lib.toList_data, h]; rfl, _, rfl⟩
          · go_ret
            exact ⟨by rw [HI.out, ← Lib.toList_data]; simp; rw [HZ.out], _, rfl⟩
end Go.Proofs.YtgpcinfhcamgpaaGreatDoor

namespace Go.Proofs.YtgpcinfhcamgpaaGreatDoor
open Go.RowKit Glob
set_option linter.unusedVariables false

namespace Glob
def segBad (x : List UInt8) : Bool := x == [] || (x == [46] || x == [46, 46])
def segsL (s : List UInt8) : Bool := !(cutS 47 s).any segBad
def pathL (s : List UInt8) : Bool := plainL [91, 93, 123, 125, 92, 42, 63] s && segsL s
end Glob
/-- package bytealg's length is laid -/
def Tab (w : World) : Prop := 2 < w.heap.size ∧ ∃ m, w.cell? ⟨2, 0, none⟩ = some (.int .i64 m)
theorem Tab.below {w w' : World} (h : Tab w) (hb : Below w.heap.size w w') : Tab w' := by
  obtain ⟨h0, m, hm⟩ := h
  exact ⟨Nat.lt_of_lt_of_le h0 hb.size, m, by rw [hb.cell (p := ⟨2, 0, none⟩) h0]; exact hm⟩
theorem seg_val (x : ByteArray) : segBad x.data.toList = (x.toList == [] || (x.toList == [46] || x.toList == [46, 46])) := by rw [Lib.toList_data]; rfl
set_option maxHeartbeats 1000000 in
theorem seg_any (x : ByteArray) (w : World) : Calls Tryz.prog 112 #[.string x] w fun e w' => e = .returned (.bool (segBad x.data.toList)) ∧ w' = w := by
  have hv := seg_val x
  obtain ⟨r, hr⟩ : ∃ r, r = segBad x.data.toList := ⟨_, rfl⟩
  rw [← hr] at hv ⊢
  clear hr
  by_cases h0 : x.toList = []
  · have HV : Hid (r = true) := by show _ = _; rw [hv, h0]; rfl
    have hb : x.toList.isEmpty = true := by rw [h0]; rfl
    clear hv
    go_enter Tryz.func112, Tryz.ntmps112
    go_wp2
    go_ret
    exact ⟨by rw [HV.out]; rfl, rfl⟩
  · have h0' : (x.toList == []) = false := beq_eq_false_iff_ne.2 h0
    have hb : x.toList.isEmpty = false := by rw [List.isEmpty_eq_false_iff]; exact h0
    cases h1 : (x.toList == [46]) with
    | true =>
      have HV : Hid (r = true) := by show _ = _; rw [hv, h0', h1]; rfl
      clear hv
      go_enter Tryz.func112, Tryz.ntmps112
      go_wp2
      go_ret
      exact ⟨by rw [HV.out]; rfl, rfl⟩
    | false =>
      cases h2 : (x.toList == [46, 46]) with
      | true =>
        have HV : Hid (r = true) := by show _ = _; rw [hv, h0', h1, h2]; rfl
        clear hv
        go_enter Tryz.func112, Tryz.ntmps112
        go_wp2
        go_ret
        exact ⟨by rw [HV.out]; rfl, rfl⟩
      | false =>
        have HV : Hid (r = false) := by show _ = _; rw [hv, h0', h1, h2]; rfl
        clear hv
        go_enter Tryz.func112, Tryz.ntmps112
        go_wp2
        go_ret
        exact ⟨by rw [HV.out]; rfl, rfl⟩
theorem split_any (s : ByteArray) (c : UInt8) (w : World) (hs : s.size ≤ 100000) (hT : Tab w) : Calls Tryz.prog 111 #[.string s, .string ⟨#[c]⟩] w fun e w' =>
    ∃ l : List ByteArray, l.map (·.data.toList) = cutS c s.data.toList ∧ e = .returned (.slice (some ⟨w.heap.size, 0, none⟩) l.length l.length) ∧ w' = w.alloc (.cells (l.map Value.string).toArray 9) := by
  obtain ⟨_, m, hm⟩ := hT
  refine (Tryz.strings_Split s ⟨#[c]⟩ m w (by omega) hm (Nat.le_refl 1)).mono ?_
  rintro e w' ⟨rfl, rfl⟩
  have h1 := splitB_cutS c s
  have h2 := countB_cutS c s
  refine ⟨_, h1, ?_, rfl⟩
  rw [show (Lib.splitB ⟨#[c]⟩ 0 (Lib.countB s ⟨#[c]⟩) s).length = Lib.countB s ⟨#[c]⟩ + 1 from by rw [h2, ← h1, List.length_map]]
theorem cutS_len (c : UInt8) : ∀ (l : List UInt8), (cutS c l).length ≤ l.length + 1
  | [] => by simp [cutS]
  | b :: l => by
    have := cutS_len c l
    unfold cutS
    split
    · simp; omega
    · simp; omega
theorem any_map (l : List ByteArray) (p : List UInt8 → Bool) : l.any (fun x => p x.data.toList) = (l.map (·.data.toList)).any p := by rw [List.any_map]; rfl
set_option maxHeartbeats 1000000 in
theorem segments_any (s : ByteArray) (w : World) (hs : s.size ≤ 100000) (hT : Tab w) : Calls Tryz.prog 85 #[.string s] w fun e w' => e = .returned (.bool (segsL s.data.toList)) ∧ Below w.heap.size w w' := by
  obtain ⟨r, hr⟩ : ∃ r, r = segsL s.data.toList := ⟨_, rfl⟩
  rw [← hr]
  have HR := Lib.hid hr
  have HS := Lib.hid (split_any s 47 w hs hT)
  clear hr
  go_enter Tryz.func85, Tryz.ntmps85
  go_wp2_with fail
  refine HS.out.mono ?_
  rintro e w' ⟨l, hl, rfl, rfl⟩
  have hll : l.length ≤ 100001 := by
    have h1 := cutS_len 47 s.data.toList
    rw [← hl, List.length_map] at h1
    have h2 : s.data.toList.length = s.size := by cases s; simp [ByteArray.size]
    omega
  have HI : Hid (r = !(l.any (fun x => segBad x.data.toList))) := by show _ = _; rw [HR.out, any_map, hl]; rfl
  have HC := Lib.hid (containsFunc_any 112 #[] (enters_of Tryz.func112 (by kernel_rfl) rfl) (some ⟨w.heap.size, 0, none⟩) l.length l.length l _ (fun x => segBad x.data.toList) (SS.of_block (Blk.new w 9 (l.map Value.string).toArray)) rfl (by omega)
    (fun k hk W hb => (seg_any l[k] W).mono fun e w' ⟨he, hw⟩ => ⟨he, by rw [hw]; exact hb⟩))
  clear hl
  go_wp2_with fail
  refine HC.out.mono ?_
  rintro e w' ⟨rfl, hb⟩
  go_wp2
  go_ret
  exact ⟨by rw [HI.out]; simp, (Below.alloc (Below.refl _ _) (Nat.le_refl _) _).trans (hb.mono (by simp))⟩
theorem plainL_len (t s : List UInt8) (h : plainL t s = true) : 1 ≤ s.length ∧ s.length ≤ 128 := by
  unfold plainL at h
  simp only [Bool.and_eq_true, Bool.not_eq_true', decide_eq_true_eq] at h
  refine ⟨?_, h.2.2.2⟩
  cases s with
  | nil => simp at h
  | cons a s => simp
theorem below_iter {w w' : World} {s : ByteArray} {p : Nat} (hb : Below (w.iter s p).heap.size (w.iter s p) w') : Below w.heap.size w w' :=
  (Below.alloc (Below.refl _ _) (Nat.le_refl _) _).trans (hb.mono (by simp [World.iter]))
theorem below_iter' (w : World) (s : ByteArray) (p : Nat) : Below w.heap.size w (w.iter s p) := Below.alloc (Below.refl _ _) (Nat.le_refl _) _
set_option maxHeartbeats 1000000 in
theorem path_any (s : ByteArray) (w : World) (hs : s.size ≤ 100000) (hT : Tab w) : Calls Tryz.prog 46 #[.string s] w fun e w' => e = .returned (.bool (pathL s.data.toList)) ∧ Below w.heap.size w w' := by
  have HP := Lib.hid (fun w => plain_any s ⟨#[91, 93, 123, 125, 92, 42, 63]⟩ w (by omega) (by decide))
  have HS := Lib.hid (fun w h => segments_any s w hs h)
  obtain ⟨r, hr⟩ : ∃ r, r = pathL s.data.toList := ⟨_, rfl⟩
  rw [← hr]
  cases hp : plainL [91, 93, 123, 125, 92, 42, 63] s.data.toList with
  | false =>
    have HI : Hid (r = false) := by show _ = _; rw [hr]; unfold pathL; rw [hp]; rfl
    rw [show (⟨#[91, 93, 123, 125, 92, 42, 63]⟩ : ByteArray).data.toList = [91, 93, 123, 125, 92, 42, 63] from rfl, hp] at HP
    clear hr hp
    go_enter Tryz.func46, Tryz.ntmps46
    go_wp2_with fail
    refine (HP.out _).mono ?_
    rintro e w' ⟨rfl, pos, rfl⟩
    go_wp2
    go_ret
    exact ⟨by rw [HI.out]; rfl, below_iter' _ _ _⟩
  | true =>
    have HI : Hid (r = segsL s.data.toList) := by show _ = _; rw [hr]; unfold pathL; rw [hp]; rfl
    rw [show (⟨#[91, 93, 123, 125, 92, 42, 63]⟩ : ByteArray).data.toList = [91, 93, 123, 125, 92, 42, 63] from rfl, hp] at HP
    clear hr hp
    go_enter Tryz.func46, Tryz.ntmps46
    go_wp2_with fail
    refine (HP.out _).mono ?_
    rintro e w' ⟨rfl, pos, rfl⟩
    go_wp2_with fail
    refine (HS.out _ (hT.below (below_iter' _ _ _))).mono ?_
    rintro e w' ⟨rfl, hb⟩
    go_wp2
    go_ret
    exact ⟨by rw [HI.out]; simp, below_iter hb⟩
end Go.Proofs.YtgpcinfhcamgpaaGreatDoor

namespace Go.Proofs.YtgpcinfhcamgpaaGreatDoor
open Go.RowKit Glob
set_option linter.unusedVariables false

theorem infoStr : (Tryz.prog.info? 9).map (fun i => (i.zero, i.size, i.bytes)) = some (some (.string ⟨#[]⟩), 1, 16) := by kernel_rfl
theorem cut_hit_at (S : List UInt8) (f k : Nat) (hf : f ≤ k) (hk : k < S.length) (hc : S[k] = 47) (hno : (47 : UInt8) ∉ (S.drop f).take (k - f)) : cutS 47 (S.drop f) = (S.drop f).take (k - f) :: cutS 47 (S.drop (k + 1)) := by
  have h1 : S.drop f = (S.drop f).take (k - f) ++ 47 :: S.drop (k + 1) := by
    conv => lhs; rw [← List.take_append_drop (k - f) (S.drop f)]
    rw [List.drop_drop, show f + (k - f) = k from by omega, List.drop_eq_getElem_cons hk, hc]
  conv => lhs; rw [h1]
  exact cutS_hit 47 _ _ hno
theorem no_more (S : List UInt8) (f k : Nat) (hf : f ≤ k) (hk : k < S.length) (hc : S[k] ≠ 47) (hno : (47 : UInt8) ∉ (S.drop f).take (k - f)) : (47 : UInt8) ∉ (S.drop f).take (k + 1 - f) := by
  rw [show k + 1 - f = (k - f) + 1 from by omega, List.take_succ_eq_append_getElem (by rw [List.length_drop]; omega), List.mem_append]
  rintro (h | h)
  · exact hno h
  · rw [List.mem_singleton, List.getElem_drop] at h
    simp only [show f + (k - f) = k from by omega] at h
    exact hc h.symm
set_option maxHeartbeats 2000000 in
theorem rsplit_any (s : ByteArray) (w : World) (hs : s.size ≤ 100000) : Calls Tryz.prog 128 #[.string s] w fun e w' =>
    ∃ (A : Option Addr) (c : Nat) (l : List ByteArray), l.map (·.data.toList) = cutS 47 s.data.toList ∧ e = .returned (.slice A l.length c) ∧ SS w' A l ∧ Below w.heap.size w w' := by
  have hsl : s.data.toList.length = s.size := by cases s; simp [ByteArray.size]
  have HS := Lib.hid hsl
  clear hsl
  go_enter Tryz.func128, Tryz.ntmps128
  go_wp2
  go_loopw [3, 4, 5] (fun v f i wr => ∃ (k g : Nat) (l : List ByteArray), k ≤ s.size + 1 ∧ i = .int .i64 k ∧ f = .int .i64 g ∧ g ≤ k ∧ l.length ≤ k ∧ Hid (OR 9 wr w.heap.size v (l.map Value.string)) ∧ Hid (Below w.heap.size w wr) ∧
      Hid (k = s.size + 1 → l.map (·.data.toList) = cutS 47 s.data.toList) ∧ Hid (k ≤ s.size → cutS 47 s.data.toList = l.map (·.data.toList) ++ cutS 47 (s.data.toList.drop g) ∧ (47 : UInt8) ∉ (s.data.toList.drop g).take (k - g))) (fun _ _ i _ => s.size + 1 - (intOf i).toNat)
  case atStart => exact ⟨0, 0, [], Nat.zero_le _, rfl, rfl, Nat.le_refl _, Nat.le_refl _, Lib.hid (OR.nil _ _ _), Lib.hid (Below.refl _ _), Lib.hid (fun h => by omega), Lib.hid (fun _ => ⟨rfl, by simp⟩)⟩
  case round =>
    obtain ⟨k, g, l, hk, rfl, rfl, hg, hl, HO, HB, HE, HC⟩ := hrel
    rcases (by omega : k = s.size + 1 ∨ k = s.size ∨ k < s.size) with heq | heq | hlt
    · have e1 : decide (k ≤ s.size) = false := by rw [decide_eq_false_iff_not]; omega
      have hkk : ¬ ((k : Int) ≤ (s.size : Int)) := by omega
      have HE' := Lib.hid (HE.out heq)
      clear heq HE HC
      obtain ⟨A, c, rfl, _, _, hR, _⟩ := HO.out.shape
      have HR := Lib.hid hR
      clear hR HO
      go_wp2
      go_ret
      exact ⟨A, c, l, HE'.out, by simp, by have := HR.out; unfold SS; rw [List.length_map] at this; exact this, HB.out⟩
    · have HC' := Lib.hid (HC.out (by omega))
      clear HC HE
      have e1 : decide (k ≤ s.size) = true := by rw [decide_eq_true_iff]; omega
      have hkk : ((k : Int) ≤ (s.size : Int)) := by omega
      have e2 : ((k : Int) == (s.size : Int)) = true := by rw [beq_iff_eq]; omega
      have hgk : (g : Int) ≤ (k : Int) := by omega
      have HKK := Lib.hid heq
      clear heq
      have hszB := HB.out.size
      have hx : (s.extract g k).data.toList = s.data.toList.drop g := by simp [List.extract]; rw [List.take_of_length_le (by rw [List.length_drop, HS.out, HKK.out]; omega)]
      have HX := Lib.hid hx
      clear hx
      go_wp2_with (at_builtin; refine app_cell wr rfl _ _ 138 9 _ 16 Tryz.underlying138 infoStr rfl rfl w.heap.size u3 _ rfl HO.out _ rfl rfl (by rw [List.length_map]; simp only [maxLen]; omega) (by rw [List.length_map]; omega) hszB ?_)
      intro v' w' hO hG hv'
      have HO' : Hid (OR 9 w' w.heap.size v' ((l ++ [s.extract g k]).map Value.string)) := by rw [List.map_append]; exact hO
      have HB' : Hid (Below w.heap.size w w') := below_grown (HB.out.alloc hszB _) hG (by simp; omega) HO.out.ge
      have HE' : Hid (k + 1 = s.size + 1 → (l ++ [s.extract g k]).map (·.data.toList) = cutS 47 s.data.toList) := fun _ => by
        obtain ⟨h1, h2⟩ := HC'.out
        rw [h1, List.map_append, List.map_cons, List.map_nil, HX.out, cutS_miss 47 (s.data.toList.drop g)]
        rwa [List.take_of_length_le (by rw [List.length_drop, HS.out, HKK.out]; exact Nat.le_refl _)] at h2
      have HK1 : Hid (¬ k + 1 ≤ s.size) := by show ¬ _; rw [HKK.out]; omega
      clear hO hG hv' HO HB HC'
      go_wp2
      go_roundw
      case rel => exact ⟨k + 1, k + 1, l ++ [s.extract g k], by omega, by go_num, by go_num, Nat.le_refl _, by simp; omega, HO', HB', HE', Lib.hid (fun h => absurd h HK1.out)⟩
      case measure => simp [intOf]; omega
    · have HC' := Lib.hid (HC.out (by omega))
      clear HC HE
      have hkl : k < s.data.toList.length := by rw [HS.out]; exact hlt
      have e1 : decide (k ≤ s.size) = true := by rw [decide_eq_true_iff]; omega
      have hkk : ((k : Int) ≤ (s.size : Int)) := by omega
      have hkk2 : ((k : Int) < (s.size : Int)) := by omega
      have e2 : ((k : Int) == (s.size : Int)) = false := by rw [beq_eq_false_iff_ne]; omega
      have hgk : (g : Int) ≤ (k : Int) := by omega
      obtain ⟨c, hc⟩ : ∃ c, c = s[k] := ⟨_, rfl⟩
      have hc2 : s.data.toList[k] = c := hc.symm
      have hc' := hc.symm
      have HC2 := Lib.hid hc2
      clear hc hc2
      have hszB := HB.out.size
      by_cases h47 : c = 47
      · subst h47
        have hx : (s.extract g k).data.toList = (s.data.toList.drop g).take (k - g) := by simp [List.extract]
        have HX := Lib.hid hx
        clear hx
        go_wp2_with (at_builtin; refine app_cell wr rfl _ _ 138 9 _ 16 Tryz.underlying138 infoStr rfl rfl w.heap.size u3 _ rfl HO.out _ rfl rfl (by rw [List.length_map]; simp only [maxLen]; omega) (by rw [List.length_map]; omega) hszB ?_)
        intro v' w' hO hG hv'
        have HO' : Hid (OR 9 w' w.heap.size v' ((l ++ [s.extract g k]).map Value.string)) := by rw [List.map_append]; exact hO
        have HB' : Hid (Below w.heap.size w w') := below_grown (HB.out.alloc hszB _) hG (by simp; omega) HO.out.ge
        have HC3 : Hid (k + 1 ≤ s.size → cutS 47 s.data.toList = (l ++ [s.extract g k]).map (·.data.toList) ++ cutS 47 (s.data.toList.drop (k + 1)) ∧ (47 : UInt8) ∉ (s.data.toList.drop (k + 1)).take (k + 1 - (k + 1))) := fun _ => by
          obtain ⟨h1, h2⟩ := HC'.out
          refine ⟨?_, by simp⟩
          rw [h1, cut_hit_at _ g k hg hkl HC2.out h2, List.map_append, List.map_cons, List.map_nil, HX.out, List.append_assoc]
          rfl
        have HK1 : Hid (¬ k + 1 = s.size + 1) := by show ¬ _; omega
        clear hO hG hv' HO HB HC'
        go_wp2
        go_roundw
        case rel => exact ⟨k + 1, k + 1, l ++ [s.extract g k], by omega, by go_num, by go_num, Nat.le_refl _, by simp; omega, HO', HB', Lib.hid (fun h => absurd h HK1.out), HC3⟩
        case measure => simp [intOf]; omega
      · have e3 : ((c.toNat : Int) == 47) = false := by
          rw [beq_eq_false_iff_ne]
          intro e
          exact h47 (UInt8.toNat_inj.1 (by show _ = 47; omega))
        have HC3 : Hid (k + 1 ≤ s.size → cutS 47 s.data.toList = l.map (·.data.toList) ++ cutS 47 (s.data.toList.drop g) ∧ (47 : UInt8) ∉ (s.data.toList.drop g).take (k + 1 - g)) := fun _ => by
          obtain ⟨h1, h2⟩ := HC'.out
          exact ⟨h1, no_more _ g k hg hkl (by rw [HC2.out]; exact h47) h2⟩
        have HK1 : Hid (¬ k + 1 = s.size + 1) := by show ¬ _; omega
        clear h47 HC'
        go_wp2
        go_roundw
        case rel => exact ⟨k + 1, g, l, by omega, by go_num, rfl, by omega, by omega, HO, HB, Lib.hid (fun h => absurd h HK1.out), HC3⟩
        case measure => simp [intOf]; omega
end Go.Proofs.YtgpcinfhcamgpaaGreatDoor

set_option linter.unusedVariables false
set_option linter.unusedSimpArgs false
namespace Go.Proofs.YtgpcinfhcamgpaaGreatDoor
open Go

theorem all_u8 {p : UInt8 → Prop} (h : ∀ n : Fin 256, p (UInt8.ofNat n.1)) (c : UInt8) : p c := by
  have := h ⟨c.toNat, c.toNat_lt⟩
  simpa using this
end Go.Proofs.YtgpcinfhcamgpaaGreatDoor

namespace Go.Proofs.YtgpcinfhcamgpaaGreatDoor
open Go.RowKit Glob
set_option linter.unusedVariables false

namespace Glob
def barS : List UInt8 := [91, 93, 123, 125, 92]
def okW (wild : Bool) (c : UInt8) : Bool := okB c && (!barS.contains c && (wild || !([42, 63] : List UInt8).contains c))
def mayL (wild : Bool) (s : List UInt8) : Bool := !s.isEmpty && (decide (s.length ≤ 128) && (s.all (okW wild) && segsL s))
theorem plainL_all (t s : List UInt8) : plainL t s = (s.all (fun c => okB c && !t.contains c) && (!s.isEmpty && decide (s.length ≤ 128))) := by
  unfold plainL
  rw [← Bool.and_assoc]
  congr 1
  rw [Bool.eq_iff_iff, Bool.and_eq_true, List.all_eq_true, List.all_eq_true, List.all_eq_true]
  simp only [Bool.and_eq_true, Bool.not_eq_true', List.contains_eq_mem, decide_eq_false_iff_not]
  constructor
  · rintro ⟨h1, h2⟩ x hx
    exact ⟨h1 x hx, fun ht => h2 x ht hx⟩
  · intro h
    exact ⟨fun x hx => (h x hx).1, fun x hx hs => (h x hs).2 hx⟩
theorem may_path (s : List UInt8) : mayL false s = pathL s := by
  unfold mayL pathL
  rw [plainL_all]
  have : s.all (okW false) = s.all (fun c => okB c && !([91, 93, 123, 125, 92, 42, 63] : List UInt8).contains c) := by
    congr 1; funext c; unfold okW barS
    simp only [List.contains_cons, List.contains_nil, Bool.or_false, Bool.false_or]
    cases okB c <;> cases (c == 91) <;> cases (c == 93) <;> cases (c == 123) <;> cases (c == 125) <;> cases (c == 92) <;> cases (c == 42) <;> cases (c == 63) <;> rfl
  rw [this]
  cases s.isEmpty <;> cases decide (s.length ≤ 128) <;> cases s.all (fun c => okB c && !([91, 93, 123, 125, 92, 42, 63] : List UInt8).contains c) <;> rfl
/-- why a byte may not be -/
theorem okW_why (wild : Bool) (c : UInt8) (h : okW wild c = false) : c.toNat < 33 ∨ 126 < c.toNat ∨ c.toNat = 91 ∨ c.toNat = 93 ∨ c.toNat = 123 ∨ c.toNat = 125 ∨ c.toNat = 92 ∨ (wild = false ∧ (c.toNat = 42 ∨ c.toNat = 63)) := by
  revert wild
  refine all_u8 (p := fun c => ∀ wild : Bool, okW wild c = false → c.toNat < 33 ∨ 126 < c.toNat ∨ c.toNat = 91 ∨ c.toNat = 93 ∨ c.toNat = 123 ∨ c.toNat = 125 ∨ c.toNat = 92 ∨ (wild = false ∧ (c.toNat = 42 ∨ c.toNat = 63))) ?_ c
  decide +kernel
theorem okW_yes (wild : Bool) (c : UInt8) (h : okW wild c = true) : 33 ≤ c.toNat ∧ c.toNat ≤ 126 ∧ c.toNat ≠ 91 ∧ c.toNat ≠ 93 ∧ c.toNat ≠ 123 ∧ c.toNat ≠ 125 ∧ c.toNat ≠ 92 ∧ (wild = false → c.toNat ≠ 42 ∧ c.toNat ≠ 63) := by
  revert wild
  refine all_u8 (p := fun c => ∀ wild : Bool, okW wild c = true → 33 ≤ c.toNat ∧ c.toNat ≤ 126 ∧ c.toNat ≠ 91 ∧ c.toNat ≠ 93 ∧ c.toNat ≠ 123 ∧ c.toNat ≠ 125 ∧ c.toNat ≠ 92 ∧ (wild = false → c.toNat ≠ 42 ∧ c.toNat ≠ 63)) ?_ c
  decide +kernel
end Glob
set_option maxRecDepth 100000 in
set_option maxHeartbeats 4000000 in
theorem gmay_any (s : ByteArray) (wild : Bool) (w : World) (hs : s.size ≤ 100000) : Calls Tryz.prog 113 #[.string s, .bool wild] w fun e w' => e = .returned (.bool (mayL wild s.data.toList)) ∧ Below w.heap.size w w' := by
  have hsl : s.data.toList.length = s.size := by cases s; simp [ByteArray.size]
  have HS := Lib.hid hsl
  obtain ⟨r, hr⟩ : ∃ r, r = mayL wild s.data.toList := ⟨_, rfl⟩
  have HR := Lib.hid hr
  rw [← hr]
  clear hr
  rcases (by omega : s.size < 1 ∨ 128 < s.size ∨ (1 ≤ s.size ∧ s.size ≤ 128)) with g | g | ⟨g1, g2⟩
  · have HI : Hid (r = false) := by
      show _ = _
      rw [HR.out, List.eq_nil_of_length_eq_zero (by omega : s.data.toList.length = 0)]; rfl
    have e1 : decide ((s.size : Int) < 1) = true := by rw [decide_eq_true_iff]; omega
    clear hsl
    go_enter Tryz.func113, Tryz.ntmps113
    go_wp2
    go_ret
    exact ⟨by rw [HI.out]; rfl, Below.refl _ _⟩
  · have HI : Hid (r = false) := by
      show _ = _
      rw [HR.out]; unfold mayL; rw [decide_eq_false (by omega : ¬ s.data.toList.length ≤ 128)]; simp
    have e1 : decide ((s.size : Int) < 1) = false := by rw [decide_eq_false_iff_not]; omega
    have e2 : decide (128 < (s.size : Int)) = true := by rw [decide_eq_true_iff]; omega
    clear hsl
    go_enter Tryz.func113, Tryz.ntmps113
    go_wp2
    go_ret
    exact ⟨by rw [HI.out]; rfl, Below.refl _ _⟩
  · have HI : Hid (r = (s.data.toList.all (okW wild) && segsL s.data.toList)) := by
      show _ = _
      rw [HR.out]; unfold mayL
      rw [decide_eq_true (by omega : s.data.toList.length ≤ 128), show s.data.toList.isEmpty = false from by rw [List.isEmpty_eq_false_iff]; intro e; rw [e] at hsl; simp at hsl; omega]
      rfl
    have e1 : decide ((s.size : Int) < 1) = false := by rw [decide_eq_false_iff_not]; omega
    have e2 : decide (128 < (s.size : Int)) = false := by rw [decide_eq_false_iff_not]; omega
    have HP := Lib.hid (rsplit_any s w hs)
    clear hsl
    go_enter Tryz.func113, Tryz.ntmps113
    go_wp2
    go_loop [5] (fun i => ∃ k : Nat, k ≤ s.size ∧ i = .int .i64 k ∧ Hid ((s.data.toList.take k).all (okW wild) = true)) (fun i => s.size - (intOf i).toNat)
    case atStart => exact ⟨0, Nat.zero_le _, rfl, Lib.hid rfl⟩
    case round =>
      obtain ⟨k, hk, rfl, HK⟩ := hrel
      rcases (by omega : k < s.size ∨ k = s.size) with hlt | heq
      · obtain ⟨c, hc⟩ : ∃ c, c = s[k] := ⟨_, rfl⟩
        have hc' := hc.symm
        have HC := Lib.hid hc
        clear hc
        have hkk : (k : Int) < (s.size : Int) := by omega
        cases ho : okW wild c with
        | true =>
          obtain ⟨a1, a2, a3, a4, a5, a6, a7, a8⟩ := okW_yes wild c ho
          have HK' : Hid ((s.data.toList.take (k + 1)).all (okW wild) = true) := by
            show _ = _
            rw [List.take_succ_eq_append_getElem (by rw [HS.out]; exact hlt), List.all_append, HK.out]
            show (okW wild s[k] && true) = true
            rw [← HC.out, ho]; rfl
          have f1 : decide ((c.toNat : Int) < 33) = false := by rw [decide_eq_false_iff_not]; omega
          have f2 : decide (126 < (c.toNat : Int)) = false := by rw [decide_eq_false_iff_not]; omega
          have f3 : ((c.toNat : Int) == 91) = false := by rw [beq_eq_false_iff_ne]; omega
          have f4 : ((c.toNat : Int) == 93) = false := by rw [beq_eq_false_iff_ne]; omega
          have f5 : ((c.toNat : Int) == 123) = false := by rw [beq_eq_false_iff_ne]; omega
          have f6 : ((c.toNat : Int) == 125) = false := by rw [beq_eq_false_iff_ne]; omega
          have f7 : ((c.toNat : Int) == 92) = false := by rw [beq_eq_false_iff_ne]; omega
          clear ho
          cases wild with
          | true =>
            clear a8
            go_wp2
            go_round
            case rel => exact ⟨k + 1, by omega, by go_num, HK'⟩
            case measure => simp [intOf]; omega
          | false =>
            obtain ⟨a9, a10⟩ := a8 rfl
            clear a8
            have f8 : ((c.toNat : Int) == 42) = false := by rw [beq_eq_false_iff_ne]; omega
            have f9 : ((c.toNat : Int) == 63) = false := by rw [beq_eq_false_iff_ne]; omega
            go_wp2
            go_round
            case rel => exact ⟨k + 1, by omega, by go_num, HK'⟩
            case measure => simp [intOf]; omega
        | false =>
          have hy := okW_why wild c ho
          have HF : Hid (r = false) := by
            show _ = _
            rw [HI.out, Bool.and_eq_false_iff]
            refine .inl (List.all_eq_false.2 ⟨s[k], mem_at s k hlt, ?_⟩)
            rw [← HC.out, ho]; simp
          clear ho HK HC HR HI HS
          rcases hy with hy | hy | hy | hy | hy | hy | hy | ⟨rfl, hy | hy⟩
          · have f1 : decide ((c.toNat : Int) < 33) = true := by rw [decide_eq_true_iff]; omega
            go_wp2; go_ret; exact ⟨by rw [HF.out]; rfl, Below.refl _ _⟩
          · have f1 : decide ((c.toNat : Int) < 33) = false := by rw [decide_eq_false_iff_not]; omega
            have f2 : decide (126 < (c.toNat : Int)) = true := by rw [decide_eq_true_iff]; omega
            go_wp2; go_ret; exact ⟨by rw [HF.out]; rfl, Below.refl _ _⟩
          · have hi : (c.toNat : Int) = 91 := by omega
            clear hy; go_wp2; go_ret; exact ⟨by rw [HF.out]; rfl, Below.refl _ _⟩
          · have hi : (c.toNat : Int) = 93 := by omega
            clear hy; go_wp2; go_ret; exact ⟨by rw [HF.out]; rfl, Below.refl _ _⟩
          · have hi : (c.toNat : Int) = 123 := by omega
            clear hy; go_wp2; go_ret; exact ⟨by rw [HF.out]; rfl, Below.refl _ _⟩
          · have hi : (c.toNat : Int) = 125 := by omega
            clear hy; go_wp2; go_ret; exact ⟨by rw [HF.out]; rfl, Below.refl _ _⟩
          · have hi : (c.toNat : Int) = 92 := by omega
            clear hy; go_wp2; go_ret; exact ⟨by rw [HF.out]; rfl, Below.refl _ _⟩
          · have hi : (c.toNat : Int) = 42 := by omega
            clear hy; go_wp2; go_ret; exact ⟨by rw [HF.out]; rfl, Below.refl _ _⟩
          · have hi : (c.toNat : Int) = 63 := by omega
            clear hy; go_wp2; go_ret; exact ⟨by rw [HF.out]; rfl, Below.refl _ _⟩
      · have hkk : ¬ (k : Int) < (s.size : Int) := by omega
        have HA : Hid (r = segsL s.data.toList) := by
          show _ = _
          rw [HI.out]
          have := HK.out
          rw [List.take_of_length_le (by rw [HS.out]; omega)] at this
          rw [this]; rfl
        clear heq HK HI HR
        go_wp2_with fail
        refine HP.out.mono ?_
        rintro e w' ⟨A, cp, l, hl, rfl, hA, hb⟩
        have hll : l.length ≤ 100001 := by
          have h1 := cutS_len 47 s.data.toList
          rw [← hl, List.length_map, HS.out] at h1
          omega
        have HL : Hid (r = !(l.any (fun x => segBad x.data.toList))) := by show _ = _; rw [HA.out, any_map, hl]; rfl
        clear hl HA HP
        obtain ⟨n, hn⟩ : ∃ n, n = l.length := ⟨_, rfl⟩
        rw [← hn] at hll ⊢
        have HN := Lib.hid hn
        clear hn
        go_wp2
        go_loop [8] (fun i => ∃ j : Nat, j ≤ n ∧ i = .int .i64 j ∧ Hid ((l.take j).any (fun x => segBad x.data.toList) = false)) (fun i => n - (intOf i).toNat)
        case atStart => exact ⟨0, Nat.zero_le _, rfl, Lib.hid rfl⟩
        case round =>
          obtain ⟨j, hj, rfl, HJ⟩ := hrel
          rcases (by omega : j < n ∨ j = n) with hlt | heq
          · have hjl : j < l.length := by rw [← HN.out]; exact hlt
            obtain ⟨ad, rfl, _, hc⟩ := hA.at_ hjl
            clear hA
            have hji : (j : Int) < (n : Int) := by omega
            obtain ⟨x, hx⟩ : ∃ x, x = l[j] := ⟨_, rfl⟩
            rw [← hx] at hc
            have HX := Lib.hid hx
            clear hx
            have hv := seg_val x
            have HBad : Hid (segBad x.data.toList = true → r = false) := fun h => by
              rw [HL.out]
              have : l.any (fun x => segBad x.data.toList) = true := List.any_eq_true.2 ⟨l[j], List.getElem_mem hjl, by rw [← HX.out]; exact h⟩
              rw [this]; rfl
            have HGood : Hid (segBad x.data.toList = false → (l.take (j + 1)).any (fun x => segBad x.data.toList) = false) := fun h => by
              rw [List.take_succ_eq_append_getElem hjl, List.any_append, HJ.out, ← HX.out]
              show (false || (segBad x.data.toList || false)) = false
              rw [h]; rfl
            by_cases h0 : x.toList = []
            · have HV := Lib.hid (HBad.out (by rw [hv, h0]; rfl))
              have hb0 : x.toList.isEmpty = true := by rw [h0]; rfl
              clear hv HBad HGood
              go_wp2; go_ret; exact ⟨by rw [HV.out]; rfl, hb⟩
            · have h0' : (x.toList == []) = false := beq_eq_false_iff_ne.2 h0
              have hb0 : x.toList.isEmpty = false := by rw [List.isEmpty_eq_false_iff]; exact h0
              cases h1 : (x.toList == [46]) with
              | true =>
                have HV := Lib.hid (HBad.out (by rw [hv, h0', h1]; rfl))
                clear hv HBad HGood
                go_wp2; go_ret; exact ⟨by rw [HV.out]; rfl, hb⟩
              | false =>
                cases h2 : (x.toList == [46, 46]) with
                | true =>
                  have HV := Lib.hid (HBad.out (by rw [hv, h0', h1, h2]; rfl))
                  clear hv HBad HGood
                  go_wp2; go_ret; exact ⟨by rw [HV.out]; rfl, hb⟩
                | false =>
                  have HV := Lib.hid (HGood.out (by rw [hv, h0', h1, h2]; rfl))
                  clear hv HBad HGood
                  go_wp2
                  go_round
                  case rel => exact ⟨j + 1, by omega, by go_num, HV⟩
                  case measure => simp [intOf]; omega
          · have hji : ¬ (j : Int) < (n : Int) := by omega
            have HV : Hid (r = true) := by
              show _ = _
              have := HJ.out
              rw [List.take_of_length_le (by rw [← HN.out]; omega)] at this
              rw [HL.out, this]; rfl
            clear heq hA
            go_wp2; go_ret; exact ⟨by rw [HV.out]; rfl, hb⟩
theorem rpath_any (s : ByteArray) (w : World) (hs : s.size ≤ 100000) : Calls Tryz.prog 87 #[.string s] w fun e w' => e = .returned (.bool (pathL s.data.toList)) ∧ Below w.heap.size w w' := by
  have HP := gmay_any s false w hs
  rw [may_path] at HP
  obtain ⟨r, hr⟩ : ∃ r, r = pathL s.data.toList := ⟨_, rfl⟩
  rw [← hr] at HP ⊢
  clear hr
  have HP := Lib.hid HP
  go_enter Tryz.func87, Tryz.ntmps87
  go_wp2_with fail
  refine HP.out.mono ?_
  rintro e w' ⟨rfl, hb⟩
  go_wp2
  go_ret
  exact ⟨rfl, hb⟩
end Go.Proofs.YtgpcinfhcamgpaaGreatDoor
