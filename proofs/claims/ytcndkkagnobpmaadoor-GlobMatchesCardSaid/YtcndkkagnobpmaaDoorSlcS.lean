/-
  Rows of strings; slices.IndexFunc, ContainsFunc, EqualFunc at strings, whatever the function value is.
-/
import Derived.Test.YtcndkkagnobpmaaDoorWords2
import Derived.Test.YtcndkkagnobpmaaDoorShelf
import Derived.Handy
namespace Go.Proofs.YtcndkkagnobpmaaDoor
open Go.RowKit
set_option linter.unusedVariables false

/-- strings in a row -/
def SS (w : World) (A : Option Addr) (l : List ByteArray) : Prop := Reads w w.heap.size 1 A l.length (l.map Value.string)
theorem SS.below {w w' : World} {A : Option Addr} {l : List ByteArray} (h : SS w A l) (hb : Below w.heap.size w w') : SS w' A l := (Reads.below h hb).more hb.size
theorem SS.at_ {w : World} {A : Option Addr} {l : List ByteArray} (h : SS w A l) {k : Nat} (hk : k < l.length) : ∃ ad, A = some ad ∧ ad.block < w.heap.size ∧ w.cell? (ad.add k) = some (.string l[k]) := by
  obtain ⟨ad, u, e, hb, hx, hc⟩ := Reads.at_ h hk
  refine ⟨ad, e, hb, ?_⟩
  rw [hc]
  simp [hk] at hx
  rw [hx]
theorem SS.nil (w : World) : SS w none [] := Reads.none_
theorem SS.of_block {w : World} {g : Nat} {t : TypeId} {l : List ByteArray} (h : Blk w g t (l.map Value.string).toArray) : SS w (some ⟨g, 0, none⟩) l := by
  refine ⟨by simp, fun hn => ⟨_, rfl, h.lt, fun j u hu => ?_⟩⟩
  rw [Addr.add_lit, Nat.zero_add, h.cell j]
  simpa using hu

/-- what a function value at one string is asked: it answers p, and leaves what was there -/
def PredS (g : Nat) (lb : Array Value) (w : World) (l : List ByteArray) (p : ByteArray → Bool) : Prop :=
  ∀ (k : Nat) (hk : k < l.length) (W : World), Below w.heap.size w W → Calls Tryd.prog g (#[.string l[k]] ++ lb) W fun e w' => e = .returned (.bool (p l[k])) ∧ Below w.heap.size w w'
def idxS (p : ByteArray → Bool) (l : List ByteArray) : Int := if l.findIdx p < l.length then (l.findIdx p : Int) else -1
theorem idxS_hit (p : ByteArray → Bool) (l : List ByteArray) (k : Nat) (hk : k < l.length) (h : p l[k] = true) (hb : ∀ j (hj : j < l.length), j < k → p l[j] = false) : idxS p l = k := by
  have : l.findIdx p = k := (List.findIdx_eq hk).2 ⟨h, fun j hj => hb j (by omega) hj⟩
  unfold idxS
  rw [this, if_pos hk]
theorem idxS_miss (p : ByteArray → Bool) (l : List ByteArray) (hb : ∀ j (hj : j < l.length), p l[j] = false) : idxS p l = -1 := by
  unfold idxS
  rw [if_neg]
  intro h
  have := List.findIdx_getElem (w := h)
  rw [hb _ h] at this
  cases this
theorem idxS_any (p : ByteArray → Bool) (l : List ByteArray) : decide (0 ≤ idxS p l) = l.any p := by
  unfold idxS
  rw [Bool.eq_iff_iff, decide_eq_true_iff, List.any_eq_true]
  split
  · rename_i h
    exact ⟨fun _ => ⟨_, List.getElem_mem h, List.findIdx_getElem (w := h)⟩, fun _ => by omega⟩
  · rename_i h
    constructor
    · intro h; omega
    · rintro ⟨x, hx, hp⟩
      exact absurd (List.findIdx_lt_length_of_exists ⟨x, hx, hp⟩) h
theorem idxS_ge (p : ByteArray → Bool) (l : List ByteArray) : -1 ≤ idxS p l := by unfold idxS; split <;> omega
theorem idxS_lt (p : ByteArray → Bool) (l : List ByteArray) : idxS p l < l.length := by unfold idxS; split <;> omega

set_option maxHeartbeats 1000000 in
theorem indexFunc_any (g : Nat) (lb : Array Value) (eg : ∀ args w, (callFunc g args).run Tryd.prog w = .ok (.enter g args) w) (A : Option Addr) (n c : Nat) (l : List ByteArray) (w : World) (p : ByteArray → Bool)
    (hl : SS w A l) (hn : l.length = n) (hbig : n ≤ 9223372036854775807) (hp : PredS g lb w l p) :
    Calls Tryd.prog 57 #[.slice A n c, .func (.func g) #[] lb] w fun e w' => e = .returned (.int .i64 (idxS p l)) ∧ Below w.heap.size w w' := by
  have HN := Lib.hid hn
  clear hn
  obtain ⟨r, hr⟩ : ∃ r, r = idxS p l := ⟨_, rfl⟩
  rw [← hr]
  have HR := Lib.hid hr
  clear hr
  go_enter Tryd.func57, Tryd.ntmps57
  go_wp2
  go_loopw [5, 8] (fun _ i wr => ∃ k : Nat, k ≤ n ∧ i = .int .i64 k ∧ Hid (∀ j (hj : j < l.length), j < k → p l[j] = false) ∧ Hid (Below w.heap.size w wr)) (fun _ i _ => n - (intOf i).toNat)
  case atStart => exact ⟨0, Nat.zero_le _, rfl, Lib.hid (fun j hj h => by omega), Lib.hid (Below.refl _ _)⟩
  case round =>
    obtain ⟨k, hk, rfl, HB, HW⟩ := hrel
    rcases (by omega : k < n ∨ k = n) with hlt | heq
    · have hkl : k < l.length := by rw [HN.out]; exact hlt
      obtain ⟨ad, rfl, hb, hc⟩ := (hl.below HW.out).at_ hkl
      have hcall := hp k hkl wr HW.out
      clear hl hp
      have hki : (k : Int) < (n : Int) := by omega
      obtain ⟨x, hx⟩ : ∃ x, x = l[k] := ⟨_, rfl⟩
      rw [← hx] at hc hcall
      have HX := Lib.hid hx
      clear hx
      cases hq : p x with
      | true =>
        rw [hq] at hcall
        have HQ := Lib.hid hq
        clear hq
        have HI : Hid (r = (k : Int)) := by show _ = _; rw [HR.out]; exact idxS_hit p l k hkl (by rw [← HX.out]; exact HQ.out) (fun j hj h => HB.out j hj h)
        go_wp2_with (go_at_fn g; refine hcall.mono ?_; rintro e w' ⟨rfl, hb'⟩)
        go_ret
        exact ⟨by rw [HI.out]; rfl, hb'⟩
      | false =>
        rw [hq] at hcall
        have HQ := Lib.hid hq
        clear hq
        go_wp2_with (go_at_fn g; refine hcall.mono ?_; rintro e w' ⟨rfl, hb'⟩)
        go_roundw
        case rel => exact ⟨k + 1, by omega, by go_num, Lib.hid (fun j hj h => by
          rcases (by omega : j < k ∨ j = k) with h1 | h1
          · exact HB.out j hj h1
          · subst h1; rw [← HX.out]; exact HQ.out), Lib.hid hb'⟩
        case measure => simp [intOf]; omega
    · have e1 : ¬ (k : Int) < (n : Int) := by omega
      have HI : Hid (r = -1) := by show _ = _; rw [HR.out]; exact idxS_miss p l (fun j hj => HB.out j hj (by rw [HN.out] at hj; omega))
      clear heq hl hp
      go_wp2
      go_ret
      exact ⟨by rw [HI.out]; rfl, HW.out⟩

set_option maxHeartbeats 1000000 in
theorem containsFunc_any (g : Nat) (lb : Array Value) (eg : ∀ args w, (callFunc g args).run Tryd.prog w = .ok (.enter g args) w) (A : Option Addr) (n c : Nat) (l : List ByteArray) (w : World) (p : ByteArray → Bool)
    (hl : SS w A l) (hn : l.length = n) (hbig : n ≤ 9223372036854775807) (hp : PredS g lb w l p) :
    Calls Tryd.prog 91 #[.slice A n c, .func (.func g) #[] lb] w fun e w' => e = .returned (.bool (l.any p)) ∧ Below w.heap.size w w' := by
  have H := indexFunc_any g lb eg A n c l w p hl hn hbig hp
  rw [← idxS_any]
  obtain ⟨r, hr⟩ : ∃ r, r = idxS p l := ⟨_, rfl⟩
  rw [← hr] at H ⊢
  clear hr hl hn hp
  have HH := Lib.hid H
  clear H
  go_enter Tryd.func91, Tryd.ntmps91
  go_wp2_with fail
  refine HH.out.mono ?_
  rintro e w' ⟨rfl, hb⟩
  go_wp2
  go_ret
  exact ⟨rfl, hb⟩

/-- what a function value at two strings is asked -/
def PredS2 (g : Nat) (lb : Array Value) (w : World) (l m : List ByteArray) (p : ByteArray → ByteArray → Bool) : Prop :=
  ∀ (k : Nat) (hk : k < l.length) (hm : k < m.length) (W : World), Below w.heap.size w W → Calls Tryd.prog g (#[.string l[k], .string m[k]] ++ lb) W fun e w' => e = .returned (.bool (p l[k] m[k])) ∧ Below w.heap.size w w'
def allS (p : ByteArray → ByteArray → Bool) : List ByteArray → List ByteArray → Bool
  | [], [] => true
  | a :: l, b :: m => p a b && allS p l m
  | _, _ => false
theorem allS_len (p : ByteArray → ByteArray → Bool) : ∀ (l m : List ByteArray), l.length ≠ m.length → allS p l m = false
  | [], [], h => absurd rfl h
  | [], _ :: _, _ => rfl
  | _ :: _, [], _ => rfl
  | a :: l, b :: m, h => by
    rw [allS, allS_len p l m (by simpa using h)]; simp
theorem allS_step (p : ByteArray → ByteArray → Bool) {l m : List ByteArray} {k : Nat} (h1 : k < l.length) (h2 : k < m.length) : allS p (l.drop k) (m.drop k) = (p l[k] m[k] && allS p (l.drop (k + 1)) (m.drop (k + 1))) := by
  rw [List.drop_eq_getElem_cons h1, List.drop_eq_getElem_cons h2]; rfl

theorem equalFunc_len (g : Nat) (lb : Array Value) (A B : Option Addr) (n m c d : Nat) (w : World) (h : n ≠ m) (hn : n ≤ 9223372036854775807) (hm : m ≤ 9223372036854775807) :
    Calls Tryd.prog 49 #[.slice A n c, .slice B m d, .func (.func g) #[] lb] w fun e w' => e = .returned (.bool false) ∧ Below w.heap.size w w' := by
  have h1 : ((n : Int) != m) = true := by simp; omega
  go_enter Tryd.func49, Tryd.ntmps49
  go_wp2
  go_ret
  exact ⟨rfl, Below.refl _ _⟩
set_option maxHeartbeats 1000000 in
theorem equalFunc_any (g : Nat) (lb : Array Value) (eg : ∀ args w, (callFunc g args).run Tryd.prog w = .ok (.enter g args) w) (A B : Option Addr) (n c d : Nat) (l m : List ByteArray) (w : World) (p : ByteArray → ByteArray → Bool)
    (hl : SS w A l) (hm : SS w B m) (hn : l.length = n) (hn2 : m.length = n) (hbig : n ≤ 9223372036854775807) (hp : PredS2 g lb w l m p) :
    Calls Tryd.prog 49 #[.slice A n c, .slice B n d, .func (.func g) #[] lb] w fun e w' => e = .returned (.bool (allS p l m)) ∧ Below w.heap.size w w' := by
  have HN := Lib.hid hn
  have HN2 := Lib.hid hn2
  clear hn hn2
  have h1 : ((n : Int) != n) = false := by simp
  obtain ⟨r, hr⟩ : ∃ r, r = allS p l m := ⟨_, rfl⟩
  rw [← hr]
  have HR := Lib.hid hr
  clear hr
  go_enter Tryd.func49, Tryd.ntmps49
  go_wp2
  go_loopw [7, 8, 9, 17] (fun _ _ _ i wr => ∃ k : Nat, k ≤ n ∧ i = .int .i64 k ∧ Hid (r = allS p (l.drop k) (m.drop k)) ∧ Hid (Below w.heap.size w wr)) (fun _ _ _ i _ => n - (intOf i).toNat)
  case atStart => exact ⟨0, Nat.zero_le _, rfl, Lib.hid HR.out, Lib.hid (Below.refl _ _)⟩
  case round =>
    obtain ⟨k, hk, rfl, HB, HW⟩ := hrel
    rcases (by omega : k < n ∨ k = n) with hlt | heq
    · have hkl : k < l.length := by rw [HN.out]; exact hlt
      have hkm : k < m.length := by rw [HN2.out]; exact hlt
      obtain ⟨ad, rfl, hb, hc⟩ := (hl.below HW.out).at_ hkl
      obtain ⟨bd, rfl, hb2, hc2⟩ := (hm.below HW.out).at_ hkm
      have hcall := hp k hkl hkm wr HW.out
      clear hl hp hm
      have hki : (k : Int) < (n : Int) := by omega
      have hst := allS_step p hkl hkm
      obtain ⟨x, hx⟩ : ∃ x, x = l[k] := ⟨_, rfl⟩
      obtain ⟨y, hy⟩ : ∃ y, y = m[k] := ⟨_, rfl⟩
      rw [← hx] at hc hcall hst
      rw [← hy] at hc2 hcall hst
      clear hx hy
      have HST := Lib.hid hst
      clear hst
      cases hq : p x y with
      | true =>
        rw [hq] at hcall
        have HI : Hid (r = allS p (l.drop (k + 1)) (m.drop (k + 1))) := by show _ = _; rw [HB.out, HST.out, hq]; rfl
        clear hq
        go_wp2_with (go_at_fn g; refine hcall.mono ?_; rintro e w' ⟨rfl, hb'⟩)
        go_roundw
        case rel => exact ⟨k + 1, by omega, by go_num, HI, Lib.hid hb'⟩
        case measure => simp [intOf]; omega
      | false =>
        rw [hq] at hcall
        have HI : Hid (r = false) := by show _ = _; rw [HB.out, HST.out, hq]; rfl
        clear hq
        go_wp2_with (go_at_fn g; refine hcall.mono ?_; rintro e w' ⟨rfl, hb'⟩)
        go_ret
        exact ⟨by rw [HI.out]; rfl, hb'⟩
    · have e1 : ¬ (k : Int) < (n : Int) := by omega
      have HI : Hid (r = true) := by show _ = _; rw [HB.out, List.drop_of_length_le (by rw [HN.out]; omega), List.drop_of_length_le (by rw [HN2.out]; omega)]; rfl
      clear heq hl hp hm
      go_wp2
      go_ret
      exact ⟨by rw [HI.out]; rfl, HW.out⟩
end Go.Proofs.YtcndkkagnobpmaaDoor
