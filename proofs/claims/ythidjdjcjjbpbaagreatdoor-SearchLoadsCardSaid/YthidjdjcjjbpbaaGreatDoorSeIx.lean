/-
  slices.IndexFunc at targets, at roles' metadata; what stands on it.
-/
import Derived.Test.YthidjdjcjjbpbaaGreatDoorSeM
namespace Go.Proofs.YthidjdjcjjbpbaaGreatDoor
open Go.RowKit Sea
set_option linter.unusedVariables false
set_option linter.unusedSimpArgs false

def PF (P : Ending → World → Prop) (e : Ending) (w' : World) : Prop := P e w'
theorem toList_injV {a b : ByteArray} (h : a.toList = b.toList) : a = b := by
  rw [Lib.toList_data, Lib.toList_data] at h
  cases a; cases b
  simp only [ByteArray.mk.injEq]
  exact Array.toList_inj.1 h
theorem nm_beq (a b : ByteArray) : (a.toList == b.toList) = decide (a = b) := by
  by_cases h : a = b
  · subst h; simp
  · rw [decide_eq_false h, beq_eq_false_iff_ne]; exact fun e => h (toList_injV e)
def idxG {α : Type} (p : α → Bool) (l : List α) : Int := if l.findIdx p < l.length then (l.findIdx p : Int) else -1
theorem idxG_hit {α : Type} (p : α → Bool) (l : List α) (k : Nat) (hk : k < l.length) (h : p l[k] = true) (hb : ∀ j (hj : j < l.length), j < k → p l[j] = false) : idxG p l = k := by
  have : l.findIdx p = k := (List.findIdx_eq hk).2 ⟨h, fun j hj => hb j (by omega) hj⟩
  unfold idxG
  rw [this, if_pos hk]
theorem idxG_miss {α : Type} (p : α → Bool) (l : List α) (hb : ∀ j (hj : j < l.length), p l[j] = false) : idxG p l = -1 := by
  unfold idxG
  rw [if_neg]
  intro h
  have := List.findIdx_getElem (w := h)
  rw [hb _ h] at this
  cases this
/-- either none, or the first one -/
theorem idxG_find {α : Type} (p : α → Bool) (l : List α) : (idxG p l = -1 ∧ l.find? p = none) ∨ ∃ k, ∃ hk : k < l.length, idxG p l = k ∧ l.find? p = some l[k] := by
  by_cases h : l.findIdx p < l.length
  · refine .inr ⟨l.findIdx p, h, by unfold idxG; rw [if_pos h], ?_⟩
    rw [List.find?_eq_some_iff_getElem]
    refine ⟨List.findIdx_getElem (w := h), l.findIdx p, h, rfl, fun j hj => ?_⟩
    have := List.not_of_lt_findIdx hj
    simpa using this
  · refine .inl ⟨by unfold idxG; rw [if_neg h], ?_⟩
    rw [List.find?_eq_none]
    intro x hx hp
    exact h (List.findIdx_lt_length_of_exists ⟨x, hx, hp⟩)
/-- what a function value at one of them is asked: it answers p, and leaves what was there -/
def PredT (X : Nat → Prop) (g : Nat) (lb : Array Value) (w : World) (l : List PT) (p : PT → Bool) : Prop :=
  ∀ (k : Nat) (hk : k < l.length) (W : World), Below w.heap.size w W → Calls Tryz.prog g (#[.agg #[.string l[k].p, .int .i64 l[k].n, .string l[k].h]] ++ lb) W fun e w' => e = .returned (.bool (p l[k])) ∧ Below W.heap.size W w'
set_option maxRecDepth 100000 in
set_option maxHeartbeats 2000000 in
theorem indexT_any (X : Nat → Prop) (g : Nat) (lb : Array Value) (eg : ∀ args w, (callFunc g args).run Tryz.prog w = .ok (.enter g args) w) (A : Option Addr) (n c : Nat) (l : List PT) (w : World) (p : PT → Bool)
    (hv : RowE (TB w) 3 X w A l) (hn : l.length = n) (hbig : n ≤ 9223372036854775807) (hp : PredT X g lb w l p) :
    Calls Tryz.prog 35 #[.slice A n c, .func (.func g) #[] lb] w fun e w' => e = .returned (.int .i64 (idxG p l)) ∧ Below w.heap.size w w' := by
  have HN := Lib.hid hn
  have HV := Lib.hid hv
  have HPP := Lib.hid hp
  clear hn hv hp
  obtain ⟨r, hr⟩ : ∃ r, r = idxG p l := ⟨_, rfl⟩
  rw [← hr]
  have HR := Lib.hid hr
  clear hr
  go_enter Tryz.func35, Tryz.ntmps35
  go_wp2
  go_loopw [5, 8] (fun _ i wr => ∃ k : Nat, k ≤ n ∧ i = .int .i64 k ∧ Hid (∀ j (hj : j < l.length), j < k → p l[j] = false) ∧ Hid (Below w.heap.size w wr)) (fun _ i _ => n - (intOf i).toNat)
  case atStart => exact ⟨0, Nat.zero_le _, rfl, Lib.hid (fun j hj h => by omega), Lib.hid (Below.refl _ _)⟩
  case round =>
    obtain ⟨k, hk, rfl, HB, HW⟩ := hrel
    rcases (by omega : k < n ∨ k = n) with hlt | heq
    · have q0 : decide ((k : Int) < (n : Int)) = true := by rw [decide_eq_true_iff]; omega
      have q0' : decide (k < n) = true := by rw [decide_eq_true_iff]; omega
      have hkl : k < l.length := by rw [HN.out]; exact hlt
      obtain ⟨b, o, hA0, hbl, _, hc0⟩ := (HV.out.fr (Fr.of_below HW.out) (fun _ _ _ hB hX q => q.fr (Fr.of_below HW.out) hB hX)) (by omega)
      subst hA0
      have hcall := HPP.out k hkl
      have hck := hc0 k hkl
      obtain ⟨x, hx⟩ : ∃ x, x = l[k] := ⟨_, rfl⟩
      rw [← hx] at hcall hck
      have hcall := hcall wr HW.out
      obtain ⟨d0, d1, d2⟩ := hck
      have d0 : wr.cell? ⟨b, o + k * 3, none⟩ = some (.string x.p) := d0
      have HX := Lib.hid hx
      have hki : (k : Int) < (n : Int) := by omega
      have hk0 : (0 : Int) ≤ (k : Int) := by omega
      clear hx hc0 hbl
      cases hq : p x with
      | true =>
        rw [hq] at hcall
        have HQ := Lib.hid hq
        have HCC := Lib.hid hcall
        clear hq hcall
        have HI : Hid (r = (k : Int)) := by show _ = _; rw [HR.out]; exact idxG_hit p l k hkl (by rw [← HX.out]; exact HQ.out) (fun j hj h => HB.out j hj h)
        go_wp2_with (go_at_fn g; refine HCC.out.mono ?_; rintro e w' ⟨rfl, hb'⟩; have HB9 := Lib.hid (HW.out.trans (hb'.mono HW.out.size)); clear hb')
        go_ret
        exact ⟨by rw [HI.out]; rfl, HB9.out⟩
      | false =>
        rw [hq] at hcall
        have HQ := Lib.hid hq
        have HCC := Lib.hid hcall
        clear hq hcall
        go_wp2_with (go_at_fn g; refine HCC.out.mono ?_; rintro e w' ⟨rfl, hb'⟩; have HB9 := Lib.hid (HW.out.trans (hb'.mono HW.out.size)); clear hb')
        go_roundw
        case rel => exact ⟨k + 1, by omega, by go_num, Lib.hid (fun j hj h => by
          rcases (by omega : j < k ∨ j = k) with h1 | h1
          · exact HB.out j hj h1
          · subst h1; rw [← HX.out]; exact HQ.out), HB9⟩
        case measure => simp [intOf]; omega
    · have q0 : decide ((k : Int) < (n : Int)) = false := by rw [decide_eq_false_iff_not]; omega
      have q0' : decide (k < n) = false := by rw [decide_eq_false_iff_not]; omega
      have HI : Hid (r = -1) := by show _ = _; rw [HR.out]; exact idxG_miss p l (fun j hj => HB.out j hj (by rw [HN.out] at hj; omega))
      clear heq
      go_wp2
      go_ret
      exact ⟨by rw [HI.out]; rfl, HW.out⟩
/-- what a function value at one of them is asked: it answers p, and leaves what was there -/
def PredN (X : Nat → Prop) (g : Nat) (lb : Array Value) (w : World) (l : List PN) (p : PN → Bool) : Prop :=
  ∀ (k : Nat) (hk : k < l.length) (a : MA) (W : World), Below w.heap.size w W → Calls Tryz.prog g (#[.agg #[.string l[k].name, .int .i64 l[k].t.ver, .int .i64 l[k].t.exp, .slice a.tA l[k].t.ts.length a.tc, .slice a.kA l[k].t.ks.length a.kc, .slice a.dA l[k].t.ds.length a.dc]] ++ lb) W fun e w' => e = .returned (.bool (p l[k])) ∧ Below W.heap.size W w'
set_option maxRecDepth 100000 in
set_option maxHeartbeats 2000000 in
theorem indexN_any (X : Nat → Prop) (g : Nat) (lb : Array Value) (eg : ∀ args w, (callFunc g args).run Tryz.prog w = .ok (.enter g args) w) (A : Option Addr) (n c : Nat) (l : List PN) (w : World) (p : PN → Bool)
    (hv : NsR X w A l) (hn : l.length = n) (hbig : n ≤ 9223372036854775807) (hp : PredN X g lb w l p) :
    Calls Tryz.prog 40 #[.slice A n c, .func (.func g) #[] lb] w fun e w' => e = .returned (.int .i64 (idxG p l)) ∧ Below w.heap.size w w' := by
  have HN := Lib.hid hn
  have HV := Lib.hid hv
  have HPP := Lib.hid hp
  clear hn hv hp
  obtain ⟨r, hr⟩ : ∃ r, r = idxG p l := ⟨_, rfl⟩
  rw [← hr]
  have HR := Lib.hid hr
  clear hr
  go_enter Tryz.func40, Tryz.ntmps40
  go_wp2
  go_loopw [5, 8] (fun _ i wr => ∃ k : Nat, k ≤ n ∧ i = .int .i64 k ∧ Hid (∀ j (hj : j < l.length), j < k → p l[j] = false) ∧ Hid (Below w.heap.size w wr)) (fun _ i _ => n - (intOf i).toNat)
  case atStart => exact ⟨0, Nat.zero_le _, rfl, Lib.hid (fun j hj h => by omega), Lib.hid (Below.refl _ _)⟩
  case round =>
    obtain ⟨k, hk, rfl, HB, HW⟩ := hrel
    rcases (by omega : k < n ∨ k = n) with hlt | heq
    · have q0 : decide ((k : Int) < (n : Int)) = true := by rw [decide_eq_true_iff]; omega
      have q0' : decide (k < n) = true := by rw [decide_eq_true_iff]; omega
      have hkl : k < l.length := by rw [HN.out]; exact hlt
      obtain ⟨b, o, hA0, hbl, _, hc0⟩ := (HV.out.bel HW.out) (by omega)
      subst hA0
      have hcall := HPP.out k hkl
      have hck := hc0 k hkl
      obtain ⟨x, hx⟩ : ∃ x, x = l[k] := ⟨_, rfl⟩
      rw [← hx] at hcall hck
      obtain ⟨a, hcs, hok⟩ := hck
      have hcall := hcall a wr HW.out
      have d0 : wr.cell? ⟨b, o + k * 6, none⟩ = some (.string x.name) := hcs 0 (by omega)
      have d1 : wr.cell? ⟨b, o + k * 6 + 1, none⟩ = some (.int .i64 x.t.ver) := hcs 1 (by omega)
      have d2 : wr.cell? ⟨b, o + k * 6 + 2, none⟩ = some (.int .i64 x.t.exp) := hcs 2 (by omega)
      have d3 : wr.cell? ⟨b, o + k * 6 + 3, none⟩ = some (.slice a.tA x.t.ts.length a.tc) := hcs 3 (by omega)
      have d4 : wr.cell? ⟨b, o + k * 6 + 4, none⟩ = some (.slice a.kA x.t.ks.length a.kc) := hcs 4 (by omega)
      have d5 : wr.cell? ⟨b, o + k * 6 + 5, none⟩ = some (.slice a.dA x.t.ds.length a.dc) := hcs 5 (by omega)
      clear hcs hok
      have HX := Lib.hid hx
      have hki : (k : Int) < (n : Int) := by omega
      have hk0 : (0 : Int) ≤ (k : Int) := by omega
      clear hx hc0 hbl
      cases hq : p x with
      | true =>
        rw [hq] at hcall
        have HQ := Lib.hid hq
        have HCC := Lib.hid hcall
        clear hq hcall
        have HI : Hid (r = (k : Int)) := by show _ = _; rw [HR.out]; exact idxG_hit p l k hkl (by rw [← HX.out]; exact HQ.out) (fun j hj h => HB.out j hj h)
        go_wp2_with (go_at_fn g; refine HCC.out.mono ?_; rintro e w' ⟨rfl, hb'⟩; have HB9 := Lib.hid (HW.out.trans (hb'.mono HW.out.size)); clear hb')
        go_ret
        exact ⟨by rw [HI.out]; rfl, HB9.out⟩
      | false =>
        rw [hq] at hcall
        have HQ := Lib.hid hq
        have HCC := Lib.hid hcall
        clear hq hcall
        go_wp2_with (go_at_fn g; refine HCC.out.mono ?_; rintro e w' ⟨rfl, hb'⟩; have HB9 := Lib.hid (HW.out.trans (hb'.mono HW.out.size)); clear hb')
        go_roundw
        case rel => exact ⟨k + 1, by omega, by go_num, Lib.hid (fun j hj h => by
          rcases (by omega : j < k ∨ j = k) with h1 | h1
          · exact HB.out j hj h1
          · subst h1; rw [← HX.out]; exact HQ.out), HB9⟩
        case measure => simp [intOf]; omega
    · have q0 : decide ((k : Int) < (n : Int)) = false := by rw [decide_eq_false_iff_not]; omega
      have q0' : decide (k < n) = false := by rw [decide_eq_false_iff_not]; omega
      have HI : Hid (r = -1) := by show _ = _; rw [HR.out]; exact idxG_miss p l (fun j hj => HB.out j hj (by rw [HN.out] at hj; omega))
      clear heq
      go_wp2
      go_ret
      exact ⟨by rw [HI.out]; rfl, HW.out⟩
set_option maxHeartbeats 2000000 in
theorem tfind1_any (x : PT) (key : ByteArray) (g : Nat) (w : World) (h : w.cell? ⟨g, 0, none⟩ = some (.string key)) (hg : g < w.heap.size) :
    Calls Tryz.prog 36 #[.agg #[.string x.p, .int .i64 x.n, .string x.h], .pointer (some ⟨g, 0, none⟩)] w fun e w' => e = .returned (.bool (decide (x.p = key))) ∧ Below w.heap.size w w' := by
  have hq := nm_beq x.p key
  have h1 : (w.alloc (.cells #[.string x.p, .int .i64 x.n, .string x.h] 31)).cell? ⟨g, 0, none⟩ = some (.string key) := (World.cell?_alloc_lt _ _ _ hg).trans h
  by_cases he : x.p = key
  · rw [decide_eq_true he] at hq ⊢
    clear he h
    go_enter Tryz.func36, Tryz.ntmps36
    go_wp2
    go_ret
    exact ⟨rfl, (Below.refl _ _).alloc (Nat.le_refl _) _⟩
  · rw [decide_eq_false he] at hq ⊢
    clear he h
    go_enter Tryz.func36, Tryz.ntmps36
    go_wp2
    go_ret
    exact ⟨rfl, (Below.refl _ _).alloc (Nat.le_refl _) _⟩
set_option maxHeartbeats 2000000 in
theorem nof1_any (x : PN) (a : MA) (key : ByteArray) (g : Nat) (w : World) (h : w.cell? ⟨g, 0, none⟩ = some (.string key)) (hg : g < w.heap.size) :
    Calls Tryz.prog 41 #[.agg #[.string x.name, .int .i64 x.t.ver, .int .i64 x.t.exp, .slice a.tA x.t.ts.length a.tc, .slice a.kA x.t.ks.length a.kc, .slice a.dA x.t.ds.length a.dc], .pointer (some ⟨g, 0, none⟩)] w fun e w' => e = .returned (.bool (decide (x.name = key))) ∧ Below w.heap.size w w' := by
  have hq := nm_beq x.name key
  have h1 : (w.alloc (.cells #[.string x.name, .int .i64 x.t.ver, .int .i64 x.t.exp, .slice a.tA x.t.ts.length a.tc, .slice a.kA x.t.ks.length a.kc, .slice a.dA x.t.ds.length a.dc] 46)).cell? ⟨g, 0, none⟩ = some (.string key) := (World.cell?_alloc_lt _ _ _ hg).trans h
  by_cases he : x.name = key
  · rw [decide_eq_true he] at hq ⊢
    clear he h
    go_enter Tryz.func41, Tryz.ntmps41
    go_wp2
    go_ret
    exact ⟨rfl, (Below.refl _ _).alloc (Nat.le_refl _) _⟩
  · rw [decide_eq_false he] at hq ⊢
    clear he h
    go_enter Tryz.func41, Tryz.ntmps41
    go_wp2
    go_ret
    exact ⟨rfl, (Below.refl _ _).alloc (Nat.le_refl _) _⟩
end Go.Proofs.YthidjdjcjjbpbaaGreatDoor
