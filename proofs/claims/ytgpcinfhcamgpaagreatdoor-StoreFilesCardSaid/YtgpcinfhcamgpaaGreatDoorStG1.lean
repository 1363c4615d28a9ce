/-
  Files: slices.IndexFunc at them; store.at, store.Get.
-/
import Derived.Test.YtgpcinfhcamgpaaGreatDoorStM2
import Derived.Test.YtgpcinfhcamgpaaGreatDoorStS1
import Derived.Handy
namespace Go.Proofs.YtgpcinfhcamgpaaGreatDoor
open Go.RowKit
attribute [local go_sem ↓] Go.wp_at_zero Go.wp_at_succ
set_option linter.unusedVariables false
set_option linter.unusedSimpArgs false

def idxG {α : Type} (p : α → Bool) (l : List α) : Int := if l.findIdx p < l.length then (l.findIdx p : Int) else -1
theorem idxG_hit {α : Type} (p : α → Bool) (l : List α) (k : Nat) (hk : k < l.length) (h : p l[k] = true) (hb : ∀ j (hj : j < l.length), j < k → p l[j] = false) : idxG p l = k := by
  have : l.findIdx p = k := (List.findIdx_eq hk).2 ⟨h, fun j hj => hb j (by omega) hj⟩
  unfold idxG
  rw [this, if_pos hk]
theorem idxG_miss {α : Type} (p : α → Bool) (l : List α) (hb : ∀ j (hj : j < l.length), p l[j] = false) : idxG p l = -1 := by
  unfold idxG
  rw [if_neg]
  intro h
  have := List.findIdx_getElem (w := h)
  rw [hb _ h] at this
  cases this
/-- what a function value at one file is asked: it answers p, and leaves what was there -/
def PredF (g : Nat) (lb : Array Value) (w : World) (fs : List FV) (p : FV → Bool) : Prop :=
  ∀ (k : Nat) (hk : k < fs.length) (W : World), Below w.heap.size w W → Calls Tryz.prog g (#[.agg #[.string fs[k].nm, .slice fs[k].A fs[k].b.length fs[k].c]] ++ lb) W fun e w' => e = .returned (.bool (p fs[k])) ∧ Below w.heap.size w w'
set_option maxRecDepth 100000 in
set_option maxHeartbeats 2000000 in
theorem indexFile_any (g : Nat) (lb : Array Value) (eg : ∀ args w, (callFunc g args).run Tryz.prog w = .ok (.enter g args) w) (A : Option Addr) (n c : Nat) (fs : List FV) (w : World) (p : FV → Bool)
    (hl : Fls w A fs) (hn : fs.length = n) (hbig : n ≤ 140737488355328) (hp : PredF g lb w fs p) :
    Calls Tryz.prog 67 #[.slice A n c, .func (.func g) #[] lb] w fun e w' => e = .returned (.int .i64 (idxG p fs)) ∧ Below w.heap.size w w' := by
  have HN := Lib.hid hn
  have HF := Lib.hid hl
  have HPP := Lib.hid hp
  clear hn hl hp
  obtain ⟨r, hr⟩ : ∃ r, r = idxG p fs := ⟨_, rfl⟩
  rw [← hr]
  have HR := Lib.hid hr
  clear hr
  go_enter Tryz.func67, Tryz.ntmps67
  go_wp2
  go_loopw [5, 8] (fun _ i wr => ∃ k : Nat, k ≤ n ∧ i = .int .i64 k ∧ Hid (∀ j (hj : j < fs.length), j < k → p fs[j] = false) ∧ Hid (Below w.heap.size w wr)) (fun _ i _ => n - (intOf i).toNat)
  case atStart => exact ⟨0, Nat.zero_le _, rfl, Lib.hid (fun j hj h => by omega), Lib.hid (Below.refl _ _)⟩
  case round =>
    obtain ⟨k, hk, rfl, HB, HW⟩ := hrel
    rcases (by omega : k < n ∨ k = n) with hlt | heq
    · have q0 : decide ((k : Int) < (n : Int)) = true := by rw [decide_eq_true_iff]; omega
      have q0' : decide (k < n) = true := by rw [decide_eq_true_iff]; omega
      have hkl : k < fs.length := by rw [HN.out]; exact hlt
      obtain ⟨b, o, hA, hb, c0, c1, hrb, hbc, hbm⟩ := (HF.out.below HW.out).at_ hkl
      subst hA
      have hcall := HPP.out k hkl wr HW.out
      obtain ⟨x, hx⟩ : ∃ x, x = fs[k] := ⟨_, rfl⟩
      rw [← hx] at c0 c1 hcall hbc hbm
      obtain ⟨nb, hnb⟩ : ∃ nb, nb = x.b.length := ⟨_, rfl⟩
      rw [← hnb] at c1 hcall hbc
      have HX := Lib.hid hx
      have hki : (k : Int) < (n : Int) := by omega
      have hk0 : (0 : Int) ≤ (k : Int) := by omega
      clear hx hnb hrb hb
      cases hq : p x with
      | true =>
        rw [hq] at hcall
        have HQ := Lib.hid hq
        have HCC := Lib.hid hcall
        clear hq hcall
        have HI : Hid (r = (k : Int)) := by show _ = _; rw [HR.out]; exact idxG_hit p fs k hkl (by rw [← HX.out]; exact HQ.out) (fun j hj h => HB.out j hj h)
        go_wp2_with (go_at_fn g; refine HCC.out.mono ?_; rintro e w' ⟨rfl, hb'⟩)
        go_ret
        exact ⟨by rw [HI.out]; rfl, hb'⟩
      | false =>
        rw [hq] at hcall
        have HQ := Lib.hid hq
        have HCC := Lib.hid hcall
        clear hq hcall
        go_wp2_with (go_at_fn g; refine HCC.out.mono ?_; rintro e w' ⟨rfl, hb'⟩)
        go_roundw
        case rel => exact ⟨k + 1, by omega, by go_num, Lib.hid (fun j hj h => by
          rcases (by omega : j < k ∨ j = k) with h1 | h1
          · exact HB.out j hj h1
          · subst h1; rw [← HX.out]; exact HQ.out), Lib.hid hb'⟩
        case measure => simp [intOf]; omega
    · have q0 : decide ((k : Int) < (n : Int)) = false := by rw [decide_eq_false_iff_not]; omega
      have q0' : decide (k < n) = false := by rw [decide_eq_false_iff_not]; omega
      have HI : Hid (r = -1) := by show _ = _; rw [HR.out]; exact idxG_miss p fs (fun j hj => HB.out j hj (by rw [HN.out] at hj; omega))
      clear heq
      go_wp2
      go_ret
      exact ⟨by rw [HI.out]; rfl, HW.out⟩
set_option maxHeartbeats 2000000 in
theorem at1_any (f : FV) (n : Nat) (s : ByteArray) (g : Nat) (w : World) (h : w.cell? ⟨g, 0, none⟩ = some (.string s)) (hg : g < w.heap.size) :
    Calls Tryz.prog 99 #[.agg #[.string f.nm, .slice f.A n f.c], .pointer (some ⟨g, 0, none⟩)] w fun e w' => e = .returned (.bool (decide (f.nm = s))) ∧ Below w.heap.size w w' := by
  have hq := nm_beq f.nm s
  have h1 : (w.alloc (.cells #[.string f.nm, .slice f.A n f.c] 55)).cell? ⟨g, 0, none⟩ = some (.string s) := (World.cell?_alloc_lt _ _ _ hg).trans h
  by_cases he : f.nm = s
  · rw [decide_eq_true he] at hq ⊢
    clear he h
    go_enter Tryz.func99, Tryz.ntmps99
    go_wp2
    go_ret
    exact ⟨rfl, (Below.refl _ _).alloc (Nat.le_refl _) _⟩
  · rw [decide_eq_false he] at hq ⊢
    clear he h
    go_enter Tryz.func99, Tryz.ntmps99
    go_wp2
    go_ret
    exact ⟨rfl, (Below.refl _ _).alloc (Nat.le_refl _) _⟩
set_option maxHeartbeats 2000000 in
theorem sat_any (A : Option Addr) (n c : Nat) (fs : List FV) (s : ByteArray) (w : World) (hl : Fls w A fs) (hn : fs.length = n) (hbig : n ≤ 140737488355328) :
    Calls Tryz.prog 66 #[.slice A n c, .string s] w fun e w' => e = .returned (.int .i64 (idxG (fun f : FV => decide (f.nm = s)) fs)) ∧ Below w.heap.size w w' := by
  have hb1 : Below w.heap.size w (w.alloc (.cells #[.string s] 9)) := (Below.refl _ _).alloc (Nat.le_refl _) _
  have HI := Lib.hid (indexFile_any 99 #[.pointer (some ⟨w.heap.size, 0, none⟩)] (fun _ _ => by kernel_rfl) A n c fs (w.alloc (.cells #[.string s] 9)) (fun f : FV => decide (f.nm = s)) (hl.below hb1) hn hbig (fun k hk W hW => by
    have h1 : W.cell? ⟨w.heap.size, 0, none⟩ = some (.string s) := (hW.cell (p := ⟨w.heap.size, 0, none⟩) (by simp)).trans ((Blk.new w 9 #[.string s]).cell 0)
    refine (at1_any fs[k] fs[k].b.length s w.heap.size W h1 (Nat.lt_of_lt_of_le (by simp) hW.size)).mono ?_
    rintro e w' ⟨rfl, hb⟩
    exact ⟨rfl, hW.trans (hb.mono hW.size)⟩))
  have HB1 := Lib.hid hb1
  clear hb1 hl hn
  obtain ⟨z, hz⟩ : ∃ z, z = idxG (fun f : FV => decide (f.nm = s)) fs := ⟨_, rfl⟩
  rw [← hz] at HI ⊢
  clear hz
  go_enter Tryz.func66, Tryz.ntmps66
  go_wp2_with fail
  refine HI.out.mono ?_
  rintro e w' ⟨rfl, hb⟩
  have HB := Lib.hid (HB1.out.trans (hb.mono HB1.out.size))
  clear hb
  go_wp2
  go_ret
  exact ⟨rfl, HB.out⟩
theorem nmq (a b : ByteArray) : (a == b) = decide (a = b) := by
  cases a with
  | mk a =>
    cases b with
    | mk b =>
      have e : ((ByteArray.mk a) == (ByteArray.mk b)) = (a == b) := rfl
      rw [e]
      by_cases h : a = b
      · subst h; simp
      · rw [decide_eq_false (fun e => h (by injection e)), beq_eq_false_iff_ne]; exact h
theorem getF_some {fs : List FV} {s : ByteArray} {k : Nat} (hk : k < fs.length) (h : idxG (fun f : FV => decide (f.nm = s)) fs = (k : Int)) : getF (fiL fs) s = some fs[k].b := by
  unfold idxG at h
  split at h
  · rename_i h1
    have e : fs.findIdx (fun f : FV => decide (f.nm = s)) = k := by omega
    obtain ⟨h2, h3⟩ := (List.findIdx_eq hk).1 e
    unfold getF fiL
    rw [List.find?_map]
    have h4 : fs.find? ((fun f : Fi => f.nm == s) ∘ FV.fi) = some fs[k] := by
      rw [List.find?_eq_some_iff_getElem]
      refine ⟨by simp only [Function.comp_apply, FV.fi]; rw [nmq]; exact h2, k, hk, rfl, fun j hj => ?_⟩
      have := h3 j hj
      simp only [Function.comp_apply, FV.fi]
      rw [nmq]
      simpa using this
    rw [h4]
    rfl
  · omega
theorem getF_none {fs : List FV} {s : ByteArray} (h : idxG (fun f : FV => decide (f.nm = s)) fs < 0) : getF (fiL fs) s = none := by
  unfold idxG at h
  split at h
  · omega
  · rename_i h1
    unfold getF fiL
    rw [List.find?_map]
    have h4 : fs.find? ((fun f : Fi => f.nm == s) ∘ FV.fi) = none := by
      rw [List.find?_eq_none]
      intro x hx
      obtain ⟨j, hj, rfl⟩ := List.getElem_of_mem hx
      intro e
      apply h1
      refine List.findIdx_lt_length_of_exists ⟨fs[j], List.getElem_mem hj, ?_⟩
      simp only [Function.comp_apply, FV.fi] at e
      rw [nmq] at e
      exact e
    rw [h4]
    rfl
theorem idxG_cases {α : Type} (p : α → Bool) (l : List α) : idxG p l = -1 ∨ ∃ k, k < l.length ∧ idxG p l = (k : Int) := by
  unfold idxG
  split
  · rename_i h; exact .inr ⟨_, h, rfl⟩
  · exact .inl rfl
def GetPost (fs : List FV) (s : ByteArray) (w : World) (e : Ending) (w' : World) : Prop :=
  Below w.heap.size w w' ∧ ((∃ b v, getF (fiL fs) s = some b ∧ e = .returned (.tuple #[v, .bool true]) ∧ OB w' w.heap.size v b) ∨ (getF (fiL fs) s = none ∧ e = .returned (.tuple #[.slice none 0 0, .bool false])))
set_option maxHeartbeats 2000000 in
theorem get_any (A : Option Addr) (n c : Nat) (fs : List FV) (s : ByteArray) (w : World) (hl : Fls w A fs) (hn : fs.length = n) (hbig : n ≤ 140737488355328) (hb : ∀ f ∈ fs, f.b.length ≤ 140737488355328) :
    Calls Tryz.prog 29 #[.slice A n c, .string s] w fun e w' => GetPost fs s w e w' := by
  have HA := Lib.hid (sat_any A n c fs s w hl hn hbig)
  have HF := Lib.hid hl
  have HBS := Lib.hid hb
  have HN := Lib.hid hn
  clear hl hn hb
  rcases idxG_cases (fun f : FV => decide (f.nm = s)) fs with h | ⟨k, hk, h⟩
  · rw [h] at HA
    have HG := Lib.hid (getF_none (s := s) (fs := fs) (by rw [h]; omega))
    clear h
    go_enter Tryz.func29, Tryz.ntmps29
    go_wp2_with fail
    refine HA.out.mono ?_
    rintro e w1 ⟨rfl, hb1⟩
    have HB1 := Lib.hid hb1
    clear hb1
    go_wp2
    go_ret2
    exact ⟨HB1.out, .inr ⟨HG.out, rfl⟩⟩
  · rw [h] at HA
    have HG := Lib.hid (getF_some hk h)
    have hkn : k < n := by rw [← HN.out]; exact hk
    have hki : (k : Int) < (n : Int) := by omega
    have hk0 : (0 : Int) ≤ (k : Int) := by omega
    have q1 : decide ((k : Int) < 0) = false := by rw [decide_eq_false_iff_not]; omega
    clear h
    go_enter Tryz.func29, Tryz.ntmps29
    go_wp2_with fail
    refine HA.out.mono ?_
    rintro e w1 ⟨rfl, hb1⟩
    have HB1 := Lib.hid hb1
    obtain ⟨b, o, hA, hbl, c0, c1, hrb, hbc, hbm⟩ := (HF.out.below hb1).at_ hk
    subst hA
    have HBK := Lib.hid (HBS.out _ (List.getElem_mem hk))
    obtain ⟨x, hx⟩ : ∃ x, x = fs[k] := ⟨_, rfl⟩
    rw [← hx] at c0 c1 hrb hbc hbm HBK HG
    obtain ⟨nb, hnb⟩ : ∃ nb, nb = x.b.length := ⟨_, rfl⟩
    rw [← hnb] at c1 hbc HBK
    have HCL := Lib.hid (clone_n x.A nb x.c x.b w1 hnb.symm HBK.out hrb)
    clear hx hnb hrb hbl hb1
    go_wp2_with fail
    refine HCL.out.mono ?_
    rintro e w2 ⟨v, rfl, hv, hb2⟩
    have HO := Lib.hid (hv.mono HB1.out.size)
    have HB2 := Lib.hid (HB1.out.trans (hb2.mono HB1.out.size))
    clear hv hb2
    go_wp2
    go_ret2
    exact ⟨HB2.out, .inl ⟨_, v, HG.out, rfl, HO.out⟩⟩
end Go.Proofs.YtgpcinfhcamgpaaGreatDoor
