/-
 slices.IndexFunc and ContainsFunc at files; listing.Find.
-/
import Derived.Test.YtefkpphahimkgaaGreatDoorTk
import Derived.Test.YtefkpphahimkgaaGreatDoorLiP
import Derived.Test.YtefkpphahimkgaaGreatDoorGG
namespace Go.Proofs.YtefkpphahimkgaaGreatDoor
open Go.RowKit
attribute [local go_sem ↓] Go.wp_at_zero Go.wp_at_succ
set_option linter.unusedVariables false
set_option linter.unusedSimpArgs false
def PredE (g : Nat) (lb : Array Value) (w : World) (fs : List ME) (p : ME → Bool) : Prop :=
 ∀ (k : Nat) (hk : k < fs.length) (W : World), Below w.heap.size w W → Calls Tryz.prog g (#[.agg #[.string fs[k].name, .int .i64 fs[k].ver, .int .i64 fs[k].len, .string fs[k].hash]] ++ lb) W fun e w' => e = .returned (.bool (p fs[k])) ∧ Below W.heap.size W w'
set_option maxRecDepth 100000 in
set_option maxHeartbeats 2000000 in
theorem indexE_any (g : Nat) (lb : Array Value) (eg : ∀ args w, (callFunc g args).run Tryz.prog w = .ok (.enter g args) w) (A : Option Addr) (n c : Nat) (fs : List ME) (w : World) (p : ME → Bool)
  (hv : MAt w A c fs) (hn : fs.length = n) (hp : PredE g lb w fs p) :
  Calls Tryz.prog 59 #[.slice A n c, .func (.func g) #[] lb] w fun e w' => e = .returned (.int .i64 (idxG p fs)) ∧ Below w.heap.size w w' := by
 have hbig : n ≤ 9223372036854775807 := by have h1 := hv.cap; have h2 := hv.mx; unfold maxLen at h2; omega
 have HN := Ld hn
 have HV := Ld hv
 have HPP := Ld hp
 clear hn hv hp
 obtain ⟨r, hr⟩ : ∃ r, r = idxG p fs := ⟨_, rfl⟩
 rw [← hr]
 have HR := Ld hr
 clear hr
 go_enter Tryz.func59, Tryz.ntmps59
 go_wp2
 go_loopw [5, 8] (fun _ i wr => ∃ k : Nat, k ≤ n ∧ i = .int .i64 k ∧ Hid (∀ j (hj : j < fs.length), j < k → p fs[j] = false) ∧ Hid (Below w.heap.size w wr)) (fun _ i _ => n - (intOf i).toNat)
 case atStart => exact ⟨0, Nat.zero_le _, rfl, Ld (fun j hj h => by omega), Ld (Below.refl _ _)⟩
 case round =>
  obtain ⟨k, hk, rfl, HB, HW⟩ := hrel
  rcases (by omega : k < n ∨ k = n) with hlt | heq
  ·have q0 : decide ((k : Int) < (n : Int)) = true := by rw [decide_eq_true_iff]; omega
   have q0' : decide (k < n) = true := by rw [decide_eq_true_iff]; omega
   have hkl : k < fs.length := by rw [HN.out]; exact hlt
   obtain ⟨b, o, hA0, hbl, d0, d1, d2, d3⟩ := (HV.out.bel HW.out).four hkl
   subst hA0
   have hcall := HPP.out k hkl wr HW.out
   obtain ⟨x, hx⟩ : ∃ x, x = fs[k] := ⟨_, rfl⟩
   rw [← hx] at hcall d0 d1 d2 d3
   have HX := Ld hx
   have hki : (k : Int) < (n : Int) := by omega
   have hk0 : (0 : Int) ≤ (k : Int) := by omega
   clear hx hbl
   cases hq : p x with
   | true =>
    rw [hq] at hcall
    have HQ := Ld hq
    have HCC := Ld hcall
    clear hq hcall
    have HI : Hid (r = (k : Int)) := by show _ = _; rw [HR.out]; exact idxG_hit p fs k hkl (by rw [← HX.out]; exact HQ.out) (fun j hj h => HB.out j hj h)
    go_wp2_with (go_at_fn g; refine HCC.out.mono ?_; rintro e w' ⟨rfl, hb'⟩; have HB9 := Ld (HW.out.trans (hb'.mono HW.out.size)); clear hb')
    go_ret
    exact ⟨by rw [HI.out]; rfl, HB9.out⟩
   | false =>
    rw [hq] at hcall
    have HQ := Ld hq
    have HCC := Ld hcall
    clear hq hcall
    go_wp2_with (go_at_fn g; refine HCC.out.mono ?_; rintro e w' ⟨rfl, hb'⟩; have HB9 := Ld (HW.out.trans (hb'.mono HW.out.size)); clear hb')
    go_roundw
    case rel => exact ⟨k + 1, by omega, by go_num, Ld (fun j hj h => by
     rcases (by omega : j < k ∨ j = k) with h1 | h1
     ·exact HB.out j hj h1
     ·subst h1; rw [← HX.out]; exact HQ.out), HB9⟩
    case measure => simp [intOf]; omega
  ·have q0 : decide ((k : Int) < (n : Int)) = false := by rw [decide_eq_false_iff_not]; omega
   have q0' : decide (k < n) = false := by rw [decide_eq_false_iff_not]; omega
   have HI : Hid (r = -1) := by show _ = _; rw [HR.out]; exact idxG_miss p fs (fun j hj => HB.out j hj (by rw [HN.out] at hj; omega))
   clear heq
   go_wp2
   go_ret
   exact ⟨by rw [HI.out]; rfl, HW.out⟩
theorem idxG_any {α : Type} (p : α → Bool) (l : List α) : decide (0 ≤ idxG p l) = l.any p := by
 rcases idxG_split p l with ⟨h, hb⟩ | ⟨k, hk, h, hp, _⟩
 ·rw [h]
  have : l.any p = false := by
   rw [← Bool.not_eq_true, List.any_eq_true]
   rintro ⟨x, hx, hpx⟩
   obtain ⟨j, hj, rfl⟩ := List.getElem_of_mem hx
   rw [hb j hj] at hpx
   cases hpx
  rw [this]
  rfl
 ·rw [h]
  have : l.any p = true := List.any_eq_true.2 ⟨l[k], List.getElem_mem hk, hp⟩
  rw [this]
  simp
set_option maxRecDepth 100000 in
set_option maxHeartbeats 1000000 in
theorem containsE_any (g : Nat) (lb : Array Value) (eg : ∀ args w, (callFunc g args).run Tryz.prog w = .ok (.enter g args) w) (A : Option Addr) (n c : Nat) (fs : List ME) (w : World) (p : ME → Bool)
  (hv : MAt w A c fs) (hn : fs.length = n) (hp : PredE g lb w fs p) :
  Calls Tryz.prog 31 #[.slice A n c, .func (.func g) #[] lb] w fun e w' => e = .returned (.bool (fs.any p)) ∧ Below w.heap.size w w' := by
 have HI := Ld (indexE_any g lb eg A n c fs w p hv hn hp)
 have hge := idxG_any p fs
 obtain ⟨i, hi⟩ : ∃ i, i = idxG p fs := ⟨_, rfl⟩
 rw [← hi] at HI hge
 have hge2 : decide (i ≥ 0) = fs.any p := hge
 obtain ⟨r, hr⟩ : ∃ r, r = fs.any p := ⟨_, rfl⟩
 rw [← hr] at hge hge2 ⊢
 clear hi hr hv hn hp eg
 go_enter Tryz.func31, Tryz.ntmps31
 go_wp2_with fail
 refine HI.out.mono ?_
 rintro e w' ⟨rfl, hb⟩
 go_wp2
 go_ret
 exact ⟨rfl, hb⟩
set_option maxHeartbeats 2000000 in
theorem find1_any (x : ME) (key : ByteArray) (g : Nat) (w : World) (h : w.cell? ⟨g, 0, none⟩ = some (.string key)) (hg : g < w.heap.size) :
  Calls Tryz.prog 60 #[.agg #[.string x.name, .int .i64 x.ver, .int .i64 x.len, .string x.hash], .pointer (some ⟨g, 0, none⟩)] w fun e w' => e = .returned (.bool (decide (x.name = key))) ∧ Below w.heap.size w w' := by
 have hq := nm_beq x.name key
 have h1 : (w.alloc (.cells #[.string x.name, .int .i64 x.ver, .int .i64 x.len, .string x.hash] 44)).cell? ⟨g, 0, none⟩ = some (.string key) := (World.cell?_alloc_lt _ _ _ hg).trans h
 by_cases he : x.name = key
 ·rw [decide_eq_true he] at hq ⊢
  clear he h
  go_enter Tryz.func60, Tryz.ntmps60
  go_wp2
  go_ret
  exact ⟨rfl, (Below.refl _ _).alloc (Nat.le_refl _) _⟩
 ·rw [decide_eq_false he] at hq ⊢
  clear he h
  go_enter Tryz.func60, Tryz.ntmps60
  go_wp2
  go_ret
  exact ⟨rfl, (Below.refl _ _).alloc (Nat.le_refl _) _⟩
set_option maxHeartbeats 2000000 in
theorem may1_any (x : ME) (w : World) (hsz : x.name.size ≤ 140737488351232) : Calls Tryz.prog 32 #[.agg #[.string x.name, .int .i64 x.ver, .int .i64 x.len, .string x.hash]] w fun e w' => e = .returned (.bool (!sufJ x.name)) ∧ Below w.heap.size w w' := by
 have HS := Ld (fun V => Tryz.strings_HasSuffix x.name ⟨#[46, 106, 115, 111, 110]⟩ V (by omega))
 obtain ⟨r, hr⟩ : ∃ r, r = sufJ x.name := ⟨_, rfl⟩
 have hr' : Lib.hasSuffix x.name.data.toList (⟨#[46, 106, 115, 111, 110]⟩ : ByteArray).data.toList = r := hr.symm
 rw [hr'] at HS
 rw [← hr]
 clear hr hr'
 go_enter Tryz.func32, Tryz.ntmps32
 go_wp2_with fail
 refine (HS.out _).mono ?_
 rintro e w' ⟨rfl, rfl⟩
 go_wp2
 go_ret
 exact ⟨rfl, (Below.refl _ _).alloc (Nat.le_refl _) _⟩
def FndP (l : List ME) (n : ByteArray) (w : World) (e : Ending) (w' : World) : Prop := ∃ m b, e = .returned (.tuple #[ME.val m, .bool b]) ∧ Below w.heap.size w w' ∧ ((b = false ∧ m = ME.none_ ∧ findL l n = none) ∨ (b = true ∧ findL l n = some m))
theorem find_idx {l : List ME} {n : ByteArray} : (idxG (fun x : ME => decide (x.name = n)) l = -1 ∧ findL l n = none) ∨ ∃ k, ∃ hk : k < l.length, idxG (fun x : ME => decide (x.name = n)) l = k ∧ findL l n = some l[k] := by
 rcases idxG_split (fun x : ME => decide (x.name = n)) l with ⟨h, hb⟩ | ⟨k, hk, h, hp, hb⟩
 ·refine .inl ⟨h, ?_⟩
  unfold findL
  rw [List.find?_eq_none]
  intro x hx
  obtain ⟨j, hj, rfl⟩ := List.getElem_of_mem hx
  rw [hb j hj]
  simp
 ·refine .inr ⟨k, hk, h, ?_⟩
  unfold findL
  rw [List.find?_eq_some_iff_getElem]
  refine ⟨hp, k, hk, rfl, fun j hj => ?_⟩
  rw [hb j (by omega) hj]
  rfl
theorem fr_four {w : World} {g : Nat} {a b c d : Value} : Fr (· = g) w ((((w.setCell ⟨g, 0, none⟩ a).setCell ⟨g, 1, none⟩ b).setCell ⟨g, 2, none⟩ c).setCell ⟨g, 3, none⟩ d) :=
 ((((Fr.refl (· = g) w).setCell (p := ⟨g, 0, none⟩) (fun _ => rfl) _).setCell (p := ⟨g, 1, none⟩) (fun _ => rfl) _).setCell (p := ⟨g, 2, none⟩) (fun _ => rfl) _).setCell (p := ⟨g, 3, none⟩) (fun _ => rfl) _
set_option maxRecDepth 100000 in
set_option maxHeartbeats 2000000 in
theorem find_any {w : World} (v e0 : Int) {A : Option Addr} {c : Nat} {l : List ME} (h : MAt w A c l) (n : ByteArray) : Calls Tryz.prog 24 #[.agg #[.int .i64 v, .int .i64 e0, .slice A l.length c], .string n] w fun e w' => PFb (FndP l n w) e w' := by
 obtain ⟨W3, hW3⟩ : ∃ W3, W3 = ((w.alloc (.cells #[.int .i64 v, .int .i64 e0, .slice A l.length c] 24)).alloc (.cells #[.string n] 9)).alloc (.cells #[.string ⟨#[]⟩, .int .i64 0, .int .i64 0, .string ⟨#[]⟩] 44) := ⟨_, rfl⟩
 obtain ⟨hb3, hk1, hk2, hk3, hs3⟩ := new3_ w _ _ _ _ _ _ W3 hW3
 have hix := indexE_any 60 #[.pointer (some ⟨w.heap.size + 1, 0, none⟩)] (fun _ _ => by kernel_rfl) A l.length c l W3 (fun x : ME => decide (x.name = n)) (h.bel hb3) rfl (fun k hk V hV => find1_any l[k] n (w.heap.size + 1) V ((hk2.below hV hk2.lt).cell 0) (Nat.lt_of_lt_of_le hk2.lt hV.size))
 have hmx : l.length ≤ 9223372036854775807 := by have h1 := h.cap; have h2 := h.mx; unfold maxLen at h2; omega
 obtain ⟨N, hN⟩ : ∃ N, N = l.length := ⟨_, rfl⟩
 rw [← hN] at hix hW3 hk1 hmx ⊢
 have HN : Hid (l.length = N) := Ld hN.symm
 have HB3 := Ld hb3
 have HK1 := Ld hk1
 have HK3 := Ld hk3
 have HW3 := Ld hW3
 have HM := Ld (h.bel hb3)
 clear hb3 hk1 hk2 hk3 hs3 hW3 h hN
 rcases find_idx (l := l) (n := n) with ⟨hx, hf⟩ | ⟨k, hk, hx, hf⟩
 ·rw [hx] at hix
  have HIX := Ld hix
  have HF := Ld hf
  clear hix hx hf
  go_enter Tryz.func24, Tryz.ntmps24
  go_wp2_with fail
  rw [← HW3.out]
  refine HIX.out.mono ?_
  rintro e w4 ⟨rfl, hb4⟩
  have HB4 : Hid (Below w.heap.size w w4) := Ld (HB3.out.trans (hb4.mono HB3.out.size))
  have hk4 := HK3.out.below hb4 HK3.out.lt
  have t0 := hk4.cell 0
  have t1 := hk4.cell 1
  have t2 := hk4.cell 2
  have t3 := hk4.cell 3
  have z0 := hk4.frozen 0
  have z1 := hk4.frozen 1
  have z2 := hk4.frozen 2
  have z3 := hk4.frozen 3
  simp only [gz] at t0 t1 t2 t3
  have HL := Ld (((((hk4.set_ 0 (.string ⟨#[]⟩)).set_ 1 (.int .i64 0)).set_ 2 (.int .i64 0)).set_ 3 (.string ⟨#[]⟩)))
  have HFR : Hid (Below w.heap.size w ((((w4.setCell ⟨w.heap.size + 2, 0, none⟩ (.string ⟨#[]⟩)).setCell ⟨w.heap.size + 2, 1, none⟩ (.int .i64 0)).setCell ⟨w.heap.size + 2, 2, none⟩ (.int .i64 0)).setCell ⟨w.heap.size + 2, 3, none⟩ (.string ⟨#[]⟩))) := Ld (Fr.below_trans HB4.out fr_four HB4.out.size (fun b e => by omega))
  clear hb4 hk4
  go_wp2
  have k0 := HL.out.cell 0
  have k1 := HL.out.cell 1
  have k2 := HL.out.cell 2
  have k3 := HL.out.cell 3
  simp at k0 k1 k2 k3
  refine bodyPost_ret (v := .tuple #[ME.none_.val, .bool false]) (by unfold ME.none_ ME.val; simp [results, Tryz.results24, go_sem, k0, k1, k2, k3]) rfl ?_
  exact ⟨_, _, rfl, HFR.out, .inl ⟨rfl, rfl, HF.out⟩⟩
 ·rw [hx] at hix
  have HIX := Ld hix
  have HF := Ld hf
  have hkn : k < N := by rw [← HN.out]; exact hk
  have HK := Ld hk
  have hki : (k : Int) < (N : Int) := by omega
  have hk0 : (0 : Int) ≤ (k : Int) := by omega
  have q1 : decide ((k : Int) < 0) = false := decide_eq_false (by omega)
  clear hix hx hf
  go_enter Tryz.func24, Tryz.ntmps24
  go_wp2_with fail
  rw [← HW3.out]
  refine HIX.out.mono ?_
  rintro e w4 ⟨rfl, hb4⟩
  have HB4 : Hid (Below w.heap.size w w4) := Ld (HB3.out.trans (hb4.mono HB3.out.size))
  obtain ⟨b, o, hA, hbl, d0, d1, d2, d3⟩ := (HM.out.bel hb4).four HK.out
  subst hA
  have hk1 := HK1.out.below hb4 HK1.out.lt
  have x2 := hk1.cell 2
  have hk4 := HK3.out.below hb4 HK3.out.lt
  have t0 := hk4.cell 0
  have t1 := hk4.cell 1
  have t2 := hk4.cell 2
  have t3 := hk4.cell 3
  have z0 := hk4.frozen 0
  have z1 := hk4.frozen 1
  have z2 := hk4.frozen 2
  have z3 := hk4.frozen 3
  simp only [gz] at t0 t1 t2 t3 x2
  obtain ⟨x, hx⟩ : ∃ x, x = l[k]'HK.out := ⟨_, rfl⟩
  rw [← hx] at d0 d1 d2 d3
  have HX := Ld hx
  have HL := Ld (((((hk4.set_ 0 (.string x.name)).set_ 1 (.int .i64 x.ver)).set_ 2 (.int .i64 x.len)).set_ 3 (.string x.hash)))
  have HFR : Hid (Below w.heap.size w ((((w4.setCell ⟨w.heap.size + 2, 0, none⟩ (.string x.name)).setCell ⟨w.heap.size + 2, 1, none⟩ (.int .i64 x.ver)).setCell ⟨w.heap.size + 2, 2, none⟩ (.int .i64 x.len)).setCell ⟨w.heap.size + 2, 3, none⟩ (.string x.hash))) := Ld (Fr.below_trans HB4.out fr_four HB4.out.size (fun b e => by omega))
  clear hb4 hk4 hk1 hx hbl
  go_wp2
  have k0 := HL.out.cell 0
  have k1 := HL.out.cell 1
  have k2 := HL.out.cell 2
  have k3 := HL.out.cell 3
  simp at k0 k1 k2 k3
  refine bodyPost_ret (v := .tuple #[x.val, .bool true]) (by unfold ME.val; simp [results, Tryz.results24, go_sem, k0, k1, k2, k3]) rfl ?_
  exact ⟨_, _, rfl, HFR.out, .inr ⟨rfl, by rw [HX.out]; exact HF.out⟩⟩
end Go.Proofs.YtefkpphahimkgaaGreatDoor
