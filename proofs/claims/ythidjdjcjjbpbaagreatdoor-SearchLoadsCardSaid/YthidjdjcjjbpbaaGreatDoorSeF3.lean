/-
  search: what must come of every program.
-/
import Derived.Test.YthidjdjcjjbpbaaGreatDoorSeF2
namespace Go.Proofs.YthidjdjcjjbpbaaGreatDoor
open Go.RowKit Sea Glob
set_option linter.unusedVariables false
set_option linter.unusedSimpArgs false

def bX : ByteArray := ⟨#[120]⟩
def bY : ByteArray := ⟨#[121]⟩
def bB : ByteArray := ⟨#[98]⟩
def bAB : ByteArray := ⟨#[97, 47, 98]⟩
def dX : PD := ⟨bX, [], 0, true, [⟨#[97, 47, 42]⟩], []⟩
def dY : PD := ⟨bY, [], 0, false, [⟨#[42]⟩, ⟨#[42, 47, 42]⟩], []⟩
def top1 : PM := ⟨0, 0, [], [], [dX, dY]⟩
def tB : PT := ⟨bB, 3, ⟨#[]⟩⟩
def tAB : PT := ⟨bAB, 4, ⟨#[]⟩⟩
def l1 : List PN := [⟨bY, ⟨0, 0, [tB, tAB], [], []⟩⟩, ⟨bX, noM⟩]
theorem res1 : searchP (ldOf l1 4) bB 5 top1 = ⟨some tB, [targetsB, bY], 0, [[]]⟩ := by kernel_rfl
theorem res2 : searchP (ldOf l1 4) bAB 5 top1 = ⟨none, [targetsB, bX], 4, [[]]⟩ := by kernel_rfl
theorem res3 : searchP (ldOf l1 4) ⟨#[47]⟩ 5 top1 = ⟨none, [], 120, []⟩ := by kernel_rfl
theorem res4 : searchP (ldOf l1 4) bB 0 top1 = ⟨none, [], 1, []⟩ := by kernel_rfl
theorem res5 : searchP (ldOf l1 4) bB 1 top1 = ⟨none, [targetsB], 200, []⟩ := by kernel_rfl
theorem res6 : rolesAll l1 top1 = [bX, bY] := by kernel_rfl
theorem top1_g : PMs top1 ∧ PMz top1 ∧ PKo top1 := by
  refine ⟨⟨by decide, by decide, by decide, fun d hd => ?_⟩, fun d hd => ?_, fun k hk => by cases hk⟩
  · simp only [top1, List.mem_cons, List.not_mem_nil, or_false] at hd
    rcases hd with rfl | rfl <;> exact ⟨by decide, by decide, by decide⟩
  · simp only [top1, List.mem_cons, List.not_mem_nil, or_false] at hd
    rcases hd with rfl | rfl
    · exact ⟨fun p hp => by simp only [dX, List.mem_cons, List.not_mem_nil, or_false] at hp; subst hp; decide, fun p hp => by cases hp⟩
    · refine ⟨fun p hp => ?_, fun p hp => by cases hp⟩
      simp only [dY, List.mem_cons, List.not_mem_nil, or_false] at hp
      rcases hp with rfl | rfl <;> decide
theorem l1_g : ∀ x ∈ l1, PMs x.t ∧ PMz x.t ∧ PKo x.t := fun x hx => by
  simp only [l1, List.mem_cons, List.not_mem_nil, or_false] at hx
  rcases hx with rfl | rfl
  · exact ⟨⟨by decide, by decide, by decide, (fun d hd => by cases hd)⟩, (fun d hd => by cases hd), (fun k hk => by cases hk)⟩
  · exact ⟨⟨by decide, by decide, by decide, (fun d hd => by cases hd)⟩, (fun d hd => by cases hd), (fun k hk => by cases hk)⟩
def OneP (w : World) (e : Ending) (w' : World) : Prop := ∃ a, e = .returned (top1.val a) ∧ MOk (fun b => w'.heap.size ≤ b) w' top1 a ∧ Below w.heap.size w w'
set_option maxRecDepth 100000 in
set_option maxHeartbeats 4000000 in
theorem oneS_any (w : World) : Calls Tryz.prog 19 #[] w fun e w' => PF (OneP w) e w' := by
  obtain ⟨W4, hW4⟩ : ∃ W4, W4 = ((((w.alloc (.cells #[.int .i64 0, .int .i64 0, .slice none 0 0, .slice none 0 0, .slice (some ⟨w.heap.size + 1 + 1 + 1, 0, none⟩) 2 2] 26)).alloc (.cells #[.string ⟨#[97, 47, 42]⟩] 9)).alloc (.cells #[.string ⟨#[42]⟩, .string ⟨#[42, 47, 42]⟩] 9)).alloc (.cells #[.string ⟨#[120]⟩, .slice none 0 0, .int .i64 0, .bool true, .slice (some ⟨w.heap.size + 1, 0, none⟩) 1 1, .slice none 0 0, .string ⟨#[121]⟩, .slice none 0 0, .int .i64 0, .bool false, .slice (some ⟨w.heap.size + 1 + 1, 0, none⟩) 2 2, .slice none 0 0] 59)) := ⟨_, rfl⟩
  have hb4 : Below w.heap.size w W4 := by rw [hW4]; exact ((((Below.refl _ _).alloc (Nat.le_refl _) _).alloc (by simp) _).alloc (by simp; omega) _).alloc (by simp; omega) _
  have k0 : Blk W4 w.heap.size 26 #[.int .i64 0, .int .i64 0, .slice none 0 0, .slice none 0 0, .slice (some ⟨w.heap.size + 1 + 1 + 1, 0, none⟩) 2 2] := by rw [hW4]; exact (((Blk.new _ _ _).alloc _).alloc _).alloc _
  have k1 : Blk W4 (w.heap.size + 1) 9 #[.string ⟨#[97, 47, 42]⟩] := by
    rw [hW4]
    have h2 := ((Blk.new (w.alloc (.cells #[.int .i64 0, .int .i64 0, .slice none 0 0, .slice none 0 0, .slice (some ⟨w.heap.size + 1 + 1 + 1, 0, none⟩) 2 2] 26)) 9 #[.string ⟨#[97, 47, 42]⟩]).alloc (.cells #[.string ⟨#[42]⟩, .string ⟨#[42, 47, 42]⟩] 9)).alloc (.cells #[.string ⟨#[120]⟩, .slice none 0 0, .int .i64 0, .bool true, .slice (some ⟨w.heap.size + 1, 0, none⟩) 1 1, .slice none 0 0, .string ⟨#[121]⟩, .slice none 0 0, .int .i64 0, .bool false, .slice (some ⟨w.heap.size + 1 + 1, 0, none⟩) 2 2, .slice none 0 0] 59)
    simpa using h2
  have k2 : Blk W4 (w.heap.size + 1 + 1) 9 #[.string ⟨#[42]⟩, .string ⟨#[42, 47, 42]⟩] := by
    rw [hW4]
    have h2 := (Blk.new ((w.alloc (.cells #[.int .i64 0, .int .i64 0, .slice none 0 0, .slice none 0 0, .slice (some ⟨w.heap.size + 1 + 1 + 1, 0, none⟩) 2 2] 26)).alloc (.cells #[.string ⟨#[97, 47, 42]⟩] 9)) 9 #[.string ⟨#[42]⟩, .string ⟨#[42, 47, 42]⟩]).alloc (.cells #[.string ⟨#[120]⟩, .slice none 0 0, .int .i64 0, .bool true, .slice (some ⟨w.heap.size + 1, 0, none⟩) 1 1, .slice none 0 0, .string ⟨#[121]⟩, .slice none 0 0, .int .i64 0, .bool false, .slice (some ⟨w.heap.size + 1 + 1, 0, none⟩) 2 2, .slice none 0 0] 59)
    simpa using h2
  have k3 : Blk W4 (w.heap.size + 1 + 1 + 1) 59 #[.string ⟨#[120]⟩, .slice none 0 0, .int .i64 0, .bool true, .slice (some ⟨w.heap.size + 1, 0, none⟩) 1 1, .slice none 0 0, .string ⟨#[121]⟩, .slice none 0 0, .int .i64 0, .bool false, .slice (some ⟨w.heap.size + 1 + 1, 0, none⟩) 2 2, .slice none 0 0] := by
    rw [hW4]
    have h2 := Blk.new (((w.alloc (.cells #[.int .i64 0, .int .i64 0, .slice none 0 0, .slice none 0 0, .slice (some ⟨w.heap.size + 1 + 1 + 1, 0, none⟩) 2 2] 26)).alloc (.cells #[.string ⟨#[97, 47, 42]⟩] 9)).alloc (.cells #[.string ⟨#[42]⟩, .string ⟨#[42, 47, 42]⟩] 9)) 59 #[.string ⟨#[120]⟩, .slice none 0 0, .int .i64 0, .bool true, .slice (some ⟨w.heap.size + 1, 0, none⟩) 1 1, .slice none 0 0, .string ⟨#[121]⟩, .slice none 0 0, .int .i64 0, .bool false, .slice (some ⟨w.heap.size + 1 + 1, 0, none⟩) 2 2, .slice none 0 0]
    simpa using h2
  have HB4 := Lib.hid hb4
  have K0 := Lib.hid k0
  have K1 := Lib.hid k1
  have K2 := Lib.hid k2
  have K3 := Lib.hid k3
  have HW4 := Lib.hid hW4
  clear hb4 k0 k1 k2 k3 hW4
  go_enter Tryz.func19, Tryz.ntmps19
  go_wp2
  rw [← HW4.out]
  have q0 := K0.out.cell 0
  have q1 := K0.out.cell 1
  have q2 := K0.out.cell 2
  have q3 := K0.out.cell 3
  have q4 := K0.out.cell 4
  simp at q0 q1 q2 q3 q4
  refine bodyPost_ret (v := top1.val ⟨none, 0, none, 0, some ⟨w.heap.size + 1 + 1 + 1, 0, none⟩, 2⟩) (by simp [results, Tryz.results19, go_sem, q0, q1, q2, q3, q4, Sea.PM.val, Sea.PM.cs, top1]) rfl ?_
  refine ⟨_, rfl, ?_, HB4.out⟩
  obtain ⟨W9, hW9⟩ : ∃ W9, W9 = W4 := ⟨_, rfl⟩
  rw [← hW9] at K1 K2 K3 ⊢
  have c1 := K1.out
  have c2 := K2.out
  have c3 := K3.out
  have ssr : ∀ (g : Nat) (cs : Array Value) (l : List ByteArray), Blk W9 g 9 cs → cs.toList = l.map Value.string → StrR (fun b => W9.heap.size ≤ b) W9 (some ⟨g, 0, none⟩) l := fun g cs l hb hl => by
    refine ⟨⟨by simp, fun _ => ⟨_, rfl, hb.lt, fun j u hu => ?_⟩⟩, fun _ ad e => by cases e; have := hb.lt; show ¬ W9.heap.size ≤ g; omega⟩
    rw [Addr.add_lit, Nat.zero_add, hb.cell j, ← Array.getElem?_toList, hl]
    exact hu
  refine ⟨fun h => absurd h (by simp [top1]), fun h => absurd h (by simp [top1]), fun _ => ⟨w.heap.size + 1 + 1 + 1, 0, rfl, c3.lt, by have := c3.lt; show ¬ W9.heap.size ≤ w.heap.size + 1 + 1 + 1; omega, fun i hi => ?_⟩, by simp [top1, maxLen], by simp [top1, maxLen], by simp [top1, maxLen]⟩
  have hi' : i < 2 := hi
  rcases (by omega : i = 0 ∨ i = 1) with rfl | rfl
  · refine ⟨⟨none, 0, some ⟨w.heap.size + 1, 0, none⟩, 1, none, 0⟩, fun j hj => ?_, StrR.nil, ssr _ _ _ c1 rfl, StrR.nil, by simp [top1, dX, maxLen], by simp [top1, dX, maxLen], by simp [top1, dX, maxLen]⟩
    rw [c3.cell]
    have : j = 0 ∨ j = 1 ∨ j = 2 ∨ j = 3 ∨ j = 4 ∨ j = 5 := by omega
    rcases this with rfl | rfl | rfl | rfl | rfl | rfl <;> rfl
  · refine ⟨⟨none, 0, some ⟨w.heap.size + 1 + 1, 0, none⟩, 2, none, 0⟩, fun j hj => ?_, StrR.nil, ssr _ _ _ c2 rfl, StrR.nil, by simp [top1, dY, maxLen], by simp [top1, dY, maxLen], by simp [top1, dY, maxLen]⟩
    rw [c3.cell]
    have : j = 0 ∨ j = 1 ∨ j = 2 ∨ j = 3 ∨ j = 4 ∨ j = 5 := by omega
    rcases this with rfl | rfl | rfl | rfl | rfl | rfl <;> rfl
theorem fnd_at {R : Res} {w' : World} {A : Option Addr} {c : Nat} {base : Nat} (h : OG 9 1 w' base (.slice A R.vis.length c) R.vis.length (R.vis.map Value.string)) {k : Nat} (hk : k < R.vis.length) : ∃ b o, A = some ⟨b, o, none⟩ ∧ b < w'.heap.size ∧ w'.cell? ⟨b, o + k, none⟩ = some (.string R.vis[k]) := by
  obtain ⟨A', c', e, _, _, hr, hx⟩ := OG.form h
  cases e
  obtain ⟨⟨b, o, sp⟩, rfl, hl, hc⟩ := hr.2 (by omega)
  obtain rfl : sp = none := (hx _ rfl).2.2.2.1
  refine ⟨b, o, rfl, hl, ?_⟩
  have := hc k (.string R.vis[k]) (by rw [List.getElem?_map, List.getElem?_eq_getElem hk]; rfl)
  rw [Addr.add_lit] at this
  exact this
set_option maxRecDepth 100000 in
set_option maxHeartbeats 8000000 in
theorem slives_any (w : World) (hT : Tbs w) : Calls Tryz.prog 8 #[] w fun e w' => PF (fun e w' => e = .returned (.bool true) ∧ Below w.heap.size w w') e w' := by
  obtain ⟨W2, hW2⟩ : ∃ W2, W2 = (w.alloc (.cells #[.string ⟨#[98]⟩, .int .i64 3, .string ⟨#[]⟩, .string ⟨#[97, 47, 98]⟩, .int .i64 4, .string ⟨#[]⟩] 31)).alloc (.cells #[.string ⟨#[121]⟩, .int .i64 0, .int .i64 0, .slice (some ⟨w.heap.size, 0, none⟩) 2 2, .slice none 0 0, .slice none 0 0, .string ⟨#[120]⟩, .int .i64 0, .int .i64 0, .slice none 0 0, .slice none 0 0, .slice none 0 0] 46) := ⟨_, rfl⟩
  have hb2 : Below w.heap.size w W2 := by rw [hW2]; exact ((Below.refl _ _).alloc (Nat.le_refl _) _).alloc (by simp) _
  have k1 : Blk W2 w.heap.size 31 #[.string ⟨#[98]⟩, .int .i64 3, .string ⟨#[]⟩, .string ⟨#[97, 47, 98]⟩, .int .i64 4, .string ⟨#[]⟩] := by rw [hW2]; exact (Blk.new _ _ _).alloc _
  have k2 : Blk W2 (w.heap.size + 1) 46 #[.string ⟨#[121]⟩, .int .i64 0, .int .i64 0, .slice (some ⟨w.heap.size, 0, none⟩) 2 2, .slice none 0 0, .slice none 0 0, .string ⟨#[120]⟩, .int .i64 0, .int .i64 0, .slice none 0 0, .slice none 0 0, .slice none 0 0] := by
    rw [hW2]
    have h2 := Blk.new (w.alloc (.cells #[.string ⟨#[98]⟩, .int .i64 3, .string ⟨#[]⟩, .string ⟨#[97, 47, 98]⟩, .int .i64 4, .string ⟨#[]⟩] 31)) 46 #[.string ⟨#[121]⟩, .int .i64 0, .int .i64 0, .slice (some ⟨w.heap.size, 0, none⟩) 2 2, .slice none 0 0, .slice none 0 0, .string ⟨#[120]⟩, .int .i64 0, .int .i64 0, .slice none 0 0, .slice none 0 0, .slice none 0 0]
    simpa using h2
  have hns : NsR (fun b => W2.heap.size ≤ b) W2 (some ⟨w.heap.size + 1, 0, none⟩) l1 := fun _ => ⟨w.heap.size + 1, 0, rfl, k2.lt, by have := k2.lt; show ¬ W2.heap.size ≤ w.heap.size + 1; omega, fun i hi => by
    have hi' : i < 2 := hi
    rcases (by omega : i = 0 ∨ i = 1) with rfl | rfl
    · refine ⟨⟨some ⟨w.heap.size, 0, none⟩, 2, none, 0, none, 0⟩, fun j hj => ?_, ⟨fun _ => ⟨w.heap.size, 0, rfl, k1.lt, by have := k1.lt; show ¬ W2.heap.size ≤ w.heap.size; omega, fun q hq => ?_⟩, fun h => absurd h (by simp [l1]), fun h => absurd h (by simp [l1]), by simp [l1, maxLen], by simp [l1, maxLen], by simp [l1, maxLen]⟩⟩
      · rw [k2.cell]
        have : j = 0 ∨ j = 1 ∨ j = 2 ∨ j = 3 ∨ j = 4 ∨ j = 5 := by omega
        rcases this with rfl | rfl | rfl | rfl | rfl | rfl <;> rfl
      · have hq' : q < 2 := hq
        rcases (by omega : q = 0 ∨ q = 1) with rfl | rfl <;> exact ⟨k1.cell _, k1.cell _, k1.cell _⟩
    · refine ⟨⟨none, 0, none, 0, none, 0⟩, fun j hj => ?_, noM_ok _ _⟩
      rw [k2.cell]
      have : j = 0 ∨ j = 1 ∨ j = 2 ∨ j = 3 ∨ j = 4 ∨ j = 5 := by omega
      rcases this with rfl | rfl | rfl | rfl | rfl | rfl <;> rfl⟩
  have HNS : Hid (∀ W, Below W2.heap.size W2 W → NsR (fun b => W.heap.size ≤ b) W (some ⟨w.heap.size + 1, 0, none⟩) l1) := Lib.hid (fun W hb => (hns.bel hb).mono (fun b hx => Nat.le_trans hb.size hx))
  have HT := Lib.hid (fun W (hb : Below w.heap.size w W) => hT.bel hb)
  have HONE := Lib.hid (fun W => oneS_any W)
  have HFND : Hid (∀ (W W' : World) (a : MA) (path : ByteArray) (most : Int), Below W2.heap.size W2 W → Below w.heap.size w W → MOk (fun b => W.heap.size ≤ b) W top1 a → path.size ≤ 1000 → (-9223372036854775808 ≤ most ∧ most ≤ 9223372036854775807) → Calls Tryz.prog 9 #[top1.val a, .slice (some ⟨w.heap.size + 1, 0, none⟩) 2 2, .string path, .int .i64 most] W fun e w' => PF (FndP (searchP (ldOf l1 4) path most top1) W) e w') := Lib.hid (fun W W' a path most h2 hb hm hp h63 => find_any _ 2 2 l1 top1 a path most W hm (HNS.out W h2) top1_g rfl (by omega) l1_g hp (HT.out W hb) h63)
  have HROL : Hid (∀ (W : World) (a : MA), Below W2.heap.size W2 W → MOk (fun b => W.heap.size ≤ b) W top1 a → Calls Tryz.prog 16 #[top1.val a, .slice (some ⟨w.heap.size + 1, 0, none⟩) 2 2] W fun e w' => PF (RolP (rolesAll l1 top1) W) e w') := Lib.hid (fun W a h2 hm => roles_any _ 2 2 l1 top1 a W hm (HNS.out W h2) top1_g.1 rfl (by omega) (fun x hx => (l1_g x hx).1))
  have HB2 := Lib.hid hb2
  have HW2 := Lib.hid hW2
  clear hb2 k1 k2 hns hW2 hT
  go_enter Tryz.func8, Tryz.ntmps8
  go_wp2_with fail
  rw [← HW2.out]
  refine (HONE.out W2).mono ?_
  rintro e wa1 ⟨a1, rfl, hm1, hba1⟩
  have HA1 : Hid (Below W2.heap.size W2 wa1) := Lib.hid ((Below.refl W2.heap.size W2).trans (hba1.mono (Below.refl W2.heap.size W2).size))
  have HFN1 := Lib.hid (HFND.out wa1 wa1 a1 bB 5 HA1.out (HB2.out.trans (HA1.out.mono HB2.out.size)) hm1 (by decide) (by decide))
  rw [res1] at HFN1
  unfold Sea.PM.val Sea.PM.cs at HFN1 ⊢
  clear hm1
  go_wp2_with fail
  refine HFN1.out.mono ?_
  rintro e wb1 ⟨vA1, vc1, rfl, hog1, hbb1⟩
  have HBB1 : Hid (Below W2.heap.size W2 wb1) := Lib.hid (HA1.out.trans (hbb1.mono HA1.out.size))
  have HOG1 := Lib.hid hog1
  obtain ⟨W3', hW3⟩ : ∃ W', W' = wb1.alloc (.cells #[.string tB.p, .int .i64 tB.n, .string tB.h] 31) := ⟨_, rfl⟩
  have HX1 : Hid (Blk W3' wb1.heap.size 31 #[.string tB.p, .int .i64 tB.n, .string tB.h]) := Lib.hid (by rw [hW3]; exact Blk.new _ _ _)
  have HC1 : Hid (Below W2.heap.size W2 W3') := Lib.hid (by rw [hW3]; exact HBB1.out.alloc HBB1.out.size _)
  have HD1 : Hid (Below wb1.heap.size wb1 W3') := Lib.hid (by rw [hW3]; exact (Below.refl _ _).alloc (Nat.le_refl _) _)
  have HW3 := Lib.hid hW3
  have HCH1 : Hid (Below W2.heap.size W2 W3') := Lib.hid ((hba1.trans (hbb1.mono hba1.size)).trans (HD1.out.mono (Nat.le_trans hba1.size hbb1.size)))
  clear hog1 hba1 hbb1 hW3 HFN1
  unfold ptV
  go_wp2_with fail
  rw [← HW3.out]
  refine (HONE.out W3').mono ?_
  rintro e wa2 ⟨a2, rfl, hm2, hba2⟩
  have HA2 : Hid (Below W2.heap.size W2 wa2) := Lib.hid (HC1.out.trans (hba2.mono HC1.out.size))
  have HFN2 := Lib.hid (HFND.out wa2 wa2 a2 bAB 5 HA2.out (HB2.out.trans (HA2.out.mono HB2.out.size)) hm2 (by decide) (by decide))
  rw [res2] at HFN2
  unfold Sea.PM.val Sea.PM.cs at HFN2 ⊢
  clear hm2
  go_wp2_with fail
  refine HFN2.out.mono ?_
  rintro e wb2 ⟨vA2, vc2, rfl, hog2, hbb2⟩
  have HBB2 : Hid (Below W2.heap.size W2 wb2) := Lib.hid (HA2.out.trans (hbb2.mono HA2.out.size))
  have HOG2 := Lib.hid hog2
  obtain ⟨W4', hW4⟩ : ∃ W', W' = wb2.alloc (.cells #[.string ⟨#[]⟩, .int .i64 0, .string ⟨#[]⟩] 31) := ⟨_, rfl⟩
  have HX2 : Hid (Blk W4' wb2.heap.size 31 #[.string ⟨#[]⟩, .int .i64 0, .string ⟨#[]⟩]) := Lib.hid (by rw [hW4]; exact Blk.new _ _ _)
  have HC2 : Hid (Below W2.heap.size W2 W4') := Lib.hid (by rw [hW4]; exact HBB2.out.alloc HBB2.out.size _)
  have HD2 : Hid (Below wb2.heap.size wb2 W4') := Lib.hid (by rw [hW4]; exact (Below.refl _ _).alloc (Nat.le_refl _) _)
  have HW4 := Lib.hid hW4
  have HCH2 : Hid (Below W3'.heap.size W3' W4') := Lib.hid ((hba2.trans (hbb2.mono hba2.size)).trans (HD2.out.mono (Nat.le_trans hba2.size hbb2.size)))
  clear hog2 hba2 hbb2 hW4 HFN2
  unfold ptV
  go_wp2_with fail
  rw [← HW4.out]
  refine (HONE.out W4').mono ?_
  rintro e wa3 ⟨a3, rfl, hm3, hba3⟩
  have HA3 : Hid (Below W2.heap.size W2 wa3) := Lib.hid (HC2.out.trans (hba3.mono HC2.out.size))
  have HFN3 := Lib.hid (HFND.out wa3 wa3 a3 ⟨#[47]⟩ 5 HA3.out (HB2.out.trans (HA3.out.mono HB2.out.size)) hm3 (by decide) (by decide))
  rw [res3] at HFN3
  unfold Sea.PM.val Sea.PM.cs at HFN3 ⊢
  clear hm3
  go_wp2_with fail
  refine HFN3.out.mono ?_
  rintro e wb3 ⟨vA3, vc3, rfl, hog3, hbb3⟩
  have HBB3 : Hid (Below W2.heap.size W2 wb3) := Lib.hid (HA3.out.trans (hbb3.mono HA3.out.size))
  have HOG3 := Lib.hid hog3
  obtain ⟨W5', hW5⟩ : ∃ W', W' = wb3.alloc (.cells #[.string ⟨#[]⟩, .int .i64 0, .string ⟨#[]⟩] 31) := ⟨_, rfl⟩
  have HX3 : Hid (Blk W5' wb3.heap.size 31 #[.string ⟨#[]⟩, .int .i64 0, .string ⟨#[]⟩]) := Lib.hid (by rw [hW5]; exact Blk.new _ _ _)
  have HC3 : Hid (Below W2.heap.size W2 W5') := Lib.hid (by rw [hW5]; exact HBB3.out.alloc HBB3.out.size _)
  have HD3 : Hid (Below wb3.heap.size wb3 W5') := Lib.hid (by rw [hW5]; exact (Below.refl _ _).alloc (Nat.le_refl _) _)
  have HW5 := Lib.hid hW5
  have HCH3 : Hid (Below W4'.heap.size W4' W5') := Lib.hid ((hba3.trans (hbb3.mono hba3.size)).trans (HD3.out.mono (Nat.le_trans hba3.size hbb3.size)))
  clear hog3 hba3 hbb3 hW5 HFN3
  unfold ptV
  go_wp2_with fail
  rw [← HW5.out]
  refine (HONE.out W5').mono ?_
  rintro e wa4 ⟨a4, rfl, hm4, hba4⟩
  have HA4 : Hid (Below W2.heap.size W2 wa4) := Lib.hid (HC3.out.trans (hba4.mono HC3.out.size))
  have HFN4 := Lib.hid (HFND.out wa4 wa4 a4 bB 0 HA4.out (HB2.out.trans (HA4.out.mono HB2.out.size)) hm4 (by decide) (by decide))
  rw [res4] at HFN4
  unfold Sea.PM.val Sea.PM.cs at HFN4 ⊢
  clear hm4
  go_wp2_with fail
  refine HFN4.out.mono ?_
  rintro e wb4 ⟨vA4, vc4, rfl, hog4, hbb4⟩
  have HBB4 : Hid (Below W2.heap.size W2 wb4) := Lib.hid (HA4.out.trans (hbb4.mono HA4.out.size))
  have HOG4 := Lib.hid hog4
  obtain ⟨W6', hW6⟩ : ∃ W', W' = wb4.alloc (.cells #[.string ⟨#[]⟩, .int .i64 0, .string ⟨#[]⟩] 31) := ⟨_, rfl⟩
  have HX4 : Hid (Blk W6' wb4.heap.size 31 #[.string ⟨#[]⟩, .int .i64 0, .string ⟨#[]⟩]) := Lib.hid (by rw [hW6]; exact Blk.new _ _ _)
  have HC4 : Hid (Below W2.heap.size W2 W6') := Lib.hid (by rw [hW6]; exact HBB4.out.alloc HBB4.out.size _)
  have HD4 : Hid (Below wb4.heap.size wb4 W6') := Lib.hid (by rw [hW6]; exact (Below.refl _ _).alloc (Nat.le_refl _) _)
  have HW6 := Lib.hid hW6
  have HCH4 : Hid (Below W5'.heap.size W5' W6') := Lib.hid ((hba4.trans (hbb4.mono hba4.size)).trans (HD4.out.mono (Nat.le_trans hba4.size hbb4.size)))
  clear hog4 hba4 hbb4 hW6 HFN4
  unfold ptV
  go_wp2_with fail
  rw [← HW6.out]
  refine (HONE.out W6').mono ?_
  rintro e wa5 ⟨a5, rfl, hm5, hba5⟩
  have HA5 : Hid (Below W2.heap.size W2 wa5) := Lib.hid (HC4.out.trans (hba5.mono HC4.out.size))
  have HFN5 := Lib.hid (HFND.out wa5 wa5 a5 bB 1 HA5.out (HB2.out.trans (HA5.out.mono HB2.out.size)) hm5 (by decide) (by decide))
  rw [res5] at HFN5
  unfold Sea.PM.val Sea.PM.cs at HFN5 ⊢
  clear hm5
  go_wp2_with fail
  refine HFN5.out.mono ?_
  rintro e wb5 ⟨vA5, vc5, rfl, hog5, hbb5⟩
  have HBB5 : Hid (Below W2.heap.size W2 wb5) := Lib.hid (HA5.out.trans (hbb5.mono HA5.out.size))
  have HOG5 := Lib.hid hog5
  obtain ⟨W7', hW7⟩ : ∃ W', W' = wb5.alloc (.cells #[.string ⟨#[]⟩, .int .i64 0, .string ⟨#[]⟩] 31) := ⟨_, rfl⟩
  have HX5 : Hid (Blk W7' wb5.heap.size 31 #[.string ⟨#[]⟩, .int .i64 0, .string ⟨#[]⟩]) := Lib.hid (by rw [hW7]; exact Blk.new _ _ _)
  have HC5 : Hid (Below W2.heap.size W2 W7') := Lib.hid (by rw [hW7]; exact HBB5.out.alloc HBB5.out.size _)
  have HD5 : Hid (Below wb5.heap.size wb5 W7') := Lib.hid (by rw [hW7]; exact (Below.refl _ _).alloc (Nat.le_refl _) _)
  have HW7 := Lib.hid hW7
  have HCH5 : Hid (Below W6'.heap.size W6' W7') := Lib.hid ((hba5.trans (hbb5.mono hba5.size)).trans (HD5.out.mono (Nat.le_trans hba5.size hbb5.size)))
  clear hog5 hba5 hbb5 hW7 HFN5
  unfold ptV
  have HCC4 : Hid (Below W4'.heap.size W4' W7') := Lib.hid ((HCH3.out.trans (HCH4.out.mono HCH3.out.size)).trans (HCH5.out.mono (Nat.le_trans HCH3.out.size HCH4.out.size)))
  have HCC3 : Hid (Below W3'.heap.size W3' W7') := Lib.hid (HCH2.out.trans (HCC4.out.mono HCH2.out.size))
  obtain ⟨g1, o1, hA1, hl1, hc1⟩ := fnd_at (R := ⟨some tB, [targetsB, bY], 0, [[]]⟩) HOG1.out (k := 1) (by decide)
  obtain ⟨g2, o2, hA2, hl2, hc2⟩ := fnd_at (R := ⟨none, [targetsB, bX], 4, [[]]⟩) HOG2.out (k := 1) (by decide)
  have x1 : (wb5.alloc (.cells #[.string ⟨#[]⟩, .int .i64 0, .string ⟨#[]⟩] 31)).cell? ⟨wb1.heap.size, 1, none⟩ = some (.int .i64 3) := by rw [← HW7.out]; exact (HX1.out.below HCC3.out HX1.out.lt).cell 1
  have x2 : (wb5.alloc (.cells #[.string ⟨#[]⟩, .int .i64 0, .string ⟨#[]⟩] 31)).cell? ⟨g1, o1 + 1, none⟩ = some (.string ⟨#[121]⟩) := by rw [← HW7.out]; exact ((HD1.out.trans (HCC3.out.mono HD1.out.size)).cell hl1).trans hc1
  have x3 : (wb5.alloc (.cells #[.string ⟨#[]⟩, .int .i64 0, .string ⟨#[]⟩] 31)).cell? ⟨g2, o2 + 1, none⟩ = some (.string ⟨#[120]⟩) := by rw [← HW7.out]; exact ((HD2.out.trans (HCC4.out.mono HD2.out.size)).cell hl2).trans hc2
  rw [hA1, hA2]
  clear hA1 hA2 hl1 hl2 hc1 hc2
  go_wp2_with fail
  rw [← HW7.out]
  refine (HONE.out W7').mono ?_
  rintro e wa6 ⟨a6, rfl, hm6, hba6⟩
  have HA6 : Hid (Below W2.heap.size W2 wa6) := Lib.hid (HC5.out.trans (hba6.mono HC5.out.size))
  have HRO := Lib.hid (HROL.out wa6 a6 HA6.out hm6)
  rw [res6] at HRO
  unfold Sea.PM.val Sea.PM.cs at HRO ⊢
  clear hm6 hba6 x1 x2 x3
  go_wp2_with fail
  refine HRO.out.mono ?_
  rintro e wb6 ⟨vA6, vc6, rfl, hog6, hbb6⟩
  have HEND : Hid (Below w.heap.size w wb6) := Lib.hid (HB2.out.trans ((HA6.out.trans (hbb6.mono HA6.out.size)).mono HB2.out.size))
  clear hog6 hbb6
  go_wp2
  go_ret
  exact ⟨rfl, HEND.out⟩
end Go.Proofs.YthidjdjcjjbpbaaGreatDoor
