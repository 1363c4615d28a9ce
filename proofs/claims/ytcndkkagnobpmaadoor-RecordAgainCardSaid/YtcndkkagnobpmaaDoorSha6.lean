/-
  sha.New, Hash.Fork, Hash.Write as a text that grows.
-/
import Derived.Test.YtcndkkagnobpmaaDoorShaQ
import Derived.Deep.RegionHeld3
namespace Go.Proofs.YtcndkkagnobpmaaDoor
open Go.RowKit
set_option linter.unusedVariables false

/-- a hash of a text -/
def HashOf (w : World) (g : Nat) (T : List UInt8) : Prop := HashAt w g (eat T) (restL T) T.length
theorem HashOf.fr {S : Nat → Prop} {w w' : World} {g : Nat} {T : List UInt8} (h : HashOf w g T) (hf : Fr S w w') (hg : ¬ S g) (hS : ∀ k, S k → k < w.heap.size → NoBy w k) : HashOf w' g T := by
  obtain ⟨A, c, h1, h2, h3, h4⟩ := h.ex
  exact ⟨A, c, h1.fr hf hg, h2.fr2 hf hS, h3, h4⟩
theorem HashOf.below {w w' : World} {g : Nat} {T : List UInt8} (h : HashOf w g T) (hb : Below w.heap.size w w') : HashOf w' g T := by
  obtain ⟨A, c, h1, h2, h3, h4⟩ := h.ex
  exact ⟨A, c, h1.below hb h1.lt, h2.below hb, h3, h4⟩
theorem HashOf.noBy {w : World} {g : Nat} {T : List UInt8} (h : HashOf w g T) : NoBy w g := by
  obtain ⟨A, c, h1, h2, h3, h4⟩ := h.ex
  exact h1.noHash
theorem HashOf.lt {w : World} {g : Nat} {T : List UInt8} (h : HashOf w g T) : g < w.heap.size := by
  obtain ⟨A, c, h1, h2, h3, h4⟩ := h.ex
  exact h1.lt
theorem write_of (g : Nat) (T : List UInt8) (A : Option Addr) (n c : Nat) (b : List UInt8) (w : World) (hK : TabK w) (hH : HashOf w g T) (hr : RB w A b) (hn : b.length = n) (hc : n ≤ c) (hcm : c ≤ maxLen) (hz : T.length + n ≤ 70368744177664) :
    Calls Tryd.prog 78 #[.pointer (some ⟨g, 0, none⟩), .slice A n c] w fun e w' => e = .returned (.int .i64 n) ∧ HashOf w' g (T ++ b) ∧ Fr (· = g) w w' := by
  refine (write_any g (eat T) (restL T) T.length A n c b w (eatN_isW _ startS_isW _ _) hK hH hr hn hc hcm hz (by rw [restL_len]; omega)).mono ?_
  rintro e w' ⟨he, hh, hf⟩
  refine ⟨he, ?_, hf⟩
  rw [eat_more, rest_more] at hh
  unfold HashOf
  rw [List.length_append, hn]
  exact hh

set_option maxRecDepth 100000 in
set_option maxHeartbeats 4000000 in
theorem start_any (w : World) : Calls Tryd.prog 102 #[] w fun e w' => e = .returned (.agg (stV startS)) ∧ Below w.heap.size w w' := by
  go_enter Tryd.func102, Tryd.ntmps102
  go_wp2
  refine bodyPost_ret (v := .agg (stV startS)) (by simp [results, Tryd.results102, go_sem]; rfl) rfl ⟨rfl, ?_⟩
  exact (Below.refl _ _).alloc (Nat.le_refl _) _
set_option maxRecDepth 100000 in
set_option maxHeartbeats 4000000 in
theorem new_any (w : World) : Calls Tryd.prog 77 #[] w fun e w' => ∃ g, e = .returned (.pointer (some ⟨g, 0, none⟩)) ∧ w.heap.size ≤ g ∧ HashOf w' g [] ∧ Below w.heap.size w w' := by
  have HS := fun w => start_any w
  unfold stV at HS
  have HSX := Lib.hid HS
  clear HS
  go_enter Tryd.func77, Tryd.ntmps77
  go_wp2_with fail
  refine (HSX.out _).mono ?_
  rintro e w1 ⟨rfl, hb⟩
  go_wp2
  go_ret
  refine ⟨_, rfl, hb.size, ⟨none, 0, Blk.new _ _ _, RB.nil _, Nat.le_refl _, by simp [maxLen]⟩, hb.alloc hb.size _⟩
set_option maxRecDepth 100000 in
set_option maxHeartbeats 4000000 in
theorem fork_any (g : Nat) (T : List UInt8) (w : World) (hH : HashOf w g T) : Calls Tryd.prog 104 #[.pointer (some ⟨g, 0, none⟩)] w fun e w' => ∃ x, e = .returned (.pointer (some ⟨x, 0, none⟩)) ∧ w.heap.size ≤ x ∧ HashOf w' x T ∧ Below w.heap.size w w' := by
  obtain ⟨A, c, hB, hr, hl, hm⟩ := hH.ex
  obtain ⟨S, hS⟩ : ∃ S, S = eat T := ⟨_, rfl⟩
  obtain ⟨n, hn⟩ : ∃ n, n = T.length := ⟨_, rfl⟩
  obtain ⟨q, hq⟩ : ∃ q, q = (restL T).length := ⟨_, rfl⟩
  have hq64 : q < 64 := by rw [hq, restL_len]; omega
  rw [← hS, ← hn, ← hq] at hB
  rw [← hq] at hl
  obtain ⟨q0, q1, q2, q3, q4, q5, q6, q7, q8, q9⟩ := hash_cells hB
  have HS := Lib.hid hS
  have HN := Lib.hid hn
  have HQ := Lib.hid hq
  have HB := Lib.hid hB
  have HR := Lib.hid hr
  have HM := Lib.hid hm
  clear hS hn hq hB hr hH hm
  go_enter Tryd.func104, Tryd.ntmps104
  go_wp2
  go_region_held3 (fun w' => w'.cell? ⟨g, 0, none⟩ = some (.int .u32 S.a) ∧ w'.cell? ⟨g, 1, none⟩ = some (.int .u32 S.b) ∧ w'.cell? ⟨g, 2, none⟩ = some (.int .u32 S.c) ∧ w'.cell? ⟨g, 3, none⟩ = some (.int .u32 S.d) ∧ w'.cell? ⟨g, 4, none⟩ = some (.int .u32 S.e) ∧ w'.cell? ⟨g, 5, none⟩ = some (.int .u32 S.f) ∧ w'.cell? ⟨g, 6, none⟩ = some (.int .u32 S.g) ∧ w'.cell? ⟨g, 7, none⟩ = some (.int .u32 S.h) ∧ w'.cell? ⟨g, 8, none⟩ = some (.slice A q c) ∧ w'.cell? ⟨g, 9, none⟩ = some (.int .i64 n))
    (first | exact hash_cells HB.out.drew | exact hash_cells (HB.out.drew.below hb5 HB.out.lt) | exact hash_cells ((HB.out.drew.below hb5 HB.out.lt).alloc _) | go_keep)
    (first | (go_at_call 30; refine (clone_n A q c _ _ HQ.out.symm (by omega) HR.out.drew').mono ?_; rintro e w5 ⟨v, rfl, hv, hb5⟩; obtain ⟨A5, c5, rfl, hl5, hm5, hr5, _⟩ := hv.shape; rw [HQ.out.symm] at hl5 ⊢))
  go_wp2
  go_ret
  have hx : w.heap.size ≤ w5.heap.size := hb5.size
  have hBn := Blk.new w5 131 #[.int .u32 S.a, .int .u32 S.b, .int .u32 S.c, .int .u32 S.d, .int .u32 S.e, .int .u32 S.f, .int .u32 S.g, .int .u32 S.h, .slice A5 q c5, .int .i64 n]
  refine ⟨_, rfl, hx, ⟨A5, c5, by rw [← HS.out, ← HN.out, ← HQ.out]; exact hBn, hr5.below ((Below.refl _ _).alloc (Nat.le_refl _) _), by rw [← HQ.out]; exact hl5, hm5⟩, ?_⟩
  exact ((show Below w.heap.size w w5 from ⟨hb5.os, hb5.tape, hb5.output, hb5.size, hb5.block⟩).alloc hx _)
end Go.Proofs.YtcndkkagnobpmaaDoor
