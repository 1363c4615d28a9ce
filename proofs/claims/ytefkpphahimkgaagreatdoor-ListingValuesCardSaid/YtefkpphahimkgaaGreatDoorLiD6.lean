/-
 The document's Value where it may not be.
-/
import Derived.Test.YtefkpphahimkgaaGreatDoorTk
import Derived.Test.YtefkpphahimkgaaGreatDoorLiD5
namespace Go.Proofs.YtefkpphahimkgaaGreatDoor
open Go.RowKit
attribute [local go_sem ↓] Go.wp_at_zero Go.wp_at_succ
set_option linter.unusedVariables false
set_option linter.unusedSimpArgs false
set_option maxRecDepth 100000 in
set_option maxHeartbeats 4000000 in
theorem rvalue15_no {w : World} (kind : ByteArray) (v e0 : Int) {A : Option Addr} {c : Nat} {l : List ME} (h : MAt w A c l) (hm : mayL kind v e0 l = false) :
  Calls Tryz.prog 12 #[.string kind, .agg #[.int .i64 v, .int .i64 e0, .slice A l.length c]] w fun e w' => PF (OwP PV.none_ w) e w' := by
 obtain ⟨n, hn⟩ : ∃ n, n = l.length := ⟨_, rfl⟩
 obtain ⟨W2, hW2⟩ : ∃ W2, W2 = (w.alloc (.cells #[.int .i64 v, .int .i64 e0, .slice A n c] 24)).alloc (.cells #[.int .i64 0, .int .i64 0, .string ⟨#[]⟩, .slice none 0 0, .slice none 0 0] 30) := ⟨_, rfl⟩
 obtain ⟨hb2, hk1, hk2, hs2⟩ := new2_ w _ _ _ _ W2 hW2
 have hmay := rmay15_any kind v e0 (h.bel hb2)
 rw [hm, ← hn] at hmay
 rw [← hn]
 have HM := Ld hmay
 have HW2 := Ld hW2
 have HB2 := Ld hb2
 have HK2 := Ld hk2
 clear hmay hW2 hb2 hk1 hk2 hs2 h hm hn
 go_enter Tryz.func12, Tryz.ntmps12
 go_wp2_with fail
 rw [← HW2.out]
 refine HM.out.mono ?_
 rintro e w3 ⟨rfl, hb3⟩
 have HB3 : Hid (Below w.heap.size w w3) := Ld (HB2.out.trans (hb3.mono HB2.out.size))
 have HK3 := Ld (HK2.out.below hb3 HK2.out.lt)
 clear hb3
 obtain ⟨t0, t1, t2, t3, t4⟩ := five_cells HK3.out
 obtain ⟨z0, z1, z2, z3, z4⟩ := five_fr HK3.out
 have HF := Ld (own_stored (w := w) (v' := MV.none_) HK3.out (Nat.le_succ _) HK3.out.lt (VOwn.none_ _ _) HB3.out HB3.out.size rfl)
 unfold MV.none_ at HF
 unfold MV.val at HF
 simp only [MV.k, MV.n, MV.s, MV.lA, MV.lc, MV.l, MV.mA, MV.mc, MV.m, List.length_nil] at HF
 go_wp2
 obtain ⟨k0, k1, k2, k3, k4⟩ := five_cells HF.out.1
 refine bodyPost_ret (v := MV.none_.val) (by simp [results, Tryz.results12, go_sem, k0, k1, k2, k3, k4, MV.val, MV.none_, MV.k, MV.n, MV.s, MV.lA, MV.lc, MV.l, MV.mA, MV.mc, MV.m]) rfl ?_
 exact HF.out.2
theorem k_of {x : MV} {k n : Int} {s : ByteArray} {l : List PV} {ks : List ByteArray} {m : List PV} (h : x.pv = .mk k n s l ks m) : x.k = k := by
 cases x with
 | mk key k' n' s' lA lc l' mA mc m' =>
  rw [MV.pv] at h
  injection h
end Go.Proofs.YtefkpphahimkgaaGreatDoor
