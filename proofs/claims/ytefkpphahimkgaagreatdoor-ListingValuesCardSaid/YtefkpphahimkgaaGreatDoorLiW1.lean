/-
 listing.isHash, file, byName; the document's Id, file.
-/
import Derived.Test.YtefkpphahimkgaaGreatDoorTk
import Derived.Test.YtefkpphahimkgaaGreatDoorLiP
import Derived.Test.YtefkpphahimkgaaGreatDoorGF
import Derived.Test.YtefkpphahimkgaaGreatDoorGX
import Derived.Test.YtefkpphahimkgaaGreatDoorDueW1
namespace Go.Proofs.YtefkpphahimkgaaGreatDoor
open Go.RowKit
attribute [local go_sem ↓] Go.wp_at_zero Go.wp_at_succ
set_option linter.unusedVariables false
set_option linter.unusedSimpArgs false
theorem ok64 {s : ByteArray} (h : okHex s.data.toList = true) : (unhexL s.data.toList).length = 32 ↔ s.size = 64 := by
 have e : s.data.toList.length = s.size := rfl
 have h2 := (okHex_parts h).1
 rw [unhexL_length]
 omega
set_option maxRecDepth 100000 in
set_option maxHeartbeats 1000000 in
theorem isHash_any (s : ByteArray) (w : World) (hs : s.size ≤ 140737488351232) : Calls Tryz.prog 89 #[.string s] w fun e w' => BoP (idL s.data.toList) w e w' := by
 have hl : s.data.toList.length = s.size := rfl
 obtain ⟨r, hr⟩ : ∃ r, r = idL s.data.toList := ⟨_, rfl⟩
 rw [← hr]
 have HR := Ld hr
 clear hr
 cases hh : okHex s.data.toList with
 | false =>
  have HU := Ld (fun V => unhex_no s V hs hh)
  have HI : Hid (r = false) := by show _ = _; rw [HR.out]; unfold idL; rw [hh]; rfl
  clear hh hl
  go_enter Tryz.func89, Tryz.ntmps89
  go_wp2_with fail
  refine (HU.out _).mono ?_
  rintro e w' ⟨rfl, hb⟩
  go_wp2
  go_ret
  exact ⟨by rw [HI.out]; rfl, hb⟩
 | true =>
  have HU := Ld (fun V => unhex_ok s V hs hh)
  have HI : Hid (r = decide (s.size = 64)) := by show _ = _; rw [HR.out]; unfold idL; rw [hh, hl]; rfl
  clear hh hl
  by_cases h64 : s.size = 64
  ·have q1 : ((s.size : Int) == 64) = true := by rw [h64]; rfl
   have q2 : (s.size == 64) = true := by rw [h64]; rfl
   have q3 : decide (s.size = 64) = true := decide_eq_true h64
   have HJ : Hid (r = true) := Ld (by rw [HI.out, q3])
   clear h64
   go_enter Tryz.func89, Tryz.ntmps89
   go_wp2_with fail
   refine (HU.out _).mono ?_
   rintro e w' ⟨v, rfl, ho, hb⟩
   clear ho
   go_wp2
   go_ret
   exact ⟨by rw [HJ.out]; rfl, hb⟩
  ·have q1 : ((s.size : Int) == 64) = false := by rw [beq_eq_false_iff_ne]; omega
   have q2 : (s.size == 64) = false := by rw [beq_eq_false_iff_ne]; omega
   have q3 : decide (s.size = 64) = false := decide_eq_false h64
   have HJ : Hid (r = false) := Ld (by rw [HI.out, q3])
   clear h64
   go_enter Tryz.func89, Tryz.ntmps89
   go_wp2_with fail
   refine (HU.out _).mono ?_
   rintro e w' ⟨v, rfl, ho, hb⟩
   clear ho
   go_wp2
   go_ret
   exact ⟨by rw [HJ.out]; rfl, hb⟩
set_option maxRecDepth 100000 in
set_option maxHeartbeats 1000000 in
theorem rId_any (s : ByteArray) (w : World) (hs : s.size ≤ 140737488351232) : Calls Tryz.prog 71 #[.string s] w fun e w' => BoP (idL s.data.toList) w e w' := by
 have hl : s.data.toList.length = s.size := rfl
 obtain ⟨r, hr⟩ : ∃ r, r = idL s.data.toList := ⟨_, rfl⟩
 rw [← hr]
 have HR := Ld hr
 clear hr
 cases hh : okHex s.data.toList with
 | false =>
  have HU := Ld (fun V => refUnhex_no s V hs hh)
  have HI : Hid (r = false) := by show _ = _; rw [HR.out]; unfold idL; rw [hh]; rfl
  clear hh hl
  go_enter Tryz.func71, Tryz.ntmps71
  go_wp2_with fail
  refine (HU.out _).mono ?_
  rintro e w' ⟨rfl, hb⟩
  go_wp2
  go_ret
  exact ⟨by rw [HI.out]; rfl, hb⟩
 | true =>
  have HU := Ld (fun V => refUnhex_ok s V hs hh)
  have HI : Hid (r = decide (s.size = 64)) := by show _ = _; rw [HR.out]; unfold idL; rw [hh, hl]; rfl
  have h32 := ok64 hh
  clear hh hl
  go_enter Tryz.func71, Tryz.ntmps71
  go_wp2_with fail
  refine (HU.out _).mono ?_
  rintro e w' ⟨v, rfl, ho, hb⟩
  obtain ⟨A2, c2, rfl, hc2, hm2, hr2, hg2⟩ := ho.shape
  clear ho hr2 hg2
  obtain ⟨n, hn⟩ : ∃ n, n = (unhexL s.data.toList).length := ⟨_, rfl⟩
  rw [← hn] at h32 hc2 ⊢
  by_cases h64 : s.size = 64
  ·have h9 := h32.2 h64
   have q1 : ((n : Int) == 32) = true := by rw [h9]; rfl
   have q2 : (n == 32) = true := by rw [h9]; rfl
   have q3 : decide (s.size = 64) = true := decide_eq_true h64
   have HJ : Hid (r = true) := Ld (by rw [HI.out, q3])
   clear h64 h9 h32 hn q3
   go_wp2
   go_ret
   exact ⟨by rw [HJ.out]; rfl, hb⟩
  ·have h9 : n ≠ 32 := fun e => h64 (h32.1 e)
   have q1 : ((n : Int) == 32) = false := by rw [beq_eq_false_iff_ne]; omega
   have q2 : (n == 32) = false := by rw [beq_eq_false_iff_ne]; omega
   have q3 : decide (s.size = 64) = false := decide_eq_false h64
   have HJ : Hid (r = false) := Ld (by rw [HI.out, q3])
   clear h64 h9 h32 hn q3
   go_wp2
   go_ret
   exact ⟨by rw [HJ.out]; rfl, hb⟩
set_option maxRecDepth 100000 in
set_option maxHeartbeats 4000000 in
theorem file_any (m : ME) (w : World) (hs : m.name.size ≤ 140737488351232 ∧ m.hash.size ≤ 140737488351232) : Calls Tryz.prog 69 #[m.val] w fun e w' => BoP m.ok w e w' := by
 obtain ⟨W1, hW1⟩ : ∃ W1, W1 = w.alloc (.cells #[.string m.name, .int .i64 m.ver, .int .i64 m.len, .string m.hash] 44) := ⟨_, rfl⟩
 have hb1 : Below w.heap.size w W1 := by rw [hW1]; exact (Below.refl _ _).alloc (Nat.le_refl _) _
 have hk1 : Blk W1 w.heap.size 44 #[.string m.name, .int .i64 m.ver, .int .i64 m.len, .string m.hash] := by rw [hW1]; exact Blk.new _ _ _
 have HF := Ld (fun V => fileName_any m.name V hs.1)
 have HD := Ld (fun V => isHash_any m.hash V hs.2)
 obtain ⟨r, hr⟩ : ∃ r, r = m.ok := ⟨_, rfl⟩
 rw [← hr]
 have HR := Ld hr
 unfold ME.val
 have HW1 := Ld hW1
 have HB1 := Ld hb1
 have HK1 := Ld hk1
 obtain ⟨f, hf⟩ : ∃ f, f = fnameL m.name.data.toList := ⟨_, rfl⟩
 rw [← hf] at HF
 have HFF := Ld hf
 clear hr hW1 hb1 hk1 hf hs
 go_enter Tryz.func69, Tryz.ntmps69
 go_wp2_with fail
 rw [← HW1.out]
 refine (HF.out _).mono ?_
 rintro e w2 ⟨rfl, hb2⟩
 have HB2 : Hid (Below w.heap.size w w2) := Ld (HB1.out.trans (hb2.mono HB1.out.size))
 have hk2 := HK1.out.below hb2 HK1.out.lt
 have x0 : w2.cell? ⟨w.heap.size, 0, none⟩ = some (.string m.name) := hk2.cell 0
 have x1 : w2.cell? ⟨w.heap.size, 1, none⟩ = some (.int .i64 m.ver) := hk2.cell 1
 have x2 : w2.cell? ⟨w.heap.size, 2, none⟩ = some (.int .i64 m.len) := hk2.cell 2
 have x3 : w2.cell? ⟨w.heap.size, 3, none⟩ = some (.string m.hash) := hk2.cell 3
 clear hb2 hk2
 have HOK : Hid (r = (f && (decide (1 ≤ m.ver) && (decide (m.ver ≤ 1099511627776) && (decide (-1 ≤ m.len) && (decide (m.len ≤ 1048576) && (decide (m.hash = ⟨#[]⟩) || idL m.hash.data.toList))))))) := Ld (by rw [HR.out, HFF.out]; rfl)
 clear HR HFF
 generalize m.ver = ver at *
 generalize m.len = len at *
 generalize m.hash = hash at *
 generalize m.name = name at *
 cases f with
 | false =>
  have HI : Hid (r = false) := Ld (by rw [HOK.out]; rfl)
  go_wp2
  go_ret
  exact ⟨by rw [HI.out]; rfl, HB2.out⟩
 | true =>
  by_cases h0 : 1 ≤ ver
  rotate_left
  ·have HI : Hid (r = false) := Ld (by rw [HOK.out]; simp [h0])
   have d00 : decide (1 ≤ ver) = false := decide_eq_false h0
   have d01 : decide (ver ≥ 1) = false := decide_eq_false h0
   clear h0
   go_wp2
   go_ret
   exact ⟨by rw [HI.out]; rfl, HB2.out⟩
  have d00 : decide (1 ≤ ver) = true := decide_eq_true h0
  have d01 : decide (ver ≥ 1) = true := decide_eq_true h0
  by_cases h1 : ver ≤ 1099511627776
  rotate_left
  ·have HI : Hid (r = false) := Ld (by rw [HOK.out]; simp [h1])
   have d10 : decide (ver ≤ 1099511627776) = false := decide_eq_false h1
   clear h1
   go_wp2
   go_ret
   exact ⟨by rw [HI.out]; rfl, HB2.out⟩
  have d10 : decide (ver ≤ 1099511627776) = true := decide_eq_true h1
  by_cases h2 : -1 ≤ len
  rotate_left
  ·have HI : Hid (r = false) := Ld (by rw [HOK.out]; simp [h2])
   have d20 : decide (-1 ≤ len) = false := decide_eq_false h2
   have d21 : decide (len ≥ -1) = false := decide_eq_false h2
   clear h2
   go_wp2
   go_ret
   exact ⟨by rw [HI.out]; rfl, HB2.out⟩
  have d20 : decide (-1 ≤ len) = true := decide_eq_true h2
  have d21 : decide (len ≥ -1) = true := decide_eq_true h2
  by_cases h3 : len ≤ 1048576
  rotate_left
  ·have HI : Hid (r = false) := Ld (by rw [HOK.out]; simp [h3])
   have d30 : decide (len ≤ 1048576) = false := decide_eq_false h3
   clear h3
   go_wp2
   go_ret
   exact ⟨by rw [HI.out]; rfl, HB2.out⟩
  have d30 : decide (len ≤ 1048576) = true := decide_eq_true h3
  have HJ : Hid (r = (decide (hash = ⟨#[]⟩) || idL hash.data.toList)) := Ld (by rw [HOK.out]; simp [h0, h1, h2, h3])
  clear h0 h1 h2 h3 HOK
  by_cases he : hash = ⟨#[]⟩
  ·subst he
   have HI : Hid (r = true) := Ld (by rw [HJ.out]; simp)
   go_wp2
   go_ret
   exact ⟨by rw [HI.out]; rfl, HB2.out⟩
  ·have g2 : hash.toList.isEmpty = false := by
    rw [ByteArray.toList_eq]
    cases hx : hash.data.toList with
    | nil => exact absurd (ByteArray.ext (Array.toList_inj.1 hx)) he
    | cons a b => rfl
   have g3 : (hash.toList == []) = false := by
    rw [beq_eq_false_iff_ne]
    intro e
    rw [e] at g2
    cases g2
   have HI : Hid (r = idL hash.data.toList) := Ld (by rw [HJ.out]; simp [he])
   clear he
   go_wp2_with fail
   refine (HD.out _).mono ?_
   rintro e w3 ⟨rfl, hb3⟩
   go_wp2
   go_ret
   exact ⟨by rw [HI.out]; rfl, HB2.out.trans (hb3.mono HB2.out.size)⟩
set_option maxRecDepth 100000 in
set_option maxHeartbeats 4000000 in
theorem rfile_any (m : ME) (w : World) (hs : m.name.size ≤ 140737488351232 ∧ m.hash.size ≤ 140737488351232) : Calls Tryz.prog 34 #[m.val] w fun e w' => BoP m.ok w e w' := by
 obtain ⟨W1, hW1⟩ : ∃ W1, W1 = w.alloc (.cells #[.string m.name, .int .i64 m.ver, .int .i64 m.len, .string m.hash] 44) := ⟨_, rfl⟩
 have hb1 : Below w.heap.size w W1 := by rw [hW1]; exact (Below.refl _ _).alloc (Nat.le_refl _) _
 have hk1 : Blk W1 w.heap.size 44 #[.string m.name, .int .i64 m.ver, .int .i64 m.len, .string m.hash] := by rw [hW1]; exact Blk.new _ _ _
 have HF := Ld (fun V => rfileName_any m.name V hs.1)
 have HD := Ld (fun V => rId_any m.hash V hs.2)
 obtain ⟨r, hr⟩ : ∃ r, r = m.ok := ⟨_, rfl⟩
 rw [← hr]
 have HR := Ld hr
 unfold ME.val
 have HW1 := Ld hW1
 have HB1 := Ld hb1
 have HK1 := Ld hk1
 obtain ⟨f, hf⟩ : ∃ f, f = fnameL m.name.data.toList := ⟨_, rfl⟩
 rw [← hf] at HF
 have HFF := Ld hf
 clear hr hW1 hb1 hk1 hf hs
 go_enter Tryz.func34, Tryz.ntmps34
 go_wp2_with fail
 rw [← HW1.out]
 refine (HF.out _).mono ?_
 rintro e w2 ⟨rfl, rfl⟩
 have hb2 : Below W1.heap.size W1 W1 := Below.refl _ _
 have HB2 : Hid (Below w.heap.size w W1) := Ld (HB1.out.trans (hb2.mono HB1.out.size))
 have hk2 := HK1.out.below hb2 HK1.out.lt
 have x0 : W1.cell? ⟨w.heap.size, 0, none⟩ = some (.string m.name) := hk2.cell 0
 have x1 : W1.cell? ⟨w.heap.size, 1, none⟩ = some (.int .i64 m.ver) := hk2.cell 1
 have x2 : W1.cell? ⟨w.heap.size, 2, none⟩ = some (.int .i64 m.len) := hk2.cell 2
 have x3 : W1.cell? ⟨w.heap.size, 3, none⟩ = some (.string m.hash) := hk2.cell 3
 clear hb2 hk2
 have HOK : Hid (r = (f && (decide (1 ≤ m.ver) && (decide (m.ver ≤ 1099511627776) && (decide (-1 ≤ m.len) && (decide (m.len ≤ 1048576) && (decide (m.hash = ⟨#[]⟩) || idL m.hash.data.toList))))))) := Ld (by rw [HR.out, HFF.out]; rfl)
 clear HR HFF
 generalize m.ver = ver at *
 generalize m.len = len at *
 generalize m.hash = hash at *
 generalize m.name = name at *
 cases f with
 | false =>
  have HI : Hid (r = false) := Ld (by rw [HOK.out]; rfl)
  go_wp2
  go_ret
  exact ⟨by rw [HI.out]; rfl, HB2.out⟩
 | true =>
  by_cases h0 : 1 ≤ ver
  rotate_left
  ·have HI : Hid (r = false) := Ld (by rw [HOK.out]; simp [h0])
   have d00 : decide (1 ≤ ver) = false := decide_eq_false h0
   have d01 : decide (ver ≥ 1) = false := decide_eq_false h0
   clear h0
   go_wp2
   go_ret
   exact ⟨by rw [HI.out]; rfl, HB2.out⟩
  have d00 : decide (1 ≤ ver) = true := decide_eq_true h0
  have d01 : decide (ver ≥ 1) = true := decide_eq_true h0
  by_cases h1 : ver ≤ 1099511627776
  rotate_left
  ·have HI : Hid (r = false) := Ld (by rw [HOK.out]; simp [h1])
   have d10 : decide (ver ≤ 1099511627776) = false := decide_eq_false h1
   clear h1
   go_wp2
   go_ret
   exact ⟨by rw [HI.out]; rfl, HB2.out⟩
  have d10 : decide (ver ≤ 1099511627776) = true := decide_eq_true h1
  by_cases h2 : -1 ≤ len
  rotate_left
  ·have HI : Hid (r = false) := Ld (by rw [HOK.out]; simp [h2])
   have d20 : decide (-1 ≤ len) = false := decide_eq_false h2
   have d21 : decide (len ≥ -1) = false := decide_eq_false h2
   clear h2
   go_wp2
   go_ret
   exact ⟨by rw [HI.out]; rfl, HB2.out⟩
  have d20 : decide (-1 ≤ len) = true := decide_eq_true h2
  have d21 : decide (len ≥ -1) = true := decide_eq_true h2
  by_cases h3 : len ≤ 1048576
  rotate_left
  ·have HI : Hid (r = false) := Ld (by rw [HOK.out]; simp [h3])
   have d30 : decide (len ≤ 1048576) = false := decide_eq_false h3
   clear h3
   go_wp2
   go_ret
   exact ⟨by rw [HI.out]; rfl, HB2.out⟩
  have d30 : decide (len ≤ 1048576) = true := decide_eq_true h3
  have HJ : Hid (r = (decide (hash = ⟨#[]⟩) || idL hash.data.toList)) := Ld (by rw [HOK.out]; simp [h0, h1, h2, h3])
  clear h0 h1 h2 h3 HOK
  by_cases he : hash = ⟨#[]⟩
  ·subst he
   have HI : Hid (r = true) := Ld (by rw [HJ.out]; simp)
   go_wp2
   go_ret
   exact ⟨by rw [HI.out]; rfl, HB2.out⟩
  ·have g2 : hash.toList.isEmpty = false := by
    rw [ByteArray.toList_eq]
    cases hx : hash.data.toList with
    | nil => exact absurd (ByteArray.ext (Array.toList_inj.1 hx)) he
    | cons a b => rfl
   have g3 : (hash.toList == []) = false := by
    rw [beq_eq_false_iff_ne]
    intro e
    rw [e] at g2
    cases g2
   have HI : Hid (r = idL hash.data.toList) := Ld (by rw [HJ.out]; simp [he])
   clear he
   go_wp2_with fail
   refine (HD.out _).mono ?_
   rintro e w3 ⟨rfl, hb3⟩
   go_wp2
   go_ret
   exact ⟨by rw [HI.out]; rfl, HB2.out.trans (hb3.mono HB2.out.size)⟩
set_option maxHeartbeats 1000000 in
theorem byName_any (a b : ME) (w : World) : Calls Tryz.prog 47 #[a.val, b.val] w fun e w' => e = .returned (.int .i64 (cmpS a.name b.name)) ∧ Below w.heap.size w w' := by
 unfold ME.val
 go_enter Tryz.func47, Tryz.ntmps47
 go_wp2_with fail
 refine (compare_str _ _ _).mono ?_
 rintro e w' ⟨rfl, rfl⟩
 go_wp2
 go_ret
 exact ⟨rfl, ((Below.refl _ _).alloc (Nat.le_refl _) _).alloc (by simp) _⟩
end Go.Proofs.YtefkpphahimkgaaGreatDoor
