/-
 listing.FileName and the document's FileName: what they return.
 The document's FileName: what it returns.
-/
import Derived.Test.YtefkpphahimkgaaGreatDoorTk
import Derived.Test.YtefkpphahimkgaaGreatDoorGP
import Derived.Test.YtefkpphahimkgaaGreatDoorShelf
import Derived.Laws.RangeAny
import Derived.Handy
import Derived.Lib.Strings
namespace Go.Proofs.YtefkpphahimkgaaGreatDoor
open Go.RowKit
set_option linter.unusedVariables false
set_option linter.unusedSimpArgs false
set_option maxRecDepth 100000 in
set_option maxHeartbeats 1000000 in
theorem isSign_any (z : Int) (w : World) : Calls Tryz.prog 40 #[.int .i32 z] w fun e w' => e = .returned (.bool (signZ z)) ∧ w = w' := by
 obtain ⟨r, hr⟩ : ∃ r, r = signZ z := ⟨_, rfl⟩
 rw [← hr]
 have HR := Ld hr
 clear hr
 rcases (by omega : z < 45 ∨ z = 45 ∨ z = 46 ∨ z = 47 ∨ (48 ≤ z ∧ z ≤ 57) ∨ (58 ≤ z ∧ z ≤ 94) ∨ z = 95 ∨ z = 96 ∨ (97 ≤ z ∧ z ≤ 122) ∨ 123 ≤ z) with h | h | h | h | h | h | h | h | h | h
 ·have a1 : decide (97 ≤ z) = false := by simp; omega
  have a2 : decide (z ≤ 122) = true := by simp; omega
  have a3 : decide (48 ≤ z) = false := by simp; omega
  have a4 : decide (z ≤ 57) = true := by simp; omega
  have a5 : (z == 45) = false := by simp; omega
  have a6 : (z == 95) = false := by simp; omega
  have a7 : (z == 46) = false := by simp; omega
  have HI : Hid (r = false) := by show _ = _; rw [HR.out]; unfold signZ; rw [a1, a2, a3, a4, a5, a6, a7]; rfl
  clear h
  go_enter Tryz.func40, Tryz.ntmps40
  go_wp2
  go_ret
  exact ⟨by rw [HI.out]; rfl, rfl⟩
 ·have a1 : decide (97 ≤ z) = false := by simp; omega
  have a2 : decide (z ≤ 122) = true := by simp; omega
  have a3 : decide (48 ≤ z) = false := by simp; omega
  have a4 : decide (z ≤ 57) = true := by simp; omega
  have a5 : (z == 45) = true := by simp; omega
  have a6 : (z == 95) = false := by simp; omega
  have a7 : (z == 46) = false := by simp; omega
  have HI : Hid (r = true) := by show _ = _; rw [HR.out]; unfold signZ; rw [a1, a2, a3, a4, a5, a6, a7]; rfl
  clear h
  go_enter Tryz.func40, Tryz.ntmps40
  go_wp2
  go_ret
  exact ⟨by rw [HI.out]; rfl, rfl⟩
 ·have a1 : decide (97 ≤ z) = false := by simp; omega
  have a2 : decide (z ≤ 122) = true := by simp; omega
  have a3 : decide (48 ≤ z) = false := by simp; omega
  have a4 : decide (z ≤ 57) = true := by simp; omega
  have a5 : (z == 45) = false := by simp; omega
  have a6 : (z == 95) = false := by simp; omega
  have a7 : (z == 46) = true := by simp; omega
  have HI : Hid (r = true) := by show _ = _; rw [HR.out]; unfold signZ; rw [a1, a2, a3, a4, a5, a6, a7]; rfl
  clear h
  go_enter Tryz.func40, Tryz.ntmps40
  go_wp2
  go_ret
  exact ⟨by rw [HI.out]; rfl, rfl⟩
 ·have a1 : decide (97 ≤ z) = false := by simp; omega
  have a2 : decide (z ≤ 122) = true := by simp; omega
  have a3 : decide (48 ≤ z) = false := by simp; omega
  have a4 : decide (z ≤ 57) = true := by simp; omega
  have a5 : (z == 45) = false := by simp; omega
  have a6 : (z == 95) = false := by simp; omega
  have a7 : (z == 46) = false := by simp; omega
  have HI : Hid (r = false) := by show _ = _; rw [HR.out]; unfold signZ; rw [a1, a2, a3, a4, a5, a6, a7]; rfl
  clear h
  go_enter Tryz.func40, Tryz.ntmps40
  go_wp2
  go_ret
  exact ⟨by rw [HI.out]; rfl, rfl⟩
 ·have a1 : decide (97 ≤ z) = false := by simp; omega
  have a2 : decide (z ≤ 122) = true := by simp; omega
  have a3 : decide (48 ≤ z) = true := by simp; omega
  have a4 : decide (z ≤ 57) = true := by simp; omega
  have a5 : (z == 45) = false := by simp; omega
  have a6 : (z == 95) = false := by simp; omega
  have a7 : (z == 46) = false := by simp; omega
  have HI : Hid (r = true) := by show _ = _; rw [HR.out]; unfold signZ; rw [a1, a2, a3, a4, a5, a6, a7]; rfl
  clear h
  go_enter Tryz.func40, Tryz.ntmps40
  go_wp2
  go_ret
  exact ⟨by rw [HI.out]; rfl, rfl⟩
 ·have a1 : decide (97 ≤ z) = false := by simp; omega
  have a2 : decide (z ≤ 122) = true := by simp; omega
  have a3 : decide (48 ≤ z) = true := by simp; omega
  have a4 : decide (z ≤ 57) = false := by simp; omega
  have a5 : (z == 45) = false := by simp; omega
  have a6 : (z == 95) = false := by simp; omega
  have a7 : (z == 46) = false := by simp; omega
  have HI : Hid (r = false) := by show _ = _; rw [HR.out]; unfold signZ; rw [a1, a2, a3, a4, a5, a6, a7]; rfl
  clear h
  go_enter Tryz.func40, Tryz.ntmps40
  go_wp2
  go_ret
  exact ⟨by rw [HI.out]; rfl, rfl⟩
 ·have a1 : decide (97 ≤ z) = false := by simp; omega
  have a2 : decide (z ≤ 122) = true := by simp; omega
  have a3 : decide (48 ≤ z) = true := by simp; omega
  have a4 : decide (z ≤ 57) = false := by simp; omega
  have a5 : (z == 45) = false := by simp; omega
  have a6 : (z == 95) = true := by simp; omega
  have a7 : (z == 46) = false := by simp; omega
  have HI : Hid (r = true) := by show _ = _; rw [HR.out]; unfold signZ; rw [a1, a2, a3, a4, a5, a6, a7]; rfl
  clear h
  go_enter Tryz.func40, Tryz.ntmps40
  go_wp2
  go_ret
  exact ⟨by rw [HI.out]; rfl, rfl⟩
 ·have a1 : decide (97 ≤ z) = false := by simp; omega
  have a2 : decide (z ≤ 122) = true := by simp; omega
  have a3 : decide (48 ≤ z) = true := by simp; omega
  have a4 : decide (z ≤ 57) = false := by simp; omega
  have a5 : (z == 45) = false := by simp; omega
  have a6 : (z == 95) = false := by simp; omega
  have a7 : (z == 46) = false := by simp; omega
  have HI : Hid (r = false) := by show _ = _; rw [HR.out]; unfold signZ; rw [a1, a2, a3, a4, a5, a6, a7]; rfl
  clear h
  go_enter Tryz.func40, Tryz.ntmps40
  go_wp2
  go_ret
  exact ⟨by rw [HI.out]; rfl, rfl⟩
 ·have a1 : decide (97 ≤ z) = true := by simp; omega
  have a2 : decide (z ≤ 122) = true := by simp; omega
  have a3 : decide (48 ≤ z) = true := by simp; omega
  have a4 : decide (z ≤ 57) = false := by simp; omega
  have a5 : (z == 45) = false := by simp; omega
  have a6 : (z == 95) = false := by simp; omega
  have a7 : (z == 46) = false := by simp; omega
  have HI : Hid (r = true) := by show _ = _; rw [HR.out]; unfold signZ; rw [a1, a2, a3, a4, a5, a6, a7]; rfl
  clear h
  go_enter Tryz.func40, Tryz.ntmps40
  go_wp2
  go_ret
  exact ⟨by rw [HI.out]; rfl, rfl⟩
 ·have a1 : decide (97 ≤ z) = true := by simp; omega
  have a2 : decide (z ≤ 122) = false := by simp; omega
  have a3 : decide (48 ≤ z) = true := by simp; omega
  have a4 : decide (z ≤ 57) = false := by simp; omega
  have a5 : (z == 45) = false := by simp; omega
  have a6 : (z == 95) = false := by simp; omega
  have a7 : (z == 46) = false := by simp; omega
  have HI : Hid (r = false) := by show _ = _; rw [HR.out]; unfold signZ; rw [a1, a2, a3, a4, a5, a6, a7]; rfl
  clear h
  go_enter Tryz.func40, Tryz.ntmps40
  go_wp2
  go_ret
  exact ⟨by rw [HI.out]; rfl, rfl⟩
theorem fname_bad (l : List UInt8) (c : UInt8) (h : c ∈ l) (hc : signB c = false) : fnameL l = false := by
 unfold fnameL
 have : l.all signB = false := by rw [List.all_eq_false]; exact ⟨c, h, by rw [hc]; simp⟩
 rw [this]; simp
theorem mem_at' (s : ByteArray) (k : Nat) (h : k < s.size) : s[k] ∈ s.data.toList := Array.mem_toList_iff.2 (Array.getElem_mem (xs := s.data) h)
def FnPost (s : ByteArray) (w : World) (r : Bool) (e : Ending) (w' : World) : Prop := e = .returned (.bool r) ∧ Below w.heap.size w w'
set_option maxRecDepth 100000 in
set_option maxHeartbeats 2000000 in
theorem fileName_any (s : ByteArray) (w : World) (hs : s.size ≤ 140737488351232) : Calls Tryz.prog 13 #[.string s] w fun e w' => FnPost s w (fnameL s.data.toList) e w' := by
 have hsl : s.data.toList.length = s.size := by cases s; simp [ByteArray.size]
 have HSL := Ld hsl
 obtain ⟨r, hr⟩ : ∃ r, r = fnameL s.data.toList := ⟨_, rfl⟩
 rw [← hr]
 have HR := Ld hr
 clear hr
 rcases (by omega : s.size = 0 ∨ 64 < s.size ∨ (1 ≤ s.size ∧ s.size ≤ 64)) with h0 | h0 | h0
 ·have e0 : s.toList = [] := by
   rw [Lib.toList_data]
   exact List.eq_nil_of_length_eq_zero (by rw [hsl]; exact h0)
  have HI : Hid (r = false) := by
   show _ = _
   rw [HR.out, show s.data.toList = [] from by rw [← Lib.toList_data]; exact e0]
   rfl
  have e1 : s.toList.isEmpty = true := by rw [e0]; rfl
  clear hsl h0
  go_enter Tryz.func13, Tryz.ntmps13
  go_wp2
  go_ret
  exact ⟨by rw [HI.out]; rfl, Below.refl _ _⟩
 ·have e1 : s.toList.isEmpty = false := by
   rw [Lib.toList_data]
   cases h : s.data.toList with
   | nil => rw [h] at hsl; simp at hsl; omega
   | cons => rfl
  have e2 : decide (64 < (s.size : Int)) = true := by rw [decide_eq_true_iff]; omega
  have HI : Hid (r = false) := by
   show _ = _
   rw [HR.out]
   unfold fnameL
   rw [decide_eq_false (by rw [hsl]; omega)]
   simp
  clear hsl
  go_enter Tryz.func13, Tryz.ntmps13
  go_wp2
  go_ret
  exact ⟨by rw [HI.out]; rfl, Below.refl _ _⟩
 ·have e1 : s.toList.isEmpty = false := by
   rw [Lib.toList_data]
   cases h : s.data.toList with
   | nil => rw [h] at hsl; simp at hsl; omega
   | cons => rfl
  have e2 : decide (64 < (s.size : Int)) = false := by rw [decide_eq_false_iff_not]; omega
  have HT := Ld (fun w => Tryz.strings_Trim_one s 46 (by decide) w (by omega))
  have ht : (Lib.trimB s.data.toList 46 == s.toList) = endsOK s.data.toList := by
   rw [Bool.eq_iff_iff, beq_iff_eq, Lib.toList_data]
   exact trim_ends _
  obtain ⟨t, hte⟩ : ∃ t, t = Lib.trimB s.data.toList 46 := ⟨_, rfl⟩
  rw [← hte] at HT ht
  clear hte hsl
  cases hE : endsOK s.data.toList with
  | false =>
   rw [hE] at ht
   have HI : Hid (r = false) := by
    show _ = _
    rw [HR.out]
    unfold fnameL
    rw [hE]
    simp
   clear hE
   go_enter Tryz.func13, Tryz.ntmps13
   go_wp2_with fail
   refine (HT.out _).mono ?_
   rintro e w1 ⟨rfl, hw1⟩
   have HB1 : Hid (Below w.heap.size w w1) := Ld (by rcases hw1 with rfl | rfl; exact Below.refl _ _; exact (Below.refl _ _).drew)
   clear hw1
   go_wp2
   go_ret
   exact ⟨by rw [HI.out]; rfl, HB1.out⟩
  | true =>
   rw [hE] at ht
   have HE := Ld hE
   clear hE
   go_enter Tryz.func13, Tryz.ntmps13
   go_wp2_with fail
   refine (HT.out _).mono ?_
   rintro e w1 ⟨rfl, hw1⟩
   have HB1 : Hid (Below w.heap.size w w1) := Ld (by rcases hw1 with rfl | rfl; exact Below.refl _ _; exact (Below.refl _ _).drew)
   clear hw1 HT
   go_wp2
   go_loopw [4] (fun _ wr => ∃ k : Nat, k ≤ s.size ∧ Hid ((s.data.toList.take k).all signB = true) ∧ wr = w1.iter s k) (fun _ wr => s.size - wr.iterPos w1.heap.size)
   case atStart => exact ⟨0, Nat.zero_le _, Ld rfl, rfl⟩
   case round =>
    obtain ⟨k, hk, HB, rfl⟩ := hrel
    rcases (by omega : k < s.size ∨ k = s.size) with hlt | heq
    ·rcases (by omega : (s[k]'hlt).toNat < 128 ∨ 128 ≤ (s[k]'hlt).toNat) with ha | ha
     ·have hnx := fun ty => run_next_ascii (P := Tryz.prog) w1 s k ty hlt ha
      obtain ⟨c, hc⟩ : ∃ c, c = s[k]'hlt := ⟨_, rfl⟩
      rw [← hc] at hnx ha
      have HC := Ld hc
      have HS := Ld (isSign_any (c.toNat : Int))
      clear hc
      cases hq : signB c with
      | false =>
       have HI : Hid (r = false) := by
        show _ = _
        rw [HR.out]
        exact fname_bad s.data.toList c (by rw [HC.out]; exact mem_at' s k hlt) hq
       have HQ := Ld hq
       clear hq
       go_wp2_with fail
       refine (HS.out _).mono ?_
       rw [show signZ (c.toNat : Int) = false from HQ.out]
       rintro e w2 ⟨rfl, rfl⟩
       go_wp2
       go_ret
       exact ⟨by rw [HI.out]; rfl, HB1.out.trans ((Below.alloc (Below.refl _ _) (Nat.le_refl _) _ : Below w1.heap.size w1 (w1.iter s _)).mono HB1.out.size)⟩
      | true =>
       have HI : Hid ((s.data.toList.take (k + 1)).all signB = true) := by
        show _ = _
        rw [List.take_succ_eq_append_getElem (by rw [HSL.out]; exact hlt), List.all_append, HB.out]
        show (signB s[k] && true) = true
        rw [← HC.out, hq]
        rfl
       have HQ := Ld hq
       clear hq
       go_wp2_with fail
       refine (HS.out _).mono ?_
       rw [show signZ (c.toNat : Int) = true from HQ.out]
       rintro e w2 ⟨rfl, rfl⟩
       go_wp2
       go_roundw
       case rel => exact ⟨k + 1, by omega, HI, rfl⟩
       case measure => rw [World.iterPos_iter, World.iterPos_iter]; omega
     ·have hnx := fun ty => run_next_any (P := Tryz.prog) w1 s k ty hlt
      obtain ⟨hd, _⟩ := decode_high s k hlt ha
      obtain ⟨z, hz⟩ : ∃ z, z = (Utf8.decode s k).1 := ⟨_, rfl⟩
      obtain ⟨y, hy⟩ : ∃ y, y = (Utf8.decode s k).2 := ⟨_, rfl⟩
      rw [← hz, ← hy] at hnx
      rw [← hz] at hd
      clear hz hy
      have HI : Hid (r = false) := by
       show _ = _
       rw [HR.out]
       refine fname_bad s.data.toList (s[k]'hlt) (mem_at' s k hlt) ?_
       unfold signB signZ
       rw [decide_eq_false (p := (((s[k]'hlt).toNat : Int) ≤ 122)) (by omega), decide_eq_false (p := (((s[k]'hlt).toNat : Int) ≤ 57)) (by omega), beq_eq_false_iff_ne.2 (by omega : ((s[k]'hlt).toNat : Int) ≠ 45), beq_eq_false_iff_ne.2 (by omega : ((s[k]'hlt).toNat : Int) ≠ 95), beq_eq_false_iff_ne.2 (by omega : ((s[k]'hlt).toNat : Int) ≠ 46)]
       simp
      have HQ : Hid (signZ (z : Int) = false) := by
       show _ = _
       unfold signZ
       rw [decide_eq_false (p := ((z : Int) ≤ 122)) (by omega), decide_eq_false (p := ((z : Int) ≤ 57)) (by omega), beq_eq_false_iff_ne.2 (by omega : (z : Int) ≠ 45), beq_eq_false_iff_ne.2 (by omega : (z : Int) ≠ 95), beq_eq_false_iff_ne.2 (by omega : (z : Int) ≠ 46)]
       simp
      have HS := Ld (isSign_any (z : Int))
      go_wp2_with fail
      refine (HS.out _).mono ?_
      rw [HQ.out]
      rintro e w2 ⟨rfl, rfl⟩
      go_wp2
      go_ret
      exact ⟨by rw [HI.out]; rfl, HB1.out.trans ((Below.alloc (Below.refl _ _) (Nat.le_refl _) _ : Below w1.heap.size w1 (w1.iter s _)).mono HB1.out.size)⟩
    ·have hnx := fun ty => run_next_end (P := Tryz.prog) w1 s k ty (by omega)
     have HI : Hid (r = true) := by
      show _ = _
      rw [HR.out]
      have hA : s.data.toList.all signB = true := by rw [← HB.out, heq, List.take_of_length_le (by rw [HSL.out]; omega)]
      unfold fnameL
      rw [HE.out, hA, decide_eq_true (by rw [HSL.out]; omega), ← Lib.toList_data, e1]
      rfl
     clear heq
     go_wp2
     go_ret
     exact ⟨by rw [HI.out]; rfl, HB1.out.trans ((Below.alloc (Below.refl _ _) (Nat.le_refl _) _ : Below w1.heap.size w1 (w1.iter s _)).mono HB1.out.size)⟩
theorem head_at (s : ByteArray) (h : 0 < s.size) : s.data.toList.head? = some (s[0]'h) := by
 obtain ⟨⟨l⟩⟩ := s
 cases l with
 | nil => simp [ByteArray.size] at h
 | cons c l => rfl
theorem last_at (s : ByteArray) (h : 0 < s.size) : s.data.toList.getLast? = some (s[s.size - 1]'(by omega)) := by
 obtain ⟨⟨l⟩⟩ := s
 have hl : (ByteArray.mk ⟨l⟩).size = l.length := rfl
 have h' : l.length - 1 < l.length := by rw [hl] at h; omega
 rw [List.getLast?_eq_getElem?]
 show l[l.length - 1]? = some l[l.length - 1]
 rw [List.getElem?_eq_getElem h']
set_option maxRecDepth 100000 in
set_option maxHeartbeats 4000000 in
theorem rfileName_any (s : ByteArray) (w : World) (hs : s.size ≤ 140737488351232) : Calls Tryz.prog 14 #[.string s] w fun e w' => e = .returned (.bool (fnameL s.data.toList)) ∧ w = w' := by
 have hsl : s.data.toList.length = s.size := by cases s; simp [ByteArray.size]
 have HSL := Ld hsl
 obtain ⟨r, hr⟩ : ∃ r, r = fnameL s.data.toList := ⟨_, rfl⟩
 rw [← hr]
 have HR := Ld hr
 clear hr
 rcases (by omega : s.size = 0 ∨ 64 < s.size ∨ (1 ≤ s.size ∧ s.size ≤ 64)) with h0 | h0 | h0
 ·have e1 : decide ((s.size : Int) < 1) = true := by rw [decide_eq_true_iff]; omega
  have HI : Hid (r = false) := by
   show _ = _
   rw [HR.out, (List.eq_nil_of_length_eq_zero (by rw [hsl]; exact h0) : s.data.toList = [])]
   rfl
  clear hsl h0
  go_enter Tryz.func14, Tryz.ntmps14
  go_wp2
  go_ret
  exact ⟨by rw [HI.out]; rfl, rfl⟩
 ·have e1 : decide ((s.size : Int) < 1) = false := by rw [decide_eq_false_iff_not]; omega
  have e2 : decide (64 < (s.size : Int)) = true := by rw [decide_eq_true_iff]; omega
  have HI : Hid (r = false) := by
   show _ = _
   rw [HR.out]
   unfold fnameL
   rw [decide_eq_false (by rw [hsl]; omega)]
   simp
  clear hsl
  go_enter Tryz.func14, Tryz.ntmps14
  go_wp2
  go_ret
  exact ⟨by rw [HI.out]; rfl, rfl⟩
 ·have e1 : decide ((s.size : Int) < 1) = false := by rw [decide_eq_false_iff_not]; omega
  have e2 : decide (64 < (s.size : Int)) = false := by rw [decide_eq_false_iff_not]; omega
  have hp : 0 < s.size := by omega
  have hh := head_at s hp
  have hl := last_at s hp
  obtain ⟨a, ha⟩ : ∃ a, a = s[0]'hp := ⟨_, rfl⟩
  obtain ⟨b, hb⟩ : ∃ b, b = s[s.size - 1]'(Nat.sub_lt hp Nat.one_pos) := ⟨_, rfl⟩
  rw [← ha] at hh
  rw [← hb] at hl
  have HH := Ld hh
  have HL := Ld hl
  have ha' := ha.symm
  have hb' := hb.symm
  clear ha hb hh hl hsl
  by_cases qa : a.toNat = 46
  ·have e3 : ((a.toNat : Int) == 46) = true := by rw [beq_iff_eq]; omega
   have HI : Hid (r = false) := by
    show _ = _
    rw [HR.out]
    unfold fnameL endsOK
    rw [HH.out, show a = 46 from UInt8.toNat_inj.1 qa]
    simp
   clear qa
   go_enter Tryz.func14, Tryz.ntmps14
   go_wp2
   go_ret
   exact ⟨by rw [HI.out]; rfl, rfl⟩
  ·have e3 : ((a.toNat : Int) == 46) = false := by rw [beq_eq_false_iff_ne]; omega
   have HA : Hid (¬ a = 46) := Ld (fun e => qa (by rw [e]; rfl))
   clear qa
   by_cases qb : b.toNat = 46
   ·have e4 : ((b.toNat : Int) == 46) = true := by rw [beq_iff_eq]; omega
    have HI : Hid (r = false) := by
     show _ = _
     rw [HR.out]
     unfold fnameL endsOK
     rw [HL.out, show b = 46 from UInt8.toNat_inj.1 qb]
     simp
    clear qb
    go_enter Tryz.func14, Tryz.ntmps14
    go_wp2
    go_ret
    exact ⟨by rw [HI.out]; rfl, rfl⟩
   ·have e4 : ((b.toNat : Int) == 46) = false := by rw [beq_eq_false_iff_ne]; omega
    have HB : Hid (¬ b = 46) := Ld (fun e => qb (by rw [e]; rfl))
    clear qb
    go_enter Tryz.func14, Tryz.ntmps14
    go_wp2
    go_loopw [3] (fun i wr => ∃ k : Nat, k ≤ s.size ∧ i = .int .i64 (k : Int) ∧ Hid ((s.data.toList.take k).all signB = true) ∧ wr = w) (fun i _ => s.size - (intOf i).toNat)
    case atStart => exact ⟨0, Nat.zero_le _, rfl, Ld rfl, rfl⟩
    case round =>
     obtain ⟨k, hk, rfl, HK, rfl⟩ := hrel
     rcases (by omega : k < s.size ∨ k = s.size) with hlt | heq
     ·have q0 : decide ((k : Int) < (s.size : Int)) = true := by rw [decide_eq_true_iff]; omega
      have q0' : decide (k < s.size) = true := by rw [decide_eq_true_iff]; omega
      obtain ⟨c, hc⟩ : ∃ c, c = s[k]'hlt := ⟨_, rfl⟩
      have hc' := hc.symm
      have HC := Ld hc
      clear hc
      have hge : 0 ≤ (c.toNat : Int) := by omega
      rcases (by omega : (c.toNat : Int) < 45 ∨ (c.toNat : Int) = 45 ∨ (c.toNat : Int) = 46 ∨ (c.toNat : Int) = 47 ∨ (48 ≤ (c.toNat : Int) ∧ (c.toNat : Int) ≤ 57) ∨ (58 ≤ (c.toNat : Int) ∧ (c.toNat : Int) ≤ 94) ∨ (c.toNat : Int) = 95 ∨ (c.toNat : Int) = 96 ∨ (97 ≤ (c.toNat : Int) ∧ (c.toNat : Int) ≤ 122) ∨ 123 ≤ (c.toNat : Int)) with h | h | h | h | h | h | h | h | h | h
      ·have a1 : decide (97 ≤ (c.toNat : Int)) = false := by first | (rw [decide_eq_true_iff]; omega) | (rw [decide_eq_false_iff_not]; omega)
       have a2 : decide ((c.toNat : Int) ≤ 122) = true := by first | (rw [decide_eq_true_iff]; omega) | (rw [decide_eq_false_iff_not]; omega)
       have a3 : decide (48 ≤ (c.toNat : Int)) = false := by first | (rw [decide_eq_true_iff]; omega) | (rw [decide_eq_false_iff_not]; omega)
       have a4 : decide ((c.toNat : Int) ≤ 57) = true := by first | (rw [decide_eq_true_iff]; omega) | (rw [decide_eq_false_iff_not]; omega)
       have a5 : ((c.toNat : Int) == 45) = false := by first | (rw [beq_iff_eq]; omega) | (rw [beq_eq_false_iff_ne]; omega)
       have a6 : ((c.toNat : Int) == 95) = false := by first | (rw [beq_iff_eq]; omega) | (rw [beq_eq_false_iff_ne]; omega)
       have a7 : ((c.toNat : Int) == 46) = false := by first | (rw [beq_iff_eq]; omega) | (rw [beq_eq_false_iff_ne]; omega)
       have HS : Hid (signB c = false) := by show _ = _; unfold signB signZ; rw [a1, a2, a3, a4, a5, a6, a7]; rfl
       clear h
       have HI : Hid (r = false) := by
        show _ = _
        rw [HR.out]
        exact fname_bad s.data.toList c (by rw [HC.out]; exact mem_at' s k hlt) HS.out
       go_wp2
       go_ret
       exact ⟨by rw [HI.out]; rfl, rfl⟩
      ·have a1 : decide (97 ≤ (c.toNat : Int)) = false := by first | (rw [decide_eq_true_iff]; omega) | (rw [decide_eq_false_iff_not]; omega)
       have a2 : decide ((c.toNat : Int) ≤ 122) = true := by first | (rw [decide_eq_true_iff]; omega) | (rw [decide_eq_false_iff_not]; omega)
       have a3 : decide (48 ≤ (c.toNat : Int)) = false := by first | (rw [decide_eq_true_iff]; omega) | (rw [decide_eq_false_iff_not]; omega)
       have a4 : decide ((c.toNat : Int) ≤ 57) = true := by first | (rw [decide_eq_true_iff]; omega) | (rw [decide_eq_false_iff_not]; omega)
       have a5 : ((c.toNat : Int) == 45) = true := by first | (rw [beq_iff_eq]; omega) | (rw [beq_eq_false_iff_ne]; omega)
       have a6 : ((c.toNat : Int) == 95) = false := by first | (rw [beq_iff_eq]; omega) | (rw [beq_eq_false_iff_ne]; omega)
       have a7 : ((c.toNat : Int) == 46) = false := by first | (rw [beq_iff_eq]; omega) | (rw [beq_eq_false_iff_ne]; omega)
       have HS : Hid (signB c = true) := by show _ = _; unfold signB signZ; rw [a1, a2, a3, a4, a5, a6, a7]; rfl
       clear h
       have HN : Hid ((s.data.toList.take (k + 1)).all signB = true) := by
        show _ = _
        rw [List.take_succ_eq_append_getElem (by rw [HSL.out]; exact hlt), List.all_append, HK.out]
        show (signB s[k] && true) = true
        rw [← HC.out, HS.out]
        rfl
       go_wp2
       go_roundw
       case rel => exact ⟨k + 1, by omega, by go_num, HN, by first | rfl | trivial⟩
       case measure => simp [intOf]; omega
      ·have a1 : decide (97 ≤ (c.toNat : Int)) = false := by first | (rw [decide_eq_true_iff]; omega) | (rw [decide_eq_false_iff_not]; omega)
       have a2 : decide ((c.toNat : Int) ≤ 122) = true := by first | (rw [decide_eq_true_iff]; omega) | (rw [decide_eq_false_iff_not]; omega)
       have a3 : decide (48 ≤ (c.toNat : Int)) = false := by first | (rw [decide_eq_true_iff]; omega) | (rw [decide_eq_false_iff_not]; omega)
       have a4 : decide ((c.toNat : Int) ≤ 57) = true := by first | (rw [decide_eq_true_iff]; omega) | (rw [decide_eq_false_iff_not]; omega)
       have a5 : ((c.toNat : Int) == 45) = false := by first | (rw [beq_iff_eq]; omega) | (rw [beq_eq_false_iff_ne]; omega)
       have a6 : ((c.toNat : Int) == 95) = false := by first | (rw [beq_iff_eq]; omega) | (rw [beq_eq_false_iff_ne]; omega)
       have a7 : ((c.toNat : Int) == 46) = true := by first | (rw [beq_iff_eq]; omega) | (rw [beq_eq_false_iff_ne]; omega)
       have HS : Hid (signB c = true) := by show _ = _; unfold signB signZ; rw [a1, a2, a3, a4, a5, a6, a7]; rfl
       clear h
       have HN : Hid ((s.data.toList.take (k + 1)).all signB = true) := by
        show _ = _
        rw [List.take_succ_eq_append_getElem (by rw [HSL.out]; exact hlt), List.all_append, HK.out]
        show (signB s[k] && true) = true
        rw [← HC.out, HS.out]
        rfl
       go_wp2
       go_roundw
       case rel => exact ⟨k + 1, by omega, by go_num, HN, by first | rfl | trivial⟩
       case measure => simp [intOf]; omega
      ·have a1 : decide (97 ≤ (c.toNat : Int)) = false := by first | (rw [decide_eq_true_iff]; omega) | (rw [decide_eq_false_iff_not]; omega)
       have a2 : decide ((c.toNat : Int) ≤ 122) = true := by first | (rw [decide_eq_true_iff]; omega) | (rw [decide_eq_false_iff_not]; omega)
       have a3 : decide (48 ≤ (c.toNat : Int)) = false := by first | (rw [decide_eq_true_iff]; omega) | (rw [decide_eq_false_iff_not]; omega)
       have a4 : decide ((c.toNat : Int) ≤ 57) = true := by first | (rw [decide_eq_true_iff]; omega) | (rw [decide_eq_false_iff_not]; omega)
       have a5 : ((c.toNat : Int) == 45) = false := by first | (rw [beq_iff_eq]; omega) | (rw [beq_eq_false_iff_ne]; omega)
       have a6 : ((c.toNat : Int) == 95) = false := by first | (rw [beq_iff_eq]; omega) | (rw [beq_eq_false_iff_ne]; omega)
       have a7 : ((c.toNat : Int) == 46) = false := by first | (rw [beq_iff_eq]; omega) | (rw [beq_eq_false_iff_ne]; omega)
       have HS : Hid (signB c = false) := by show _ = _; unfold signB signZ; rw [a1, a2, a3, a4, a5, a6, a7]; rfl
       clear h
       have HI : Hid (r = false) := by
        show _ = _
        rw [HR.out]
        exact fname_bad s.data.toList c (by rw [HC.out]; exact mem_at' s k hlt) HS.out
       go_wp2
       go_ret
       exact ⟨by rw [HI.out]; rfl, rfl⟩
      ·have a1 : decide (97 ≤ (c.toNat : Int)) = false := by first | (rw [decide_eq_true_iff]; omega) | (rw [decide_eq_false_iff_not]; omega)
       have a2 : decide ((c.toNat : Int) ≤ 122) = true := by first | (rw [decide_eq_true_iff]; omega) | (rw [decide_eq_false_iff_not]; omega)
       have a3 : decide (48 ≤ (c.toNat : Int)) = true := by first | (rw [decide_eq_true_iff]; omega) | (rw [decide_eq_false_iff_not]; omega)
       have a4 : decide ((c.toNat : Int) ≤ 57) = true := by first | (rw [decide_eq_true_iff]; omega) | (rw [decide_eq_false_iff_not]; omega)
       have a5 : ((c.toNat : Int) == 45) = false := by first | (rw [beq_iff_eq]; omega) | (rw [beq_eq_false_iff_ne]; omega)
       have a6 : ((c.toNat : Int) == 95) = false := by first | (rw [beq_iff_eq]; omega) | (rw [beq_eq_false_iff_ne]; omega)
       have a7 : ((c.toNat : Int) == 46) = false := by first | (rw [beq_iff_eq]; omega) | (rw [beq_eq_false_iff_ne]; omega)
       have HS : Hid (signB c = true) := by show _ = _; unfold signB signZ; rw [a1, a2, a3, a4, a5, a6, a7]; rfl
       clear h
       have HN : Hid ((s.data.toList.take (k + 1)).all signB = true) := by
        show _ = _
        rw [List.take_succ_eq_append_getElem (by rw [HSL.out]; exact hlt), List.all_append, HK.out]
        show (signB s[k] && true) = true
        rw [← HC.out, HS.out]
        rfl
       go_wp2
       go_roundw
       case rel => exact ⟨k + 1, by omega, by go_num, HN, by first | rfl | trivial⟩
       case measure => simp [intOf]; omega
      ·have a1 : decide (97 ≤ (c.toNat : Int)) = false := by first | (rw [decide_eq_true_iff]; omega) | (rw [decide_eq_false_iff_not]; omega)
       have a2 : decide ((c.toNat : Int) ≤ 122) = true := by first | (rw [decide_eq_true_iff]; omega) | (rw [decide_eq_false_iff_not]; omega)
       have a3 : decide (48 ≤ (c.toNat : Int)) = true := by first | (rw [decide_eq_true_iff]; omega) | (rw [decide_eq_false_iff_not]; omega)
       have a4 : decide ((c.toNat : Int) ≤ 57) = false := by first | (rw [decide_eq_true_iff]; omega) | (rw [decide_eq_false_iff_not]; omega)
       have a5 : ((c.toNat : Int) == 45) = false := by first | (rw [beq_iff_eq]; omega) | (rw [beq_eq_false_iff_ne]; omega)
       have a6 : ((c.toNat : Int) == 95) = false := by first | (rw [beq_iff_eq]; omega) | (rw [beq_eq_false_iff_ne]; omega)
       have a7 : ((c.toNat : Int) == 46) = false := by first | (rw [beq_iff_eq]; omega) | (rw [beq_eq_false_iff_ne]; omega)
       have HS : Hid (signB c = false) := by show _ = _; unfold signB signZ; rw [a1, a2, a3, a4, a5, a6, a7]; rfl
       clear h
       have HI : Hid (r = false) := by
        show _ = _
        rw [HR.out]
        exact fname_bad s.data.toList c (by rw [HC.out]; exact mem_at' s k hlt) HS.out
       go_wp2
       go_ret
       exact ⟨by rw [HI.out]; rfl, rfl⟩
      ·have a1 : decide (97 ≤ (c.toNat : Int)) = false := by first | (rw [decide_eq_true_iff]; omega) | (rw [decide_eq_false_iff_not]; omega)
       have a2 : decide ((c.toNat : Int) ≤ 122) = true := by first | (rw [decide_eq_true_iff]; omega) | (rw [decide_eq_false_iff_not]; omega)
       have a3 : decide (48 ≤ (c.toNat : Int)) = true := by first | (rw [decide_eq_true_iff]; omega) | (rw [decide_eq_false_iff_not]; omega)
       have a4 : decide ((c.toNat : Int) ≤ 57) = false := by first | (rw [decide_eq_true_iff]; omega) | (rw [decide_eq_false_iff_not]; omega)
       have a5 : ((c.toNat : Int) == 45) = false := by first | (rw [beq_iff_eq]; omega) | (rw [beq_eq_false_iff_ne]; omega)
       have a6 : ((c.toNat : Int) == 95) = true := by first | (rw [beq_iff_eq]; omega) | (rw [beq_eq_false_iff_ne]; omega)
       have a7 : ((c.toNat : Int) == 46) = false := by first | (rw [beq_iff_eq]; omega) | (rw [beq_eq_false_iff_ne]; omega)
       have HS : Hid (signB c = true) := by show _ = _; unfold signB signZ; rw [a1, a2, a3, a4, a5, a6, a7]; rfl
       clear h
       have HN : Hid ((s.data.toList.take (k + 1)).all signB = true) := by
        show _ = _
        rw [List.take_succ_eq_append_getElem (by rw [HSL.out]; exact hlt), List.all_append, HK.out]
        show (signB s[k] && true) = true
        rw [← HC.out, HS.out]
        rfl
       go_wp2
       go_roundw
       case rel => exact ⟨k + 1, by omega, by go_num, HN, by first | rfl | trivial⟩
       case measure => simp [intOf]; omega
      ·have a1 : decide (97 ≤ (c.toNat : Int)) = false := by first | (rw [decide_eq_true_iff]; omega) | (rw [decide_eq_false_iff_not]; omega)
       have a2 : decide ((c.toNat : Int) ≤ 122) = true := by first | (rw [decide_eq_true_iff]; omega) | (rw [decide_eq_false_iff_not]; omega)
       have a3 : decide (48 ≤ (c.toNat : Int)) = true := by first | (rw [decide_eq_true_iff]; omega) | (rw [decide_eq_false_iff_not]; omega)
       have a4 : decide ((c.toNat : Int) ≤ 57) = false := by first | (rw [decide_eq_true_iff]; omega) | (rw [decide_eq_false_iff_not]; omega)
       have a5 : ((c.toNat : Int) == 45) = false := by first | (rw [beq_iff_eq]; omega) | (rw [beq_eq_false_iff_ne]; omega)
       have a6 : ((c.toNat : Int) == 95) = false := by first | (rw [beq_iff_eq]; omega) | (rw [beq_eq_false_iff_ne]; omega)
       have a7 : ((c.toNat : Int) == 46) = false := by first | (rw [beq_iff_eq]; omega) | (rw [beq_eq_false_iff_ne]; omega)
       have HS : Hid (signB c = false) := by show _ = _; unfold signB signZ; rw [a1, a2, a3, a4, a5, a6, a7]; rfl
       clear h
       have HI : Hid (r = false) := by
        show _ = _
        rw [HR.out]
        exact fname_bad s.data.toList c (by rw [HC.out]; exact mem_at' s k hlt) HS.out
       go_wp2
       go_ret
       exact ⟨by rw [HI.out]; rfl, rfl⟩
      ·have a1 : decide (97 ≤ (c.toNat : Int)) = true := by first | (rw [decide_eq_true_iff]; omega) | (rw [decide_eq_false_iff_not]; omega)
       have a2 : decide ((c.toNat : Int) ≤ 122) = true := by first | (rw [decide_eq_true_iff]; omega) | (rw [decide_eq_false_iff_not]; omega)
       have a3 : decide (48 ≤ (c.toNat : Int)) = true := by first | (rw [decide_eq_true_iff]; omega) | (rw [decide_eq_false_iff_not]; omega)
       have a4 : decide ((c.toNat : Int) ≤ 57) = false := by first | (rw [decide_eq_true_iff]; omega) | (rw [decide_eq_false_iff_not]; omega)
       have a5 : ((c.toNat : Int) == 45) = false := by first | (rw [beq_iff_eq]; omega) | (rw [beq_eq_false_iff_ne]; omega)
       have a6 : ((c.toNat : Int) == 95) = false := by first | (rw [beq_iff_eq]; omega) | (rw [beq_eq_false_iff_ne]; omega)
       have a7 : ((c.toNat : Int) == 46) = false := by first | (rw [beq_iff_eq]; omega) | (rw [beq_eq_false_iff_ne]; omega)
       have HS : Hid (signB c = true) := by show _ = _; unfold signB signZ; rw [a1, a2, a3, a4, a5, a6, a7]; rfl
       clear h
       have HN : Hid ((s.data.toList.take (k + 1)).all signB = true) := by
        show _ = _
        rw [List.take_succ_eq_append_getElem (by rw [HSL.out]; exact hlt), List.all_append, HK.out]
        show (signB s[k] && true) = true
        rw [← HC.out, HS.out]
        rfl
       go_wp2
       go_roundw
       case rel => exact ⟨k + 1, by omega, by go_num, HN, by first | rfl | trivial⟩
       case measure => simp [intOf]; omega
      ·have a1 : decide (97 ≤ (c.toNat : Int)) = true := by first | (rw [decide_eq_true_iff]; omega) | (rw [decide_eq_false_iff_not]; omega)
       have a2 : decide ((c.toNat : Int) ≤ 122) = false := by first | (rw [decide_eq_true_iff]; omega) | (rw [decide_eq_false_iff_not]; omega)
       have a3 : decide (48 ≤ (c.toNat : Int)) = true := by first | (rw [decide_eq_true_iff]; omega) | (rw [decide_eq_false_iff_not]; omega)
       have a4 : decide ((c.toNat : Int) ≤ 57) = false := by first | (rw [decide_eq_true_iff]; omega) | (rw [decide_eq_false_iff_not]; omega)
       have a5 : ((c.toNat : Int) == 45) = false := by first | (rw [beq_iff_eq]; omega) | (rw [beq_eq_false_iff_ne]; omega)
       have a6 : ((c.toNat : Int) == 95) = false := by first | (rw [beq_iff_eq]; omega) | (rw [beq_eq_false_iff_ne]; omega)
       have a7 : ((c.toNat : Int) == 46) = false := by first | (rw [beq_iff_eq]; omega) | (rw [beq_eq_false_iff_ne]; omega)
       have HS : Hid (signB c = false) := by show _ = _; unfold signB signZ; rw [a1, a2, a3, a4, a5, a6, a7]; rfl
       clear h
       have HI : Hid (r = false) := by
        show _ = _
        rw [HR.out]
        exact fname_bad s.data.toList c (by rw [HC.out]; exact mem_at' s k hlt) HS.out
       go_wp2
       go_ret
       exact ⟨by rw [HI.out]; rfl, rfl⟩
     ·have q0 : decide ((k : Int) < (s.size : Int)) = false := by rw [decide_eq_false_iff_not]; omega
      have q0' : decide (k < s.size) = false := by rw [decide_eq_false_iff_not]; omega
      have HI : Hid (r = true) := by
       show _ = _
       rw [HR.out]
       have hA : s.data.toList.all signB = true := by rw [← HK.out, heq, List.take_of_length_le (by rw [HSL.out]; omega)]
       have hne : s.data.toList.isEmpty = false := by
        cases h : s.data.toList with
        | nil => have := HSL.out; rw [h] at this; simp at this; omega
        | cons => rfl
       unfold fnameL endsOK
       rw [hA, hne, HH.out, HL.out, decide_eq_true (by rw [HSL.out]; omega)]
       simp only [Bool.not_false, Bool.true_and, Bool.and_true, Bool.and_eq_true, bne_iff_ne, ne_eq, Option.some.injEq]
       exact ⟨HA.out, HB.out⟩
      clear heq
      go_wp2
      go_ret
      exact ⟨by rw [HI.out]; rfl, rfl⟩
end Go.Proofs.YtefkpphahimkgaaGreatDoor
