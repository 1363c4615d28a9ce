/-
  pursuivantref03.hex, Quote: what it returns.
-/
import Derived.Test.YtonjnonpajkmlaaDoorUtfQ
namespace Go.Proofs.YtonjnonpajkmlaaDoor
open Go.RowKit Utf
set_option linter.unusedVariables false

theorem hexExt (n : Nat) (h : n < 16) : ({ data := #[48, 49, 50, 51, 52, 53, 54, 55, 56, 57, 97, 98, 99, 100, 101, 102] } : ByteArray).extract n (n + 1) = ⟨#[hexDigit n]⟩ := by
  have : ∀ j : Fin 16, ({ data := #[48, 49, 50, 51, 52, 53, 54, 55, 56, 57, 97, 98, 99, 100, 101, 102] } : ByteArray).extract j.1 (j.1 + 1) = ⟨#[hexDigit j.1]⟩ := by decide
  exact this ⟨n, h⟩
set_option maxHeartbeats 400000 in
theorem rhex_any (n : Nat) (x : Int) (w : World) (h : n < 16) (hx : x = n) : Calls Tryd.prog 31 #[.int .i64 x] w fun e w' => e = .returned (.string ⟨#[hexDigit n]⟩) ∧ w = w' := by
  subst hx
  have HX := Lib.hid (hexExt n h)
  have b1 : (0 : Int) ≤ (n : Int) := by omega
  have b2 : (n : Int) + 1 ≤ 16 := by omega
  have b3 : (n : Int) ≤ (n : Int) + 1 := by omega
  go_enter Tryd.func31, Tryd.ntmps31
  go_wp2
  go_ret
  exact ⟨by rw [← HX.out]; rfl, rfl⟩
theorem lit_ob (w : World) (c : UInt8) (y : Value) (hy : y = .int .u8 (c.toNat : Int)) : OB (w.alloc (.cells #[y] 5)) w.heap.size (.slice (some ⟨w.heap.size, 0, none⟩) 1 1) [c] :=
  ⟨rfl, .inr ⟨w.heap.size, 1, #[y], rfl, Nat.le_refl _, heap_alloc_new w _, Nat.le_refl _, by simp [maxLen], rfl, by rw [hy]; rfl⟩⟩
theorem str_app2 (a b : ByteArray) : (a ++ b).data.toList = a.data.toList ++ b.data.toList := by rw [ByteArray.data_append, Array.toList_append]
set_option maxRecDepth 100000 in
set_option maxHeartbeats 3200000 in
theorem rquote_any (s : ByteArray) (w : World) (hs : s.size ≤ 1000000) :
    Calls Tryd.prog 18 #[.string s] w fun e w' => e = .returned (.string ⟨(quoteL s.data.toList).toArray⟩) ∧ Below w.heap.size w w' := by
  have hsl : s.data.toList.length = s.size := by cases s; simp [ByteArray.size]
  have HSL := Lib.hid hsl
  clear hsl
  go_enter Tryd.func18, Tryd.ntmps18
  go_wp2
  go_loopw [3, 4] (fun v i wr => ∃ k : Nat, k ≤ s.size ∧ i = .int .i64 k ∧ OB wr w.heap.size v ([34] ++ (s.data.toList.take k).flatMap qs) ∧ Below w.heap.size w wr) (fun _ i _ => s.size - (intOf i).toNat)
  case atStart => exact ⟨0, Nat.zero_le _, rfl, lit_ob w 34 _ rfl, below_new _ _⟩
  case round =>
    obtain ⟨k, hk, rfl, hown, hb⟩ := hrel
    have HS := Lib.hid hown
    have HB := Lib.hid hb
    clear hown hb
    have hfl := fm_len (s.data.toList.take k)
    rw [List.length_take, HSL.out] at hfl
    obtain ⟨acc, hacc⟩ : ∃ acc, acc = [34] ++ (s.data.toList.take k).flatMap qs := ⟨_, rfl⟩
    have hal : acc.length ≤ 6000001 := by rw [hacc, List.length_append]; have : ([34] : List UInt8).length = 1 := rfl; omega
    rw [← hacc] at HS
    have HACC := Lib.hid hacc
    clear hacc hfl
    rcases (by omega : k < s.size ∨ k = s.size) with hlt | heq
    · have HSN := Lib.hid (fm_snoc s k hlt)
      obtain ⟨c, hc⟩ : ∃ c, c = s[k] := ⟨_, rfl⟩
      have hci := hc.symm
      rw [← hc] at HSN
      have hc256 : c.toNat < 256 := c.toNat_lt
      clear hc
      rcases (by omega : c.toNat = 34 ∨ c.toNat = 92 ∨ (c.toNat ≠ 34 ∧ c.toNat ≠ 92) ∧ c.toNat < 32 ∨ (c.toNat ≠ 34 ∧ c.toNat ≠ 92) ∧ 32 ≤ c.toNat) with g | g | ⟨g, g1⟩ | ⟨g, g1⟩
      · obtain rfl : c = 34 := UInt8.toNat_inj.1 g
        have HQ := Lib.hid (show qs 34 = [92, 34] by decide)
        clear g
        go_wp2_with (at_builtin; refine app_bytes _ rfl _ _ rfl w.heap.size _ acc rfl (HS.out.alloc _) (some ⟨wr.heap.size, 0, none⟩) 2 2 [92, 34] rfl rfl (lit_rb wr [92, 34] _ rfl) (by omega) (by have := HB.out.size; simp; omega) ?_; intro v1 w2 ho1 hg1 hat; have hb1 : Below w.heap.size w w2 := (HB.out.alloc HB.out.size _).grown hg1 (by have := HB.out.size; simp; omega) (fun j hj => HS.out.grown_ge j hj); have HO1 := Lib.hid ho1; clear ho1 hg1 hat)
        go_roundw
        case rel => exact ⟨k + 1, by omega, by go_num, by rw [HSN.out, HQ.out, ← List.append_assoc, ← HACC.out]; exact HO1.out, hb1⟩
        case measure => simp [intOf]; omega
      · obtain rfl : c = 92 := UInt8.toNat_inj.1 g
        have HQ := Lib.hid (show qs 92 = [92, 92] by decide)
        clear g
        go_wp2_with (at_builtin; refine app_bytes _ rfl _ _ rfl w.heap.size _ acc rfl (HS.out.alloc _) (some ⟨wr.heap.size, 0, none⟩) 2 2 [92, 92] rfl rfl (lit_rb wr [92, 92] _ rfl) (by omega) (by have := HB.out.size; simp; omega) ?_; intro v1 w2 ho1 hg1 hat; have hb1 : Below w.heap.size w w2 := (HB.out.alloc HB.out.size _).grown hg1 (by have := HB.out.size; simp; omega) (fun j hj => HS.out.grown_ge j hj); have HO1 := Lib.hid ho1; clear ho1 hg1 hat)
        go_roundw
        case rel => exact ⟨k + 1, by omega, by go_num, by rw [HSN.out, HQ.out, ← List.append_assoc, ← HACC.out]; exact HO1.out, hb1⟩
        case measure => simp [intOf]; omega
      · have HQ : Hid (qs c = [92, 117, 48, 48] ++ hexL [c]) := by show _ = _; unfold qs; rw [if_pos g1]
        have e2 : ((c.toNat : Int) == 34) = false := by rw [beq_eq_false_iff_ne]; omega
        have e3 : ((c.toNat : Int) == 92) = false := by rw [beq_eq_false_iff_ne]; omega
        have e4 : decide ((c.toNat : Int) < 32) = true := by rw [decide_eq_true_iff]; omega
        have q1 : (c.toNat : Int).tdiv 16 = (c.toNat : Int) / 16 := Int.tdiv_eq_ediv_of_nonneg (by omega)
        have q2 : (c.toNat : Int).tmod 16 = (c.toNat : Int) % 16 := Int.tmod_eq_emod_of_nonneg (by omega)
        clear g
        obtain ⟨ta, hta⟩ : ∃ ta : ByteArray, ta = ⟨#[hexDigit (c.toNat / 16)]⟩ := ⟨_, rfl⟩
        obtain ⟨tb, htb⟩ : ∃ tb : ByteArray, tb = ⟨#[hexDigit (c.toNat % 16)]⟩ := ⟨_, rfl⟩
        have HH1 := Lib.hid (fun (x : Int) w (hx : x = ((c.toNat / 16 : Nat) : Int)) => rhex_any (c.toNat / 16) x w (by omega) hx)
        have HH2 := Lib.hid (fun (x : Int) w (hx : x = ((c.toNat % 16 : Nat) : Int)) => rhex_any (c.toNat % 16) x w (by omega) hx)
        rw [← hta] at HH1
        rw [← htb] at HH2
        have hsa : ta.size = 1 := by rw [hta]; rfl
        have hsb : tb.size = 1 := by rw [htb]; rfl
        have HTA := Lib.hid hta
        have HTB := Lib.hid htb
        clear hta htb
        go_wp2_with fail
        refine (HH1.out _ _ (by omega)).mono ?_
        rintro e w' ⟨rfl, rfl⟩
        go_wp2_with fail
        refine (HH2.out _ _ (by omega)).mono ?_
        rintro e w' ⟨rfl, rfl⟩
        go_wp2_with (at_builtin; refine app_text _ rfl _ _ rfl w.heap.size _ acc rfl HS.out _ rfl (by simp only [ByteArray.size_append, hsa, hsb]; show _ + (4 + 1 + 1) ≤ _; omega) HB.out.size ?_; intro v1 w2 ho1 hg1; have hb1 : Below w.heap.size w w2 := HB.out.grown hg1 HB.out.size (fun j hj => HS.out.grown_ge j hj); have HO1 := Lib.hid ho1; clear ho1 hg1)
        clear q1 q2
        go_roundw
        case rel =>
          refine ⟨k + 1, by omega, by go_num, ?_, hb1⟩
          have h := HO1.out
          rw [str_app2, str_app2, HTA.out, HTB.out] at h
          rw [HSN.out, HQ.out, ← List.append_assoc, ← HACC.out]
          simpa [hexL] using h
        case measure => simp [intOf]; omega
      · have HQ : Hid (qs c = [c]) := by
          show _ = _
          unfold qs
          rw [if_neg (by omega), if_neg (by rintro (h | h) <;> (rw [h] at g; exact absurd rfl (by first | exact g.1 | exact g.2)))]
        have e2 : ((c.toNat : Int) == 34) = false := by rw [beq_eq_false_iff_ne]; omega
        have e3 : ((c.toNat : Int) == 92) = false := by rw [beq_eq_false_iff_ne]; omega
        have e4 : decide ((c.toNat : Int) < 32) = false := by rw [decide_eq_false_iff_not]; omega
        clear g
        go_wp2_with (at_builtin; refine app_bytes _ rfl _ _ rfl w.heap.size _ acc rfl (HS.out.alloc _) (some ⟨wr.heap.size, 0, none⟩) 1 1 [c] rfl rfl (lit_rb wr [c] _ rfl) (by omega) (by have := HB.out.size; simp; omega) ?_; intro v1 w2 ho1 hg1 hat; have hb1 : Below w.heap.size w w2 := (HB.out.alloc HB.out.size _).grown hg1 (by have := HB.out.size; simp; omega) (fun j hj => HS.out.grown_ge j hj); have HO1 := Lib.hid ho1; clear ho1 hg1 hat)
        go_roundw
        case rel => exact ⟨k + 1, by omega, by go_num, by rw [HSN.out, HQ.out, ← List.append_assoc, ← HACC.out]; exact HO1.out, hb1⟩
        case measure => simp [intOf]; omega
    · have e1 : decide (k < s.size) = false := by rw [decide_eq_false_iff_not]; omega
      have HK : Hid (s.data.toList.take k = s.data.toList) := by show _ = _; rw [heq, ← HSL.out, List.take_length]
      clear heq
      obtain ⟨m, hm⟩ : ∃ m, (acc ++ [34]).length = m := ⟨_, rfl⟩
      have HM := Lib.hid hm
      clear hm
      go_wp2_with (at_builtin; refine app_bytes _ rfl _ _ rfl w.heap.size _ acc rfl (HS.out.alloc _) (some ⟨wr.heap.size, 0, none⟩) 1 1 [34] rfl rfl (lit_rb wr [34] _ rfl) (by omega) (by have := HB.out.size; simp; omega) ?_; intro v1 w2 ho1 hg1 hat; have hb1 : Below w.heap.size w w2 := (HB.out.alloc HB.out.size _).grown hg1 (by have := HB.out.size; simp; omega) (fun j hj => HS.out.grown_ge j hj); obtain ⟨A', c', hv1, _, _, hR, _⟩ := OB.shape ho1; rw [HM.out] at hv1; subst hv1; have hstr := run_string hR m c' HM.out; clear ho1 hg1 hat hR)
      go_ret
      refine ⟨?_, hb1⟩
      rw [HACC.out, HK.out]
      rfl
end Go.Proofs.YtonjnonpajkmlaaDoor
