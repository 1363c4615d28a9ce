/-
  strings.Builder.WriteString at this program; utf.Quote.
-/
import Derived.Test.YtonjnonpajkmlaaDoorUtfU
import Derived.Lib.AppendStr
namespace Go.Proofs.YtonjnonpajkmlaaDoor
open Go.RowKit Utf
set_option linter.unusedVariables false

set_option maxHeartbeats 2000000 in
set_option maxRecDepth 100000 in
theorem writeStr_any (B b : Nat) (l : List UInt8) (s : ByteArray) (w : World) (h : Lib.IsBuilder 48 5 B b (Lib.byteCells l) w) (hs1 : 1 ≤ s.size) (hlen : l.length + s.size ≤ 140737488355328) (hBw : B ≤ w.heap.size) :
    Calls Tryd.prog 25 #[.pointer (some ⟨b, 0, none⟩), .string s] w fun e w' => e = .returned (.tuple #[.int .i64 s.size, .nilIface]) ∧ (Lib.BuilderAt 48 5 B b (.pointer (some ⟨b, 0, none⟩)) (Lib.byteCells (l ++ s.data.toList)) w' ∧ Below B w w') := by
  have hsl : s.data.toList.length = s.size := by cases s; simp [ByteArray.size]
  have HSL := Lib.hid hsl
  clear hsl
  go_enter Tryd.func25, Tryd.ntmps25
  go_wp2_with (go_at_call 35; refine (copyCheck_any B b (Lib.byteCells l) _ h).mono ?_)
  rintro e w1 ⟨rfl, h1, hb1⟩
  obtain ⟨hB, v, hbk, hown, hne⟩ := h1
  have hob : OB w1 B v l := by unfold OB; rw [Lib.byteCells_length] at hown; exact hown
  have c0 : w1.cell? ⟨b, 0, none⟩ = some (.pointer (some ⟨b, 0, none⟩)) := by rw [Lib.cell_of_heap hbk]; rfl
  have c1 : w1.cell? ⟨b, 1, none⟩ = some v := by rw [Lib.cell_of_heap hbk]; rfl
  have hsz1 := hb1.size
  have HO := Lib.hid hob
  clear hob
  go_wp2_with (at_builtin; refine app_text _ rfl _ _ rfl B _ l rfl HO.out s rfl hlen (by omega) ?_)
  intro v' w2 hob' hgrow
  have hlt : b < w1.heap.size := Blk.lt (t := 48) hbk
  have hb2 : w2.heap[b]? = some (.cells #[.pointer (some ⟨b, 0, none⟩), v] 48 (0, 0)) := by
    rw [hgrow.block b hlt (fun e => hne e.symm)]
    exact hbk
  have d0 : w2.cell? ⟨b, 0, none⟩ = some (.pointer (some ⟨b, 0, none⟩)) := by rw [Lib.cell_of_heap hb2]; rfl
  have d1 : w2.cell? ⟨b, 1, none⟩ = some v := by rw [Lib.cell_of_heap hb2]; rfl
  have f1 : w2.frozen? ⟨b, 1, none⟩ = false := Lib.frozen_of_heap hb2 1
  unfold OB at hob'
  obtain ⟨m, hm⟩ : ∃ m, m = (l ++ s.data.toList).length := ⟨_, rfl⟩
  have HM := Lib.hid hm
  rw [← hm] at hob'
  have hm1 : 1 ≤ m := by rw [hm, List.length_append, HSL.out]; omega
  clear hm
  obtain ⟨g, cap, rfl⟩ : ∃ g cap, v' = .slice (some ⟨g, 0, none⟩) m cap := by
    rcases hob'.2 with ⟨_, h0⟩ | ⟨g, cap, cur, hv, _⟩
    · omega
    · exact ⟨g, cap, hv⟩
  have HO2 := Lib.hid hob'
  clear hob'
  go_wp2
  go_ret2
  refine ⟨rfl, ?_, ?_⟩
  · exact Lib.BuilderAt.put (T := 48) (e := 5) hB hb2 (bs' := Lib.byteCells (l ++ s.data.toList)) (by rw [Lib.byteCells_length, ← HM.out]; exact HO2.out) (by decide)
  · exact (hb1.grown hgrow (by omega) (fun k hk => (hown.lt k hk).1)).setCell (p := ⟨b, 1, none⟩) hB _

/-- a byte of a literal -/
def qs (c : UInt8) : List UInt8 := if c.toNat < 32 then [92, 117, 48, 48] ++ hexL [c] else if c = 34 ∨ c = 92 then [92, c] else [c]
def quoteL (l : List UInt8) : List UInt8 := [34] ++ l.flatMap qs ++ [34]
theorem qs_len (c : UInt8) : (qs c).length ≤ 6 := by unfold qs; split <;> (try split) <;> simp [hexL]
theorem fm_len (l : List UInt8) : (l.flatMap qs).length ≤ 6 * l.length := by
  induction l with
  | nil => simp
  | cons c l ih => have := qs_len c; simp only [List.flatMap_cons, List.length_append, List.length_cons]; omega
theorem take_snoc' (s : ByteArray) (k : Nat) (h : k < s.size) : s.data.toList.take (k + 1) = s.data.toList.take k ++ [s[k]] := by
  rw [List.take_succ_eq_append_getElem (by simpa using h)]; rfl
theorem fm_snoc (s : ByteArray) (k : Nat) (h : k < s.size) : (s.data.toList.take (k + 1)).flatMap qs = (s.data.toList.take k).flatMap qs ++ qs s[k] := by
  rw [take_snoc' s k h, List.flatMap_append]; simp
set_option maxHeartbeats 800000 in
theorem quote_no (s : ByteArray) (w : World) (ht : tabU w) (hs : s.size ≤ 1000000) (hv : Lib.validD s.data.toList = false) :
    Calls Tryd.prog 16 #[.string s] w fun e w' => e = .returned (.tuple #[.string ⟨#[]⟩, .int .i64 30]) ∧ Below w.heap.size w w' := by
  have hV := fun w ht => valid_any s w ht (by omega)
  rw [hv] at hV
  have HV := Lib.hid hV
  have HT := Lib.hid ht
  clear hV ht hv
  go_enter Tryd.func16, Tryd.ntmps16
  go_wp2_with fail
  refine (HV.out _ HT.out).mono ?_
  rintro e w1 ⟨rfl, hb⟩
  go_wp2
  go_ret2
  exact ⟨rfl, hb⟩
set_option maxRecDepth 100000 in
set_option maxHeartbeats 3200000 in
theorem quote_yes (s : ByteArray) (w : World) (ht : tabU w) (hs : s.size ≤ 1000000) (hv : Lib.validD s.data.toList = true) :
    Calls Tryd.prog 16 #[.string s] w fun e w' => e = .returned (.tuple #[.string ⟨(quoteL s.data.toList).toArray⟩, .int .i64 0]) ∧ Below w.heap.size w w' := by
  have hV := fun w ht => valid_any s w ht (by omega)
  rw [hv] at hV
  have HV := Lib.hid hV
  have HT := Lib.hid ht
  clear hV ht hv
  have hsl : s.data.toList.length = s.size := by cases s; simp [ByteArray.size]
  have HSL := Lib.hid hsl
  clear hsl
  go_enter Tryd.func16, Tryd.ntmps16
  go_wp2_with fail
  refine (HV.out _ HT.out).mono ?_
  rintro e w1 ⟨rfl, hb1⟩
  go_wp2_with fail
  refine (writeByte_any w1.heap.size w1.heap.size [] 34 _ (newBuilder w1 _ (Nat.le_refl _)) (by simp) (by simp)).mono ?_
  rintro e w2 ⟨rfl, hB2, hb2⟩
  have HB2 : Hid (Below w1.heap.size w1 w2) := (below_new w1 _).trans hb2
  have HBU2 : Hid (Lib.IsBuilder 48 5 w1.heap.size w1.heap.size (Lib.byteCells [34]) w2) := .inr hB2
  have HB1 := Lib.hid hb1
  clear hB2 hb2 hb1
  go_wp2
  go_loopw [13] (fun x wr => ∃ k : Nat, x = .int .i64 k ∧ k ≤ s.size ∧ Lib.IsBuilder 48 5 w1.heap.size w1.heap.size (Lib.byteCells ([34] ++ (s.data.toList.take k).flatMap qs)) wr ∧ Below w1.heap.size w1 wr) (fun x _ => s.size - (intOf x).toNat)
  case atStart => exact ⟨0, rfl, Nat.zero_le _, HBU2.out, HB2.out⟩
  case round =>
    obtain ⟨k, rfl, hk, hbu, hbw⟩ := hrel
    have HB := Lib.hid hbw
    have HBU := Lib.hid hbu
    clear hbw hbu
    have hfl := fm_len (s.data.toList.take k)
    rw [List.length_take, HSL.out] at hfl
    rcases (by omega : k < s.size ∨ k = s.size) with hlt | heq
    · have HSN := Lib.hid (fm_snoc s k hlt)
      obtain ⟨acc, hacc⟩ : ∃ acc, acc = [34] ++ (s.data.toList.take k).flatMap qs := ⟨_, rfl⟩
      have hal : acc.length ≤ 6000001 := by rw [hacc, List.length_append]; have : ([34] : List UInt8).length = 1 := rfl; omega
      rw [← hacc] at HBU
      have HACC := Lib.hid hacc
      obtain ⟨c, hc⟩ : ∃ c, c = s[k] := ⟨_, rfl⟩
      have hci := hc.symm
      rw [← hc] at HSN
      have hc256 : c.toNat < 256 := c.toNat_lt
      clear hacc hc hfl
      rcases (by omega : c.toNat < 32 ∨ 32 ≤ c.toNat) with g1 | g1
      · have e1 : decide ((c.toNat : Int) < 32) = true := by rw [decide_eq_true_iff]; omega
        have HQ : Hid (qs c = [92, 117, 48, 48] ++ hexL [c]) := by show _ = _; unfold qs; rw [if_pos g1]
        go_wp2_with fail
        refine (hex_any _ 1 1 [c] _ (by decide) (lit_rb _ [c] _ rfl)).mono ?_
        rintro e w3 ⟨rfl, hb3⟩
        have HB3 := Lib.hid (HB.out.trans (((Below.refl _ _).alloc (Nat.le_refl _) _ |>.trans (hb3.mono (by simp))).mono HB.out.size))
        have HBU3 := Lib.hid (isBuilder_onw HBU.out ((Below.refl _ _).alloc (Nat.le_refl _) _ |>.trans (hb3.mono (by simp))))
        clear hb3
        obtain ⟨hx, hhx⟩ : ∃ hx : ByteArray, hx = ⟨(hexL [c]).toArray⟩ := ⟨_, rfl⟩
        rw [← hhx]
        have hxs : hx.size = 2 := by rw [hhx]; rfl
        have HX := Lib.hid hhx
        clear hhx
        go_wp2_with fail
        refine (writeStr_any w1.heap.size w1.heap.size acc _ _ HBU3.out (by rw [ByteArray.size_append]; omega) (by rw [ByteArray.size_append, hxs]; show _ + (4 + 2) ≤ _; omega) HB3.out.size).mono ?_
        rintro e w4 ⟨rfl, hbu4, hb4⟩
        have HBU4 := Lib.hid hbu4
        have HB4 := Lib.hid (HB3.out.trans hb4)
        clear hbu4 hb4
        go_wp2
        go_roundw
        case rel =>
          refine ⟨k + 1, by go_num, by omega, .inr ?_, HB4.out⟩
          have h := HBU4.out
          rw [ByteArray.data_append, Array.toList_append, HX.out, HACC.out] at h
          rw [HSN.out, HQ.out]
          simpa [List.append_assoc] using h
        case measure => simp [intOf]; omega
      · have e1 : decide ((c.toNat : Int) < 32) = false := by rw [decide_eq_false_iff_not]; omega
        rcases (by omega : c.toNat = 34 ∨ c.toNat = 92 ∨ (c.toNat ≠ 34 ∧ c.toNat ≠ 92)) with g | g | g
        · have HQ : Hid (qs c = [92, c]) := by show _ = _; unfold qs; rw [if_neg (by omega), if_pos (.inl (UInt8.toNat_inj.1 g))]
          have e2 : ((c.toNat : Int) == 34) = true := by rw [beq_iff_eq]; omega
          go_wp2_with fail
          refine (writeByte_any w1.heap.size w1.heap.size _ _ _ HBU.out (by rw [Lib.byteCells_length]; omega) HB.out.size).mono ?_
          rintro e w3 ⟨rfl, hbu3, hb3⟩
          have HBU3 : Hid (Lib.IsBuilder 48 5 w1.heap.size w1.heap.size (Lib.byteCells (acc ++ [92])) w3) := by show Lib.IsBuilder _ _ _ _ _ _; rw [Lib.byteCells_append]; exact .inr hbu3
          have HB3 := Lib.hid (HB.out.trans hb3)
          clear hbu3 hb3
          go_wp2_with fail
          refine (writeByte_any w1.heap.size w1.heap.size _ _ _ HBU3.out (by rw [Lib.byteCells_length, List.length_append]; simp; omega) HB3.out.size).mono ?_
          rintro e w4 ⟨rfl, hbu4, hb4⟩
          have HBU4 := Lib.hid hbu4
          have HB4 := Lib.hid (HB3.out.trans hb4)
          clear hbu4 hb4
          go_wp2
          go_roundw
          case rel =>
            refine ⟨k + 1, by go_num, by omega, .inr ?_, HB4.out⟩
            have h := HBU4.out
            rw [HACC.out] at h
            rw [HSN.out, HQ.out, show [92, c] = [92] ++ [c] from rfl, ← List.append_assoc, ← List.append_assoc, Lib.byteCells_append, show Lib.byteCells [c] = [Value.int .u8 34] from by simp [Lib.byteCells]; omega]
            exact h
          case measure => simp [intOf]; omega
        · have HQ : Hid (qs c = [92, c]) := by show _ = _; unfold qs; rw [if_neg (by omega), if_pos (.inr (UInt8.toNat_inj.1 g))]
          have e2 : ((c.toNat : Int) == 34) = false := by rw [beq_eq_false_iff_ne]; omega
          have e3 : ((c.toNat : Int) == 92) = true := by rw [beq_iff_eq]; omega
          go_wp2_with fail
          refine (writeByte_any w1.heap.size w1.heap.size _ _ _ HBU.out (by rw [Lib.byteCells_length]; omega) HB.out.size).mono ?_
          rintro e w3 ⟨rfl, hbu3, hb3⟩
          have HBU3 : Hid (Lib.IsBuilder 48 5 w1.heap.size w1.heap.size (Lib.byteCells (acc ++ [92])) w3) := by show Lib.IsBuilder _ _ _ _ _ _; rw [Lib.byteCells_append]; exact .inr hbu3
          have HB3 := Lib.hid (HB.out.trans hb3)
          clear hbu3 hb3
          go_wp2_with fail
          refine (writeByte_any w1.heap.size w1.heap.size _ _ _ HBU3.out (by rw [Lib.byteCells_length, List.length_append]; simp; omega) HB3.out.size).mono ?_
          rintro e w4 ⟨rfl, hbu4, hb4⟩
          have HBU4 := Lib.hid hbu4
          have HB4 := Lib.hid (HB3.out.trans hb4)
          clear hbu4 hb4
          go_wp2
          go_roundw
          case rel =>
            refine ⟨k + 1, by go_num, by omega, .inr ?_, HB4.out⟩
            have h := HBU4.out
            rw [HACC.out] at h
            rw [HSN.out, HQ.out, show [92, c] = [92] ++ [c] from rfl, ← List.append_assoc, ← List.append_assoc, Lib.byteCells_append, show Lib.byteCells [c] = [Value.int .u8 92] from by simp [Lib.byteCells]; omega]
            exact h
          case measure => simp [intOf]; omega
        · have HQ : Hid (qs c = [c]) := by
            show _ = _
            unfold qs
            rw [if_neg (by omega), if_neg (by rintro (h | h) <;> (rw [h] at g; exact absurd rfl (by first | exact g.1 | exact g.2)))]
          have e2 : ((c.toNat : Int) == 34) = false := by rw [beq_eq_false_iff_ne]; omega
          have e3 : ((c.toNat : Int) == 92) = false := by rw [beq_eq_false_iff_ne]; omega
          go_wp2_with fail
          refine (writeByte_any w1.heap.size w1.heap.size _ _ _ HBU.out (by rw [Lib.byteCells_length]; omega) HB.out.size).mono ?_
          rintro e w3 ⟨rfl, hbu3, hb3⟩
          have HBU3 := Lib.hid hbu3
          have HB3 := Lib.hid (HB.out.trans hb3)
          clear hbu3 hb3
          go_wp2
          go_roundw
          case rel =>
            refine ⟨k + 1, by go_num, by omega, .inr ?_, HB3.out⟩
            have h := HBU3.out
            rw [HACC.out] at h
            rw [HSN.out, HQ.out, ← List.append_assoc, Lib.byteCells_append]
            exact h
          case measure => simp [intOf]; omega
    · have e1 : decide ((k : Int) < s.size) = false := by rw [decide_eq_false_iff_not]; omega
      have HK : Hid (s.data.toList.take k = s.data.toList) := by show _ = _; rw [heq, ← HSL.out, List.take_length]
      obtain ⟨acc, hacc⟩ : ∃ acc, acc = [34] ++ (s.data.toList.take k).flatMap qs := ⟨_, rfl⟩
      have hal : acc.length ≤ 6000001 := by rw [hacc, List.length_append]; have : ([34] : List UInt8).length = 1 := rfl; omega
      rw [← hacc] at HBU
      have HACC := Lib.hid hacc
      clear hacc hfl
      go_wp2_with fail
      refine (writeByte_any w1.heap.size w1.heap.size _ _ _ HBU.out (by rw [Lib.byteCells_length]; omega) HB.out.size).mono ?_
      rintro e w3 ⟨rfl, hbu3, hb3⟩
      have HBU3 : Hid (Lib.IsBuilder 48 5 w1.heap.size w1.heap.size (Lib.byteCells (acc ++ [34])) w3) := by show Lib.IsBuilder _ _ _ _ _ _; rw [Lib.byteCells_append]; exact .inr hbu3
      have HB3 := Lib.hid (HB.out.trans hb3)
      clear hbu3 hb3
      go_wp2_with fail
      refine (Tryd.Builder_String_any w1.heap.size w1.heap.size _ _ HBU3.out HB3.out.size).mono ?_
      rintro e w4 ⟨rfl, hb4⟩
      go_wp2
      go_ret2
      refine ⟨?_, HB1.out.trans ((HB3.out.trans hb4).mono HB1.out.size)⟩
      rw [HACC.out, HK.out]
      rfl
end Go.Proofs.YtonjnonpajkmlaaDoor
