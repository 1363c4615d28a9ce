/-
  strings.Builder.WriteString at this program; utf.Quote.
-/
import Derived.Test.YteofdpogjnojnaaGreatDoorUtfU
import Derived.Lib.AppendStr
namespace Go.Proofs.YteofdpogjnojnaaGreatDoor
open Go.RowKit Utf
set_option linter.unusedVariables false

set_option maxHeartbeats 2000000 in
set_option maxRecDepth 100000 in
theorem writeStr_any (B b : Nat) (l : List UInt8) (s : ByteArray) (w : World) (h : Lib.IsBuilder 94 5 B b (Lib.byteCells l) w) (hs1 : 1 ≤ s.size) (hlen : l.length + s.size ≤ 140737488355328) (hBw : B ≤ w.heap.size) :
    Calls Tryz.prog 96 #[.pointer (some ⟨b, 0, none⟩), .string s] w fun e w' => e = .returned (.tuple #[.int .i64 s.size, .nilIface]) ∧ (Lib.BuilderAt 94 5 B b (.pointer (some ⟨b, 0, none⟩)) (Lib.byteCells (l ++ s.data.toList)) w' ∧ Below B w w') := by
  have hsl : s.data.toList.length = s.size := by cases s; simp [ByteArray.size]
  have HSL := Lib.hid hsl
  clear hsl
  go_enter Tryz.func96, Tryz.ntmps96
  go_wp2_with (go_at_call 83; refine (copyCheck_any B b (Lib.byteCells l) _ h).mono ?_)
  rintro e w1 ⟨rfl, h1, hb1⟩
  obtain ⟨hB, v, hbk, hown, hne⟩ := h1
  have hob : OB w1 B v l := by unfold OB; rw [Lib.byteCells_length] at hown; exact hown
  have c0 : w1.cell? ⟨b, 0, none⟩ = some (.pointer (some ⟨b, 0, none⟩)) := by rw [Lib.cell_of_heap hbk]; rfl
  have c1 : w1.cell? ⟨b, 1, none⟩ = some v := by rw [Lib.cell_of_heap hbk]; rfl
  have hsz1 := hb1.size
  have HO := Lib.hid hob
  clear hob
  go_wp2_with (at_builtin; refine app_text _ rfl _ _ rfl B _ l rfl HO.out s rfl hlen (by omega) ?_)
  intro v' w2 hob' hgrow
  have hlt : b < w1.heap.size := Blk.lt (t := 94) hbk
  have hb2 : w2.heap[b]? = some (.cells #[.pointer (some ⟨b, 0, none⟩), v] 94 (0, 0)) := by
    rw [hgrow.block b hlt (fun e => hne e.symm)]
    exact hbk
  have d0 : w2.cell? ⟨b, 0, none⟩ = some (.pointer (some ⟨b, 0, none⟩)) := by rw [Lib.cell_of_heap hb2]; rfl
  have d1 : w2.cell? ⟨b, 1, none⟩ = some v := by rw [Lib.cell_of_heap hb2]; rfl
  have f1 : w2.frozen? ⟨b, 1, none⟩ = false := Lib.frozen_of_heap hb2 1
  unfold OB at hob'
  obtain ⟨m, hm⟩ : ∃ m, m = (l ++ s.data.toList).length := ⟨_, rfl⟩
  have HM := Lib.hid hm
  rw [← hm] at hob'
  have hm1 : 1 ≤ m := by rw [hm, List.length_append, HSL.out]; omega
  clear hm
  obtain ⟨g, cap, rfl⟩ : ∃ g cap, v' = .slice (some ⟨g, 0, none⟩) m cap := by
    rcases hob'.2 with ⟨_, h0⟩ | ⟨g, cap, cur, hv, _⟩
    · omega
    · exact ⟨g, cap, hv⟩
  have HO2 := Lib.hid hob'
  clear hob'
  go_wp2
  go_ret2
  refine ⟨rfl, ?_, ?_⟩
  · exact Lib.BuilderAt.put (T := 94) (e := 5) hB hb2 (bs' := Lib.byteCells (l ++ s.data.toList)) (by rw [Lib.byteCells_length, ← HM.out]; exact HO2.out) (by decide)
  · exact (hb1.grown hgrow (by omega) (fun k hk => (hown.lt k hk).1)).setCell (p := ⟨b, 1, none⟩) hB _

/-- a byte of a literal -/
def qs (c : UInt8) : List UInt8 := if c.toNat < 32 then [92, 117, 48, 48] ++ hexL [c] else if c = 34 ∨ c = 92 then [92, c] else [c]
def quoteL (l : List UInt8) : List UInt8 := [34] ++ l.flatMap qs ++ [34]
theorem qs_len (c : UInt8) : (qs c).length ≤ 6 := by unfold qs; split <;> (try split) <;> simp [hexL]
theorem fm_len (l : List UInt8) : (l.flatMap qs).length ≤ 6 * l.length := by
  induction l with
  | nil => simp
  | cons c l ih => have := qs_len c; simp only [List.flatMap_cons, List.length_append, List.length_cons]; omega
theorem take_snoc' (s : ByteArray) (k : Nat) (h : k < s.size) : s.data.toList.take (k + 1) = s.data.toList.take k ++ [s[k]] := by
  rw [List.take_succ_eq_append_getElem (by simpa using h)]; rfl
theorem fm_snoc (s : ByteArray) (k : Nat) (h : k < s.size) : (s.data.toList.take (k + 1)).flatMap qs = (s.data.toList.take k).flatMap qs ++ qs s[k] := by
  rw [take_snoc' s k h, List.flatMap_append]; simp
end Go.Proofs.YteofdpogjnojnaaGreatDoor
