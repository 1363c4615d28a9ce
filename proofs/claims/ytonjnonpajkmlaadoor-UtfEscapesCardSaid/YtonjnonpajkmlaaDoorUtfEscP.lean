/-
  The four digits of a code, small or great; their reading.
-/
import Derived.Test.YtonjnonpajkmlaaDoorUtfUL
namespace Go.Proofs.YtonjnonpajkmlaaDoor
open Go.RowKit Utf
set_option linter.unusedVariables false

/-- a digit, small or great -/
def dg (u : Bool) (n : Nat) : UInt8 := if n < 10 then UInt8.ofNat (48 + n) else UInt8.ofNat ((if u then 55 else 87) + n)
def hx4 (u : Bool) (z : Nat) : List UInt8 := [dg u (z / 4096 % 16), dg u (z / 256 % 16), dg u (z / 16 % 16), dg u (z % 16)]
theorem dg_facts (u : Bool) (n : Nat) (h : n < 16) : isHex (Lib.lowerB (dg u n)) = true ∧ hexV (Lib.lowerB (dg u n)) = n ∧ (dg u n).toNat < 128 := by
  have : ∀ (u : Bool) (j : Fin 16), isHex (Lib.lowerB (dg u j.1)) = true ∧ hexV (Lib.lowerB (dg u j.1)) = j.1 ∧ (dg u j.1).toNat < 128 := by decide
  exact this u ⟨n, h⟩
theorem lowExt (n : Nat) (h : n < 16) : ({ data := #[48, 49, 50, 51, 52, 53, 54, 55, 56, 57, 97, 98, 99, 100, 101, 102] } : ByteArray).extract n (n + 1) = ⟨#[dg false n]⟩ := by
  have : ∀ j : Fin 16, ({ data := #[48, 49, 50, 51, 52, 53, 54, 55, 56, 57, 97, 98, 99, 100, 101, 102] } : ByteArray).extract j.1 (j.1 + 1) = ⟨#[dg false j.1]⟩ := by decide
  exact this ⟨n, h⟩
theorem upExt (n : Nat) (h : n < 16) : ({ data := #[48, 49, 50, 51, 52, 53, 54, 55, 56, 57, 65, 66, 67, 68, 69, 70] } : ByteArray).extract n (n + 1) = ⟨#[dg true n]⟩ := by
  have : ∀ j : Fin 16, ({ data := #[48, 49, 50, 51, 52, 53, 54, 55, 56, 57, 65, 66, 67, 68, 69, 70] } : ByteArray).extract j.1 (j.1 + 1) = ⟨#[dg true j.1]⟩ := by decide
  exact this ⟨n, h⟩
/-- four reads the four digits -/
theorem four_hx (s : ByteArray) (u : Bool) (z : Nat) (rest : List UInt8) (hz : z < 65536) (hs : s.size ≤ 140737488351232) (hl : s.data.toList = [92, 117] ++ hx4 u z ++ rest) (w : World) :
    Calls Tryd.prog 40 #[.string s] w fun e w' => e = .returned (.int .i32 (z : Int)) ∧ Below w.heap.size w w' := by
  have hsz := size_l hl
  have h6 : 6 ≤ s.size := by rw [hsz]; simp [hx4]
  obtain ⟨a1, a2, a3⟩ := dg_facts u (z / 4096 % 16) (by omega)
  obtain ⟨b1, b2, b3⟩ := dg_facts u (z / 256 % 16) (by omega)
  obtain ⟨c1, c2, c3⟩ := dg_facts u (z / 16 % 16) (by omega)
  obtain ⟨d1, d2, d3⟩ := dg_facts u (z % 16) (by omega)
  have h := four_ok s ⟨(Lib.toLowerA (hx4 u z)).toArray⟩ (dg u (z / 4096 % 16)) (dg u (z / 256 % 16)) (dg u (z / 16 % 16)) (dg u (z % 16)) w h6 hs (at_l hl 0 (by omega) 92 rfl) (at_l hl 1 (by omega) 117 rfl) (by rw [ext26, hl]; rfl)
    (by intro x hx; simp only [List.mem_cons, List.mem_nil_iff, or_false] at hx; rcases hx with rfl | rfl | rfl | rfl <;> assumption) rfl (by simp [okHex, a1, b1, c1, d1])
  have e : fourN (Lib.lowerB (dg u (z / 4096 % 16))) (Lib.lowerB (dg u (z / 256 % 16))) (Lib.lowerB (dg u (z / 16 % 16))) (Lib.lowerB (dg u (z % 16))) = z := by unfold fourN; rw [a2, b2, c2, d2]; omega
  rw [e] at h
  exact h
/-- the escapes of a character's codes -/
def escL (u : Bool) (zs : List Nat) : List UInt8 := zs.flatMap fun z => [92, 117] ++ hx4 u z
/-- a literal of one character by its escapes, unquoted -/
theorem unq_esc (F : ByteArray) (u : Bool) (c : Int) (zs : List Nat) (hm : mayU c = true) (hz : (c < 65536 ∧ zs = [c.toNat]) ∨ (65536 ≤ c ∧ zs = [(55296 + (c - 65536) / 1024).toNat, (56320 + (c - 65536) % 1024).toNat])) (hF : F.data.toList = [34] ++ escL u zs ++ [34]) (w : World) (ht : tabU w) :
    Calls Tryd.prog 17 #[.string F] w fun e w' => e = .returned (.tuple #[.string ⟨(encU c).toArray⟩, .int .i64 F.size, .int .i64 0]) ∧ Below w.heap.size w w' := by
  have hmm := may_iff.1 hm
  have hsz := size_l hF
  have hdrop : (F.extract 1 F.size).data.toList = escL u zs ++ [34] := by rw [ext_drop, hF]; rfl
  have hds := size_l hdrop
  have hq0 : qAt F 0 = true := by unfold qAt; rw [ext_drop, hF]; simp [Lib.hasPrefix]
  rcases hz with ⟨h1, hzs⟩ | ⟨h1, hzs⟩
  · have hL : escL u zs = [92, 117] ++ hx4 u c.toNat := by rw [hzs]; simp [escL]
    rw [hL] at hF hdrop hds hsz
    have hl6 : F.size = 8 := by rw [hsz]; rfl
    have hd7 : (F.extract 1 F.size).size = 7 := by rw [hds]; rfl
    have hp : PartS F 1 c 6 := fun w ht => by
      refine part_esc _ c 6 w (by omega) (at_l hdrop 0 (by omega) 92 rfl) (by decide) fun w => ?_
      have h := escape_u (F.extract 1 F.size) c.toNat w (by omega) (by omega) (at_l hdrop 1 (by omega) 117 rfl) (by rw [Int.toNat_of_nonneg hmm.1]; exact hm) (fun w => four_hx _ u c.toNat [34] (by omega) (by omega) hdrop w)
      rw [Int.toNat_of_nonneg hmm.1] at h
      exact h
    rw [hl6]
    refine unquote_any F 1 (encU c) 8 0 w ht (by omega) (by omega) hq0 ⟨?_, c, 6, hp, by decide, by decide, by omega, hm, .inl ⟨?_, by simp⟩⟩
    · unfold qAt; rw [hdrop]; rfl
    · unfold qAt; rw [ext_drop, hF]; rfl
  · have hL : escL u zs = [92, 117] ++ hx4 u (55296 + (c - 65536) / 1024).toNat ++ ([92, 117] ++ hx4 u (56320 + (c - 65536) % 1024).toNat) := by rw [hzs]; simp [escL]
    rw [hL] at hF hdrop hds hsz
    have hl6 : F.size = 14 := by rw [hsz]; rfl
    have hd7 : (F.extract 1 F.size).size = 13 := by rw [hds]; rfl
    have hp : PartS F 1 c 12 := fun w ht => by
      refine part_esc _ c 12 w (by omega) (at_l hdrop 0 (by omega) 92 rfl) (by decide) fun w => ?_
      have h := escape_pair (F.extract 1 F.size) (55296 + (c - 65536) / 1024).toNat (56320 + (c - 65536) % 1024).toNat w (by omega) (by omega) (at_l hdrop 1 (by omega) 117 rfl) (by omega) (by omega) (by omega) (by omega)
        (fun w => four_hx _ u _ ([92, 117] ++ hx4 u (56320 + (c - 65536) % 1024).toNat ++ [34]) (by omega) (by omega) (by rw [hdrop]; simp [List.append_assoc]) w)
        (fun w => four_hx _ u _ [34] (by omega) (by rw [ByteArray.size_extract]; omega) (by rw [ext_drop, hdrop]; rfl) w)
      rw [show (65536 + (((55296 + (c - 65536) / 1024).toNat : Int) - 55296) * 1024 + ((56320 + (c - 65536) % 1024).toNat : Int) - 56320) = c from by omega] at h
      exact h
    rw [hl6]
    refine unquote_any F 1 (encU c) 14 0 w ht (by omega) (by omega) hq0 ⟨?_, c, 12, hp, by decide, by decide, by omega, hm, .inl ⟨?_, by simp⟩⟩
    · unfold qAt; rw [hdrop]; rfl
    · unfold qAt; rw [ext_drop, hF]; rfl
end Go.Proofs.YtonjnonpajkmlaaDoor
