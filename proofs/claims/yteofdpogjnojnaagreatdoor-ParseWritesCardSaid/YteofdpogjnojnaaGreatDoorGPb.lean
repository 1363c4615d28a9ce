/-
  parse: At, and the document's.
  The document's At.
  parse: what lives asks, in plain Lean.
-/
import Derived.Test.YteofdpogjnojnaaGreatDoorPaT7
import Derived.Lib.SlBytesConst
namespace Go.Proofs.YteofdpogjnojnaaGreatDoor
open Go.RowKit Utf Pa
set_option linter.unusedVariables false
set_option linter.unusedSimpArgs false

/-- the place of the last end of a line; -1: there is none -/
def lastNl (l : List UInt8) : Int := (l.foldl (fun (x : Int × Int) c => (x.1 + 1, if c = 10 then x.1 else x.2)) (0, -1)).2
theorem lastNl_fst (l : List UInt8) : (l.foldl (fun (x : Int × Int) c => (x.1 + 1, if c = 10 then x.1 else x.2)) (0, -1)).1 = (l.length : Int) := by
  have : ∀ (l : List UInt8) (a b : Int), (l.foldl (fun (x : Int × Int) c => (x.1 + 1, if c = 10 then x.1 else x.2)) (a, b)).1 = a + (l.length : Int) := by
    intro l
    induction l with
    | nil => intro a b; simp
    | cons c r ih => intro a b; rw [List.foldl_cons, ih]; simp; omega
  rw [this]; omega
theorem lastNl_snoc (l : List UInt8) (c : UInt8) : lastNl (l ++ [c]) = if c = 10 then (l.length : Int) else lastNl l := by
  unfold lastNl
  rw [List.foldl_append]
  simp only [List.foldl_cons, List.foldl_nil, lastNl_fst]
theorem lastNl_bd (l : List UInt8) : -1 ≤ lastNl l ∧ lastNl l < (l.length : Int) := by
  have : ∀ n (l : List UInt8), l.length = n → -1 ≤ lastNl l ∧ lastNl l < (l.length : Int) := by
    intro n
    induction n with
    | zero => intro l h; rw [List.eq_nil_of_length_eq_zero h]; decide
    | succ n ih =>
      intro l h
      obtain ⟨r, c, rfl⟩ : ∃ r c, l = r ++ [c] := by
        have hne : l ≠ [] := by intro q; rw [q] at h; simp at h
        exact ⟨l.dropLast, l.getLast hne, (List.dropLast_concat_getLast hne).symm⟩
      rw [lastNl_snoc]
      have hr : r.length = n := by simpa using h
      have := ih r hr
      simp only [List.length_append, List.length_cons, List.length_nil]
      split <;> omega
  exact this _ l rfl
theorem nl_int (c : UInt8) : ((c.toNat : Int) == 10) = decide (c = 10) := by
  by_cases h : c = 10
  · subst h; rfl
  · rw [decide_eq_false h, beq_eq_false_iff_ne]
    intro q
    exact h (UInt8.toNat_inj.1 (by have : c.toNat = 10 := by omega
                                   rw [this]; rfl))
def atP (l : List UInt8) (n : Int) : Int × Int := if n < 0 ∨ (l.length : Int) < n then (0, 0) else ((((l.take n.toNat).count 10 : Nat) : Int) + 1, n - lastNl (l.take n.toNat))
set_option maxRecDepth 100000 in
set_option maxHeartbeats 1000000 in
theorem lastb_any (A : Option Addr) (c : Nat) (l : List UInt8) (w : World) (hr : RB w A l) (hz : l.length ≤ 1000000) :
    Calls Tryz.prog 33 #[.slice A l.length c, .int .u8 10] w fun e w' => e = .returned (.int .i64 (lastNl l)) ∧ w' = w := by
  go_enter Tryz.func33, Tryz.ntmps33
  go_wp2
  go_loop [5] (fun t => ∃ k : Nat, k ≤ l.length ∧ lastNl l = lastNl (l.take k) ∧ t = .int .i64 ((k : Int) - 1)) (fun t => (intOf t + 1).toNat)
  case atStart => exact ⟨l.length, Nat.le_refl _, by rw [List.take_length], by go_num⟩
  case round =>
    obtain ⟨k, hk, he, rfl⟩ := hrel
    rcases k with _ | k
    · have hz' : ((0 : Nat) : Int) - 1 = -1 := rfl
      have HE : Hid (lastNl l = -1) := Lib.hid (by rw [he]; rfl)
      clear he
      simp only [hz']
      go_wp2
      go_ret
      exact ⟨by rw [HE.out]; rfl, rfl⟩
    · obtain ⟨ad, rfl, hadlt, hc0⟩ := hr.at_ (show k < l.length by omega)
      have hkk : ((k + 1 : Nat) : Int) - 1 = (k : Int) := by omega
      have hge : decide ((k : Int) ≥ 0) = true := decide_eq_true (by omega)
      have hk1 : (k : Int) < (l.length : Int) := by omega
      have hk0 : (0 : Int) ≤ (k : Int) := by omega
      have hsn : lastNl (l.take (k + 1)) = if l[k] = 10 then (k : Int) else lastNl (l.take k) := by
        rw [List.take_succ_eq_append_getElem (show k < l.length by omega), lastNl_snoc, List.length_take, Nat.min_eq_left (by omega)]
      have hni := nl_int l[k]
      simp only [hkk]
      by_cases hx : l[k] = 10
      · rw [decide_eq_true hx] at hni
        have HE : Hid (lastNl l = (k : Int)) := Lib.hid (by rw [he, hsn, if_pos hx])
        clear he hsn hx
        go_wp2
        go_ret
        exact ⟨by rw [HE.out]; rfl, rfl⟩
      · rw [decide_eq_false hx] at hni
        have HE : Hid (lastNl l = lastNl (l.take k)) := Lib.hid (by rw [he, hsn, if_neg hx])
        clear he hsn hx
        go_wp2
        go_round
        case rel => exact ⟨k, by omega, HE.out, by go_num⟩
        case measure => simp [intOf]
theorem lastIx_any (A : Option Addr) (c : Nat) (l : List UInt8) (w : World) (hr : RB w A l) (hz : l.length ≤ 1000000) :
    Calls Tryz.prog 23 #[.slice A l.length c, .int .u8 10] w fun e w' => e = .returned (.int .i64 (lastNl l)) ∧ w' = w := by
  have HL := Lib.hid (lastb_any A c l w hr hz)
  clear hr
  go_enter Tryz.func23, Tryz.ntmps23
  go_wp2_with fail
  refine HL.out.mono ?_
  rintro e w1 ⟨rfl, rfl⟩
  go_wp2
  go_ret
  exact ⟨rfl, rfl⟩
theorem nl_count (l : List UInt8) : Lib.countByte (Lib.bytesOf (l.map fun b => (b.toNat : Int))) ((10 : Int).toNat.toUInt8) = l.count 10 := by
  have e : Lib.bytesOf (l.map fun b => (b.toNat : Int)) = l := by
    unfold Lib.bytesOf
    rw [List.map_map]
    conv => rhs; rw [← List.map_id l]
    congr 1
    funext b
    simp
  rw [e]
  rfl
theorem cnt_any (A : Option Addr) (c b2 d : Nat) (l : List UInt8) (w : World) (hr : RB w A l) (hn : A = none → c = 0) (hc2 : w.cell? ⟨b2, 0, none⟩ = some (.int .u8 10)) :
    Calls Tryz.prog 22 #[.slice A l.length c, .slice (some ⟨b2, 0, none⟩) 1 d] w fun e w' => e = .returned (.int .i64 ((l.count 10 : Nat) : Int)) ∧ w' = w := by
  rcases A with _ | ad
  · have hl : l = [] := by
      rcases Nat.eq_zero_or_pos l.length with h0 | h0
      · exact List.eq_nil_of_length_eq_zero h0
      · obtain ⟨ad, q, _⟩ := hr.at_ h0
        cases q
    subst hl
    rw [hn rfl]
    exact Tryz.bytes_Count_one_nil b2 0 d 10 w hc2
  · refine (Tryz.bytes_Count_one_at ad l.length c b2 0 d (l.map fun b => (b.toNat : Int)) 10 w (by simp) (fun i hi => ?_) hc2).mono ?_
    · obtain ⟨ad', q, _, hcell⟩ := hr.at_ hi
      injection q with q
      subst q
      rw [hcell]
      simp [List.getD, hi]
    · rintro e w' ⟨rfl, rfl⟩
      exact ⟨by rw [nl_count], rfl⟩
def AtP (l : List UInt8) (n : Int) (w : World) (e : Ending) (w' : World) : Prop := e = .returned (.tuple #[.int .i64 (atP l n).1, .int .i64 (atP l n).2]) ∧ Below w.heap.size w w'
set_option maxRecDepth 100000 in
set_option maxHeartbeats 1000000 in
theorem at_any (A : Option Addr) (c : Nat) (l : List UInt8) (n : Int) (w : World) (hr : RB w A l) (hn : A = none → c = 0) (hc : l.length ≤ c) (hm : c ≤ maxLen) (hz : l.length ≤ 1000000) :
    Calls Tryz.prog 14 #[.slice A l.length c, .int .i64 n] w fun e w' => PF (AtP l n w) e w' := by
  by_cases h1 : n < 0
  · have q1 : decide (n < 0) = true := decide_eq_true h1
    have HA : Hid (atP l n = (0, 0)) := Lib.hid (if_pos (.inl h1))
    clear hr hn hc hm hz h1
    go_enter Tryz.func14, Tryz.ntmps14
    go_wp2
    refine bodyPost_ret (v := .tuple #[.int .i64 0, .int .i64 0]) (by simp [results, Tryz.results14, go_sem]) rfl ?_
    exact ⟨by rw [HA.out], Below.refl _ _⟩
  · have q1 : decide (n < 0) = false := decide_eq_false h1
    by_cases h2 : (l.length : Int) < n
    · have q2 : decide (n > (l.length : Int)) = true := decide_eq_true h2
      have HA : Hid (atP l n = (0, 0)) := Lib.hid (if_pos (.inr h2))
      clear hr hn hc hm hz h1 h2
      go_enter Tryz.func14, Tryz.ntmps14
      go_wp2
      refine bodyPost_ret (v := .tuple #[.int .i64 0, .int .i64 0]) (by simp [results, Tryz.results14, go_sem]) rfl ?_
      exact ⟨by rw [HA.out], Below.refl _ _⟩
    · have q2 : decide (n > (l.length : Int)) = false := decide_eq_false h2
      obtain ⟨k, rfl⟩ : ∃ k : Nat, n = (k : Int) := ⟨n.toNat, by omega⟩
      obtain ⟨t, ht⟩ : ∃ t, t = l.take k := ⟨_, rfl⟩
      have hkl : k ≤ l.length := by omega
      have htk : t.length = k := by rw [ht, List.length_take]; omega
      have hrt : RB w A t := by rw [ht]; exact hr.take hkl
      have HA : Hid (atP l k = (((t.count 10 : Nat) : Int) + 1, (k : Int) - lastNl t)) := Lib.hid (by
        unfold atP
        rw [if_neg (by omega)]
        simp only [Int.toNat_natCast]
        rw [← ht])
      have hbd := lastNl_bd t
      have hct : t.count 10 ≤ t.length := List.count_le_length
      obtain ⟨W2, hW2⟩ : ∃ W2, W2 = w.alloc (.cells #[.int .u8 10] 5 (1, 2)) := ⟨_, rfl⟩
      have hb1 : Below w.heap.size w W2 := by rw [hW2]; exact (Below.refl _ _).alloc (Nat.le_refl _) _
      have hcv : (convert 33 33 (.slice (some ⟨w.heap.size, 0, none⟩) 1 1)).run Tryz.prog (w.alloc (.cells #[.int .u8 10] 5)) = .ok (.slice (some ⟨w.heap.size, 0, none⟩) 1 1) W2 := by rw [hW2]; exact Lib.run_convert_bytes_const (P := Tryz.prog) w 33 5 #[.int .u8 10] 1 1 Tryz.underlying33 Tryz.underlying5
      have hcl : W2.cell? ⟨w.heap.size, 0, none⟩ = some (.int .u8 10) := by rw [hW2]; exact cell_of_row _ _ 0 #[.int .u8 10] 5 (1, 2) (heap_alloc_new w _)
      have HC := Lib.hid (cnt_any A c w.heap.size 1 t W2 (hrt.below hb1) hn hcl)
      have HL := Lib.hid (lastIx_any A c t W2 (hrt.below hb1) (by omega))
      have HB1 := Lib.hid hb1
      rw [htk] at HC HL
      obtain ⟨x, hx⟩ : ∃ x, x = lastNl t := ⟨_, rfl⟩
      obtain ⟨y, hy⟩ : ∃ y, y = t.count 10 := ⟨_, rfl⟩
      rw [← hx] at hbd HA HL
      rw [← hy] at hct HA HC
      have hw1 : IntKind.i64.wrap ((y : Int) + 1) = (y : Int) + 1 := IntWalk.i64_in _ (by omega)
      have hw2 : IntKind.i64.wrap ((k : Int) - x) = (k : Int) - x := IntWalk.i64_in _ (by omega)
      have hk0 : (0 : Int) ≤ (k : Int) := by omega
      have hkc : (k : Int) ≤ (c : Int) := by omega
      clear hr hn hm hz h1 h2 ht hrt hb1 hx hy hW2 hcl
      go_enter Tryz.func14, Tryz.ntmps14
      go_wp2_with fail
      refine HC.out.mono ?_
      rintro e w1 ⟨rfl, rfl⟩
      go_wp2_with fail
      refine HL.out.mono ?_
      rintro e w1 ⟨rfl, rfl⟩
      go_wp2
      refine bodyPost_ret (v := .tuple #[.int .i64 ((y : Int) + 1), .int .i64 ((k : Int) - x)]) (by simp [results, Tryz.results14, go_sem]) rfl ?_
      exact ⟨by rw [HA.out], HB1.out⟩
end Go.Proofs.YteofdpogjnojnaaGreatDoor

namespace Go.Proofs.YteofdpogjnojnaaGreatDoor
open Go.RowKit Utf Pa
set_option linter.unusedVariables false
set_option linter.unusedSimpArgs false

theorem cnt_snoc (l : List UInt8) (k : Nat) (hk : k < l.length) : (l.take (k + 1)).count 10 = (l.take k).count 10 + (if l[k] = 10 then 1 else 0) := by
  rw [List.take_succ_eq_append_getElem hk, List.count_append]
  congr 1
  by_cases h : l[k] = 10
  · rw [h]; rfl
  · rw [if_neg h]
    simp [List.count_cons, h]
theorem last_step (l : List UInt8) (k : Nat) (hk : k < l.length) : lastNl (l.take (k + 1)) = if l[k] = 10 then (k : Int) else lastNl (l.take k) := by
  rw [List.take_succ_eq_append_getElem hk, lastNl_snoc, List.length_take, Nat.min_eq_left (by omega)]
end Go.Proofs.YteofdpogjnojnaaGreatDoor

namespace Go.Proofs.YteofdpogjnojnaaGreatDoor
open Go.RowKit Utf Pa
set_option linter.unusedVariables false

set_option maxRecDepth 100000 in
theorem lv1 : parseP [32, 123, 34, 97, 34, 32, 58, 32, 91, 49, 44, 32, 45, 50, 48, 44, 110, 117, 108, 108, 93, 44, 32, 34, 98, 34, 58, 34, 120, 34, 125, 32] = (.mk 6 0 ⟨#[]⟩ [] [⟨#[97]⟩, ⟨#[98]⟩] [.mk 5 0 ⟨#[]⟩ [.mk 3 1 ⟨#[]⟩ [] [] [], .mk 3 (-20) ⟨#[]⟩ [] [] [], .mk 1 0 ⟨#[]⟩ [] [] []] [] [], .mk 4 0 ⟨#[120]⟩ [] [] []], 32, 0) := by kernel_rfl
set_option maxRecDepth 100000 in
theorem lv2 : parseP [91, 49, 44, 50, 46, 53, 93] = (pv0, 4, 51) := by kernel_rfl
set_option maxRecDepth 100000 in
theorem lv3 : parseP [123, 34, 97, 34, 58, 49, 44, 34, 97, 34, 58, 50, 125] = (pv0, 7, 53) := by kernel_rfl
set_option maxRecDepth 100000 in
theorem lv4 : parseP [48, 49] = (pv0, 0, 50) := by kernel_rfl
theorem lv5 : atP [97, 10, 98, 99] 3 = (2, 2) := by decide
theorem asc_of {l : List UInt8} (h : 92 ∉ l) : AscU l := fun a r hr => by
  exfalso
  apply h
  have : (92 : UInt8) ∈ l.drop a := by rw [hr]; simp
  exact List.mem_of_mem_drop this
end Go.Proofs.YteofdpogjnojnaaGreatDoor
