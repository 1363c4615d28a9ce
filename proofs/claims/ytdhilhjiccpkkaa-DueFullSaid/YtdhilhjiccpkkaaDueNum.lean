/-
  A number's digits.
-/
import Derived.Test.YtdhilhjiccpkkaaDuePlain2
import Derived.Test.YtdhilhjiccpkkaaWords2
namespace Go.Proofs.Ytdhilhjiccpkkaa
open Go.RowKit
set_option linter.unusedVariables false

def dig (k : Nat) : ByteArray := ⟨#[UInt8.ofNat (48 + k)]⟩
def numS (n : Nat) : ByteArray := if n < 10 then dig n else if n < 100 then dig (n / 10) ++ dig (n % 10) else (dig (n / 10 / 10) ++ dig (n / 10 % 10)) ++ dig (n % 10)
set_option maxRecDepth 100000 in
theorem number_dig (k : Nat) (hk : k < 10) (w : World) : Calls Try.prog 15 #[.int .i64 (k : Int)] w fun e w' => e = .returned (.string (dig k)) ∧ w' = w := by
  rcases (by omega : k = 0 ∨ k = 1 ∨ k = 2 ∨ k = 3 ∨ k = 4 ∨ k = 5 ∨ k = 6 ∨ k = 7 ∨ k = 8 ∨ k = 9) with rfl | rfl | rfl | rfl | rfl | rfl | rfl | rfl | rfl | rfl
  all_goals
    clear hk
    go_enter Try.func15, Try.ntmps15
    go_wp2
    go_ret
    exact ⟨rfl, rfl⟩
set_option maxRecDepth 100000 in
theorem number_step (n : Nat) (h1 : 10 ≤ n) (h2 : n < 1000) (s : ByteArray) (w : World) (hA : Calls Try.prog 15 #[.int .i64 ((n / 10 : Nat) : Int)] w fun e w' => e = .returned (.string s) ∧ w' = w) (hz : s.size ≤ 10) :
    Calls Try.prog 15 #[.int .i64 (n : Int)] w fun e w' => e = .returned (.string (s ++ dig (n % 10))) ∧ w' = w := by
  have e1 : ((n / 10 : Nat) : Int) = (n : Int) / 10 := by omega
  have e2 : ((n % 10 : Nat) : Int) = (n : Int) % 10 := by omega
  have hB := number_dig (n % 10) (by omega) w
  rw [e1] at hA
  rw [e2] at hB
  have HA := Lib.hid hA
  have HB := Lib.hid hB
  obtain ⟨d, hd⟩ : ∃ d, d = dig (n % 10) := ⟨_, rfl⟩
  have hdz : d.size = 1 := by rw [hd]; rfl
  rw [← hd] at HB
  rw [← hd]
  have q0 : decide ((n : Int) < 10) = false := by rw [decide_eq_false_iff_not]; omega
  have d1 : wrap64 ((n : Int) / 10) = (n : Int) / 10 := IntWalk.wrap64_in _ (by omega)
  have d2 : wrap64 ((n : Int) % 10) = (n : Int) % 10 := IntWalk.wrap64_in _ (by omega)
  have m1 : (n : Int).tdiv 10 = (n : Int) / 10 := Int.tdiv_eq_ediv_of_nonneg (by omega)
  have m2 : (n : Int).tmod 10 = (n : Int) % 10 := Int.tmod_eq_emod_of_nonneg (by omega)
  have hl : s.size + d.size ≤ maxLen := by unfold maxLen; omega
  clear hA hB e1 e2 h1 h2 hd
  go_enter Try.func15, Try.ntmps15
  go_wp2_with fail
  refine HA.out.mono ?_
  rintro e w1 ⟨rfl, rfl⟩
  go_wp2_with fail
  refine HB.out.mono ?_
  rintro e w1 ⟨rfl, rfl⟩
  go_wp2
  go_ret
  exact ⟨rfl, rfl⟩
theorem number_any (n : Nat) (h : n < 1000) (w : World) : Calls Try.prog 15 #[.int .i64 (n : Int)] w fun e w' => e = .returned (.string (numS n)) ∧ w' = w := by
  unfold numS
  by_cases h1 : n < 10
  · rw [if_pos h1]; exact number_dig n h1 w
  · rw [if_neg h1]
    by_cases h2 : n < 100
    · rw [if_pos h2]
      exact number_step n (by omega) h _ w (number_dig (n / 10) (by omega) w) (by show 1 ≤ 10; omega)
    · rw [if_neg h2]
      refine number_step n (by omega) h _ w (number_step (n / 10) (by omega) (by omega) _ w (number_dig (n / 10 / 10) (by omega) w) (by show 1 ≤ 10; omega)) ?_
      rw [ByteArray.size_append]
      show 1 + 1 ≤ 10
      omega
/-- a name of DueFull -/
def nmF (i : Nat) : ByteArray := (⟨#[110]⟩ : ByteArray) ++ numS i
def valF (s : ByteArray) : Nat := (s.data.toList.drop 1).foldl (fun a b => a * 10 + (b.toNat - 48)) 0
theorem valF_all : (List.range 300).all (fun i => decide (valF (nmF i) = i) && decide ((nmF i).size ≤ 4) && decide (2 ≤ (nmF i).size)) = true := by decide +kernel
theorem valF_nm {i : Nat} (h : i < 300) : valF (nmF i) = i ∧ (nmF i).size ≤ 4 ∧ 2 ≤ (nmF i).size := by
  have := List.all_eq_true.1 valF_all i (List.mem_range.2 h)
  simp only [Bool.and_eq_true, decide_eq_true_eq] at this
  exact ⟨this.1.1, this.1.2, this.2⟩
theorem nmF_inj {i j : Nat} (hi : i < 300) (hj : j < 300) (h : nmF i = nmF j) : i = j := by
  rw [← (valF_nm hi).1, ← (valF_nm hj).1, h]
end Go.Proofs.Ytdhilhjiccpkkaa
