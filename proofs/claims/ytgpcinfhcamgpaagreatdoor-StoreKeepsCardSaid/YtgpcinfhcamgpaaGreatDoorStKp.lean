/-
  The law StoreKeeps: its code's parts.
-/
import Derived.Test.YtgpcinfhcamgpaaGreatDoorStL3
import Derived.Test.YtgpcinfhcamgpaaGreatDoorStK1
namespace Go.Proofs.YtgpcinfhcamgpaaGreatDoor
open Go.RowKit Glob
attribute [local go_sem ↓] Go.wp_at_zero Go.wp_at_succ
set_option linter.unusedVariables false
set_option linter.unusedSimpArgs false

/-- a part of a code: 0, 1: of a sequence; 2: a block's; 3: a loop's; 4, 5: of a condition -/
def partC : List Nat → Code → Code
  | [], c => c
  | 0 :: r, .seq a _ => partC r a
  | 1 :: r, .seq _ b => partC r b
  | 2 :: r, .block _ c => partC r c
  | 3 :: r, .loop c => partC r c
  | 4 :: r, .cond _ a _ => partC r a
  | 5 :: r, .cond _ _ b => partC r b
  | _, _ => .skip
noncomputable def kC : Code := Tryz.f6.body.getD .skip
noncomputable def kTail : Code := partC [1, 1] kC
def kAct (u : Nat → Value) : Act := ⟨#[u 0, u 1, u 2, u 3, u 4, u 5, u 6, u 7, u 8, u 9, u 10, u 11, u 12, u 13, u 14, u 15, u 16, u 17, u 18, u 19, u 20, u 21, u 22, u 23, u 24, u 25, u 26, u 27, u 28, u 29, u 30, u 31, u 32, u 33, u 34, u 35, u 36, u 37, u 38, u 39, u 40, u 41, u 42, u 43, u 44, u 45, u 46, u 47, u 48, u 49, u 50, u 51, u 52, u 53, u 54, u 55, u 56, u 57, u 58, u 59, u 60, u 61, u 62, u 63, u 64, u 65, u 66, u 67, u 68, u 69, u 70, u 71, u 72, u 73, u 74, u 75, u 76, u 77, u 78, u 79, u 80, u 81, u 82, u 83, u 84, u 85, u 86, u 87, u 88, u 89, u 90, u 91, u 92, u 93, u 94, u 95, u 96, u 97, u 98, u 99, u 100, u 101, u 102, u 103, u 104, u 105, u 106, u 107, u 108, u 109, u 110, u 111, u 112, u 113, u 114, u 115, u 116, u 117, u 118, u 119, u 120, u 121, u 122, u 123, u 124, u 125, u 126, u 127, u 128, u 129, u 130, u 131, u 132, u 133, u 134, u 135, u 136, u 137, u 138, u 139, u 140, u 141, u 142, u 143, u 144, u 145, u 146, u 147, u 148, u 149, u 150, u 151, u 152, u 153, u 154, u 155, u 156, u 157, u 158, u 159, u 160, u 161, u 162, u 163, u 164, u 165, u 166, u 167, u 168, u 169, u 170, u 171, u 172, u 173, u 174, u 175, u 176, u 177, u 178, u 179, u 180, u 181, u 182, u 183, u 184, u 185, u 186, u 187, u 188, u 189, u 190, u 191, u 192, u 193, u 194, u 195, u 196, u 197, u 198, u 199, u 200, u 201, u 202, u 203, u 204, u 205, u 206, u 207, u 208, u 209], []⟩
theorem arr_eq210 (xs : Array Value) (n : Nat) (h : xs.size = n) : xs = ((List.range n).map fun k => xs.getD k undef).toArray := by
  apply Array.ext
  · simp [h]
  · intro j h1 h2
    simp [Array.getD, h1]
set_option maxRecDepth 100000 in
theorem kact_lit (a : Act) (hs : a.tmps.size = 210) (hd : a.defers = []) : ∃ u : Nat → Value, (∀ k, a.tmps.getD k undef = u k) ∧ a = kAct u := by
  refine ⟨fun k => a.tmps.getD k undef, fun _ => rfl, ?_⟩
  obtain ⟨t, d⟩ := a
  simp only at hs hd
  subst hd
  have h := arr_eq210 t 210 hs
  unfold kAct
  congr 1
def KPostR (W : World) (e : Ending) (w' : World) : Prop := e = .returned (.bool true) ∧ Below W.heap.size W w'
set_option maxRecDepth 100000 in
set_option maxHeartbeats 2000000 in
theorem keeps_enter (n : Int) (A : Option Addr) (nl c : Nat) (W : World)
    (H : ∀ (N : Nat) (u : Nat → Value), N ≤ 60 → u 0 = .int .i64 (N : Int) → u 1 = .slice A nl c → u 4 = .bool false → Code.wp Tryz.prog kTail (bodyPost Tryz.prog Tryz.f6 (KPostR W)) (kAct u) W) :
    Calls Tryz.prog 6 #[.int .i64 n, .slice A nl c] W (KPostR W) := by
  have HH : ∀ (N : Nat) (a : Act), N ≤ 60 → a.tmps.size = 210 → a.defers = [] → a.tmps.getD 0 undef = .int .i64 (N : Int) → a.tmps.getD 1 undef = .slice A nl c → a.tmps.getD 4 undef = .bool false → Code.wp Tryz.prog kTail (bodyPost Tryz.prog Tryz.f6 (KPostR W)) a W := by
    intro N a hN hs hd h0 h1 h4
    obtain ⟨u, hu, rfl⟩ := kact_lit a hs hd
    exact H N u hN ((hu 0).symm.trans h0) ((hu 1).symm.trans h1) ((hu 4).symm.trans h4)
  have HT := Lib.hid HH
  clear HH H
  refine calls_of_wp Tryz.func6 (c := kC) rfl ?_
  simp only [Tryz.ntmps6, List.size_toArray, List.length_cons, List.length_nil, Nat.reduceAdd, Nat.reduceSub, Array.replicate_succ, Array.replicate_zero, List.push_toArray, List.append_toArray, List.nil_append, List.cons_append]
  rw [show kC = (partC [0] kC).seq ((partC [1, 0] kC).seq kTail) from rfl]
  generalize kTail = KT at HT ⊢
  conv => arg 2; arg 1; whnf
  conv => arg 2; arg 2; arg 1; whnf
  rcases (by omega : n < 0 ∨ (0 ≤ n ∧ 60 < n) ∨ (0 ≤ n ∧ n ≤ 60)) with h | ⟨h, h2⟩ | ⟨h, h2⟩
  · have q1 : decide (n < 0) = true := decide_eq_true h
    clear h
    go_wp2
    exact HT.out 30 _ (by omega) rfl rfl rfl rfl rfl
  · have q1 : decide (n < 0) = false := decide_eq_false (by omega)
    have q2 : decide (60 < n) = true := decide_eq_true h2
    clear h h2
    go_wp2
    exact HT.out 30 _ (by omega) rfl rfl rfl rfl rfl
  · have q1 : decide (n < 0) = false := decide_eq_false (by omega)
    have q2 : decide (60 < n) = false := decide_eq_false (by omega)
    obtain ⟨N, rfl⟩ : ∃ N : Nat, n = (N : Int) := ⟨n.toNat, by omega⟩
    have hN : N ≤ 60 := by omega
    have q3 : decide (60 < N) = false := decide_eq_false (by omega)
    clear h h2
    go_wp2
    exact HT.out N _ hN rfl rfl rfl rfl rfl
end Go.Proofs.YtgpcinfhcamgpaaGreatDoor
