/-
  The document's Large: how much a value weighs.
-/
import Derived.Test.YteofdpogjnojnaaDoorVaM
import Derived.Deep.RegionHeld3
import Derived.Deep.DrawnRows
namespace Go.Proofs.YteofdpogjnojnaaDoor
open Go.RowKit
attribute [local go_sem ↓] Go.wp_at_zero Go.wp_at_succ
set_option linter.unusedVariables false
set_option linter.unusedSimpArgs false

/-- sizes that came in -/
inductive SzV : MV → Prop
  | mk {key : ByteArray} {k n : Int} {s : ByteArray} {lA : Option Addr} {lc : Nat} {l : List MV} {mA : Option Addr} {mc : Nat} {m : List MV} :
    s.size ≤ 140737488351232 → l.length ≤ 140737488351232 → m.length ≤ 140737488351232 → (∀ x ∈ l, SzV x) → (∀ x ∈ m, x.key.size ≤ 140737488351232) → (∀ x ∈ m, SzV x) → SzV (.mk key k n s lA lc l mA mc m)
/-- few are side by side -/
inductive FitV : MV → Prop
  | mk {key : ByteArray} {k n : Int} {s : ByteArray} {lA : Option Addr} {lc : Nat} {l : List MV} {mA : Option Addr} {mc : Nat} {m : List MV} :
    l.length + m.length ≤ 3001 → (∀ x ∈ l, FitV x) → (∀ x ∈ m, FitV x) → FitV (.mk key k n s lA lc l mA mc m)
theorem wtL_take (l : List MV) (i : Nat) (hi : i < l.length) : MV.wtL (l.take (i + 1)) = MV.wtL (l.take i) + l[i].wt := by
  induction l generalizing i with
  | nil => simp at hi
  | cons v r ih =>
    cases i with
    | zero => simp [MV.wtL]
    | succ i =>
      rw [List.take_succ_cons, List.take_succ_cons, MV.wtL, MV.wtL, ih i (by simpa using hi)]
      simp only [List.getElem_cons_succ]
      omega
theorem wtM_cons (v : MV) (r : List MV) : MV.wtM (v :: r) = 1 + v.key.size / 10 + v.wt + MV.wtM r := by
  cases v
  rw [MV.wtM]
  rfl
theorem wtM_take (l : List MV) (i : Nat) (hi : i < l.length) : MV.wtM (l.take (i + 1)) = MV.wtM (l.take i) + (1 + l[i].key.size / 10 + l[i].wt) := by
  induction l generalizing i with
  | nil => simp at hi
  | cons v r ih =>
    cases i with
    | zero => simp [wtM_cons, MV.wtM]
    | succ i =>
      rw [List.take_succ_cons, List.take_succ_cons, wtM_cons, wtM_cons, ih i (by simpa using hi)]
      simp only [List.getElem_cons_succ]
      omega
theorem depL_le {l : List MV} {d : Nat} (h : ∀ x ∈ l, x.dep ≤ d) : MV.depL l ≤ d := by
  induction l with
  | nil => simp [MV.depL]
  | cons v r ih =>
    rw [MV.depL]
    have h1 := h v (by simp)
    have h2 := ih (fun x hx => h x (by simp [hx]))
    omega
structure Acc (f : List MV → Nat) (l : List MV) (i r base d : Nat) : Prop where
  ge : base ≤ r
  le : r + 100000000000000 ≤ (22 - d) * 1000000000000000
  ok : r ≤ 6000 → r = base + f (l.take i) ∧ (∀ x ∈ l.take i, x.dep + (d + 1) ≤ 21) ∧ (∀ x ∈ l.take i, FitV x)
theorem Acc.more {f : List MV → Nat} {l : List MV} {i r base d r' a : Nat} (h : Acc f l i r base d) (hi : i < l.length) (hd : d ≤ 20) (hr : r ≤ 6000) (hf : f (l.take (i + 1)) = f (l.take i) + (a + l[i].wt)) (ha : a ≤ 20000000000000) (h1 : r' ≤ (22 - (d + 1)) * 1000000000000000) (h2 : r' ≤ 6000 → r' = l[i].wt ∧ l[i].dep + (d + 1) ≤ 21 ∧ FitV l[i]) : Acc f l (i + 1) (r + a + r') base d := by
  obtain ⟨e1, e2, e3⟩ := h.ok hr
  have hg := h.ge
  refine ⟨by omega, by omega, fun h9 => ?_⟩
  obtain ⟨k1, k2, k3⟩ := h2 (by omega)
  refine ⟨by rw [hf]; omega, ?_, ?_⟩
  all_goals
    intro x hx
    rw [List.take_succ_eq_append_getElem hi] at hx
    rcases List.mem_append.1 hx with hx | hx
    · first | exact e2 x hx | exact e3 x hx
    · rw [List.mem_singleton] at hx
      subst hx
      assumption
def LarP (v : MV) (d : Nat) (w : World) (e : Ending) (w' : World) : Prop :=
  ∃ r : Nat, e = .returned (.int .i64 (r : Int)) ∧ 1 ≤ r ∧ r ≤ (22 - d) * 1000000000000000 ∧ Below w.heap.size w w' ∧ (r ≤ 6000 → r = v.wt ∧ v.dep + d ≤ 21 ∧ FitV v)
def PF (P : Ending → World → Prop) (e : Ending) (w : World) : Prop := P e w
end Go.Proofs.YteofdpogjnojnaaDoor
