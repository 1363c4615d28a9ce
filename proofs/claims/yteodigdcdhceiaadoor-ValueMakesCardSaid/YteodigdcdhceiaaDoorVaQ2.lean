/-
  value.plain, whole.
-/
import Derived.Test.YteodigdcdhceiaaDoorVaQ
namespace Go.Proofs.YteodigdcdhceiaaDoor
open Go.RowKit
set_option linter.unusedVariables false
set_option linter.unusedSimpArgs false

theorem plain_any {w0 : World} {v : MV} (hv : VAt w0 v) (hok : OkP v.pv) (w : World) (hb : Below w0.heap.size w0 w) (ht : tabU w) : Calls Tryd.prog 52 #[v.val] w fun e w' => PF (RiP (ownF v.k v.n v.s v.l.length v.m.length && keysB (v.m.map MV.key)) w) e w' := by
  have hz : v.s.size ≤ 9223372036854775807 := by have := hok.s; omega
  have hky := hok.key
  have hln := hok.len
  obtain ⟨key, k, n, s, lA, lc, l, mA, mc, m⟩ := v
  unfold MV.val
  simp only [MV.k, MV.n, MV.s, MV.lA, MV.lc, MV.l, MV.mA, MV.mc, MV.m] at hz hky hln ⊢
  have hK : ∀ V, Below w.heap.size w V → Calls Tryd.prog 68 #[.slice mA m.length mc] V fun e w' => PF (KeP (keysB (m.map MV.key)) V) e w' := fun V hV => keys_any hv hky m.length rfl (by omega) V (hb.trans (hV.mono hb.size)) (ht.below hV)
  rcases (by omega : k = 1 ∨ k = 2 ∨ k = 3 ∨ k = 4 ∨ k = 5 ∨ k = 6 ∨ (k < 1 ∨ 6 < k)) with rfl | rfl | rfl | rfl | rfl | rfl | hk
  · skip
    by_cases hn : n = 0
    rotate_left
    · skip
      rw [show (ownF _ _ _ _ _ && keysB _) = false from by simp [ownF, hn]]
      exact plain1_n n s lA l.length lc mA m.length mc w hn
    subst hn
    by_cases hs : s.size = 0
    rotate_left
    · skip
      rw [show (ownF _ _ _ _ _ && keysB _) = false from by simp [ownF, hs]]
      exact plain1_s s lA l.length lc mA m.length mc w hs
    obtain rfl := sz_nil hs
    clear hs
    by_cases hl : l.length = 0
    rotate_left
    · skip
      rw [show (ownF _ _ _ _ _ && keysB _) = false from by simp [ownF, hl]]
      exact plain1_l lA l.length lc mA m.length mc w hl
    obtain rfl := List.eq_nil_of_length_eq_zero hl
    clear hl
    by_cases hm : m.length = 0
    rotate_left
    · skip
      rw [show (ownF _ _ _ _ _ && keysB _) = false from by simp [ownF, hm]]
      exact plain1_m lA lc mA m.length mc w hm
    obtain rfl := List.eq_nil_of_length_eq_zero hm
    clear hm
    rw [show (ownF 1 0 ⟨#[]⟩ ([] : List MV).length ([] : List MV).length && keysB (([] : List MV).map MV.key)) = true from by rfl]
    exact plain1_ok lA lc mA mc w
  · skip
    by_cases hn : n = 0 ∨ n = 1
    rotate_left
    · skip
      rw [show (ownF _ _ _ _ _ && keysB _) = false from by simp [ownF, hn]]
      exact plain2_n n s lA l.length lc mA m.length mc w hn
    by_cases hs : s.size = 0
    rotate_left
    · skip
      rw [show (ownF _ _ _ _ _ && keysB _) = false from by simp [ownF, hs]]
      rcases hn with rfl | rfl
      · exact plain2_s0 s lA l.length lc mA m.length mc w hs
      · exact plain2_s1 s lA l.length lc mA m.length mc w hs
    obtain rfl := sz_nil hs
    clear hs
    by_cases hl : l.length = 0
    rotate_left
    · skip
      rw [show (ownF _ _ _ _ _ && keysB _) = false from by simp [ownF, hl]]
      rcases hn with rfl | rfl
      · exact plain2_l0 lA l.length lc mA m.length mc w hl
      · exact plain2_l1 lA l.length lc mA m.length mc w hl
    obtain rfl := List.eq_nil_of_length_eq_zero hl
    clear hl
    by_cases hm : m.length = 0
    rotate_left
    · skip
      rw [show (ownF _ _ _ _ _ && keysB _) = false from by simp [ownF, hm]]
      rcases hn with rfl | rfl
      · exact plain2_m0 lA lc mA m.length mc w hm
      · exact plain2_m1 lA lc mA m.length mc w hm
    obtain rfl := List.eq_nil_of_length_eq_zero hm
    clear hm
    rw [show (ownF 2 n ⟨#[]⟩ ([] : List MV).length ([] : List MV).length && keysB (([] : List MV).map MV.key)) = true from by rcases hn with rfl | rfl <;> rfl]
    rcases hn with rfl | rfl
    · exact plain2_ok0 lA lc mA mc w
    · exact plain2_ok1 lA lc mA mc w
  · skip
    by_cases hn : -9007199254740991 ≤ n ∧ n ≤ 9007199254740991
    rotate_left
    · skip
      rcases (by omega : n < -9007199254740991 ∨ 9007199254740991 < n) with h3 | h3
      · skip
        rw [show (ownF _ _ _ _ _ && keysB _) = false from by simp only [ownF]; simp [hn]]
        exact plain3_lo n s lA l.length lc mA m.length mc w h3
      · skip
        rw [show (ownF _ _ _ _ _ && keysB _) = false from by simp only [ownF]; simp [hn]]
        exact plain3_hi n s lA l.length lc mA m.length mc w h3
    by_cases hs : s.size = 0
    rotate_left
    · skip
      rw [show (ownF _ _ _ _ _ && keysB _) = false from by simp [ownF, hs]]
      exact plain3_s n s lA l.length lc mA m.length mc w hn hs
    obtain rfl := sz_nil hs
    clear hs
    by_cases hl : l.length = 0
    rotate_left
    · skip
      rw [show (ownF _ _ _ _ _ && keysB _) = false from by simp [ownF, hl]]
      exact plain3_l n lA l.length lc mA m.length mc w hn hl
    obtain rfl := List.eq_nil_of_length_eq_zero hl
    clear hl
    by_cases hm : m.length = 0
    rotate_left
    · skip
      rw [show (ownF _ _ _ _ _ && keysB _) = false from by simp [ownF, hm]]
      exact plain3_m n lA lc mA m.length mc w hn hm
    obtain rfl := List.eq_nil_of_length_eq_zero hm
    clear hm
    rw [show (ownF 3 n ⟨#[]⟩ ([] : List MV).length ([] : List MV).length && keysB (([] : List MV).map MV.key)) = true from by unfold ownF keysB; rw [if_neg (by omega), if_neg (by omega), if_pos rfl, decide_eq_true hn]; rfl]
    exact plain3_ok n lA lc mA mc w hn
  · skip
    cases hvd : Lib.validD s.data.toList
    · skip
      rw [show (ownF _ _ _ _ _ && keysB _) = false from by simp [ownF, hvd]]
      exact plain4_v n s lA l.length lc mA m.length mc w hz ht hvd
    by_cases hn : n = 0
    rotate_left
    · skip
      rw [show (ownF _ _ _ _ _ && keysB _) = false from by simp [ownF, hn]]
      exact plain4_n n s lA l.length lc mA m.length mc w hz ht hvd hn
    subst hn
    by_cases hl : l.length = 0
    rotate_left
    · skip
      rw [show (ownF _ _ _ _ _ && keysB _) = false from by simp [ownF, hl]]
      exact plain4_l s lA l.length lc mA m.length mc w hz ht hvd hl
    obtain rfl := List.eq_nil_of_length_eq_zero hl
    clear hl
    by_cases hm : m.length = 0
    rotate_left
    · skip
      rw [show (ownF _ _ _ _ _ && keysB _) = false from by simp [ownF, hm]]
      exact plain4_m s lA lc mA m.length mc w hz ht hvd hm
    obtain rfl := List.eq_nil_of_length_eq_zero hm
    clear hm
    rw [show (ownF 4 0 s ([] : List MV).length ([] : List MV).length && keysB (([] : List MV).map MV.key)) = true from by unfold ownF keysB; rw [if_neg (by omega), if_neg (by omega), if_neg (by omega), if_pos rfl, hvd]; rfl]
    exact plain4_ok s lA lc mA mc w hz ht hvd
  · skip
    by_cases hn : n = 0
    rotate_left
    · skip
      rw [show (ownF _ _ _ _ _ && keysB _) = false from by simp [ownF, hn]]
      exact plain5_n n s lA l.length lc mA m.length mc w hn
    subst hn
    by_cases hs : s.size = 0
    rotate_left
    · skip
      rw [show (ownF _ _ _ _ _ && keysB _) = false from by simp [ownF, hs]]
      exact plain5_s s lA l.length lc mA m.length mc w hs
    obtain rfl := sz_nil hs
    clear hs
    by_cases hm : m.length = 0
    rotate_left
    · skip
      rw [show (ownF _ _ _ _ _ && keysB _) = false from by simp [ownF, hm]]
      exact plain5_m lA l.length lc mA m.length mc w hm
    obtain rfl := List.eq_nil_of_length_eq_zero hm
    clear hm
    rw [show (ownF 5 0 ⟨#[]⟩ l.length ([] : List MV).length && keysB (([] : List MV).map MV.key)) = true from by unfold ownF keysB; rw [if_neg (by omega), if_neg (by omega), if_neg (by omega), if_neg (by omega), if_pos rfl]; rfl]
    exact plain5_ok lA l.length lc mA mc w
  · skip
    cases hkb : keysB (m.map MV.key)
    · skip
      rw [Bool.and_false]
      rw [hkb] at hK
      exact plain6_k n s lA l.length lc mA m.length mc w hK
    rw [hkb] at hK
    by_cases hn : n = 0
    rotate_left
    · skip
      rw [show (ownF _ _ _ _ _ && true) = false from by simp [ownF, hn]]
      exact plain6_n n s lA l.length lc mA m.length mc w hK hn
    subst hn
    by_cases hs : s.size = 0
    rotate_left
    · skip
      rw [show (ownF _ _ _ _ _ && true) = false from by simp [ownF, hs]]
      exact plain6_s s lA l.length lc mA m.length mc w hK hs
    obtain rfl := sz_nil hs
    clear hs
    by_cases hl : l.length = 0
    rotate_left
    · skip
      rw [show (ownF _ _ _ _ _ && true) = false from by simp [ownF, hl]]
      exact plain6_l lA l.length lc mA m.length mc w hK hl
    obtain rfl := List.eq_nil_of_length_eq_zero hl
    clear hl
    rw [show (ownF 6 0 ⟨#[]⟩ ([] : List MV).length m.length && true) = true from by unfold ownF; rw [if_neg (by omega), if_neg (by omega), if_neg (by omega), if_neg (by omega), if_neg (by omega), if_pos rfl]; rfl]
    exact plain6_ok lA lc mA m.length mc w hK
  · skip
    rw [show (ownF _ _ _ _ _ && keysB _) = false from by unfold ownF; rw [if_neg (by omega), if_neg (by omega), if_neg (by omega), if_neg (by omega), if_neg (by omega), if_neg (by omega)]; rfl]
    exact plain0 k n s lA l.length lc mA m.length mc w hk
end Go.Proofs.YteodigdcdhceiaaDoor
