/-
  The document's right.
-/
import Derived.Test.YteodigdcdhceiaaDoorVaR2
namespace Go.Proofs.YteodigdcdhceiaaDoor
open Go.RowKit
set_option linter.unusedVariables false
set_option linter.unusedSimpArgs false

theorem rright_any {w0 : World} {v : MV} (h : VAt w0 v) : OkP v.pv → ∀ (w : World), Below w0.heap.size w0 w → Calls Tryd.prog 32 #[v.val] w fun e w' => PF (RiP v.pv.right w) e w' := by
  have hgo : ∀ (v : MV), VAt w0 v → OkP v.pv → (∀ x ∈ v.l ++ v.m, ∀ (w : World), Below w0.heap.size w0 w → Calls Tryd.prog 32 #[x.val] w fun e w' => PF (RiP x.pv.right w) e w') → ∀ (w : World), Below w0.heap.size w0 w → Calls Tryd.prog 32 #[v.val] w fun e w' => PF (RiP v.pv.right w) e w' := by
    intro v hv hok ih w hb
    have hz : v.s.size ≤ 9223372036854775807 := by have := hok.s; omega
    rw [right_eq]
    obtain ⟨key, k, n, s, lA, lc, l, mA, mc, m⟩ := v
    unfold MV.val
    simp only [MV.k, MV.n, MV.s, MV.lA, MV.lc, MV.l, MV.mA, MV.mc, MV.m] at hz ih ⊢
    rcases (by omega : k = 1 ∨ k = 2 ∨ k = 3 ∨ k = 4 ∨ k = 5 ∨ k = 6 ∨ (k < 1 ∨ 6 < k)) with rfl | rfl | rfl | rfl | rfl | rfl | hk
    · skip
      by_cases hn : n = 0
      rotate_left
      · skip
        rw [show (ownF _ _ _ _ _ && (keysB _ && (PV.rightL _ && PV.rightL _))) = false from by simp [ownF, hn]]
        exact right1_n n s lA l.length lc mA m.length mc w hn
      subst hn
      by_cases hs : s.size = 0
      rotate_left
      · skip
        rw [show (ownF _ _ _ _ _ && (keysB _ && (PV.rightL _ && PV.rightL _))) = false from by simp [ownF, hs]]
        exact right1_s s lA l.length lc mA m.length mc w hs
      obtain rfl := sz_nil hs
      clear hs
      by_cases hl : l.length = 0
      rotate_left
      · skip
        rw [show (ownF _ _ _ _ _ && (keysB _ && (PV.rightL _ && PV.rightL _))) = false from by simp [ownF, hl]]
        exact right1_l lA l.length lc mA m.length mc w hl
      obtain rfl := List.eq_nil_of_length_eq_zero hl
      clear hl
      by_cases hm : m.length = 0
      rotate_left
      · skip
        rw [show (ownF _ _ _ _ _ && (keysB _ && (PV.rightL _ && PV.rightL _))) = false from by simp [ownF, hm]]
        exact right1_m lA lc mA m.length mc w hm
      obtain rfl := List.eq_nil_of_length_eq_zero hm
      clear hm
      rw [show (ownF 1 0 ⟨#[]⟩ ([] : List MV).length ([] : List MV).length && (keysB (([] : List MV).map MV.key) && (PV.rightL (MV.pvL []) && PV.rightL (MV.pvL [])))) = true from by rfl]
      exact right1_ok lA lc mA mc w 
    · skip
      by_cases hn : n = 0 ∨ n = 1
      rotate_left
      · skip
        rw [show (ownF _ _ _ _ _ && (keysB _ && (PV.rightL _ && PV.rightL _))) = false from by simp [ownF, hn]]
        exact right2_n n s lA l.length lc mA m.length mc w hn
      by_cases hs : s.size = 0
      rotate_left
      · skip
        rw [show (ownF _ _ _ _ _ && (keysB _ && (PV.rightL _ && PV.rightL _))) = false from by simp [ownF, hs]]
        exact right2_s n s lA l.length lc mA m.length mc w hn hs
      obtain rfl := sz_nil hs
      clear hs
      by_cases hl : l.length = 0
      rotate_left
      · skip
        rw [show (ownF _ _ _ _ _ && (keysB _ && (PV.rightL _ && PV.rightL _))) = false from by simp [ownF, hl]]
        exact right2_l n lA l.length lc mA m.length mc w hn hl
      obtain rfl := List.eq_nil_of_length_eq_zero hl
      clear hl
      by_cases hm : m.length = 0
      rotate_left
      · skip
        rw [show (ownF _ _ _ _ _ && (keysB _ && (PV.rightL _ && PV.rightL _))) = false from by simp [ownF, hm]]
        exact right2_m n lA lc mA m.length mc w hn hm
      obtain rfl := List.eq_nil_of_length_eq_zero hm
      clear hm
      rw [show (ownF 2 n ⟨#[]⟩ ([] : List MV).length ([] : List MV).length && (keysB (([] : List MV).map MV.key) && (PV.rightL (MV.pvL []) && PV.rightL (MV.pvL [])))) = true from by rcases hn with rfl | rfl <;> rfl]
      exact right2_ok n lA lc mA mc w hn 
    · skip
      by_cases hn : -9007199254740991 ≤ n ∧ n ≤ 9007199254740991
      rotate_left
      · skip
        rcases (by omega : n < -9007199254740991 ∨ 9007199254740991 < n) with h3 | h3
        · skip
          rw [show (ownF _ _ _ _ _ && (keysB _ && (PV.rightL _ && PV.rightL _))) = false from by simp only [ownF]; simp [hn]]
          exact right3_lo n s lA l.length lc mA m.length mc w h3
        · skip
          rw [show (ownF _ _ _ _ _ && (keysB _ && (PV.rightL _ && PV.rightL _))) = false from by simp only [ownF]; simp [hn]]
          exact right3_hi n s lA l.length lc mA m.length mc w h3
      by_cases hs : s.size = 0
      rotate_left
      · skip
        rw [show (ownF _ _ _ _ _ && (keysB _ && (PV.rightL _ && PV.rightL _))) = false from by simp [ownF, hs]]
        exact right3_s n s lA l.length lc mA m.length mc w hn hs
      obtain rfl := sz_nil hs
      clear hs
      by_cases hl : l.length = 0
      rotate_left
      · skip
        rw [show (ownF _ _ _ _ _ && (keysB _ && (PV.rightL _ && PV.rightL _))) = false from by simp [ownF, hl]]
        exact right3_l n lA l.length lc mA m.length mc w hn hl
      obtain rfl := List.eq_nil_of_length_eq_zero hl
      clear hl
      by_cases hm : m.length = 0
      rotate_left
      · skip
        rw [show (ownF _ _ _ _ _ && (keysB _ && (PV.rightL _ && PV.rightL _))) = false from by simp [ownF, hm]]
        exact right3_m n lA lc mA m.length mc w hn hm
      obtain rfl := List.eq_nil_of_length_eq_zero hm
      clear hm
      rw [show (ownF 3 n ⟨#[]⟩ ([] : List MV).length ([] : List MV).length && (keysB (([] : List MV).map MV.key) && (PV.rightL (MV.pvL []) && PV.rightL (MV.pvL [])))) = true from by unfold ownF keysB; rw [if_neg (by omega), if_neg (by omega), if_pos rfl, decide_eq_true hn]; rfl]
      exact right3_ok n lA lc mA mc w hn 
    · skip
      cases hvd : Lib.validD s.data.toList
      · skip
        rw [show (ownF _ _ _ _ _ && (keysB _ && (PV.rightL _ && PV.rightL _))) = false from by simp [ownF, hvd]]
        exact right4_v n s lA l.length lc mA m.length mc w hz hvd
      by_cases hn : n = 0
      rotate_left
      · skip
        rw [show (ownF _ _ _ _ _ && (keysB _ && (PV.rightL _ && PV.rightL _))) = false from by simp [ownF, hn]]
        exact right4_n n s lA l.length lc mA m.length mc w hz hn hvd
      subst hn
      by_cases hl : l.length = 0
      rotate_left
      · skip
        rw [show (ownF _ _ _ _ _ && (keysB _ && (PV.rightL _ && PV.rightL _))) = false from by simp [ownF, hl]]
        exact right4_l s lA l.length lc mA m.length mc w hz hl hvd
      obtain rfl := List.eq_nil_of_length_eq_zero hl
      clear hl
      by_cases hm : m.length = 0
      rotate_left
      · skip
        rw [show (ownF _ _ _ _ _ && (keysB _ && (PV.rightL _ && PV.rightL _))) = false from by simp [ownF, hm]]
        exact right4_m s lA lc mA m.length mc w hz hm hvd
      obtain rfl := List.eq_nil_of_length_eq_zero hm
      clear hm
      rw [show (ownF 4 0 s ([] : List MV).length ([] : List MV).length && (keysB (([] : List MV).map MV.key) && (PV.rightL (MV.pvL []) && PV.rightL (MV.pvL [])))) = true from by unfold ownF keysB; rw [if_neg (by omega), if_neg (by omega), if_neg (by omega), if_pos rfl, hvd]; rfl]
      exact right4_ok s lA lc mA mc w hz  hvd
    · skip
      by_cases hn : n = 0
      rotate_left
      · skip
        rw [show (ownF _ _ _ _ _ && (keysB _ && (PV.rightL _ && PV.rightL _))) = false from by simp [ownF, hn]]
        exact right5_n n s lA l.length lc mA m.length mc w hn
      subst hn
      by_cases hs : s.size = 0
      rotate_left
      · skip
        rw [show (ownF _ _ _ _ _ && (keysB _ && (PV.rightL _ && PV.rightL _))) = false from by simp [ownF, hs]]
        exact right5_s s lA l.length lc mA m.length mc w hs
      obtain rfl := sz_nil hs
      clear hs
      by_cases hm : m.length = 0
      rotate_left
      · skip
        rw [show (ownF _ _ _ _ _ && (keysB _ && (PV.rightL _ && PV.rightL _))) = false from by simp [ownF, hm]]
        exact right5_m lA l.length lc mA m.length mc w hm
      obtain rfl := List.eq_nil_of_length_eq_zero hm
      clear hm
      rw [show (ownF 5 0 ⟨#[]⟩ l.length ([] : List MV).length && (keysB (([] : List MV).map MV.key) && (PV.rightL (MV.pvL l) && PV.rightL (MV.pvL [])))) = PV.rightL (MV.pvL l) from by unfold ownF keysB; rw [if_neg (by omega), if_neg (by omega), if_neg (by omega), if_neg (by omega), if_pos rfl, show decide ((⟨#[]⟩ : ByteArray).size = 0) = true from rfl]; simp [MV.pvL, PV.rightL]]
      exact right5_ok hv (fun x hx => ih x (List.mem_append_left _ hx)) lA l.length lc mA mc rfl rfl (Nat.le_trans (Nat.le_add_right _ _) hok.len) w hb
    · skip
      by_cases hn : n = 0
      rotate_left
      · skip
        rw [show (ownF _ _ _ _ _ && (keysB _ && (PV.rightL _ && PV.rightL _))) = false from by simp [ownF, hn]]
        exact right6_n n s lA l.length lc mA m.length mc w hn
      subst hn
      by_cases hs : s.size = 0
      rotate_left
      · skip
        rw [show (ownF _ _ _ _ _ && (keysB _ && (PV.rightL _ && PV.rightL _))) = false from by simp [ownF, hs]]
        exact right6_s s lA l.length lc mA m.length mc w hs
      obtain rfl := sz_nil hs
      clear hs
      by_cases hl : l.length = 0
      rotate_left
      · skip
        rw [show (ownF _ _ _ _ _ && (keysB _ && (PV.rightL _ && PV.rightL _))) = false from by simp [ownF, hl]]
        exact right6_l lA l.length lc mA m.length mc w hl
      obtain rfl := List.eq_nil_of_length_eq_zero hl
      clear hl
      rw [show (ownF 6 0 ⟨#[]⟩ ([] : List MV).length m.length && (keysB (m.map MV.key) && (PV.rightL (MV.pvL []) && PV.rightL (MV.pvL m)))) = rightM m from by unfold ownF rightM; rw [if_neg (by omega), if_neg (by omega), if_neg (by omega), if_neg (by omega), if_neg (by omega), if_pos rfl, show decide ((⟨#[]⟩ : ByteArray).size = 0) = true from rfl]; simp [MV.pvL, PV.rightL]]
      exact right6_ok hv (fun x hx => ih x (List.mem_append_right _ hx)) hok.key lA lc mA m.length mc rfl rfl (Nat.le_trans (Nat.le_add_left _ _) hok.len) w hb
    · skip
      rw [show (ownF _ _ _ _ _ && (keysB _ && (PV.rightL _ && PV.rightL _))) = false from by unfold ownF; rw [if_neg (by omega), if_neg (by omega), if_neg (by omega), if_neg (by omega), if_neg (by omega), if_neg (by omega)]; rfl]
      exact right0 k n s lA l.length lc mA m.length mc w hk
  induction h with
  | mk a b c d e f g h i j ih1 ih2 => exact fun hok => hgo _ (.mk a b c d e f g h i j) hok (fun x hx => (List.mem_append.1 hx).elim (fun h => ih1 x h (hok.l x h)) (fun h => ih2 x h (hok.m x h)))
end Go.Proofs.YteodigdcdhceiaaDoor
