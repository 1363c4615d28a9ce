/-
  due.compare.
-/
import Derived.Test.YtdhilhjiccpkkaaDueW1
import Derived.Deep.DrawnRows
namespace Go.Proofs.Ytdhilhjiccpkkaa
open Go.RowKit
attribute [local go_sem ↓] Go.wp_at_zero Go.wp_at_succ
set_option linter.unusedVariables false

def duV (d : Du) : Value := .agg #[.string d.1, .int .i64 d.2]
set_option maxRecDepth 100000 in
set_option maxHeartbeats 1000000 in
theorem due_compare_ex (a b : Du) (w : World) : Calls Try.prog 29 #[.agg #[.string a.1, .int .i64 a.2], .agg #[.string b.1, .int .i64 b.2]] w fun e w' => e = .returned (.int .i64 (cmpD a b)) ∧ ∃ A B C, w' = (((w.alloc A).alloc B).alloc C).drew := by
  obtain ⟨r, hr⟩ : ∃ r, r = cmpD a b := ⟨_, rfl⟩
  obtain ⟨x, hx⟩ : ∃ x, x = cmpI a.2 b.2 := ⟨_, rfl⟩
  obtain ⟨y, hy⟩ : ∃ y, y = cmpS a.1 b.1 := ⟨_, rfl⟩
  have HR : Hid (r = if x = 0 then y else x) := Lib.hid (by rw [hr, hx, hy]; exact cmpD_eq a b)
  have HX : Hid (∀ W, Calls Try.prog 39 #[.int .i64 a.2, .int .i64 b.2] W fun e w' => e = .returned (.int .i64 x) ∧ w' = W) := Lib.hid (fun W => by rw [hx]; exact compare_int _ _ _)
  have HY : Hid (∀ W, Calls Try.prog 40 #[.string a.1, .string b.1] W fun e w' => e = .returned (.int .i64 y) ∧ w' = W) := Lib.hid (fun W => by rw [hy]; exact compare_str _ _ _)
  rw [← hr]
  obtain ⟨a1, a2⟩ := a
  obtain ⟨b1, b2⟩ := b
  simp only at HX HY hx hy
  clear hr hx hy
  go_enter Try.func29, Try.ntmps29
  go_wp2
  have h1 := (Blk.new w 44 #[.string a1, .int .i64 a2]).alloc (.cells #[.string b1, .int .i64 b2] 44)
  have h2 := Blk.new (w.alloc (.cells #[.string a1, .int .i64 a2] 44)) 44 #[.string b1, .int .i64 b2]
  rw [World.size_alloc] at h2
  have c0 := h1.cell 0
  have c1 := h1.cell 1
  have d0 := h2.cell 0
  have d1 := h2.cell 1
  simp only [List.getElem?_toArray, List.getElem?_cons_zero, List.getElem?_cons_succ] at c0 c1 d0 d1
  have hlt : w.heap.size + 1 < ((w.alloc (.cells #[.string a1, .int .i64 a2] 44)).alloc (.cells #[.string b1, .int .i64 b2] 44)).heap.size := by simp
  clear h1 h2
  generalize hW : (w.alloc (.cells #[.string a1, .int .i64 a2] 44)).alloc (.cells #[.string b1, .int .i64 b2] 44) = W at c0 c1 d0 d1 hlt ⊢
  have HW := Lib.hid hW
  clear hW
  go_region_held3 (fun V => V.cell? ⟨w.heap.size, 0, none⟩ = some (.string a1) ∧ V.cell? ⟨w.heap.size, 1, none⟩ = some (.int .i64 a2) ∧ V.cell? ⟨w.heap.size + 1, 0, none⟩ = some (.string b1) ∧ V.cell? ⟨w.heap.size + 1, 1, none⟩ = some (.int .i64 b2)) (go_keep)
    (first
      | (go_at_call 39; refine (HX.out _).mono ?_; rintro e w ⟨rfl, rfl⟩)
      | (go_at_call 40; refine (HY.out _).mono ?_; rintro e w ⟨rfl, rfl⟩)
      | (go_at_call 38; refine (cmpOr_two _ x y r _ HR.out (by go_simp) (by go_simp)).mono ?_; rintro e w ⟨rfl, rfl⟩))
  go_wp2
  go_ret
  exact ⟨rfl, _, _, _, by rw [HW.out]⟩
theorem due_compare (a b : Du) (w : World) : Calls Try.prog 29 #[.agg #[.string a.1, .int .i64 a.2], .agg #[.string b.1, .int .i64 b.2]] w fun e w' => e = .returned (.int .i64 (cmpD a b)) ∧ Below w.heap.size w w' :=
  (due_compare_ex a b w).mono fun e w' ⟨he, A, B, C, hw⟩ => ⟨he, by subst hw; exact (((Below.refl _ _).alloc (Nat.le_refl _) _).alloc (by simp) _ |>.alloc (by simp; omega) _).drew⟩
end Go.Proofs.Ytdhilhjiccpkkaa
