/-
  Values, plainly: what is right, what is sorted.
-/
import Derived.Test.YteodigdcdhceiaaDoorVaP
namespace Go.Proofs.YteodigdcdhceiaaDoor
open Go.RowKit
set_option linter.unusedVariables false
set_option linter.unusedSimpArgs false

def RiP (r : Bool) (w : World) (e : Ending) (w' : World) : Prop := e = .returned (.bool r) ∧ Below w.heap.size w w'
def rightM (l : List MV) : Bool := keysB (l.map MV.key) && PV.rightL (MV.pvL l)
theorem keysB_snoc (l : List ByteArray) (x : ByteArray) : keysB (l ++ [x]) = (keysB l && (Lib.validD x.data.toList && !l.any (fun y => decide (y = x)))) := by
  unfold keysB
  rw [List.all_append, Bool.eq_iff_iff]
  simp only [Bool.and_eq_true, decide_eq_true_eq, List.nodup_append, List.all_cons, List.all_nil, Bool.and_true, Bool.not_eq_true', List.any_eq_false]
  constructor
  · rintro ⟨⟨a, b⟩, c, _, d⟩
    exact ⟨⟨a, c⟩, b, fun y hy e => d y hy x (by simp) e⟩
  · rintro ⟨⟨a, c⟩, b, d⟩
    exact ⟨⟨a, b⟩, c, by simp, fun y hy z hz e => d y hy (by rw [List.mem_singleton] at hz; subst hz; exact e)⟩
theorem keysB_take (l : List ByteArray) (i : Nat) (h : keysB l = true) : keysB (l.take i) = true := by
  unfold keysB at *
  simp only [Bool.and_eq_true, decide_eq_true_eq, List.all_eq_true] at *
  exact ⟨fun x hx => h.1 x (List.mem_of_mem_take hx), h.2.sublist (List.take_sublist _ _)⟩
theorem rightM_next (l : List MV) (i : Nat) (hi : i < l.length) : rightM (l.take (i + 1)) = (rightM (l.take i) && (Lib.validD l[i].key.data.toList && (l[i].pv.right && !((l.take i).map MV.key).any (fun y => decide (y = l[i].key))))) := by
  unfold rightM
  rw [rightL_next l i hi, List.take_succ_eq_append_getElem hi, List.map_append, List.map_singleton, keysB_snoc, Bool.eq_iff_iff]
  simp only [Bool.and_eq_true]
  constructor
  · rintro ⟨⟨a, b, c⟩, d, e⟩; exact ⟨⟨a, d⟩, b, e, c⟩
  · rintro ⟨⟨a, d⟩, b, e, c⟩; exact ⟨⟨a, b, c⟩, d, e⟩
theorem rightM_take (l : List MV) (i : Nat) (h : rightM l = true) : rightM (l.take i) = true := by
  unfold rightM at *
  rw [Bool.and_eq_true] at h ⊢
  rw [List.map_take]
  refine ⟨keysB_take _ _ h.1, ?_⟩
  have h2 := h.2
  rw [rightL_all, List.all_eq_true] at h2 ⊢
  exact fun x hx => h2 x (by
    obtain ⟨y, hy, rfl⟩ := pvL_mem.1 hx
    exact pvL_mem.2 ⟨y, List.mem_of_mem_take hy, rfl⟩)
theorem rightM_no (l : List MV) (i : Nat) (h : rightM (l.take i) = false) : rightM l = false := by
  cases e : rightM l
  · rfl
  · rw [rightM_take l i e] at h; cases h
theorem rightL_no (l : List MV) (i : Nat) (h : PV.rightL (MV.pvL (l.take i)) = false) : PV.rightL (MV.pvL l) = false := by
  cases e : PV.rightL (MV.pvL l)
  · rfl
  · rw [rightL_all, List.all_eq_true] at e
    have : PV.rightL (MV.pvL (l.take i)) = true := by
      rw [rightL_all, List.all_eq_true]
      exact fun x hx => e x (by
        obtain ⟨y, hy, rfl⟩ := pvL_mem.1 hx
        exact pvL_mem.2 ⟨y, List.mem_of_mem_take hy, rfl⟩)
    rw [this] at h; cases h
theorem sz_nil {s : ByteArray} (h : s.size = 0) : s = ⟨#[]⟩ := by
  cases s
  simp [ByteArray.size] at h
  rw [h]
theorem sz_ne {s : ByteArray} (h : ¬ s.size = 0) : ¬ s.toList = [] := fun e => h (by
  rw [show s = ⟨#[]⟩ from toList_inj (by rw [e]; exact (mk_list []).symm)]
  rfl)

/-! the order of keys -/
def KS (l : List PP) : Prop := l.Pairwise (fun a b => bl b.1 a.1 = false)
theorem insP_perm (p : PP) (l : List PP) : (insP p l).Perm (p :: l) := by
  induction l with
  | nil => exact List.Perm.refl _
  | cons q r ih =>
    rw [insP]
    split
    · exact List.Perm.refl _
    · exact (List.Perm.cons q ih).trans (List.Perm.swap p q r)
theorem isortP_perm (l : List PP) : (isortP l).Perm l := by
  induction l with
  | nil => exact List.Perm.refl _
  | cons p r ih => exact (insP_perm p _).trans (List.Perm.cons p ih)
theorem bl_asym {a b : ByteArray} (h : bl a b = true) : bl b a = false := bytesLess_asym _ _ h
theorem bl_ntr {a b c : ByteArray} (h1 : bl a b = false) (h2 : bl b c = false) : bl a c = false := bytesLess_ntr _ _ _ h1 h2
theorem bl_tri {a b : ByteArray} (h1 : bl a b = false) (h2 : bl b a = false) : a = b := toList_inj (bytesLess_tri _ _ h1 h2)
theorem bl_irr (a : ByteArray) : bl a a = false := bytesLess_irrefl _
theorem insP_sorted (p : PP) (l : List PP) (h : KS l) : KS (insP p l) := by
  induction l with
  | nil => exact List.pairwise_singleton _ _
  | cons q r ih =>
    obtain ⟨h1, h2⟩ := List.pairwise_cons.1 h
    rw [insP]
    split
    · rename_i hb
      refine List.pairwise_cons.2 ⟨fun x hx => ?_, h⟩
      rcases List.mem_cons.1 hx with rfl | hx
      · exact bl_asym hb
      · exact bl_ntr (h1 x hx) (bl_asym hb)
    · rename_i hb
      refine List.pairwise_cons.2 ⟨fun x hx => ?_, ih h2⟩
      rcases List.mem_cons.1 ((insP_perm p r).mem_iff.1 hx) with rfl | hx
      · simpa using hb
      · exact h1 x hx
theorem isortP_sorted (l : List PP) : KS (isortP l) := by
  induction l with
  | nil => exact List.Pairwise.nil
  | cons p r ih => exact insP_sorted p _ ih
theorem ks_uniq {A B : List PP} (hA : KS A) (hB : KS B) (hp : A.Perm B) (hn : (B.map (·.1)).Nodup) : A = B := by
  have key : ∀ a ∈ B, ∀ b ∈ B, a.1 = b.1 → a = b := by
    intro a ha b hb e
    clear hp hB hA
    induction B with
    | nil => cases ha
    | cons q r ih =>
      rw [List.map_cons, List.nodup_cons] at hn
      rcases List.mem_cons.1 ha with h1 | h1 <;> rcases List.mem_cons.1 hb with h2 | h2
      · rw [h1, h2]
      · exact absurd (show q.1 ∈ r.map (·.1) from List.mem_map.2 ⟨b, h2, by rw [← e, h1]⟩) hn.1
      · exact absurd (show q.1 ∈ r.map (·.1) from List.mem_map.2 ⟨a, h1, by rw [e, h2]⟩) hn.1
      · exact ih hn.2 h1 h2
  exact List.Perm.eq_of_pairwise (le := fun (a b : PP) => bl b.1 a.1 = false) (fun a b ha hb (h1 : bl b.1 a.1 = false) (h2 : bl a.1 b.1 = false) => key a (hp.mem_iff.1 ha) b hb (bl_tri h2 h1)) hA hB hp
theorem isortP_fix {l : List PP} (h : KS l) (hn : (l.map (·.1)).Nodup) : isortP l = l := ks_uniq (isortP_sorted l) h (isortP_perm l) hn
theorem zip_fst {ks : List ByteArray} {m : List PV} (h : ks.length = m.length) : (ks.zip m).map (·.1) = ks := List.map_fst_zip (by omega)
theorem zip_snd {ks : List ByteArray} {m : List PV} (h : ks.length = m.length) : (ks.zip m).map (·.2) = m := List.map_snd_zip (by omega)
theorem sortL_map (l : List PV) : PV.sortL l = l.map PV.sort := by
  induction l with
  | nil => rfl
  | cons v r ih => rw [PV.sortL, ih]; rfl
theorem sortL_len (l : List PV) : (PV.sortL l).length = l.length := by rw [sortL_map, List.length_map]
theorem depL_perm {a b : List PV} (h : a.Perm b) : PV.depL a = PV.depL b := by
  induction h with
  | nil => rfl
  | cons x _ ih => rw [PV.depL, PV.depL, ih]
  | swap x y l => rw [PV.depL, PV.depL, PV.depL, PV.depL]; omega
  | trans _ _ ih1 ih2 => rw [ih1, ih2]
theorem cntL_perm {a b : List PV} (h : a.Perm b) : PV.cntL a = PV.cntL b := by
  induction h with
  | nil => rfl
  | cons x _ ih => rw [PV.cntL, PV.cntL, ih]
  | swap x y l => rw [PV.cntL, PV.cntL, PV.cntL, PV.cntL]; omega
  | trans _ _ ih1 ih2 => rw [ih1, ih2]
theorem rightL_perm {a b : List PV} (h : a.Perm b) : PV.rightL a = PV.rightL b := by
  rw [rightL_all, rightL_all, Bool.eq_iff_iff, List.all_eq_true, List.all_eq_true]
  exact ⟨fun h1 x hx => h1 x (h.mem_iff.2 hx), fun h1 x hx => h1 x (h.mem_iff.1 hx)⟩
theorem keysB_perm {a b : List ByteArray} (h : a.Perm b) : keysB a = keysB b := by
  unfold keysB
  rw [Bool.eq_iff_iff]
  simp only [Bool.and_eq_true, decide_eq_true_eq, List.all_eq_true, h.nodup_iff]
  exact ⟨fun ⟨h1, h2⟩ => ⟨fun x hx => h1 x (h.mem_iff.2 hx), h2⟩, fun ⟨h1, h2⟩ => ⟨fun x hx => h1 x (h.mem_iff.1 hx), h2⟩⟩
/-- the pairs of a sorted map -/
theorem sort_parts {ks : List ByteArray} {m : List PV} (h : ks.length = m.length) : ((isortP (ks.zip (PV.sortL m))).map (·.1)).Perm ks ∧ ((isortP (ks.zip (PV.sortL m))).map (·.2)).Perm (PV.sortL m) := by
  have hp := isortP_perm (ks.zip (PV.sortL m))
  have hl : ks.length = (PV.sortL m).length := by rw [sortL_len]; exact h
  exact ⟨by rw [← zip_fst hl]; simpa [zip_fst hl] using hp.map (·.1), by
    have := hp.map (·.2)
    rwa [zip_snd hl] at this⟩
theorem rightP {k n : Int} {s : ByteArray} {l : List PV} {ks : List ByteArray} {m : List PV} (h : (PV.mk k n s l ks m).right = true) : ownF k n s l.length m.length = true ∧ keysB ks = true ∧ ks.length = m.length ∧ PV.rightL l = true ∧ PV.rightL m = true := by
  rw [PV.right] at h
  simp only [Bool.and_eq_true, decide_eq_true_eq] at h
  exact ⟨h.1, h.2.1, h.2.2.1, h.2.2.2.1, h.2.2.2.2⟩
theorem keysB_nodup {ks : List ByteArray} (h : keysB ks = true) : ks.Nodup := by
  unfold keysB at h
  simp only [Bool.and_eq_true, decide_eq_true_eq] at h
  exact h.2
mutual
theorem dep_sort : ∀ p : PV, p.right = true → p.sort.dep = p.dep
  | .mk k n s l ks m, h => by
    obtain ⟨_, _, h1, h2, h3⟩ := rightP h
    rw [PV.sort, PV.dep, PV.dep, depL_perm (sort_parts h1).2, depL_sort l h2, depL_sort m h3]
theorem depL_sort : ∀ l : List PV, PV.rightL l = true → PV.depL (PV.sortL l) = PV.depL l
  | [], _ => by rw [PV.sortL]
  | v :: r, h => by
    rw [PV.rightL, Bool.and_eq_true] at h
    rw [PV.sortL, PV.depL, PV.depL, dep_sort v h.1, depL_sort r h.2]
end
mutual
theorem cnt_sort : ∀ p : PV, p.right = true → p.sort.cnt = p.cnt
  | .mk k n s l ks m, h => by
    obtain ⟨_, _, h1, h2, h3⟩ := rightP h
    rw [PV.sort, PV.cnt, PV.cnt, cntL_perm (sort_parts h1).2, cntL_sort l h2, cntL_sort m h3]
theorem cntL_sort : ∀ l : List PV, PV.rightL l = true → PV.cntL (PV.sortL l) = PV.cntL l
  | [], _ => by rw [PV.sortL]
  | v :: r, h => by
    rw [PV.rightL, Bool.and_eq_true] at h
    rw [PV.sortL, PV.cntL, PV.cntL, cnt_sort v h.1, cntL_sort r h.2]
end
mutual
theorem right_sort : ∀ p : PV, p.right = true → p.sort.right = true
  | .mk k n s l ks m, h => by
    obtain ⟨h0, h4, h1, h2, h3⟩ := rightP h
    obtain ⟨p1, p2⟩ := sort_parts (m := m) h1
    rw [PV.sort, PV.right, sortL_len, keysB_perm p1, rightL_perm p2, rightL_sort l h2, rightL_sort m h3, h4, p1.length_eq, p2.length_eq, sortL_len, h0, decide_eq_true h1]
    rfl
theorem rightL_sort : ∀ l : List PV, PV.rightL l = true → PV.rightL (PV.sortL l) = true
  | [], _ => by rw [PV.sortL, PV.rightL]
  | v :: r, h => by
    rw [PV.rightL, Bool.and_eq_true] at h
    rw [PV.sortL, PV.rightL, right_sort v h.1, rightL_sort r h.2]
    rfl
end
theorem zip_back (l : List PP) : (l.map (·.1)).zip (l.map (·.2)) = l := by
  induction l with
  | nil => rfl
  | cons p r ih => simp [ih]
theorem fixL {l : List PV} (h : ∀ x ∈ l, x.sort = x) : PV.sortL l = l := by
  rw [sortL_map]
  exact (List.map_congr_left h).trans (List.map_id _)
mutual
theorem sort_sort : ∀ p : PV, p.right = true → p.sort.sort = p.sort
  | .mk k n s l ks m, h => by
    obtain ⟨h0, h4, h1, h2, h3⟩ := rightP h
    obtain ⟨p1, p2⟩ := sort_parts (m := m) h1
    have e1 : PV.sortL ((isortP (ks.zip (PV.sortL m))).map (·.2)) = (isortP (ks.zip (PV.sortL m))).map (·.2) := fixL (fun x hx => by
      have hx' := p2.mem_iff.1 hx
      rw [sortL_map] at hx'
      obtain ⟨y, hy, rfl⟩ := List.mem_map.1 hx'
      exact sortL_sort m h3 y hy)
    have e2 : PV.sortL (PV.sortL l) = PV.sortL l := fixL (fun x hx => by
      rw [sortL_map] at hx
      obtain ⟨y, hy, rfl⟩ := List.mem_map.1 hx
      exact sortL_sort l h2 y hy)
    rw [PV.sort, PV.sort, e1, e2, zip_back, isortP_fix (isortP_sorted _) (p1.nodup_iff.2 (keysB_nodup h4))]
theorem sortL_sort : ∀ l : List PV, PV.rightL l = true → ∀ y ∈ l, y.sort.sort = y.sort
  | [], _, y, hy => by cases hy
  | v :: r, h, y, hy => by
    rw [PV.rightL, Bool.and_eq_true] at h
    rcases List.mem_cons.1 hy with e | hy
    · rw [e]; exact sort_sort v h.1
    · exact sortL_sort r h.2 y hy
end
theorem ok_sort {p : PV} (h : OkP p) : OkP p.sort := by
  induction h with
  | mk a b c d e f ih1 ih2 =>
    obtain ⟨p1, p2⟩ := sort_parts c
    rw [PV.sort]
    refine .mk a ?_ (by rw [p1.length_eq, p2.length_eq, sortL_len, c]) (fun x hx => d x (p1.mem_iff.1 hx)) (fun x hx => ?_) (fun x hx => ?_)
    · rw [sortL_len, p2.length_eq, sortL_len]; exact b
    · rw [sortL_map] at hx
      obtain ⟨y, hy, rfl⟩ := List.mem_map.1 hx
      exact ih1 y hy
    · have hx := p2.mem_iff.1 hx
      rw [sortL_map] at hx
      obtain ⟨y, hy, rfl⟩ := List.mem_map.1 hx
      exact ih2 y hy
end Go.Proofs.YteodigdcdhceiaaDoor
