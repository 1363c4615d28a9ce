/-
  Values, plainly: what is right, what is sorted.
  The document's right.
  The document's right: what a list and what a map has.
  The document's right.
-/
import Derived.Test.YteofdpogjnojnaaGreatDoorVaP
import Derived.Deep.RegionHeld3
import Derived.Deep.QuietTactic
import Derived.BigQuiet
namespace Go.Proofs.YteofdpogjnojnaaGreatDoor
open Go.RowKit
set_option linter.unusedVariables false
set_option linter.unusedSimpArgs false

def RiP (r : Bool) (w : World) (e : Ending) (w' : World) : Prop := e = .returned (.bool r) ∧ Below w.heap.size w w'
def rightM (l : List MV) : Bool := keysB (l.map MV.key) && PV.rightL (MV.pvL l)
theorem keysB_snoc (l : List ByteArray) (x : ByteArray) : keysB (l ++ [x]) = (keysB l && (Lib.validD x.data.toList && !l.any (fun y => decide (y = x)))) := by
  unfold keysB
  rw [List.all_append, Bool.eq_iff_iff]
  simp only [Bool.and_eq_true, decide_eq_true_eq, List.nodup_append, List.all_cons, List.all_nil, Bool.and_true, Bool.not_eq_true', List.any_eq_false]
  constructor
  · rintro ⟨⟨a, b⟩, c, _, d⟩
    exact ⟨⟨a, c⟩, b, fun y hy e => d y hy x (by simp) e⟩
  · rintro ⟨⟨a, c⟩, b, d⟩
    exact ⟨⟨a, b⟩, c, by simp, fun y hy z hz e => d y hy (by rw [List.mem_singleton] at hz; subst hz; exact e)⟩
theorem keysB_take (l : List ByteArray) (i : Nat) (h : keysB l = true) : keysB (l.take i) = true := by
  unfold keysB at *
  simp only [Bool.and_eq_true, decide_eq_true_eq, List.all_eq_true] at *
  exact ⟨fun x hx => h.1 x (List.mem_of_mem_take hx), h.2.sublist (List.take_sublist _ _)⟩
theorem rightM_next (l : List MV) (i : Nat) (hi : i < l.length) : rightM (l.take (i + 1)) = (rightM (l.take i) && (Lib.validD l[i].key.data.toList && (l[i].pv.right && !((l.take i).map MV.key).any (fun y => decide (y = l[i].key))))) := by
  unfold rightM
  rw [rightL_next l i hi, List.take_succ_eq_append_getElem hi, List.map_append, List.map_singleton, keysB_snoc, Bool.eq_iff_iff]
  simp only [Bool.and_eq_true]
  constructor
  · rintro ⟨⟨a, b, c⟩, d, e⟩; exact ⟨⟨a, d⟩, b, e, c⟩
  · rintro ⟨⟨a, d⟩, b, e, c⟩; exact ⟨⟨a, b, c⟩, d, e⟩
theorem rightM_take (l : List MV) (i : Nat) (h : rightM l = true) : rightM (l.take i) = true := by
  unfold rightM at *
  rw [Bool.and_eq_true] at h ⊢
  rw [List.map_take]
  refine ⟨keysB_take _ _ h.1, ?_⟩
  have h2 := h.2
  rw [rightL_all, List.all_eq_true] at h2 ⊢
  exact fun x hx => h2 x (by
    obtain ⟨y, hy, rfl⟩ := pvL_mem.1 hx
    exact pvL_mem.2 ⟨y, List.mem_of_mem_take hy, rfl⟩)
theorem rightM_no (l : List MV) (i : Nat) (h : rightM (l.take i) = false) : rightM l = false := by
  cases e : rightM l
  · rfl
  · rw [rightM_take l i e] at h; cases h
theorem rightL_no (l : List MV) (i : Nat) (h : PV.rightL (MV.pvL (l.take i)) = false) : PV.rightL (MV.pvL l) = false := by
  cases e : PV.rightL (MV.pvL l)
  · rfl
  · rw [rightL_all, List.all_eq_true] at e
    have : PV.rightL (MV.pvL (l.take i)) = true := by
      rw [rightL_all, List.all_eq_true]
      exact fun x hx => e x (by
        obtain ⟨y, hy, rfl⟩ := pvL_mem.1 hx
        exact pvL_mem.2 ⟨y, List.mem_of_mem_take hy, rfl⟩)
    rw [this] at h; cases h
theorem sz_nil {s : ByteArray} (h : s.size = 0) : s = ⟨#[]⟩ := by
  cases s
  simp [ByteArray.size] at h
  rw [h]
theorem sz_ne {s : ByteArray} (h : ¬ s.size = 0) : ¬ s.toList = [] := fun e => h (by
  rw [show s = ⟨#[]⟩ from toList_inj (by rw [e]; exact (mk_list []).symm)]
  rfl)

/-! the order of keys -/
def KS (l : List PP) : Prop := l.Pairwise (fun a b => bl b.1 a.1 = false)
theorem insP_perm (p : PP) (l : List PP) : (insP p l).Perm (p :: l) := by
  induction l with
  | nil => exact List.Perm.refl _
  | cons q r ih =>
    rw [insP]
    split
    · exact List.Perm.refl _
    · exact (List.Perm.cons q ih).trans (List.Perm.swap p q r)
theorem isortP_perm (l : List PP) : (isortP l).Perm l := by
  induction l with
  | nil => exact List.Perm.refl _
  | cons p r ih => exact (insP_perm p _).trans (List.Perm.cons p ih)
theorem bl_asym {a b : ByteArray} (h : bl a b = true) : bl b a = false := bytesLess_asym _ _ h
theorem bl_ntr {a b c : ByteArray} (h1 : bl a b = false) (h2 : bl b c = false) : bl a c = false := bytesLess_ntr _ _ _ h1 h2
theorem bl_tri {a b : ByteArray} (h1 : bl a b = false) (h2 : bl b a = false) : a = b := toList_inj (bytesLess_tri _ _ h1 h2)
theorem bl_irr (a : ByteArray) : bl a a = false := bytesLess_irrefl _
theorem insP_sorted (p : PP) (l : List PP) (h : KS l) : KS (insP p l) := by
  induction l with
  | nil => exact List.pairwise_singleton _ _
  | cons q r ih =>
    obtain ⟨h1, h2⟩ := List.pairwise_cons.1 h
    rw [insP]
    split
    · rename_i hb
      refine List.pairwise_cons.2 ⟨fun x hx => ?_, h⟩
      rcases List.mem_cons.1 hx with rfl | hx
      · exact bl_asym hb
      · exact bl_ntr (h1 x hx) (bl_asym hb)
    · rename_i hb
      refine List.pairwise_cons.2 ⟨fun x hx => ?_, ih h2⟩
      rcases List.mem_cons.1 ((insP_perm p r).mem_iff.1 hx) with rfl | hx
      · simpa using hb
      · exact h1 x hx
theorem isortP_sorted (l : List PP) : KS (isortP l) := by
  induction l with
  | nil => exact List.Pairwise.nil
  | cons p r ih => exact insP_sorted p _ ih
theorem ks_uniq {A B : List PP} (hA : KS A) (hB : KS B) (hp : A.Perm B) (hn : (B.map (·.1)).Nodup) : A = B := by
  have key : ∀ a ∈ B, ∀ b ∈ B, a.1 = b.1 → a = b := by
    intro a ha b hb e
    clear hp hB hA
    induction B with
    | nil => cases ha
    | cons q r ih =>
      rw [List.map_cons, List.nodup_cons] at hn
      rcases List.mem_cons.1 ha with h1 | h1 <;> rcases List.mem_cons.1 hb with h2 | h2
      · rw [h1, h2]
      · exact absurd (show q.1 ∈ r.map (·.1) from List.mem_map.2 ⟨b, h2, by rw [← e, h1]⟩) hn.1
      · exact absurd (show q.1 ∈ r.map (·.1) from List.mem_map.2 ⟨a, h1, by rw [e, h2]⟩) hn.1
      · exact ih hn.2 h1 h2
  exact List.Perm.eq_of_pairwise (le := fun (a b : PP) => bl b.1 a.1 = false) (fun a b ha hb (h1 : bl b.1 a.1 = false) (h2 : bl a.1 b.1 = false) => key a (hp.mem_iff.1 ha) b hb (bl_tri h2 h1)) hA hB hp
theorem isortP_fix {l : List PP} (h : KS l) (hn : (l.map (·.1)).Nodup) : isortP l = l := ks_uniq (isortP_sorted l) h (isortP_perm l) hn
theorem zip_fst {ks : List ByteArray} {m : List PV} (h : ks.length = m.length) : (ks.zip m).map (·.1) = ks := List.map_fst_zip (by omega)
theorem zip_snd {ks : List ByteArray} {m : List PV} (h : ks.length = m.length) : (ks.zip m).map (·.2) = m := List.map_snd_zip (by omega)
theorem sortL_map (l : List PV) : PV.sortL l = l.map PV.sort := by
  induction l with
  | nil => rfl
  | cons v r ih => rw [PV.sortL, ih]; rfl
theorem sortL_len (l : List PV) : (PV.sortL l).length = l.length := by rw [sortL_map, List.length_map]
theorem depL_perm {a b : List PV} (h : a.Perm b) : PV.depL a = PV.depL b := by
  induction h with
  | nil => rfl
  | cons x _ ih => rw [PV.depL, PV.depL, ih]
  | swap x y l => rw [PV.depL, PV.depL, PV.depL, PV.depL]; omega
  | trans _ _ ih1 ih2 => rw [ih1, ih2]
theorem cntL_perm {a b : List PV} (h : a.Perm b) : PV.cntL a = PV.cntL b := by
  induction h with
  | nil => rfl
  | cons x _ ih => rw [PV.cntL, PV.cntL, ih]
  | swap x y l => rw [PV.cntL, PV.cntL, PV.cntL, PV.cntL]; omega
  | trans _ _ ih1 ih2 => rw [ih1, ih2]
theorem rightL_perm {a b : List PV} (h : a.Perm b) : PV.rightL a = PV.rightL b := by
  rw [rightL_all, rightL_all, Bool.eq_iff_iff, List.all_eq_true, List.all_eq_true]
  exact ⟨fun h1 x hx => h1 x (h.mem_iff.2 hx), fun h1 x hx => h1 x (h.mem_iff.1 hx)⟩
theorem keysB_perm {a b : List ByteArray} (h : a.Perm b) : keysB a = keysB b := by
  unfold keysB
  rw [Bool.eq_iff_iff]
  simp only [Bool.and_eq_true, decide_eq_true_eq, List.all_eq_true, h.nodup_iff]
  exact ⟨fun ⟨h1, h2⟩ => ⟨fun x hx => h1 x (h.mem_iff.2 hx), h2⟩, fun ⟨h1, h2⟩ => ⟨fun x hx => h1 x (h.mem_iff.1 hx), h2⟩⟩
/-- the pairs of a sorted map -/
theorem sort_parts {ks : List ByteArray} {m : List PV} (h : ks.length = m.length) : ((isortP (ks.zip (PV.sortL m))).map (·.1)).Perm ks ∧ ((isortP (ks.zip (PV.sortL m))).map (·.2)).Perm (PV.sortL m) := by
  have hp := isortP_perm (ks.zip (PV.sortL m))
  have hl : ks.length = (PV.sortL m).length := by rw [sortL_len]; exact h
  exact ⟨by rw [← zip_fst hl]; simpa [zip_fst hl] using hp.map (·.1), by
    have := hp.map (·.2)
    rwa [zip_snd hl] at this⟩
theorem rightP {k n : Int} {s : ByteArray} {l : List PV} {ks : List ByteArray} {m : List PV} (h : (PV.mk k n s l ks m).right = true) : ownF k n s l.length m.length = true ∧ keysB ks = true ∧ ks.length = m.length ∧ PV.rightL l = true ∧ PV.rightL m = true := by
  rw [PV.right] at h
  simp only [Bool.and_eq_true, decide_eq_true_eq] at h
  exact ⟨h.1, h.2.1, h.2.2.1, h.2.2.2.1, h.2.2.2.2⟩
theorem keysB_nodup {ks : List ByteArray} (h : keysB ks = true) : ks.Nodup := by
  unfold keysB at h
  simp only [Bool.and_eq_true, decide_eq_true_eq] at h
  exact h.2
mutual
theorem dep_sort : ∀ p : PV, p.right = true → p.sort.dep = p.dep
  | .mk k n s l ks m, h => by
    obtain ⟨_, _, h1, h2, h3⟩ := rightP h
    rw [PV.sort, PV.dep, PV.dep, depL_perm (sort_parts h1).2, depL_sort l h2, depL_sort m h3]
theorem depL_sort : ∀ l : List PV, PV.rightL l = true → PV.depL (PV.sortL l) = PV.depL l
  | [], _ => by rw [PV.sortL]
  | v :: r, h => by
    rw [PV.rightL, Bool.and_eq_true] at h
    rw [PV.sortL, PV.depL, PV.depL, dep_sort v h.1, depL_sort r h.2]
end
mutual
theorem cnt_sort : ∀ p : PV, p.right = true → p.sort.cnt = p.cnt
  | .mk k n s l ks m, h => by
    obtain ⟨_, _, h1, h2, h3⟩ := rightP h
    rw [PV.sort, PV.cnt, PV.cnt, cntL_perm (sort_parts h1).2, cntL_sort l h2, cntL_sort m h3]
theorem cntL_sort : ∀ l : List PV, PV.rightL l = true → PV.cntL (PV.sortL l) = PV.cntL l
  | [], _ => by rw [PV.sortL]
  | v :: r, h => by
    rw [PV.rightL, Bool.and_eq_true] at h
    rw [PV.sortL, PV.cntL, PV.cntL, cnt_sort v h.1, cntL_sort r h.2]
end
mutual
theorem right_sort : ∀ p : PV, p.right = true → p.sort.right = true
  | .mk k n s l ks m, h => by
    obtain ⟨h0, h4, h1, h2, h3⟩ := rightP h
    obtain ⟨p1, p2⟩ := sort_parts (m := m) h1
    rw [PV.sort, PV.right, sortL_len, keysB_perm p1, rightL_perm p2, rightL_sort l h2, rightL_sort m h3, h4, p1.length_eq, p2.length_eq, sortL_len, h0, decide_eq_true h1]
    rfl
theorem rightL_sort : ∀ l : List PV, PV.rightL l = true → PV.rightL (PV.sortL l) = true
  | [], _ => by rw [PV.sortL, PV.rightL]
  | v :: r, h => by
    rw [PV.rightL, Bool.and_eq_true] at h
    rw [PV.sortL, PV.rightL, right_sort v h.1, rightL_sort r h.2]
    rfl
end
theorem zip_back (l : List PP) : (l.map (·.1)).zip (l.map (·.2)) = l := by
  induction l with
  | nil => rfl
  | cons p r ih => simp [ih]
theorem fixL {l : List PV} (h : ∀ x ∈ l, x.sort = x) : PV.sortL l = l := by
  rw [sortL_map]
  exact (List.map_congr_left h).trans (List.map_id _)
mutual
theorem sort_sort : ∀ p : PV, p.right = true → p.sort.sort = p.sort
  | .mk k n s l ks m, h => by
    obtain ⟨h0, h4, h1, h2, h3⟩ := rightP h
    obtain ⟨p1, p2⟩ := sort_parts (m := m) h1
    have e1 : PV.sortL ((isortP (ks.zip (PV.sortL m))).map (·.2)) = (isortP (ks.zip (PV.sortL m))).map (·.2) := fixL (fun x hx => by
      have hx' := p2.mem_iff.1 hx
      rw [sortL_map] at hx'
      obtain ⟨y, hy, rfl⟩ := List.mem_map.1 hx'
      exact sortL_sort m h3 y hy)
    have e2 : PV.sortL (PV.sortL l) = PV.sortL l := fixL (fun x hx => by
      rw [sortL_map] at hx
      obtain ⟨y, hy, rfl⟩ := List.mem_map.1 hx
      exact sortL_sort l h2 y hy)
    rw [PV.sort, PV.sort, e1, e2, zip_back, isortP_fix (isortP_sorted _) (p1.nodup_iff.2 (keysB_nodup h4))]
theorem sortL_sort : ∀ l : List PV, PV.rightL l = true → ∀ y ∈ l, y.sort.sort = y.sort
  | [], _, y, hy => by cases hy
  | v :: r, h, y, hy => by
    rw [PV.rightL, Bool.and_eq_true] at h
    rcases List.mem_cons.1 hy with e | hy
    · rw [e]; exact sort_sort v h.1
    · exact sortL_sort r h.2 y hy
end
theorem ok_sort {p : PV} (h : OkP p) : OkP p.sort := by
  induction h with
  | mk a b c d e f ih1 ih2 =>
    obtain ⟨p1, p2⟩ := sort_parts c
    rw [PV.sort]
    refine .mk a ?_ (by rw [p1.length_eq, p2.length_eq, sortL_len, c]) (fun x hx => d x (p1.mem_iff.1 hx)) (fun x hx => ?_) (fun x hx => ?_)
    · rw [sortL_len, p2.length_eq, sortL_len]; exact b
    · rw [sortL_map] at hx
      obtain ⟨y, hy, rfl⟩ := List.mem_map.1 hx
      exact ih1 y hy
    · have hx := p2.mem_iff.1 hx
      rw [sortL_map] at hx
      obtain ⟨y, hy, rfl⟩ := List.mem_map.1 hx
      exact ih2 y hy
end Go.Proofs.YteofdpogjnojnaaGreatDoor

namespace Go.Proofs.YteofdpogjnojnaaGreatDoor
open Go.RowKit
attribute [local go_sem ↓] Go.wp_at_zero Go.wp_at_succ
set_option linter.unusedVariables false
set_option linter.unusedSimpArgs false

set_option maxRecDepth 100000 in
set_option maxHeartbeats 1000000 in
theorem right1_n (n : Int) (s : ByteArray) (lA : Option Addr) (nl lc : Nat) (mA : Option Addr) (nm mc : Nat) (w : World) (hn : ¬ n = 0) : Calls Tryz.prog 13 #[.agg #[.int .i64 1, .int .i64 n, .string s, .slice lA nl lc, .slice mA nm mc]] w fun e w' => PF (RiP false w) e w' := by
  have q1 : (n == 0) = false := by rw [beq_eq_false_iff_ne]; exact hn
  have q2 : (n != 0) = true := by rw [bne_iff_ne]; exact hn
  clear hn
  go_enter Tryz.func13, Tryz.ntmps13
  go_wp2
  go_ret
  exact ⟨rfl, below_al _ (below_new _ _)⟩
set_option maxRecDepth 100000 in
set_option maxHeartbeats 1000000 in
theorem right1_s (s : ByteArray) (lA : Option Addr) (nl lc : Nat) (mA : Option Addr) (nm mc : Nat) (w : World) (hs : ¬ s.size = 0) : Calls Tryz.prog 13 #[.agg #[.int .i64 1, .int .i64 0, .string s, .slice lA nl lc, .slice mA nm mc]] w fun e w' => PF (RiP false w) e w' := by
  have hs1 := sz_ne hs
  have hs2 : (s.toList == []) = false := by rw [beq_eq_false_iff_ne]; exact hs1
  clear hs
  go_enter Tryz.func13, Tryz.ntmps13
  go_wp2
  go_ret
  exact ⟨rfl, below_al _ (below_new _ _)⟩
set_option maxRecDepth 100000 in
set_option maxHeartbeats 1000000 in
theorem right1_l (lA : Option Addr) (nl lc : Nat) (mA : Option Addr) (nm mc : Nat) (w : World) (hl : ¬ nl = 0) : Calls Tryz.prog 13 #[.agg #[.int .i64 1, .int .i64 0, .string ⟨#[]⟩, .slice lA nl lc, .slice mA nm mc]] w fun e w' => PF (RiP false w) e w' := by
  have q3 : ((nl : Int) == 0) = false := by rw [beq_eq_false_iff_ne]; omega
  have q4 : ((nl : Int) != 0) = true := by rw [bne_iff_ne]; omega
  go_enter Tryz.func13, Tryz.ntmps13
  go_wp2
  go_ret
  exact ⟨rfl, below_al _ (below_new _ _)⟩
set_option maxRecDepth 100000 in
set_option maxHeartbeats 1000000 in
theorem right1_m (lA : Option Addr) (lc : Nat) (mA : Option Addr) (nm mc : Nat) (w : World) (hm : ¬ nm = 0) : Calls Tryz.prog 13 #[.agg #[.int .i64 1, .int .i64 0, .string ⟨#[]⟩, .slice lA 0 lc, .slice mA nm mc]] w fun e w' => PF (RiP false w) e w' := by
  have q3 : ((nm : Int) == 0) = false := by rw [beq_eq_false_iff_ne]; omega
  have q4 : ((nm : Int) != 0) = true := by rw [bne_iff_ne]; omega
  go_enter Tryz.func13, Tryz.ntmps13
  go_wp2
  go_ret
  exact ⟨rfl, below_al _ (below_new _ _)⟩
set_option maxRecDepth 100000 in
set_option maxHeartbeats 1000000 in
theorem right5_n (n : Int) (s : ByteArray) (lA : Option Addr) (nl lc : Nat) (mA : Option Addr) (nm mc : Nat) (w : World) (hn : ¬ n = 0) : Calls Tryz.prog 13 #[.agg #[.int .i64 5, .int .i64 n, .string s, .slice lA nl lc, .slice mA nm mc]] w fun e w' => PF (RiP false w) e w' := by
  have q1 : (n == 0) = false := by rw [beq_eq_false_iff_ne]; exact hn
  have q2 : (n != 0) = true := by rw [bne_iff_ne]; exact hn
  clear hn
  go_enter Tryz.func13, Tryz.ntmps13
  go_wp2
  go_ret
  exact ⟨rfl, below_al _ (below_new _ _)⟩
set_option maxRecDepth 100000 in
set_option maxHeartbeats 1000000 in
theorem right5_s (s : ByteArray) (lA : Option Addr) (nl lc : Nat) (mA : Option Addr) (nm mc : Nat) (w : World) (hs : ¬ s.size = 0) : Calls Tryz.prog 13 #[.agg #[.int .i64 5, .int .i64 0, .string s, .slice lA nl lc, .slice mA nm mc]] w fun e w' => PF (RiP false w) e w' := by
  have hs1 := sz_ne hs
  have hs2 : (s.toList == []) = false := by rw [beq_eq_false_iff_ne]; exact hs1
  clear hs
  go_enter Tryz.func13, Tryz.ntmps13
  go_wp2
  go_ret
  exact ⟨rfl, below_al _ (below_new _ _)⟩
set_option maxRecDepth 100000 in
set_option maxHeartbeats 1000000 in
theorem right5_m (lA : Option Addr) (nl lc : Nat) (mA : Option Addr) (nm mc : Nat) (w : World) (hm : ¬ nm = 0) : Calls Tryz.prog 13 #[.agg #[.int .i64 5, .int .i64 0, .string ⟨#[]⟩, .slice lA nl lc, .slice mA nm mc]] w fun e w' => PF (RiP false w) e w' := by
  have q3 : ((nm : Int) == 0) = false := by rw [beq_eq_false_iff_ne]; omega
  have q4 : ((nm : Int) != 0) = true := by rw [bne_iff_ne]; omega
  go_enter Tryz.func13, Tryz.ntmps13
  go_wp2
  go_ret
  exact ⟨rfl, below_al _ (below_new _ _)⟩
set_option maxRecDepth 100000 in
set_option maxHeartbeats 1000000 in
theorem right6_n (n : Int) (s : ByteArray) (lA : Option Addr) (nl lc : Nat) (mA : Option Addr) (nm mc : Nat) (w : World) (hn : ¬ n = 0) : Calls Tryz.prog 13 #[.agg #[.int .i64 6, .int .i64 n, .string s, .slice lA nl lc, .slice mA nm mc]] w fun e w' => PF (RiP false w) e w' := by
  have q1 : (n == 0) = false := by rw [beq_eq_false_iff_ne]; exact hn
  have q2 : (n != 0) = true := by rw [bne_iff_ne]; exact hn
  clear hn
  go_enter Tryz.func13, Tryz.ntmps13
  go_wp2
  go_ret
  exact ⟨rfl, below_al _ (below_new _ _)⟩
set_option maxRecDepth 100000 in
set_option maxHeartbeats 1000000 in
theorem right6_s (s : ByteArray) (lA : Option Addr) (nl lc : Nat) (mA : Option Addr) (nm mc : Nat) (w : World) (hs : ¬ s.size = 0) : Calls Tryz.prog 13 #[.agg #[.int .i64 6, .int .i64 0, .string s, .slice lA nl lc, .slice mA nm mc]] w fun e w' => PF (RiP false w) e w' := by
  have hs1 := sz_ne hs
  have hs2 : (s.toList == []) = false := by rw [beq_eq_false_iff_ne]; exact hs1
  clear hs
  go_enter Tryz.func13, Tryz.ntmps13
  go_wp2
  go_ret
  exact ⟨rfl, below_al _ (below_new _ _)⟩
set_option maxRecDepth 100000 in
set_option maxHeartbeats 1000000 in
theorem right6_l (lA : Option Addr) (nl lc : Nat) (mA : Option Addr) (nm mc : Nat) (w : World) (hl : ¬ nl = 0) : Calls Tryz.prog 13 #[.agg #[.int .i64 6, .int .i64 0, .string ⟨#[]⟩, .slice lA nl lc, .slice mA nm mc]] w fun e w' => PF (RiP false w) e w' := by
  have q3 : ((nl : Int) == 0) = false := by rw [beq_eq_false_iff_ne]; omega
  have q4 : ((nl : Int) != 0) = true := by rw [bne_iff_ne]; omega
  go_enter Tryz.func13, Tryz.ntmps13
  go_wp2
  go_ret
  exact ⟨rfl, below_al _ (below_new _ _)⟩
set_option maxRecDepth 100000 in
set_option maxHeartbeats 1000000 in
theorem right1_ok (lA : Option Addr) (lc : Nat) (mA : Option Addr) (mc : Nat) (w : World) : Calls Tryz.prog 13 #[.agg #[.int .i64 1, .int .i64 0, .string ⟨#[]⟩, .slice lA 0 lc, .slice mA 0 mc]] w fun e w' => PF (RiP true w) e w' := by
  go_enter Tryz.func13, Tryz.ntmps13
  go_wp2
  refine wp_loop_rounds 1 ?_
  rw [rounds_succ]
  go_wp2
  refine wp_loop_rounds 1 ?_
  rw [rounds_succ]
  go_wp2
  go_ret
  exact ⟨rfl, below_al _ (below_new _ _)⟩
set_option maxRecDepth 100000 in
set_option maxHeartbeats 1000000 in
theorem right2_n (n : Int) (s : ByteArray) (lA : Option Addr) (nl lc : Nat) (mA : Option Addr) (nm mc : Nat) (w : World) (hn : ¬ (n = 0 ∨ n = 1)) : Calls Tryz.prog 13 #[.agg #[.int .i64 2, .int .i64 n, .string s, .slice lA nl lc, .slice mA nm mc]] w fun e w' => PF (RiP false w) e w' := by
  have q1 : (n == 0) = false := by rw [beq_eq_false_iff_ne]; omega
  have q2 : (n != 0) = true := by rw [bne_iff_ne]; omega
  have q5 : (n == 1) = false := by rw [beq_eq_false_iff_ne]; omega
  have q6 : (n != 1) = true := by rw [bne_iff_ne]; omega
  clear hn
  go_enter Tryz.func13, Tryz.ntmps13
  go_wp2
  go_ret
  exact ⟨rfl, below_al _ (below_new _ _)⟩
set_option maxRecDepth 100000 in
set_option maxHeartbeats 1000000 in
theorem right2_s (n : Int) (s : ByteArray) (lA : Option Addr) (nl lc : Nat) (mA : Option Addr) (nm mc : Nat) (w : World) (hn : n = 0 ∨ n = 1) (hs : ¬ s.size = 0) : Calls Tryz.prog 13 #[.agg #[.int .i64 2, .int .i64 n, .string s, .slice lA nl lc, .slice mA nm mc]] w fun e w' => PF (RiP false w) e w' := by
  have hs1 := sz_ne hs
  have hs2 : (s.toList == []) = false := by rw [beq_eq_false_iff_ne]; exact hs1
  clear hs
  rcases hn with rfl | rfl
  all_goals
    go_enter Tryz.func13, Tryz.ntmps13
    go_wp2
    go_ret
    exact ⟨rfl, below_al _ (below_new _ _)⟩
set_option maxRecDepth 100000 in
set_option maxHeartbeats 1000000 in
theorem right2_l (n : Int) (lA : Option Addr) (nl lc : Nat) (mA : Option Addr) (nm mc : Nat) (w : World) (hn : n = 0 ∨ n = 1) (hl : ¬ nl = 0) : Calls Tryz.prog 13 #[.agg #[.int .i64 2, .int .i64 n, .string ⟨#[]⟩, .slice lA nl lc, .slice mA nm mc]] w fun e w' => PF (RiP false w) e w' := by
  have q3 : ((nl : Int) == 0) = false := by rw [beq_eq_false_iff_ne]; omega
  have q4 : ((nl : Int) != 0) = true := by rw [bne_iff_ne]; omega
  rcases hn with rfl | rfl
  all_goals
    go_enter Tryz.func13, Tryz.ntmps13
    go_wp2
    go_ret
    exact ⟨rfl, below_al _ (below_new _ _)⟩
set_option maxRecDepth 100000 in
set_option maxHeartbeats 1000000 in
theorem right2_m (n : Int) (lA : Option Addr) (lc : Nat) (mA : Option Addr) (nm mc : Nat) (w : World) (hn : n = 0 ∨ n = 1) (hm : ¬ nm = 0) : Calls Tryz.prog 13 #[.agg #[.int .i64 2, .int .i64 n, .string ⟨#[]⟩, .slice lA 0 lc, .slice mA nm mc]] w fun e w' => PF (RiP false w) e w' := by
  have q3 : ((nm : Int) == 0) = false := by rw [beq_eq_false_iff_ne]; omega
  have q4 : ((nm : Int) != 0) = true := by rw [bne_iff_ne]; omega
  rcases hn with rfl | rfl
  all_goals
    go_enter Tryz.func13, Tryz.ntmps13
    go_wp2
    go_ret
    exact ⟨rfl, below_al _ (below_new _ _)⟩
set_option maxRecDepth 100000 in
set_option maxHeartbeats 1000000 in
theorem right2_ok (n : Int) (lA : Option Addr) (lc : Nat) (mA : Option Addr) (mc : Nat) (w : World) (hn : n = 0 ∨ n = 1) : Calls Tryz.prog 13 #[.agg #[.int .i64 2, .int .i64 n, .string ⟨#[]⟩, .slice lA 0 lc, .slice mA 0 mc]] w fun e w' => PF (RiP true w) e w' := by
  rcases hn with rfl | rfl
  all_goals
    go_enter Tryz.func13, Tryz.ntmps13
    go_wp2
    refine wp_loop_rounds 1 ?_
    rw [rounds_succ]
    go_wp2
    refine wp_loop_rounds 1 ?_
    rw [rounds_succ]
    go_wp2
    go_ret
    exact ⟨rfl, below_al _ (below_new _ _)⟩
set_option maxRecDepth 100000 in
set_option maxHeartbeats 1000000 in
theorem right3_lo (n : Int) (s : ByteArray) (lA : Option Addr) (nl lc : Nat) (mA : Option Addr) (nm mc : Nat) (w : World) (hn : n < -9007199254740991) : Calls Tryz.prog 13 #[.agg #[.int .i64 3, .int .i64 n, .string s, .slice lA nl lc, .slice mA nm mc]] w fun e w' => PF (RiP false w) e w' := by
  have q1 : decide (n < -9007199254740991) = true := by rw [decide_eq_true_iff]; exact hn
  go_enter Tryz.func13, Tryz.ntmps13
  go_wp2
  go_ret
  exact ⟨rfl, below_al _ (below_new _ _)⟩
set_option maxRecDepth 100000 in
set_option maxHeartbeats 1000000 in
theorem right3_hi (n : Int) (s : ByteArray) (lA : Option Addr) (nl lc : Nat) (mA : Option Addr) (nm mc : Nat) (w : World) (hn : 9007199254740991 < n) : Calls Tryz.prog 13 #[.agg #[.int .i64 3, .int .i64 n, .string s, .slice lA nl lc, .slice mA nm mc]] w fun e w' => PF (RiP false w) e w' := by
  have q1 : decide (n < -9007199254740991) = false := by rw [decide_eq_false_iff_not]; omega
  have q2 : decide (9007199254740991 < n) = true := by rw [decide_eq_true_iff]; exact hn
  go_enter Tryz.func13, Tryz.ntmps13
  go_wp2
  go_ret
  exact ⟨rfl, below_al _ (below_new _ _)⟩
set_option maxRecDepth 100000 in
set_option maxHeartbeats 1000000 in
theorem right3_s (n : Int) (s : ByteArray) (lA : Option Addr) (nl lc : Nat) (mA : Option Addr) (nm mc : Nat) (w : World) (hn : -9007199254740991 ≤ n ∧ n ≤ 9007199254740991) (hs : ¬ s.size = 0) : Calls Tryz.prog 13 #[.agg #[.int .i64 3, .int .i64 n, .string s, .slice lA nl lc, .slice mA nm mc]] w fun e w' => PF (RiP false w) e w' := by
  have q1 : decide (n < -9007199254740991) = false := by rw [decide_eq_false_iff_not]; omega
  have q2 : decide (9007199254740991 < n) = false := by rw [decide_eq_false_iff_not]; omega
  clear hn
  have hs1 := sz_ne hs
  have hs2 : (s.toList == []) = false := by rw [beq_eq_false_iff_ne]; exact hs1
  clear hs
  go_enter Tryz.func13, Tryz.ntmps13
  go_wp2
  go_ret
  exact ⟨rfl, below_al _ (below_new _ _)⟩
set_option maxRecDepth 100000 in
set_option maxHeartbeats 1000000 in
theorem right3_l (n : Int) (lA : Option Addr) (nl lc : Nat) (mA : Option Addr) (nm mc : Nat) (w : World) (hn : -9007199254740991 ≤ n ∧ n ≤ 9007199254740991) (hl : ¬ nl = 0) : Calls Tryz.prog 13 #[.agg #[.int .i64 3, .int .i64 n, .string ⟨#[]⟩, .slice lA nl lc, .slice mA nm mc]] w fun e w' => PF (RiP false w) e w' := by
  have q1 : decide (n < -9007199254740991) = false := by rw [decide_eq_false_iff_not]; omega
  have q2 : decide (9007199254740991 < n) = false := by rw [decide_eq_false_iff_not]; omega
  clear hn
  have q3 : ((nl : Int) == 0) = false := by rw [beq_eq_false_iff_ne]; omega
  have q4 : ((nl : Int) != 0) = true := by rw [bne_iff_ne]; omega
  go_enter Tryz.func13, Tryz.ntmps13
  go_wp2
  go_ret
  exact ⟨rfl, below_al _ (below_new _ _)⟩
set_option maxRecDepth 100000 in
set_option maxHeartbeats 1000000 in
theorem right3_m (n : Int) (lA : Option Addr) (lc : Nat) (mA : Option Addr) (nm mc : Nat) (w : World) (hn : -9007199254740991 ≤ n ∧ n ≤ 9007199254740991) (hm : ¬ nm = 0) : Calls Tryz.prog 13 #[.agg #[.int .i64 3, .int .i64 n, .string ⟨#[]⟩, .slice lA 0 lc, .slice mA nm mc]] w fun e w' => PF (RiP false w) e w' := by
  have q1 : decide (n < -9007199254740991) = false := by rw [decide_eq_false_iff_not]; omega
  have q2 : decide (9007199254740991 < n) = false := by rw [decide_eq_false_iff_not]; omega
  clear hn
  have q3 : ((nm : Int) == 0) = false := by rw [beq_eq_false_iff_ne]; omega
  have q4 : ((nm : Int) != 0) = true := by rw [bne_iff_ne]; omega
  go_enter Tryz.func13, Tryz.ntmps13
  go_wp2
  go_ret
  exact ⟨rfl, below_al _ (below_new _ _)⟩
set_option maxRecDepth 100000 in
set_option maxHeartbeats 1000000 in
theorem right3_ok (n : Int) (lA : Option Addr) (lc : Nat) (mA : Option Addr) (mc : Nat) (w : World) (hn : -9007199254740991 ≤ n ∧ n ≤ 9007199254740991) : Calls Tryz.prog 13 #[.agg #[.int .i64 3, .int .i64 n, .string ⟨#[]⟩, .slice lA 0 lc, .slice mA 0 mc]] w fun e w' => PF (RiP true w) e w' := by
  have q1 : decide (n < -9007199254740991) = false := by rw [decide_eq_false_iff_not]; omega
  have q2 : decide (9007199254740991 < n) = false := by rw [decide_eq_false_iff_not]; omega
  clear hn
  go_enter Tryz.func13, Tryz.ntmps13
  go_wp2
  refine wp_loop_rounds 1 ?_
  rw [rounds_succ]
  go_wp2
  refine wp_loop_rounds 1 ?_
  rw [rounds_succ]
  go_wp2
  go_ret
  exact ⟨rfl, below_al _ (below_new _ _)⟩
set_option maxRecDepth 100000 in
set_option maxHeartbeats 1000000 in
theorem right4_v (n : Int) (s : ByteArray) (lA : Option Addr) (nl lc : Nat) (mA : Option Addr) (nm mc : Nat) (w : World) (hz : s.size ≤ 9223372036854775807) (hv : Lib.validD s.data.toList = false) : Calls Tryz.prog 13 #[.agg #[.int .i64 4, .int .i64 n, .string s, .slice lA nl lc, .slice mA nm mc]] w fun e w' => PF (RiP false w) e w' := by
  have HV := Lib.hid (fun w => rvalid_any s w hz)
  rw [hv] at HV
  clear hv
  go_enter Tryz.func13, Tryz.ntmps13
  go_wp2_with fail
  refine (HV.out _).mono ?_
  rintro e w1 ⟨rfl, hb1⟩
  have HB : Hid (Below w.heap.size w w1) := Lib.hid ((below_al _ (below_new w _)).trans (hb1.mono (below_al _ (below_new w _)).size))
  have k1 := ((Blk.new w 25 #[.int .i64 4, .int .i64 n, .string s, .slice lA nl lc, .slice mA nm mc]).alloc (.cells #[.int .i64 4, .int .i64 0, .string s, .slice none 0 0, .slice none 0 0] 25)).below hb1 (by simp; omega)
  have k2 : Blk w1 (w.heap.size + 1) 25 #[.int .i64 4, .int .i64 0, .string s, .slice none 0 0, .slice none 0 0] := by
    have := (Blk.new (w.alloc (.cells #[.int .i64 4, .int .i64 n, .string s, .slice lA nl lc, .slice mA nm mc] 25)) 25 #[.int .i64 4, .int .i64 0, .string s, .slice none 0 0, .slice none 0 0]).below hb1 (by simp)
    simpa using this
  obtain ⟨a0, a1, a2, a3, a4⟩ := five_cells k1
  obtain ⟨c0, c1, c2, c3, c4⟩ := five_cells k2
  clear k1 k2 hb1
  go_wp2
  go_ret
  exact ⟨rfl, HB.out⟩
set_option maxRecDepth 100000 in
set_option maxHeartbeats 1000000 in
theorem right4_n (n : Int) (s : ByteArray) (lA : Option Addr) (nl lc : Nat) (mA : Option Addr) (nm mc : Nat) (w : World) (hz : s.size ≤ 9223372036854775807) (hn : ¬ n = 0) (hv : Lib.validD s.data.toList = true) : Calls Tryz.prog 13 #[.agg #[.int .i64 4, .int .i64 n, .string s, .slice lA nl lc, .slice mA nm mc]] w fun e w' => PF (RiP false w) e w' := by
  have HV := Lib.hid (fun w => rvalid_any s w hz)
  rw [hv] at HV
  clear hv
  have q1 : (n == 0) = false := by rw [beq_eq_false_iff_ne]; exact hn
  have q2 : (n != 0) = true := by rw [bne_iff_ne]; exact hn
  clear hn
  go_enter Tryz.func13, Tryz.ntmps13
  go_wp2_with fail
  refine (HV.out _).mono ?_
  rintro e w1 ⟨rfl, hb1⟩
  have HB : Hid (Below w.heap.size w w1) := Lib.hid ((below_al _ (below_new w _)).trans (hb1.mono (below_al _ (below_new w _)).size))
  have k1 := ((Blk.new w 25 #[.int .i64 4, .int .i64 n, .string s, .slice lA nl lc, .slice mA nm mc]).alloc (.cells #[.int .i64 4, .int .i64 0, .string s, .slice none 0 0, .slice none 0 0] 25)).below hb1 (by simp; omega)
  have k2 : Blk w1 (w.heap.size + 1) 25 #[.int .i64 4, .int .i64 0, .string s, .slice none 0 0, .slice none 0 0] := by
    have := (Blk.new (w.alloc (.cells #[.int .i64 4, .int .i64 n, .string s, .slice lA nl lc, .slice mA nm mc] 25)) 25 #[.int .i64 4, .int .i64 0, .string s, .slice none 0 0, .slice none 0 0]).below hb1 (by simp)
    simpa using this
  obtain ⟨a0, a1, a2, a3, a4⟩ := five_cells k1
  obtain ⟨c0, c1, c2, c3, c4⟩ := five_cells k2
  clear k1 k2 hb1
  go_wp2
  go_ret
  exact ⟨rfl, HB.out⟩
set_option maxRecDepth 100000 in
set_option maxHeartbeats 1000000 in
theorem right4_l (s : ByteArray) (lA : Option Addr) (nl lc : Nat) (mA : Option Addr) (nm mc : Nat) (w : World) (hz : s.size ≤ 9223372036854775807) (hl : ¬ nl = 0) (hv : Lib.validD s.data.toList = true) : Calls Tryz.prog 13 #[.agg #[.int .i64 4, .int .i64 0, .string s, .slice lA nl lc, .slice mA nm mc]] w fun e w' => PF (RiP false w) e w' := by
  have HV := Lib.hid (fun w => rvalid_any s w hz)
  rw [hv] at HV
  clear hv
  have q3 : ((nl : Int) == 0) = false := by rw [beq_eq_false_iff_ne]; omega
  have q4 : ((nl : Int) != 0) = true := by rw [bne_iff_ne]; omega
  go_enter Tryz.func13, Tryz.ntmps13
  go_wp2_with fail
  refine (HV.out _).mono ?_
  rintro e w1 ⟨rfl, hb1⟩
  have HB : Hid (Below w.heap.size w w1) := Lib.hid ((below_al _ (below_new w _)).trans (hb1.mono (below_al _ (below_new w _)).size))
  have k1 := ((Blk.new w 25 #[.int .i64 4, .int .i64 0, .string s, .slice lA nl lc, .slice mA nm mc]).alloc (.cells #[.int .i64 4, .int .i64 0, .string s, .slice none 0 0, .slice none 0 0] 25)).below hb1 (by simp; omega)
  have k2 : Blk w1 (w.heap.size + 1) 25 #[.int .i64 4, .int .i64 0, .string s, .slice none 0 0, .slice none 0 0] := by
    have := (Blk.new (w.alloc (.cells #[.int .i64 4, .int .i64 0, .string s, .slice lA nl lc, .slice mA nm mc] 25)) 25 #[.int .i64 4, .int .i64 0, .string s, .slice none 0 0, .slice none 0 0]).below hb1 (by simp)
    simpa using this
  obtain ⟨a0, a1, a2, a3, a4⟩ := five_cells k1
  obtain ⟨c0, c1, c2, c3, c4⟩ := five_cells k2
  clear k1 k2 hb1
  go_wp2
  go_ret
  exact ⟨rfl, HB.out⟩
set_option maxRecDepth 100000 in
set_option maxHeartbeats 1000000 in
theorem right4_m (s : ByteArray) (lA : Option Addr) (lc : Nat) (mA : Option Addr) (nm mc : Nat) (w : World) (hz : s.size ≤ 9223372036854775807) (hm : ¬ nm = 0) (hv : Lib.validD s.data.toList = true) : Calls Tryz.prog 13 #[.agg #[.int .i64 4, .int .i64 0, .string s, .slice lA 0 lc, .slice mA nm mc]] w fun e w' => PF (RiP false w) e w' := by
  have HV := Lib.hid (fun w => rvalid_any s w hz)
  rw [hv] at HV
  clear hv
  have q3 : ((nm : Int) == 0) = false := by rw [beq_eq_false_iff_ne]; omega
  have q4 : ((nm : Int) != 0) = true := by rw [bne_iff_ne]; omega
  go_enter Tryz.func13, Tryz.ntmps13
  go_wp2_with fail
  refine (HV.out _).mono ?_
  rintro e w1 ⟨rfl, hb1⟩
  have HB : Hid (Below w.heap.size w w1) := Lib.hid ((below_al _ (below_new w _)).trans (hb1.mono (below_al _ (below_new w _)).size))
  have k1 := ((Blk.new w 25 #[.int .i64 4, .int .i64 0, .string s, .slice lA 0 lc, .slice mA nm mc]).alloc (.cells #[.int .i64 4, .int .i64 0, .string s, .slice none 0 0, .slice none 0 0] 25)).below hb1 (by simp; omega)
  have k2 : Blk w1 (w.heap.size + 1) 25 #[.int .i64 4, .int .i64 0, .string s, .slice none 0 0, .slice none 0 0] := by
    have := (Blk.new (w.alloc (.cells #[.int .i64 4, .int .i64 0, .string s, .slice lA 0 lc, .slice mA nm mc] 25)) 25 #[.int .i64 4, .int .i64 0, .string s, .slice none 0 0, .slice none 0 0]).below hb1 (by simp)
    simpa using this
  obtain ⟨a0, a1, a2, a3, a4⟩ := five_cells k1
  obtain ⟨c0, c1, c2, c3, c4⟩ := five_cells k2
  clear k1 k2 hb1
  go_wp2
  go_ret
  exact ⟨rfl, HB.out⟩
set_option maxRecDepth 100000 in
set_option maxHeartbeats 1000000 in
theorem right4_ok (s : ByteArray) (lA : Option Addr) (lc : Nat) (mA : Option Addr) (mc : Nat) (w : World) (hz : s.size ≤ 9223372036854775807) (hv : Lib.validD s.data.toList = true) : Calls Tryz.prog 13 #[.agg #[.int .i64 4, .int .i64 0, .string s, .slice lA 0 lc, .slice mA 0 mc]] w fun e w' => PF (RiP true w) e w' := by
  have HV := Lib.hid (fun w => rvalid_any s w hz)
  rw [hv] at HV
  clear hv
  go_enter Tryz.func13, Tryz.ntmps13
  go_wp2_with fail
  refine (HV.out _).mono ?_
  rintro e w1 ⟨rfl, hb1⟩
  have HB : Hid (Below w.heap.size w w1) := Lib.hid ((below_al _ (below_new w _)).trans (hb1.mono (below_al _ (below_new w _)).size))
  have k1 := ((Blk.new w 25 #[.int .i64 4, .int .i64 0, .string s, .slice lA 0 lc, .slice mA 0 mc]).alloc (.cells #[.int .i64 4, .int .i64 0, .string s, .slice none 0 0, .slice none 0 0] 25)).below hb1 (by simp; omega)
  have k2 : Blk w1 (w.heap.size + 1) 25 #[.int .i64 4, .int .i64 0, .string s, .slice none 0 0, .slice none 0 0] := by
    have := (Blk.new (w.alloc (.cells #[.int .i64 4, .int .i64 0, .string s, .slice lA 0 lc, .slice mA 0 mc] 25)) 25 #[.int .i64 4, .int .i64 0, .string s, .slice none 0 0, .slice none 0 0]).below hb1 (by simp)
    simpa using this
  obtain ⟨a0, a1, a2, a3, a4⟩ := five_cells k1
  obtain ⟨c0, c1, c2, c3, c4⟩ := five_cells k2
  clear k1 k2 hb1
  go_wp2
  refine wp_loop_rounds 1 ?_
  rw [rounds_succ]
  go_wp2
  refine wp_loop_rounds 1 ?_
  rw [rounds_succ]
  go_wp2
  go_ret
  exact ⟨rfl, HB.out⟩
set_option maxRecDepth 100000 in
set_option maxHeartbeats 1000000 in
theorem right0 (k n : Int) (s : ByteArray) (lA : Option Addr) (nl lc : Nat) (mA : Option Addr) (nm mc : Nat) (w : World) (hk : k < 1 ∨ 6 < k) : Calls Tryz.prog 13 #[.agg #[.int .i64 k, .int .i64 n, .string s, .slice lA nl lc, .slice mA nm mc]] w fun e w' => PF (RiP false w) e w' := by
  have p1 : (k == 1) = false := by rw [beq_eq_false_iff_ne]; omega
  have p2 : (k == 2) = false := by rw [beq_eq_false_iff_ne]; omega
  have p3 : (k == 3) = false := by rw [beq_eq_false_iff_ne]; omega
  have p4 : (k == 4) = false := by rw [beq_eq_false_iff_ne]; omega
  have p5 : (k == 5) = false := by rw [beq_eq_false_iff_ne]; omega
  have p6 : (k == 6) = false := by rw [beq_eq_false_iff_ne]; omega
  clear hk
  go_enter Tryz.func13, Tryz.ntmps13
  go_wp2
  go_ret
  exact ⟨rfl, below_al _ (below_new _ _)⟩
end Go.Proofs.YteofdpogjnojnaaGreatDoor

namespace Go.Proofs.YteofdpogjnojnaaGreatDoor
open Go.RowKit
attribute [local go_sem ↓] Go.wp_at_zero Go.wp_at_succ
set_option linter.unusedVariables false
set_option linter.unusedSimpArgs false

def RIH (w0 : World) (l : List MV) : Prop := ∀ x ∈ l, ∀ (w : World), Below w0.heap.size w0 w → Calls Tryz.prog 13 #[x.val] w fun e w' => PF (RiP x.pv.right w) e w'
theorem blk_al2 {w : World} {t t' : TypeId} {a c : Array Value} : Blk ((w.alloc (.cells a t)).alloc (.cells c t')) w.heap.size t a := (Blk.new w t a).alloc _
set_option maxRecDepth 100000 in
set_option maxHeartbeats 1000000 in
theorem right5_ok {w0 : World} {v : MV} (hv : VAt w0 v) (hih : RIH w0 v.l) (lA : Option Addr) (nl lc : Nat) (mA : Option Addr) (mc : Nat) (hA : lA = v.lA) (hn : nl = v.l.length) (hm : nl ≤ 3001) (w : World) (hb : Below w0.heap.size w0 w) :
    Calls Tryz.prog 13 #[.agg #[.int .i64 5, .int .i64 0, .string ⟨#[]⟩, .slice lA nl lc, .slice mA 0 mc]] w fun e w' => PF (RiP (PV.rightL (MV.pvL v.l)) w) e w' := by
  have HV := Lib.hid hv
  have HIH := Lib.hid hih
  have HA := Lib.hid hA
  have HN := Lib.hid hn
  have HB0 := Lib.hid hb
  clear hv hih hA hn hb
  go_enter Tryz.func13, Tryz.ntmps13
  go_wp2
  go_loopw [4, 102] (fun y z wr => ∃ (i : Nat) (z0 : Value), z = z0 ∧ y = .int .i64 (i : Int) ∧ i ≤ nl ∧ Hid (PV.rightL (MV.pvL (v.l.take i)) = true) ∧ Hid (Blk wr w.heap.size 25 #[.int .i64 5, .int .i64 0, .string ⟨#[]⟩, .slice lA nl lc, .slice mA 0 mc]) ∧ Hid (Below w.heap.size w wr)) (fun y _ _ => nl - (intOf y).toNat)
  case atStart => exact ⟨0, _, rfl, rfl, Nat.zero_le _, Lib.hid rfl, Lib.hid (blk_al2), Lib.hid (below_al _ (below_new _ _))⟩
  case round =>
    obtain ⟨i, z0, rfl, rfl, hi, HR, HBX, HW⟩ := hrel
    obtain ⟨a0, a1, a2, a3, a4⟩ := five_cells HBX.out
    rcases (by omega : i < nl ∨ i = nl) with hlt | heq
    · have q0 : decide ((i : Int) < (nl : Int)) = true := by rw [decide_eq_true_iff]; omega
      have q0' : decide (i < nl) = true := by rw [decide_eq_true_iff]; omega
      have hil : i < v.l.length := by rw [← HN.out]; exact hlt
      have HBW : Hid (Below w0.heap.size w0 wr) := Lib.hid (HB0.out.trans (HW.out.mono HB0.out.size))
      obtain ⟨b, o, hA, hbl, hc⟩ := (HV.out.bel HBW.out).la hil
      rw [← HA.out] at hA
      obtain ⟨x, hx⟩ : ∃ x, x = v.l[i]'hil := ⟨_, rfl⟩
      rw [← hx] at hc
      have d0 : wr.cell? ⟨b, o + i * 5, none⟩ = some (.int .i64 x.k) := hc 0 (by omega)
      have d1 : wr.cell? ⟨b, o + i * 5 + 1, none⟩ = some (.int .i64 x.n) := hc 1 (by omega)
      have d2 : wr.cell? ⟨b, o + i * 5 + 2, none⟩ = some (.string x.s) := hc 2 (by omega)
      have d3 : wr.cell? ⟨b, o + i * 5 + 3, none⟩ = some (.slice x.lA x.l.length x.lc) := hc 3 (by omega)
      have d4 : wr.cell? ⟨b, o + i * 5 + 4, none⟩ = some (.slice x.mA x.m.length x.mc) := hc 4 (by omega)
      have hxm : x ∈ v.l := by rw [hx]; exact List.getElem_mem hil
      have HCL := HIH.out x hxm wr HBW.out
      unfold MV.val at HCL
      obtain ⟨r, hr⟩ : ∃ r, r = x.pv.right := ⟨_, rfl⟩
      rw [← hr] at HCL
      have HNX : Hid (PV.rightL (MV.pvL (v.l.take (i + 1))) = r) := Lib.hid (by rw [rightL_next v.l i hil, HR.out, ← hx, ← hr, Bool.true_and])
      have HCL := Lib.hid HCL
      have HLW : Hid (w.heap.size < wr.heap.size) := Lib.hid HBX.out.lt
      have hii : (i : Int) < (nl : Int) := by omega
      have hi0 : (0 : Int) ≤ (i : Int) := by omega
      subst hA
      clear hc hx hbl hxm hr
      go_wp2_with fail
      refine HCL.out.mono ?_
      rintro e w2 ⟨rfl, hb2⟩
      have HW2 : Hid (Below w.heap.size w w2) := Lib.hid (HW.out.trans (hb2.mono HW.out.size))
      have HBX2 := Lib.hid (HBX.out.below hb2 HBX.out.lt)
      clear hb2 d0 d1 d2 d3 d4 a0 a1 a2 a3 a4
      cases r with
      | false =>
        go_wp2
        go_ret
        exact ⟨by rw [rightL_no v.l (i + 1) HNX.out]; rfl, HW2.out⟩
      | true =>
        go_wp2
        go_roundw
        case rel => exact ⟨i + 1, _, rfl, by go_num, by omega, HNX, HBX2, HW2⟩
        case measure => simp [intOf]; omega
    · have q0 : decide ((i : Int) < (nl : Int)) = false := by rw [decide_eq_false_iff_not]; omega
      have q0' : decide (i < nl) = false := by rw [decide_eq_false_iff_not]; omega
      have HE : Hid (PV.rightL (MV.pvL v.l) = true) := Lib.hid (by have := HR.out; rwa [heq, HN.out, List.take_length] at this)
      clear heq
      go_wp2
      refine wp_loop_rounds 1 ?_
      rw [rounds_succ]
      go_wp2
      go_ret
      exact ⟨by rw [HE.out]; rfl, HW.out⟩
set_option maxRecDepth 100000 in
set_option maxHeartbeats 1000000 in
theorem right6_ok {w0 : World} {v : MV} (hv : VAt w0 v) (hih : RIH w0 v.m) (hz : ∀ x ∈ v.m, x.key.size ≤ 140737488351232) (lA : Option Addr) (lc : Nat) (mA : Option Addr) (nm mc : Nat) (hA : mA = v.mA) (hn : nm = v.m.length) (hm : nm ≤ 3001) (w : World) (hb : Below w0.heap.size w0 w) :
    Calls Tryz.prog 13 #[.agg #[.int .i64 6, .int .i64 0, .string ⟨#[]⟩, .slice lA 0 lc, .slice mA nm mc]] w fun e w' => PF (RiP (rightM v.m) w) e w' := by
  have HV := Lib.hid hv
  have HIH := Lib.hid hih
  have HZ := Lib.hid hz
  have HA := Lib.hid hA
  have HN := Lib.hid hn
  have HB0 := Lib.hid hb
  clear hv hih hz hA hn hb
  go_enter Tryz.func13, Tryz.ntmps13
  go_wp2
  refine wp_loop_rounds 1 ?_
  rw [rounds_succ]
  go_wp2
  go_loopw [5, 6] (fun y z wr => ∃ (i : Nat) (z0 : Value), z = z0 ∧ y = .int .i64 (i : Int) ∧ i ≤ nm ∧ Hid (rightM (v.m.take i) = true) ∧ Hid (Blk wr w.heap.size 25 #[.int .i64 6, .int .i64 0, .string ⟨#[]⟩, .slice lA 0 lc, .slice mA nm mc]) ∧ Hid (Below w.heap.size w wr)) (fun y _ _ => nm - (intOf y).toNat)
  case atStart => exact ⟨0, _, rfl, rfl, Nat.zero_le _, Lib.hid rfl, Lib.hid (blk_al2), Lib.hid (below_al _ (below_new _ _))⟩
  case round =>
    obtain ⟨i, z0, rfl, rfl, hi, HR, HBX, HW⟩ := hrel
    obtain ⟨a0, a1, a2, a3, a4⟩ := five_cells HBX.out
    rcases (by omega : i < nm ∨ i = nm) with hlt | heq
    · have q0 : decide ((i : Int) < (nm : Int)) = true := by rw [decide_eq_true_iff]; omega
      have q0' : decide (i < nm) = true := by rw [decide_eq_true_iff]; omega
      have hil : i < v.m.length := by rw [← HN.out]; exact hlt
      have HBW : Hid (Below w0.heap.size w0 wr) := Lib.hid (HB0.out.trans (HW.out.mono HB0.out.size))
      obtain ⟨b, o, hA, hbl, hc⟩ := (HV.out.bel HBW.out).ma hil
      rw [← HA.out] at hA
      obtain ⟨x, hx⟩ : ∃ x, x = v.m[i]'hil := ⟨_, rfl⟩
      rw [← hx] at hc
      have d0 : wr.cell? ⟨b, o + i * 6, none⟩ = some (.string x.key) := hc 0 (by omega)
      have hxm : x ∈ v.m := by rw [hx]; exact List.getElem_mem hil
      have hxs : x.key.size ≤ 9223372036854775807 := by have := HZ.out x hxm; omega
      have HVA := rvalid_any x.key wr hxs
      obtain ⟨rv, hrv⟩ : ∃ r, r = Lib.validD x.key.data.toList := ⟨_, rfl⟩
      rw [← hrv] at HVA
      obtain ⟨r, hr⟩ : ∃ r, r = x.pv.right := ⟨_, rfl⟩
      have HNX : Hid (rightM (v.m.take (i + 1)) = (rv && (r && !((v.m.take i).map MV.key).any (fun y => decide (y = x.key))))) := Lib.hid (by rw [rightM_next v.m i hil, HR.out, ← hx, ← hr, ← hrv, Bool.true_and])
      have HRR := Lib.hid hr
      have HX := Lib.hid hx
      have HXM := Lib.hid hxm
      have HVA := Lib.hid HVA
      have HLW : Hid (w.heap.size < wr.heap.size) := Lib.hid HBX.out.lt
      have hii : (i : Int) < (nm : Int) := by omega
      have hi0 : (0 : Int) ≤ (i : Int) := by omega
      subst hA
      clear hx hbl hxm hr hrv hxs
      have HCC := Lib.hid hc
      clear hc
      go_wp2_with fail
      refine HVA.out.mono ?_
      rintro e w2 ⟨rfl, hb2⟩
      have HW2 : Hid (Below w.heap.size w w2) := Lib.hid (HW.out.trans (hb2.mono HW.out.size))
      have HBX2 := Lib.hid (HBX.out.below hb2 HBX.out.lt)
      have HBW2 : Hid (Below w0.heap.size w0 w2) := Lib.hid (HB0.out.trans (HW2.out.mono HB0.out.size))
      clear hb2 d0 a0 a1 a2 a3 a4
      obtain ⟨a0, a1, a2, a3, a4⟩ := five_cells HBX2.out
      cases rv with
      | false =>
        go_wp2
        go_ret
        exact ⟨by rw [rightM_no v.m (i + 1) (by rw [HNX.out]; rfl)]; rfl, HW2.out⟩
      | true =>
        have HCD : Hid (∀ V, Below w0.heap.size w0 V → ∀ (k : Nat) (hk : k < v.m.length), ∀ j, j < 6 → V.cell? ⟨b, o + k * 6 + j, none⟩ = (v.m[k]'hk).pcs[j]?) := Lib.hid (fun V hV k hk j hj => by
          obtain ⟨b', o', hA', _, hc'⟩ := (HV.out.bel hV).ma hk
          rw [← HA.out] at hA'
          cases hA'
          exact hc' j hj)
        have d1 : w2.cell? ⟨b, o + i * 6 + 1, none⟩ = some (.int .i64 x.k) := by have := HCD.out w2 HBW2.out i hil 1 (by omega); rw [← HX.out] at this; exact this
        have d2 : w2.cell? ⟨b, o + i * 6 + 1 + 1, none⟩ = some (.int .i64 x.n) := by have := HCD.out w2 HBW2.out i hil 2 (by omega); rw [← HX.out] at this; exact this
        have d3 : w2.cell? ⟨b, o + i * 6 + 1 + 2, none⟩ = some (.string x.s) := by have := HCD.out w2 HBW2.out i hil 3 (by omega); rw [← HX.out] at this; exact this
        have d4 : w2.cell? ⟨b, o + i * 6 + 1 + 3, none⟩ = some (.slice x.lA x.l.length x.lc) := by have := HCD.out w2 HBW2.out i hil 4 (by omega); rw [← HX.out] at this; exact this
        have d5 : w2.cell? ⟨b, o + i * 6 + 1 + 4, none⟩ = some (.slice x.mA x.m.length x.mc) := by have := HCD.out w2 HBW2.out i hil 5 (by omega); rw [← HX.out] at this; exact this
        have HCL := HIH.out x HXM.out w2 HBW2.out
        unfold MV.val at HCL
        rw [← HRR.out] at HCL
        have HCL := Lib.hid HCL
        go_wp2_with fail
        refine HCL.out.mono ?_
        rintro e w3 ⟨rfl, hb3⟩
        have HW3 : Hid (Below w.heap.size w w3) := Lib.hid (HW2.out.trans (hb3.mono HW2.out.size))
        have HBX3 := Lib.hid (HBX2.out.below hb3 HBX2.out.lt)
        clear hb3 d1 d2 d3 d4 d5 a0 a1 a2 a3 a4
        cases r with
        | false =>
          go_wp2
          go_ret
          exact ⟨by rw [rightM_no v.m (i + 1) (by rw [HNX.out]; rfl)]; rfl, HW3.out⟩
        | true =>
          go_wp2
          go_loopw [6] (fun u wr => ∃ (k : Nat), u = .int .i64 (k : Int) ∧ k ≤ i ∧ Hid (((v.m.take k).map MV.key).any (fun y => decide (y = x.key)) = false) ∧ Hid (Blk wr w.heap.size 25 #[.int .i64 6, .int .i64 0, .string ⟨#[]⟩, .slice lA 0 lc, .slice (some ⟨b, o, none⟩) nm mc]) ∧ Hid (Below w.heap.size w wr)) (fun u _ => i - (intOf u).toNat)
          case atStart => exact ⟨0, rfl, Nat.zero_le _, Lib.hid rfl, HBX3, HW3⟩
          case round =>
            obtain ⟨k, rfl, hk, HS, HBX4, HW4⟩ := hrel
            obtain ⟨a0, a1, a2, a3, a4⟩ := five_cells HBX4.out
            rcases (by omega : k < i ∨ k = i) with hki | hke
            · have q2 : decide ((k : Int) < (i : Int)) = true := by rw [decide_eq_true_iff]; omega
              have q2' : decide (k < i) = true := by rw [decide_eq_true_iff]; omega
              have hkl : k < v.m.length := by omega
              have HBW4 : Hid (Below w0.heap.size w0 wr) := Lib.hid (HB0.out.trans (HW4.out.mono HB0.out.size))
              obtain ⟨y, hy⟩ : ∃ y, y = v.m[k]'hkl := ⟨_, rfl⟩
              have d0 : wr.cell? ⟨b, o + k * 6, none⟩ = some (.string y.key) := by have := HCD.out wr HBW4.out k hkl 0 (by omega); rw [← hy] at this; exact this
              have e0 : wr.cell? ⟨b, o + i * 6, none⟩ = some (.string x.key) := by have := HCD.out wr HBW4.out i hil 0 (by omega); rw [← HX.out] at this; exact this
              have HYN : Hid (((v.m.take (k + 1)).map MV.key).any (fun y => decide (y = x.key)) = decide (y.key = x.key)) := Lib.hid (by
                rw [List.take_succ_eq_append_getElem hkl, ← hy, List.map_append, List.any_append, HS.out, Bool.false_or]
                simp)
              have hk1 : (k : Int) < (nm : Int) := by omega
              have hk0 : (0 : Int) ≤ (k : Int) := by omega
              clear hy
              obtain ⟨yk, hyk⟩ : ∃ yk, yk = y.key := ⟨_, rfl⟩
              obtain ⟨xk, hxk⟩ : ∃ xk, xk = x.key := ⟨_, rfl⟩
              rw [← hyk] at d0 HYN
              rw [← hxk] at e0 HYN
              have HXK := Lib.hid hxk
              clear hyk hxk
              rcases Classical.em (yk = xk) with heq2 | hne2
              · have HNO : Hid (rightM (v.m.take (i + 1)) = false) := Lib.hid (by
                  rw [HNX.out]
                  have h2 : ((v.m.take i).map MV.key).any (fun y => decide (y = x.key)) = true := by
                    rw [List.any_eq_true]
                    refine ⟨yk, ?_, by rw [decide_eq_true_iff, heq2]; exact HXK.out⟩
                    have h3 := HYN.out
                    rw [decide_eq_true heq2, List.any_eq_true] at h3
                    obtain ⟨z, hz1, hz2⟩ := h3
                    rw [decide_eq_true_iff] at hz2
                    rw [heq2, ← hz2]
                    rw [List.mem_map] at hz1 ⊢
                    obtain ⟨u, hu, rfl⟩ := hz1
                    exact ⟨u, (List.take_subset_take_left _ (by omega : k + 1 ≤ i)) hu, rfl⟩
                  rw [h2]; rfl)
                subst heq2
                go_wp2
                go_region
                go_wp2
                go_ret
                exact ⟨by rw [rightM_no v.m (i + 1) HNO.out]; rfl, dnU HW4.out _⟩
              · have HN2 : Hid (decide (yk = xk) = false) := Lib.hid (decide_eq_false hne2)
                have hq1 := nm_beq yk xk
                rw [decide_eq_false hne2] at hq1
                have hq2 : ¬ yk.toList = xk.toList := fun e => hne2 (toList_injV e)
                clear hne2
                go_wp2
                go_region
                go_wp2
                go_roundw
                case rel => exact ⟨k + 1, by go_num, by omega, Lib.hid (by rw [← HXK.out, HYN.out, HN2.out]), Lib.hid (HBX4.out.drewN _), Lib.hid (dnU HW4.out _)⟩
                case measure => simp [intOf]; omega
            · have q2 : decide ((k : Int) < (i : Int)) = false := by rw [decide_eq_false_iff_not]; omega
              have q2' : decide (k < i) = false := by rw [decide_eq_false_iff_not]; omega
              have HQ2 : Hid (rightM (v.m.take (i + 1)) = true) := Lib.hid (by rw [HNX.out]; have := HS.out; rw [hke] at this; rw [this]; rfl)
              clear hke
              go_wp2
              go_roundw
              case rel => exact ⟨i + 1, _, rfl, by go_num, by omega, HQ2, HBX4, HW4⟩
              case measure => simp [intOf]; omega
    · have q0 : decide ((i : Int) < (nm : Int)) = false := by rw [decide_eq_false_iff_not]; omega
      have q0' : decide (i < nm) = false := by rw [decide_eq_false_iff_not]; omega
      have HE : Hid (rightM v.m = true) := Lib.hid (by have := HR.out; rwa [heq, HN.out, List.take_length] at this)
      clear heq
      go_wp2
      go_ret
      exact ⟨by rw [HE.out]; rfl, HW.out⟩
end Go.Proofs.YteofdpogjnojnaaGreatDoor

namespace Go.Proofs.YteofdpogjnojnaaGreatDoor
open Go.RowKit
set_option linter.unusedVariables false
set_option linter.unusedSimpArgs false

theorem rright_any {w0 : World} {v : MV} (h : VAt w0 v) : OkP v.pv → ∀ (w : World), Below w0.heap.size w0 w → Calls Tryz.prog 13 #[v.val] w fun e w' => PF (RiP v.pv.right w) e w' := by
  have hgo : ∀ (v : MV), VAt w0 v → OkP v.pv → (∀ x ∈ v.l ++ v.m, ∀ (w : World), Below w0.heap.size w0 w → Calls Tryz.prog 13 #[x.val] w fun e w' => PF (RiP x.pv.right w) e w') → ∀ (w : World), Below w0.heap.size w0 w → Calls Tryz.prog 13 #[v.val] w fun e w' => PF (RiP v.pv.right w) e w' := by
    intro v hv hok ih w hb
    have hz : v.s.size ≤ 9223372036854775807 := by have := hok.s; omega
    rw [right_eq]
    obtain ⟨key, k, n, s, lA, lc, l, mA, mc, m⟩ := v
    unfold MV.val
    simp only [MV.k, MV.n, MV.s, MV.lA, MV.lc, MV.l, MV.mA, MV.mc, MV.m] at hz ih ⊢
    rcases (by omega : k = 1 ∨ k = 2 ∨ k = 3 ∨ k = 4 ∨ k = 5 ∨ k = 6 ∨ (k < 1 ∨ 6 < k)) with rfl | rfl | rfl | rfl | rfl | rfl | hk
    · skip
      by_cases hn : n = 0
      rotate_left
      · skip
        rw [show (ownF _ _ _ _ _ && (keysB _ && (PV.rightL _ && PV.rightL _))) = false from by simp [ownF, hn]]
        exact right1_n n s lA l.length lc mA m.length mc w hn
      subst hn
      by_cases hs : s.size = 0
      rotate_left
      · skip
        rw [show (ownF _ _ _ _ _ && (keysB _ && (PV.rightL _ && PV.rightL _))) = false from by simp [ownF, hs]]
        exact right1_s s lA l.length lc mA m.length mc w hs
      obtain rfl := sz_nil hs
      clear hs
      by_cases hl : l.length = 0
      rotate_left
      · skip
        rw [show (ownF _ _ _ _ _ && (keysB _ && (PV.rightL _ && PV.rightL _))) = false from by simp [ownF, hl]]
        exact right1_l lA l.length lc mA m.length mc w hl
      obtain rfl := List.eq_nil_of_length_eq_zero hl
      clear hl
      by_cases hm : m.length = 0
      rotate_left
      · skip
        rw [show (ownF _ _ _ _ _ && (keysB _ && (PV.rightL _ && PV.rightL _))) = false from by simp [ownF, hm]]
        exact right1_m lA lc mA m.length mc w hm
      obtain rfl := List.eq_nil_of_length_eq_zero hm
      clear hm
      rw [show (ownF 1 0 ⟨#[]⟩ ([] : List MV).length ([] : List MV).length && (keysB (([] : List MV).map MV.key) && (PV.rightL (MV.pvL []) && PV.rightL (MV.pvL [])))) = true from by rfl]
      exact right1_ok lA lc mA mc w 
    · skip
      by_cases hn : n = 0 ∨ n = 1
      rotate_left
      · skip
        rw [show (ownF _ _ _ _ _ && (keysB _ && (PV.rightL _ && PV.rightL _))) = false from by simp [ownF, hn]]
        exact right2_n n s lA l.length lc mA m.length mc w hn
      by_cases hs : s.size = 0
      rotate_left
      · skip
        rw [show (ownF _ _ _ _ _ && (keysB _ && (PV.rightL _ && PV.rightL _))) = false from by simp [ownF, hs]]
        exact right2_s n s lA l.length lc mA m.length mc w hn hs
      obtain rfl := sz_nil hs
      clear hs
      by_cases hl : l.length = 0
      rotate_left
      · skip
        rw [show (ownF _ _ _ _ _ && (keysB _ && (PV.rightL _ && PV.rightL _))) = false from by simp [ownF, hl]]
        exact right2_l n lA l.length lc mA m.length mc w hn hl
      obtain rfl := List.eq_nil_of_length_eq_zero hl
      clear hl
      by_cases hm : m.length = 0
      rotate_left
      · skip
        rw [show (ownF _ _ _ _ _ && (keysB _ && (PV.rightL _ && PV.rightL _))) = false from by simp [ownF, hm]]
        exact right2_m n lA lc mA m.length mc w hn hm
      obtain rfl := List.eq_nil_of_length_eq_zero hm
      clear hm
      rw [show (ownF 2 n ⟨#[]⟩ ([] : List MV).length ([] : List MV).length && (keysB (([] : List MV).map MV.key) && (PV.rightL (MV.pvL []) && PV.rightL (MV.pvL [])))) = true from by rcases hn with rfl | rfl <;> rfl]
      exact right2_ok n lA lc mA mc w hn 
    · skip
      by_cases hn : -9007199254740991 ≤ n ∧ n ≤ 9007199254740991
      rotate_left
      · skip
        rcases (by omega : n < -9007199254740991 ∨ 9007199254740991 < n) with h3 | h3
        · skip
          rw [show (ownF _ _ _ _ _ && (keysB _ && (PV.rightL _ && PV.rightL _))) = false from by simp only [ownF]; simp [hn]]
          exact right3_lo n s lA l.length lc mA m.length mc w h3
        · skip
          rw [show (ownF _ _ _ _ _ && (keysB _ && (PV.rightL _ && PV.rightL _))) = false from by simp only [ownF]; simp [hn]]
          exact right3_hi n s lA l.length lc mA m.length mc w h3
      by_cases hs : s.size = 0
      rotate_left
      · skip
        rw [show (ownF _ _ _ _ _ && (keysB _ && (PV.rightL _ && PV.rightL _))) = false from by simp [ownF, hs]]
        exact right3_s n s lA l.length lc mA m.length mc w hn hs
      obtain rfl := sz_nil hs
      clear hs
      by_cases hl : l.length = 0
      rotate_left
      · skip
        rw [show (ownF _ _ _ _ _ && (keysB _ && (PV.rightL _ && PV.rightL _))) = false from by simp [ownF, hl]]
        exact right3_l n lA l.length lc mA m.length mc w hn hl
      obtain rfl := List.eq_nil_of_length_eq_zero hl
      clear hl
      by_cases hm : m.length = 0
      rotate_left
      · skip
        rw [show (ownF _ _ _ _ _ && (keysB _ && (PV.rightL _ && PV.rightL _))) = false from by simp [ownF, hm]]
        exact right3_m n lA lc mA m.length mc w hn hm
      obtain rfl := List.eq_nil_of_length_eq_zero hm
      clear hm
      rw [show (ownF 3 n ⟨#[]⟩ ([] : List MV).length ([] : List MV).length && (keysB (([] : List MV).map MV.key) && (PV.rightL (MV.pvL []) && PV.rightL (MV.pvL [])))) = true from by unfold ownF keysB; rw [if_neg (by omega), if_neg (by omega), if_pos rfl, decide_eq_true hn]; rfl]
      exact right3_ok n lA lc mA mc w hn 
    · skip
      cases hvd : Lib.validD s.data.toList
      · skip
        rw [show (ownF _ _ _ _ _ && (keysB _ && (PV.rightL _ && PV.rightL _))) = false from by simp [ownF, hvd]]
        exact right4_v n s lA l.length lc mA m.length mc w hz hvd
      by_cases hn : n = 0
      rotate_left
      · skip
        rw [show (ownF _ _ _ _ _ && (keysB _ && (PV.rightL _ && PV.rightL _))) = false from by simp [ownF, hn]]
        exact right4_n n s lA l.length lc mA m.length mc w hz hn hvd
      subst hn
      by_cases hl : l.length = 0
      rotate_left
      · skip
        rw [show (ownF _ _ _ _ _ && (keysB _ && (PV.rightL _ && PV.rightL _))) = false from by simp [ownF, hl]]
        exact right4_l s lA l.length lc mA m.length mc w hz hl hvd
      obtain rfl := List.eq_nil_of_length_eq_zero hl
      clear hl
      by_cases hm : m.length = 0
      rotate_left
      · skip
        rw [show (ownF _ _ _ _ _ && (keysB _ && (PV.rightL _ && PV.rightL _))) = false from by simp [ownF, hm]]
        exact right4_m s lA lc mA m.length mc w hz hm hvd
      obtain rfl := List.eq_nil_of_length_eq_zero hm
      clear hm
      rw [show (ownF 4 0 s ([] : List MV).length ([] : List MV).length && (keysB (([] : List MV).map MV.key) && (PV.rightL (MV.pvL []) && PV.rightL (MV.pvL [])))) = true from by unfold ownF keysB; rw [if_neg (by omega), if_neg (by omega), if_neg (by omega), if_pos rfl, hvd]; rfl]
      exact right4_ok s lA lc mA mc w hz  hvd
    · skip
      by_cases hn : n = 0
      rotate_left
      · skip
        rw [show (ownF _ _ _ _ _ && (keysB _ && (PV.rightL _ && PV.rightL _))) = false from by simp [ownF, hn]]
        exact right5_n n s lA l.length lc mA m.length mc w hn
      subst hn
      by_cases hs : s.size = 0
      rotate_left
      · skip
        rw [show (ownF _ _ _ _ _ && (keysB _ && (PV.rightL _ && PV.rightL _))) = false from by simp [ownF, hs]]
        exact right5_s s lA l.length lc mA m.length mc w hs
      obtain rfl := sz_nil hs
      clear hs
      by_cases hm : m.length = 0
      rotate_left
      · skip
        rw [show (ownF _ _ _ _ _ && (keysB _ && (PV.rightL _ && PV.rightL _))) = false from by simp [ownF, hm]]
        exact right5_m lA l.length lc mA m.length mc w hm
      obtain rfl := List.eq_nil_of_length_eq_zero hm
      clear hm
      rw [show (ownF 5 0 ⟨#[]⟩ l.length ([] : List MV).length && (keysB (([] : List MV).map MV.key) && (PV.rightL (MV.pvL l) && PV.rightL (MV.pvL [])))) = PV.rightL (MV.pvL l) from by unfold ownF keysB; rw [if_neg (by omega), if_neg (by omega), if_neg (by omega), if_neg (by omega), if_pos rfl, show decide ((⟨#[]⟩ : ByteArray).size = 0) = true from rfl]; simp [MV.pvL, PV.rightL]]
      exact right5_ok hv (fun x hx => ih x (List.mem_append_left _ hx)) lA l.length lc mA mc rfl rfl (Nat.le_trans (Nat.le_add_right _ _) hok.len) w hb
    · skip
      by_cases hn : n = 0
      rotate_left
      · skip
        rw [show (ownF _ _ _ _ _ && (keysB _ && (PV.rightL _ && PV.rightL _))) = false from by simp [ownF, hn]]
        exact right6_n n s lA l.length lc mA m.length mc w hn
      subst hn
      by_cases hs : s.size = 0
      rotate_left
      · skip
        rw [show (ownF _ _ _ _ _ && (keysB _ && (PV.rightL _ && PV.rightL _))) = false from by simp [ownF, hs]]
        exact right6_s s lA l.length lc mA m.length mc w hs
      obtain rfl := sz_nil hs
      clear hs
      by_cases hl : l.length = 0
      rotate_left
      · skip
        rw [show (ownF _ _ _ _ _ && (keysB _ && (PV.rightL _ && PV.rightL _))) = false from by simp [ownF, hl]]
        exact right6_l lA l.length lc mA m.length mc w hl
      obtain rfl := List.eq_nil_of_length_eq_zero hl
      clear hl
      rw [show (ownF 6 0 ⟨#[]⟩ ([] : List MV).length m.length && (keysB (m.map MV.key) && (PV.rightL (MV.pvL []) && PV.rightL (MV.pvL m)))) = rightM m from by unfold ownF rightM; rw [if_neg (by omega), if_neg (by omega), if_neg (by omega), if_neg (by omega), if_neg (by omega), if_pos rfl, show decide ((⟨#[]⟩ : ByteArray).size = 0) = true from rfl]; simp [MV.pvL, PV.rightL]]
      exact right6_ok hv (fun x hx => ih x (List.mem_append_right _ hx)) hok.key lA lc mA m.length mc rfl rfl (Nat.le_trans (Nat.le_add_left _ _) hok.len) w hb
    · skip
      rw [show (ownF _ _ _ _ _ && (keysB _ && (PV.rightL _ && PV.rightL _))) = false from by unfold ownF; rw [if_neg (by omega), if_neg (by omega), if_neg (by omega), if_neg (by omega), if_neg (by omega), if_neg (by omega)]; rfl]
      exact right0 k n s lA l.length lc mA m.length mc w hk
  induction h with
  | mk a b c d e f g h i j ih1 ih2 => exact fun hok => hgo _ (.mk a b c d e f g h i j) hok (fun x hx => (List.mem_append.1 hx).elim (fun h => ih1 x h (hok.l x h)) (fun h => ih2 x h (hok.m x h)))
end Go.Proofs.YteofdpogjnojnaaGreatDoor
