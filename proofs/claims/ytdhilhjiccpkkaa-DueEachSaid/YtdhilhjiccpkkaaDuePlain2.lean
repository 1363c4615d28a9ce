/-
  due, plainly: lists in the order, and the heap beside.
-/
import Derived.Test.YtdhilhjiccpkkaaDuePlain
namespace Go.Proofs.Ytdhilhjiccpkkaa
set_option linter.unusedVariables false
set_option linter.unusedSimpArgs false

def SortedD (X : List Du) : Prop := X.Pairwise (fun a b => ltD a b = true)
def dropX (X : List Du) (s : ByteArray) : List Du := X.filter (fun d => !decide (d.1 = s))
def insX (X : List Du) (d : Du) : List Du := X.takeWhile (fun a => ltD a d) ++ d :: X.dropWhile (fun a => ltD a d)
theorem ins_perm (X : List Du) (d : Du) : (insX X d).Perm (d :: X) := by
  unfold insX
  refine List.perm_middle.trans (List.Perm.cons d ?_)
  rw [List.takeWhile_append_dropWhile]
theorem sorted_drop {X : List Du} (h : SortedD X) (s : ByteArray) : SortedD (dropX X s) := List.Pairwise.filter _ h
theorem ltD_of_not {a d : Du} (h : ltD a d = false) (hne : a ≠ d) : ltD d a = true := by
  cases e : ltD d a with
  | true => rfl
  | false => exact absurd (ltD_tri h e) hne
theorem sorted_ins {X : List Du} (h : SortedD X) {d : Du} (hd : ∀ a ∈ X, a ≠ d) : SortedD (insX X d) := by
  induction X with
  | nil => simp [insX, SortedD]
  | cons a X ih =>
    have h1 := List.pairwise_cons.1 h
    cases e : ltD a d with
    | true =>
      have e2 : insX (a :: X) d = a :: insX X d := by simp [insX, List.takeWhile_cons, List.dropWhile_cons, e]
      rw [e2]
      refine List.pairwise_cons.2 ⟨fun b hb => ?_, ih h1.2 (fun b hb => hd b (by simp [hb]))⟩
      rcases List.mem_cons.1 ((ins_perm X d).mem_iff.1 hb) with rfl | hb
      · exact e
      · exact h1.1 b hb
    | false =>
      have e2 : insX (a :: X) d = d :: a :: X := by simp [insX, List.takeWhile_cons, List.dropWhile_cons, e]
      rw [e2]
      have h3 := ltD_of_not e (hd a (by simp))
      refine List.pairwise_cons.2 ⟨fun b hb => ?_, h⟩
      rcases List.mem_cons.1 hb with rfl | hb
      · exact h3
      · exact ltD_trans h3 (h1.1 b hb)
theorem sorted_uniq {A B : List Du} (hA : A.Pairwise (fun a b => ltD b a = false)) (hB : SortedD B) (hp : A.Perm B) : A = B := by
  refine List.Perm.eq_of_pairwise (le := fun a b => ltD b a = false) (fun a b _ _ h1 h2 => (ltD_tri h1 h2).symm) hA ?_ hp
  exact hB.imp (fun h => ordD.asym _ _ h)
theorem erase_filter {l : List Du} (hn : (Nm l).Nodup) {i : Nat} (hi : i < l.length) {s : ByteArray} (hs : (gd l i).1 = s) : l.eraseIdx i = dropX l s := by
  induction l generalizing i with
  | nil => simp at hi
  | cons a l ih =>
    have hn' := List.nodup_cons.1 (show (a.1 :: Nm l).Nodup from hn)
    cases i with
    | zero =>
      have ha : a.1 = s := hs
      unfold dropX
      rw [List.filter_cons]
      simp only [ha, decide_true, Bool.not_true, Bool.false_eq_true, if_false, List.eraseIdx_cons_zero]
      refine (List.filter_eq_self.2 fun d hd => ?_).symm
      simp only [Bool.not_eq_true', decide_eq_false_iff_not]
      intro e
      exact hn'.1 (by rw [ha, ← e]; exact List.mem_map.2 ⟨d, hd, rfl⟩)
    | succ i =>
      have hi' : i < l.length := by simpa using hi
      have hs' : (gd l i).1 = s := by rw [← hs]; simp [gd]
      have hne : a.1 ≠ s := fun e => hn'.1 (by rw [e, ← hs', gd_at hi']; exact List.mem_map.2 ⟨_, List.getElem_mem hi', rfl⟩)
      rw [List.eraseIdx_cons_succ, ih hn'.2 hi' hs']
      unfold dropX
      rw [List.filter_cons]
      simp [hne]
theorem drop_perm {l X : List Du} (h : l.Perm X) (s : ByteArray) : (dropX l s).Perm (dropX X s) := h.filter _
theorem drop_none {X : List Du} {s : ByteArray} (h : s ∉ Nm X) : dropX X s = X := by
  refine List.filter_eq_self.2 fun d hd => ?_
  simp only [Bool.not_eq_true', decide_eq_false_iff_not]
  intro e
  exact h (by rw [← e]; exact List.mem_map.2 ⟨d, hd, rfl⟩)
theorem drop_not_mem {X : List Du} {s : ByteArray} : s ∉ Nm (dropX X s) := by
  intro h
  obtain ⟨d, hd, e⟩ := List.mem_map.1 h
  have := (List.mem_filter.1 hd).2
  simp [e] at this
theorem set_perm' {l : List Du} {i : Nat} (hi : i < l.length) (d : Du) : (l.set i d).Perm (d :: l.eraseIdx i) := by
  induction l generalizing i with
  | nil => simp at hi
  | cons a l ih =>
    cases i with
    | zero => exact List.Perm.refl _
    | succ i =>
      have := ih (i := i) (by simpa using hi)
      simp only [List.set_cons_succ, List.eraseIdx_cons_succ]
      exact (this.cons a).trans (List.Perm.swap _ _ _)
/-- a heap beside the list in the order -/
structure QP (l X : List Du) : Prop where
  perm : l.Perm X
  srt : SortedD X
  nd : (Nm X).Nodup
  heap : IsHeap ltD (gd l) l.length
theorem QP.len {l X : List Du} (h : QP l X) : l.length = X.length := h.perm.length_eq
theorem QP.ndl {l X : List Du} (h : QP l X) : (Nm l).Nodup := nm_nodup h.perm h.nd
theorem QP.nil : QP [] [] := ⟨List.Perm.refl _, List.Pairwise.nil, by simp [Nm], fun k _ hk => by simp at hk⟩
theorem nd_ins {X : List Du} (hn : (Nm X).Nodup) {d : Du} (hd : d.1 ∉ Nm X) : (Nm (insX X d)).Nodup := nm_nodup (ins_perm X d) (List.nodup_cons.2 ⟨hd, hn⟩)
theorem nm_of_mem {X : List Du} {d : Du} (h : d ∈ X) : d.1 ∈ Nm X := List.mem_map.2 ⟨d, h, rfl⟩
/-- a name that was not there -/
theorem QP.push {l X l' : List Du} (h : QP l X) {d : Du} (hd : d.1 ∉ Nm X) (hp : l'.Perm (l ++ [d])) (hh : IsHeap ltD (gd l') l'.length) : QP l' (insX X d) := by
  refine ⟨?_, sorted_ins h.srt (fun a ha e => hd (by rw [← e]; exact nm_of_mem ha)), nd_ins h.nd hd, hh⟩
  exact hp.trans ((List.perm_append_singleton _ _).trans ((h.perm.cons d).trans (ins_perm X d).symm))
theorem nd_drop {X : List Du} (hn : (Nm X).Nodup) (s : ByteArray) : (Nm (dropX X s)).Nodup := by
  unfold Nm dropX
  exact List.Nodup.sublist ((List.filter_sublist).map _) hn
/-- another moment of a name that is there -/
theorem QP.fix {l X l' : List Du} (h : QP l X) {i : Nat} (hi : i < l.length) {s : ByteArray} (hs : (gd l i).1 = s) (a : Int) (hp : l'.Perm (l.set i (s, a))) (hh : IsHeap ltD (gd l') l'.length) : QP l' (insX (dropX X s) (s, a)) := by
  refine ⟨?_, sorted_ins (sorted_drop h.srt s) (fun b hb e => drop_not_mem (X := X) (s := s) (by have := nm_of_mem hb; rw [e] at this; exact this)), nd_ins (nd_drop h.nd s) drop_not_mem, hh⟩
  have h1 := set_perm' hi ((s, a) : Du)
  rw [erase_filter h.ndl hi hs] at h1
  exact hp.trans (h1.trans (((drop_perm h.perm s).cons _).trans (ins_perm _ _).symm))
theorem QP.drop {l X l' : List Du} (h : QP l X) {i : Nat} (hi : i < l.length) {s : ByteArray} (hs : (gd l i).1 = s) (hp : l'.Perm (l.eraseIdx i)) (hh : IsHeap ltD (gd l') l'.length) : QP l' (dropX X s) := by
  refine ⟨?_, sorted_drop h.srt s, nd_drop h.nd s, hh⟩
  rw [erase_filter h.ndl hi hs] at hp
  exact hp.trans (drop_perm h.perm s)
theorem QP.first {l X : List Du} (h : QP l X) (hn : 0 < X.length) : gd l 0 = gd X 0 := by
  have hl := h.len
  have h1 : gd l 0 ∈ X := h.perm.mem_iff.1 (by rw [gd_at (by omega)]; exact List.getElem_mem _)
  have h2 : gd X 0 ∈ l := h.perm.mem_iff.2 (by rw [gd_at hn]; exact List.getElem_mem _)
  refine ltD_tri ?_ ?_
  · obtain ⟨X0, X1, rfl⟩ : ∃ a b, X = a :: b := by
      cases X with
      | nil => simp at hn
      | cons a b => exact ⟨a, b, rfl⟩
    show ltD (gd l 0) X0 = false
    rcases List.mem_cons.1 h1 with e | h1
    · rw [e]; exact ltD_irrefl _
    · exact ordD.asym _ _ ((List.pairwise_cons.1 h.srt).1 _ h1)
  · obtain ⟨k, hk, e⟩ := List.getElem_of_mem h2
    rw [← e, ← gd_at hk]
    exact heap_least ordD h.heap ltD_irrefl k hk
theorem QP.tail {l X l' : List Du} (h : QP l X) (hn : 0 < X.length) (hp : l'.Perm (l.eraseIdx 0)) (hh : IsHeap ltD (gd l') l'.length) : QP l' X.tail := by
  have hl := h.len
  have hf := h.first hn
  have h1 := h.drop (i := 0) (by omega) rfl hp hh
  have : dropX X (gd l 0).1 = X.tail := by
    rw [hf, ← erase_filter h.nd hn rfl]
    cases X with
    | nil => simp at hn
    | cons a b => rfl
  rw [this] at h1
  exact h1
/-- what is told of a name -/
def getX (X : List Du) (s : ByteArray) : Option Int := (idxL X s).map fun i => (gd X i).2
theorem QP.get {l X : List Du} (h : QP l X) (s : ByteArray) : getX l s = getX X s := by
  unfold getX
  have hmem : ∀ d : Du, d ∈ l ↔ d ∈ X := fun d => h.perm.mem_iff
  cases e1 : idxL l s with
  | none =>
    have h1 : s ∉ Nm l := idx_none.1 e1
    have h2 : idxL X s = none := idx_none.2 (fun x => h1 ((nm_perm h.perm).mem_iff.2 x))
    rw [h2]; rfl
  | some i =>
    obtain ⟨hi, hs⟩ := (idx_iff h.ndl).1 e1
    cases e2 : idxL X s with
    | none =>
      have h1 : s ∉ Nm X := idx_none.1 e2
      exact absurd ((nm_perm h.perm).mem_iff.1 (by rw [← hs, gd_at hi]; exact nm_of_mem (List.getElem_mem hi))) h1
    | some j =>
      obtain ⟨hj, ht⟩ := (idx_iff h.nd).1 e2
      have h3 : gd l i ∈ X := (hmem _).1 (by rw [gd_at hi]; exact List.getElem_mem hi)
      obtain ⟨k, hk, e⟩ := List.getElem_of_mem h3
      rw [← gd_at hk] at e
      have : k = j := idx_inj h.nd hk hj (by rw [e, hs, ht])
      subst this
      simp [e]
/-- what a call sets -/
def setX (X : List Du) (s : ByteArray) (a : Int) : List Du := insX (dropX X s) (s, a)
def okSet (s : ByteArray) (a : Int) : Bool := decide (1 ≤ s.size) && decide (s.size ≤ 64) && decide (0 ≤ a) && decide (a ≤ 253402300799)
def setE (X : List Du) (s : ByteArray) (a : Int) : Int := if okSet s a = false then 1 else if idxL X s = none ∧ 256 ≤ X.length then 2 else 0
def setR (X : List Du) (s : ByteArray) (a : Int) : List Du := if okSet s a = false then X else if idxL X s = none ∧ 256 ≤ X.length then X else setX X s a
def dropE (X : List Du) (s : ByteArray) : Int := if idxL X s = none then 4 else 0
/-- what is due up to a moment -/
def untilL (X : List Du) (t : Int) : List Du := X.takeWhile (fun d => decide (d.2 ≤ t))
def untilR (X : List Du) (t : Int) : List Du := X.dropWhile (fun d => decide (d.2 ≤ t))
end Go.Proofs.Ytdhilhjiccpkkaa
