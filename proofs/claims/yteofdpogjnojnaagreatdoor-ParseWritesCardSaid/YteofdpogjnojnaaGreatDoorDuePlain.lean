/-
  due, plainly: the order of names, what one change does to a heap of them, and what a list in the order says.
-/
import Derived.Test.YteofdpogjnojnaaGreatDoorHeapPlain
import Derived.Lib.Strings
namespace Go.Proofs.YteofdpogjnojnaaGreatDoor
set_option linter.unusedVariables false
set_option linter.unusedSimpArgs false

abbrev Du := ByteArray × Int
def du0 : Du := (⟨#[]⟩, 0)
def bl (a b : ByteArray) : Bool := Op.bytesLess a.toList b.toList
def ltD (a b : Du) : Bool := decide (a.2 < b.2) || (decide (a.2 = b.2) && bl a.1 b.1)
theorem bytesLess_irrefl : ∀ l : List UInt8, Op.bytesLess l l = false
  | [] => rfl
  | a :: l => by rw [Op.bytesLess, bytesLess_irrefl l]; simp
theorem bytesLess_asym : ∀ l m : List UInt8, Op.bytesLess l m = true → Op.bytesLess m l = false
  | [], [], _ => rfl
  | [], _ :: _, _ => by rw [Op.bytesLess]
  | _ :: _, [], h => by rw [Op.bytesLess] at h; cases h
  | a :: l, b :: m, h => by
    rw [Op.bytesLess] at h ⊢
    simp only [Bool.or_eq_true, Bool.and_eq_true, decide_eq_true_eq, beq_iff_eq, Bool.or_eq_false_iff, Bool.and_eq_false_iff, decide_eq_false_iff_not, beq_eq_false_iff_ne, UInt8.lt_iff_toNat_lt] at h ⊢
    rcases h with h | ⟨rfl, h⟩
    · exact ⟨by omega, .inl (fun e => by subst e; omega)⟩
    · exact ⟨by omega, .inr (bytesLess_asym l m h)⟩
theorem bytesLess_ntr : ∀ l m n : List UInt8, Op.bytesLess l m = false → Op.bytesLess m n = false → Op.bytesLess l n = false
  | _, _, [], _, _ => by rw [Op.bytesLess]
  | [], [], _ :: _, _, h => by rw [Op.bytesLess] at h; cases h
  | [], _ :: _, _ :: _, h, _ => by rw [Op.bytesLess] at h; cases h
  | _ :: _, [], _ :: _, _, h => by rw [Op.bytesLess] at h; cases h
  | a :: l, b :: m, c :: n, h1, h2 => by
    rw [Op.bytesLess] at h1 h2 ⊢
    simp only [Bool.or_eq_false_iff, Bool.and_eq_false_iff, decide_eq_false_iff_not, beq_eq_false_iff_ne, UInt8.lt_iff_toNat_lt] at h1 h2 ⊢
    obtain ⟨h1, h3⟩ := h1
    obtain ⟨h2, h4⟩ := h2
    refine ⟨by omega, ?_⟩
    by_cases e : a = c
    · right
      have e1 : a = b := UInt8.toNat_inj.1 (by subst e; omega)
      have e2 : b = c := by rw [← e1]; exact e
      exact bytesLess_ntr l m n (h3.resolve_left (fun x => x e1)) (h4.resolve_left (fun x => x e2))
    · exact .inl e
theorem bytesLess_tri : ∀ l m : List UInt8, Op.bytesLess l m = false → Op.bytesLess m l = false → l = m
  | [], [], _, _ => rfl
  | [], _ :: _, h, _ => by rw [Op.bytesLess] at h; cases h
  | _ :: _, [], _, h => by rw [Op.bytesLess] at h; cases h
  | a :: l, b :: m, h1, h2 => by
    rw [Op.bytesLess] at h1 h2
    simp only [Bool.or_eq_false_iff, Bool.and_eq_false_iff, decide_eq_false_iff_not, beq_eq_false_iff_ne, UInt8.lt_iff_toNat_lt] at h1 h2
    obtain ⟨h1, h3⟩ := h1
    obtain ⟨h2, h4⟩ := h2
    have e : a = b := UInt8.toNat_inj.1 (by omega)
    subst e
    rw [bytesLess_tri l m (h3.resolve_left (fun x => x rfl)) (h4.resolve_left (fun x => x rfl))]
theorem toList_inj {a b : ByteArray} (h : a.toList = b.toList) : a = b := by
  rw [Lib.toList_data, Lib.toList_data] at h
  obtain ⟨a⟩ := a
  obtain ⟨b⟩ := b
  congr 1
  exact Array.toList_inj.1 h
theorem beq_toList (a b : ByteArray) : (a.toList == b.toList) = decide (a = b) := by
  by_cases h : a = b
  · subst h; simp
  · rw [decide_eq_false h, beq_eq_false_iff_ne]
    exact fun e => h (toList_inj e)
theorem ltD_irrefl (a : Du) : ltD a a = false := by unfold ltD bl; rw [bytesLess_irrefl]; simp
theorem ordD : Ord ltD where
  asym a b h := by
    unfold ltD bl at h ⊢
    simp only [Bool.or_eq_true, Bool.and_eq_true, decide_eq_true_eq, Bool.or_eq_false_iff, Bool.and_eq_false_iff, decide_eq_false_iff_not] at h ⊢
    rcases h with h | ⟨h1, h2⟩
    · exact ⟨by omega, .inl (by omega)⟩
    · exact ⟨by omega, .inr (bytesLess_asym _ _ h2)⟩
  ntr a b c h1 h2 := by
    unfold ltD bl at h1 h2 ⊢
    simp only [Bool.or_eq_false_iff, Bool.and_eq_false_iff, decide_eq_false_iff_not] at h1 h2 ⊢
    obtain ⟨h1, h3⟩ := h1
    obtain ⟨h2, h4⟩ := h2
    refine ⟨by omega, ?_⟩
    by_cases e : a.2 = c.2
    · right
      exact bytesLess_ntr _ _ _ (h3.resolve_left (fun x => x (by omega))) (h4.resolve_left (fun x => x (by omega)))
    · exact .inl e
theorem ltD_tri {a b : Du} (h1 : ltD a b = false) (h2 : ltD b a = false) : a = b := by
  unfold ltD bl at h1 h2
  simp only [Bool.or_eq_false_iff, Bool.and_eq_false_iff, decide_eq_false_iff_not] at h1 h2
  obtain ⟨h1, h3⟩ := h1
  obtain ⟨h2, h4⟩ := h2
  have e : a.2 = b.2 := by omega
  have := toList_inj (bytesLess_tri _ _ (h3.resolve_left (fun x => x e)) (h4.resolve_left (fun x => x e.symm)))
  exact Prod.ext this e
theorem ltD_trans {a b c : Du} (h1 : ltD a b = true) (h2 : ltD b c = true) : ltD a c = true := by
  cases e : ltD a c with
  | true => rfl
  | false =>
    have := ordD.ntr _ _ _ e (ordD.asym _ _ h2)
    rw [h1] at this
    cases this
/-- what 'compare' answers -/
def cmpD (a b : Du) : Int := if a.2 < b.2 then -1 else if b.2 < a.2 then 1 else if bl a.1 b.1 then -1 else if bl b.1 a.1 then 1 else 0
theorem cmpD_lt (a b : Du) : decide (cmpD a b < 0) = ltD a b := by
  unfold cmpD ltD
  by_cases h1 : a.2 < b.2
  · simp [h1]
  · by_cases h2 : b.2 < a.2
    · simp [h1, h2]; omega
    · have e : a.2 = b.2 := by omega
      cases h3 : bl a.1 b.1 <;> simp [h1, h2, e, h3]
      cases bl b.1 a.1 <;> simp

/- lists as heaps -/
def gd (l : List Du) : Nat → Du := fun k => l.getD k du0
theorem gd_at {l : List Du} {k : Nat} (h : k < l.length) : gd l k = l[k] := by unfold gd; rw [List.getD_eq_getElem?_getD, List.getElem?_eq_getElem h]; rfl
theorem gd_out {l : List Du} {k : Nat} (h : l.length ≤ k) : gd l k = du0 := by unfold gd; rw [List.getD_eq_getElem?_getD, List.getElem?_eq_none h]; rfl
def swL (l : List Du) (i j : Nat) : List Du := (l.set i (gd l j)).set j (gd l i)
theorem swL_length (l : List Du) (i j : Nat) : (swL l i j).length = l.length := by unfold swL; simp
theorem swL_gd {l : List Du} {i j : Nat} (hi : i < l.length) (hj : j < l.length) : gd (swL l i j) = sw (gd l) i j := by
  funext k
  unfold sw
  by_cases ki : k = i
  · subst ki
    rw [if_pos rfl]
    unfold swL
    by_cases kj : j = k
    · subst kj
      rw [gd_at (by simpa using hi)]
      simp
    · rw [gd_at (by simpa using hi)]
      rw [List.getElem_set_ne kj, List.getElem_set_self]
  · rw [if_neg ki]
    by_cases kj : k = j
    · subst kj
      rw [if_pos rfl, gd_at (by rw [swL_length]; exact hj)]
      unfold swL
      rw [List.getElem_set_self]
    · rw [if_neg kj]
      rcases Nat.lt_or_ge k l.length with hk | hk
      · rw [gd_at (by rw [swL_length]; exact hk), gd_at hk]
        unfold swL
        rw [List.getElem_set_ne (fun e => kj e.symm), List.getElem_set_ne (fun e => ki e.symm)]
      · rw [gd_out (by rw [swL_length]; exact hk), gd_out hk]
theorem swL_perm {l : List Du} {i j : Nat} (hi : i < l.length) (hj : j < l.length) : (swL l i j).Perm l := by
  have h := Array.swap_perm (xs := l.toArray) (i := i) (j := j) (by simpa using hi) (by simpa using hj)
  have h2 := h.toList
  have e : (l.toArray.swap i j (by simpa using hi) (by simpa using hj)).toList = swL l i j := by
    rw [Array.swap_def]
    simp [swL, gd_at hi, gd_at hj]
  rw [e] at h2
  simpa using h2
theorem swL_self {l : List Du} {i : Nat} (hi : i < l.length) : swL l i i = l := by
  unfold swL
  rw [gd_at hi]
  simp
theorem gd_congr {l m : List Du} (hl : l.length = m.length) (h : ∀ k, k < l.length → gd l k = gd m k) : l = m := by
  refine List.ext_getElem hl (fun k h1 h2 => ?_)
  have := h k h1
  rw [gd_at h1, gd_at h2] at this
  exact this

section
variable {α : Type} {lt : α → α → Bool}
/-- a heap but around i -/
def Hole (lt : α → α → Bool) (f : Nat → α) (n i : Nat) : Prop :=
  (∀ k, 0 < k → k < n → k ≠ i → (k - 1) / 2 ≠ i → lt (f k) (f ((k - 1) / 2)) = false) ∧ ∀ k, 0 < k → k < n → (k - 1) / 2 = i → 0 < i → lt (f k) (f ((i - 1) / 2)) = false
theorem hole_of_heap (h : Ord lt) {f g : Nat → α} {n i : Nat} (hg : IsHeap lt g n) (hf : ∀ k, k < n → k ≠ i → f k = g k) : Hole lt f n i := by
  refine ⟨fun k k0 kn ki kp => ?_, fun k k0 kn kp i0 => ?_⟩
  · rw [hf k kn ki, hf ((k - 1) / 2) (by omega) kp]
    exact hg k k0 kn
  · rw [hf k kn (by omega), hf ((i - 1) / 2) (by omega) (by omega)]
    have h1 := hg k k0 kn
    rw [kp] at h1
    exact h.ntr _ _ _ h1 (hg i i0 (by omega))
theorem hole_down (h : Ord lt) {f : Nat → α} {n i c : Nat} (hh : Hole lt f n i) (hc : (c - 1) / 2 = i) (c0 : 0 < c) (cn : c < n) (hl : lt (f c) (f i) = true) : DownAt lt f n i := by
  refine ⟨fun k k0 kn kp => ?_, hh.2⟩
  by_cases ki : k = i
  · subst ki
    cases e : lt (f k) (f ((k - 1) / 2)) with
    | false => rfl
    | true =>
      have h2 := hh.2 c c0 cn hc k0
      have h3 := h.lt_of e h2
      rw [hl] at h3
      cases h3
  · exact hh.1 k k0 kn ki kp
theorem hole_up {f : Nat → α} {n i : Nat} (hh : Hole lt f n i) (hm : ∀ k, 0 < k → k < n → (k - 1) / 2 = i → lt (f k) (f i) = false) : UpAt lt f n i := by
  refine ⟨fun k k0 kn ki => ?_, hh.2⟩
  by_cases kp : (k - 1) / 2 = i
  · rw [kp]; exact hm k k0 kn kp
  · exact hh.1 k k0 kn ki kp
theorem up_push {f g : Nat → α} {n : Nat} (hg : IsHeap lt g n) (hf : ∀ k, k < n → f k = g k) : UpAt lt f (n + 1) n := by
  refine ⟨fun k k0 kn ki => ?_, fun k k0 kn kp n0 => by omega⟩
  rw [hf k (by omega), hf ((k - 1) / 2) (by omega)]
  exact hg k k0 (by omega)
theorem heap_le {f : Nat → α} {n m : Nat} (h : IsHeap lt f n) (hm : m ≤ n) : IsHeap lt f m := fun k k0 km => h k k0 (by omega)
theorem heap_congr {f g : Nat → α} {n : Nat} (h : IsHeap lt f n) (e : ∀ k, k < n → g k = f k) : IsHeap lt g n := fun k k0 kn => by
  rw [e k kn, e ((k - 1) / 2) (by omega)]; exact h k k0 kn
/-- c is the lesser child of i -/
theorem child_left (h : Ord lt) (hr : ∀ a, lt a a = false) {f : Nat → α} {n i : Nat} (h2 : n ≤ 2 * i + 2 ∨ lt (f (2 * i + 2)) (f (2 * i + 1)) = false) : ∀ k, 0 < k → k < n → (k - 1) / 2 = i → lt (f k) (f (2 * i + 1)) = false := by
  intro k k0 kn kp
  rcases (by omega : k = 2 * i + 1 ∨ k = 2 * i + 2) with rfl | rfl
  · exact hr _
  · exact h2.resolve_left (by omega)
theorem child_right (h : Ord lt) (hr : ∀ a, lt a a = false) {f : Nat → α} {n i : Nat} (h2 : lt (f (2 * i + 2)) (f (2 * i + 1)) = true) : ∀ k, 0 < k → k < n → (k - 1) / 2 = i → lt (f k) (f (2 * i + 2)) = false := by
  intro k k0 kn kp
  rcases (by omega : k = 2 * i + 1 ∨ k = 2 * i + 2) with rfl | rfl
  · exact h.asym _ _ h2
  · exact hr _
end

/- where a name stands -/
def Nm (l : List Du) : List ByteArray := l.map (·.1)
def idxL (l : List Du) (s : ByteArray) : Option Nat := l.findIdx? (fun d => decide (d.1 = s))
theorem idx_iff {l : List Du} (hn : (Nm l).Nodup) {s : ByteArray} {i : Nat} : idxL l s = some i ↔ i < l.length ∧ (gd l i).1 = s := by
  unfold idxL
  rw [List.findIdx?_eq_some_iff_getElem]
  constructor
  · rintro ⟨h, h1, _⟩
    exact ⟨h, by rw [gd_at h]; exact of_decide_eq_true h1⟩
  · rintro ⟨h, h1⟩
    rw [gd_at h] at h1
    refine ⟨h, decide_eq_true h1, fun j hj h2 => ?_⟩
    have h3 := of_decide_eq_true h2
    have hj' : j < (Nm l).length := by unfold Nm; rw [List.length_map]; omega
    have hi' : i < (Nm l).length := by unfold Nm; rw [List.length_map]; omega
    have := (List.getElem_inj (h₀ := hj') (h₁ := hi') hn).1 (by simp [Nm, h1, h3])
    omega
theorem opt_ext {a b : Option Nat} (h : ∀ i, a = some i ↔ b = some i) : a = b := by
  cases a with
  | some i => exact ((h i).1 rfl).symm
  | none =>
    cases b with
    | none => rfl
    | some i => exact (h i).2 rfl
theorem nm_perm {l m : List Du} (h : l.Perm m) : (Nm l).Perm (Nm m) := h.map _
theorem nm_nodup {l m : List Du} (h : l.Perm m) (hn : (Nm m).Nodup) : (Nm l).Nodup := (nm_perm h).nodup_iff.2 hn
theorem idx_inj {l : List Du} (hn : (Nm l).Nodup) {i j : Nat} (hi : i < l.length) (hj : j < l.length) (h : (gd l i).1 = (gd l j).1) : i = j := by
  have h1 := (idx_iff hn (s := (gd l i).1) (i := i)).2 ⟨hi, rfl⟩
  have h2 := (idx_iff hn (s := (gd l i).1) (i := j)).2 ⟨hj, h.symm⟩
  rw [h1] at h2
  exact Option.some.inj h2
theorem idx_none {l : List Du} {s : ByteArray} : idxL l s = none ↔ s ∉ Nm l := by
  unfold idxL Nm
  rw [List.findIdx?_eq_none_iff]
  simp only [decide_eq_false_iff_not, List.mem_map, not_exists, not_and]
theorem idx_swap {l : List Du} (hn : (Nm l).Nodup) {i j : Nat} (hi : i < l.length) (hj : j < l.length) (s : ByteArray) :
    idxL (swL l i j) s = (if s = (gd l i).1 then some j else if s = (gd l j).1 then some i else idxL l s) := by
  have hn' := nm_nodup (swL_perm hi hj) hn
  refine opt_ext fun k => ?_
  rw [idx_iff hn', swL_length, swL_gd hi hj]
  unfold sw
  constructor
  · rintro ⟨hk, hs⟩
    by_cases ki : k = i
    · subst ki
      rw [if_pos rfl] at hs
      by_cases e : s = (gd l k).1
      · have := idx_inj hn hj hk (hs.trans e)
        rw [if_pos e, this]
      · rw [if_neg e, if_pos hs.symm]
    · rw [if_neg ki] at hs
      by_cases kj : k = j
      · subst kj
        rw [if_pos rfl] at hs
        rw [if_pos hs.symm]
      · rw [if_neg kj] at hs
        have e1 : s ≠ (gd l i).1 := fun e => ki (idx_inj hn hk hi (hs.trans e))
        have e2 : s ≠ (gd l j).1 := fun e => kj (idx_inj hn hk hj (hs.trans e))
        rw [if_neg e1, if_neg e2]
        exact (idx_iff hn).2 ⟨hk, hs⟩
  · intro h
    by_cases e1 : s = (gd l i).1
    · rw [if_pos e1] at h
      cases h
      refine ⟨hj, ?_⟩
      by_cases ji : j = i
      · subst ji; rw [if_pos rfl]; exact e1.symm
      · rw [if_neg ji, if_pos rfl]; exact e1.symm
    · rw [if_neg e1] at h
      by_cases e2 : s = (gd l j).1
      · rw [if_pos e2] at h
        cases h
        exact ⟨hi, by rw [if_pos rfl]; exact e2.symm⟩
      · rw [if_neg e2] at h
        obtain ⟨hk, hs⟩ := (idx_iff hn).1 h
        refine ⟨hk, ?_⟩
        rw [if_neg (fun e => e1 (by rw [← hs, e])), if_neg (fun e => e2 (by rw [← hs, e]))]
        exact hs
theorem gd_append {l : List Du} {d : Du} {k : Nat} (hk : k < l.length) : gd (l ++ [d]) k = gd l k := by
  rw [gd_at (by simp; omega), gd_at hk]; simp [hk]
theorem gd_append_last (l : List Du) (d : Du) : gd (l ++ [d]) l.length = d := by
  rw [gd_at (by simp)]; simp
theorem nm_append (l : List Du) (d : Du) : Nm (l ++ [d]) = Nm l ++ [d.1] := by simp [Nm]
theorem nodup_append {l : List Du} {d : Du} (hn : (Nm l).Nodup) (hd : d.1 ∉ Nm l) : (Nm (l ++ [d])).Nodup := by
  rw [nm_append]
  refine List.nodup_append.2 ⟨hn, by simp, fun a ha b hb e => ?_⟩
  rw [List.mem_singleton] at hb
  subst hb
  exact hd (e ▸ ha)
theorem idx_push {l : List Du} (hn : (Nm l).Nodup) {d : Du} (hd : d.1 ∉ Nm l) (s : ByteArray) : idxL (l ++ [d]) s = (if s = d.1 then some l.length else idxL l s) := by
  refine opt_ext fun k => ?_
  rw [idx_iff (nodup_append hn hd)]
  constructor
  · rintro ⟨hk, hs⟩
    rcases (by simp at hk; omega : k < l.length ∨ k = l.length) with h | rfl
    · rw [gd_append h] at hs
      have e1 : s ≠ d.1 := fun e => hd (by rw [← e, ← hs, gd_at h]; exact List.mem_map.2 ⟨_, List.getElem_mem h, rfl⟩)
      rw [if_neg e1]
      exact (idx_iff hn).2 ⟨h, hs⟩
    · rw [gd_append_last] at hs
      rw [if_pos hs.symm]
  · intro h
    by_cases e1 : s = d.1
    · rw [if_pos e1] at h
      cases h
      exact ⟨by simp, by rw [gd_append_last]; exact e1.symm⟩
    · rw [if_neg e1] at h
      obtain ⟨hk, hs⟩ := (idx_iff hn).1 h
      exact ⟨by simp; omega, by rw [gd_append hk]; exact hs⟩
theorem idx_pop {l : List Du} {d : Du} (hn : (Nm (l ++ [d])).Nodup) (s : ByteArray) : idxL l s = (if s = d.1 then none else idxL (l ++ [d]) s) := by
  have hn2 : (Nm l).Nodup ∧ d.1 ∉ Nm l := by
    rw [nm_append] at hn
    have := List.nodup_append.1 hn
    exact ⟨this.1, fun h => this.2.2 _ h d.1 (by simp) rfl⟩
  rw [idx_push hn2.1 hn2.2]
  by_cases e : s = d.1
  · rw [if_pos e, idx_none, e]; exact hn2.2
  · rw [if_neg e, if_neg e]
theorem nm_set {l : List Du} {i : Nat} (hi : i < l.length) (v : Int) : Nm (l.set i ((gd l i).1, v)) = Nm l := by
  unfold Nm
  rw [List.map_set, gd_at hi]
  refine List.ext_getElem (by simp) fun k h1 h2 => ?_
  by_cases e : i = k
  · subst e; rw [List.getElem_set_self, List.getElem_map]
  · rw [List.getElem_set_ne e]
theorem idx_nm {l m : List Du} (h : Nm l = Nm m) (s : ByteArray) : idxL l s = idxL m s := by
  have key : ∀ l : List Du, idxL l s = (Nm l).findIdx? (fun d => decide (d = s)) := by
    intro l
    unfold idxL Nm
    rw [List.findIdx?_map]
    rfl
  rw [key, key, h]
theorem gd_set {l : List Du} {i : Nat} (d : Du) {k : Nat} (hk : k ≠ i) : gd (l.set i d) k = gd l k := by
  unfold gd
  rw [List.getD_eq_getElem?_getD, List.getD_eq_getElem?_getD, List.getElem?_set_ne (fun e => hk e.symm)]
theorem gd_set_self {l : List Du} {i : Nat} (d : Du) (hi : i < l.length) : gd (l.set i d) i = d := by
  rw [gd_at (by simpa using hi)]; simp
end Go.Proofs.YteofdpogjnojnaaGreatDoor
