/-
  due.Queue: All (slices.SortFunc, slices.SortedFunc at []api.Due).
-/
import Derived.Test.YtdhilhjiccpkkaaDueQ4
import Derived.Test.YtdhilhjiccpkkaaShelf
namespace Go.Proofs.Ytdhilhjiccpkkaa
open Go.RowKit Go.Sort
set_option linter.unusedVariables false
set_option linter.unusedSimpArgs false

def encDu (x : Du) : List Value := [.string x.1, .int .i64 x.2]
theorem encDu_len (x : Du) : (encDu x).length = 2 := rfl
theorem encDu_one (x : Du) : ∀ v ∈ encDu x, v.oneCell' = true := by
  intro v hv
  simp [encDu] at hv
  rcases hv with rfl | rfl <;> rfl
theorem ltOf_cmp : Go.Proofs.ltOf cmpD = ltD := by
  funext a b
  exact cmpD_lt a b
theorem swoD : SWO ltD where
  irrefl := ltD_irrefl
  trans x y z h1 h2 := ltD_trans h1 h2
  ntrans x y z h1 h2 := ordD.ntr x y z h1 h2
theorem cmpLays (blk off size : Nat) (w : World) : Go.Proofs.CmpLays Try.prog 29 #[] encDu 2 cmpD blk off size w := by
  intro m os dk _ x y
  refine (due_compare_ex x y _).mono ?_
  rintro e w' ⟨rfl, A, B, C, rfl⟩
  refine ⟨rfl, 1, #[A] ++ #[B] ++ #[C], ?_⟩
  rw [alloc_eq_grow, alloc_eq_grow, alloc_eq_grow, grow_grow, grow_grow]
  rfl
/-- a row as the sort's words have it -/
theorem holds_of {w : World} {g : Nat} {cur : Array Value} {l : List Du} (hB : Blk w g 44 cur) (hdc : DC cur l) : HoldsK encDu 2 w g 0 l.toArray := by
  intro t ht
  have ht' : t < l.length * 2 := by simpa using ht
  rw [get_flatK encDu 2 l.toArray t (by simpa using ht')]
  have hk : t / 2 < l.length := by omega
  have h := hdc (t / 2) hk
  have hg : (l.toArray)[t / 2]! = gd l (t / 2) := by rw [gd_at hk]; simp [hk]
  rw [hg, Nat.zero_add]
  refine ⟨?_, hB.frozen _⟩
  rw [hB.cell]
  rcases (by omega : t % 2 = 0 ∨ t % 2 = 1) with e | e
  · rw [e, show t = t / 2 * 2 from by omega, show t / 2 * 2 / 2 = t / 2 from by omega]
    exact h.1
  · rw [e]
    conv => lhs; rw [show t = t / 2 * 2 + 1 from by omega]
    exact h.2
theorem sorted_row {w : World} {g n : Nat} {cur : Array Value} {l : List Du} {d' : Array Du} {os : Array Obj} (hB : Blk w g 44 cur) (hs : l.length * 2 ≤ cur.size) (hd : d'.size = l.length) :
    ∃ cur', Blk (sortWorldK encDu 2 w g 0 n d' os) g 44 cur' ∧ cur'.size = cur.size ∧ DC cur' d'.toList ∧ Fr (· = g) w (sortWorldK encDu 2 w g 0 n d' os) := by
  have hlt := hB.lt
  have hb : w.heap[g]? = some (.cells cur 44 (0, 0)) := hB
  refine ⟨putCells id 0 (flatK encDu 2 d') cur, ?_, by simp [putCells], fun k hk => ?_, ?_⟩
  · show ((w.heap.modify g (onCells (putCells id 0 (flatK encDu 2 d')))) ++ os)[g]? = _
    rw [Array.getElem?_append_left (by simpa using hlt), Array.getElem?_modify, if_pos rfl, hb]
    rfl
  · have hk' : k < d'.size := by simpa using hk
    have hgd : gd d'.toList k = d'[k]! := by
      rw [gd_at hk, getElem!_pos d' k hk']
      simp
    have hF := get_flatK encDu 2 d'
    constructor
    · have h1 := hF (k * 2) (by omega)
      rw [show k * 2 / 2 = k from by omega, show k * 2 % 2 = 0 from by omega] at h1
      unfold putCells
      rw [Array.getElem?_mapIdx, Array.getElem?_eq_getElem (by omega)]
      simp only [Option.map_some, Nat.zero_le, true_and, Nat.zero_add, Nat.sub_zero, size_flatK]
      rw [if_pos (by omega), h1, hgd]
      rfl
    · have h1 := hF (k * 2 + 1) (by omega)
      rw [show (k * 2 + 1) / 2 = k from by omega, show (k * 2 + 1) % 2 = 1 from by omega] at h1
      unfold putCells
      rw [Array.getElem?_mapIdx, Array.getElem?_eq_getElem (by omega)]
      simp only [Option.map_some, Nat.zero_le, true_and, Nat.zero_add, Nat.sub_zero, size_flatK]
      rw [if_pos (by omega), h1, hgd]
      rfl
  · refine ⟨rfl, rfl, rfl, ?_, fun i hi hne => ?_⟩
    · show w.heap.size ≤ ((w.heap.modify g (onCells (putCells id 0 (flatK encDu 2 d')))) ++ os).size
      simp
    · show ((w.heap.modify g (onCells (putCells id 0 (flatK encDu 2 d')))) ++ os)[i]? = _
      rw [Array.getElem?_append_left (by simpa using hi), Array.getElem?_modify, if_neg (fun e => hne e.symm)]
def SortPost (w : World) (base : Nat) (v : Value) (l : List Du) (e : Ending) (w' : World) : Prop :=
  ∃ l', e = .returned (.tuple #[]) ∧ l'.Perm l ∧ l'.Pairwise (fun a b => ltD b a = false) ∧ DR w' base v l' ∧ Fr (fun g => v.ownBlock = some g) w w'
theorem due_sort_row {w : World} {base g cap n : Nat} {cur : Array Value} {l : List Du} (hn : n = l.length) (hg : base ≤ g) (hB : Blk w g 44 cur) (hc : n ≤ cap) (hm : cap ≤ maxLen) (hs : cur.size = cap * 2) (hdc : DC cur l) (hf : n ≤ 256) :
    Calls Try.prog 36 #[.slice (some ⟨g, 0, none⟩) n cap, .func (.func 29) #[] #[]] w fun e w' => SortPost w base (.slice (some ⟨g, 0, none⟩) n cap) l e w' := by
  have eg : ∀ args w, (callFunc 29 args).run Try.prog w = .ok (.enter 29 args) w := enters_of Try.func29 (by kernel_rfl) rfl
  have hcon := Go.Proofs.AnyQ.slices_SortFunc Try.sortDue 2 Try.isAgg44 Try.sizeOf44 encDu encDu_len encDu_one cmpD (by rw [ltOf_cmp]; exact swoD) 29 #[] g 0 cap l.toArray w eg (cmpLays g 0 _ w) (holds_of hB hdc) hB.lt (by simp; omega)
  rw [show l.toArray.size = n from by simp [hn]] at hcon
  change Calls Try.prog 36 _ _ _ at hcon
  refine hcon.mono ?_
  rintro e w' ⟨rfl, d', m, os, hp, hso, rfl⟩
  obtain ⟨h1, _, h3⟩ := hp
  have hd : d'.size = l.length := by rw [h1]; simp
  obtain ⟨cur', k1, k2, k3, k4⟩ := sorted_row (n := m) (os := os) hB (by omega) hd
  have hl' : d'.toList.length = n := by simp [hd, hn]
  refine ⟨d'.toList, rfl, ?_, ?_, ?_, k4.mono (fun x _ e => by subst e; rfl)⟩
  · rw [hn] at h3
    have e1 : d'.extract 0 l.length = d' := by rw [← hd]; simp
    have e2 : (l.toArray).extract 0 l.length = l.toArray := by simp
    rw [e1, e2] at h3
    simpa using h3
  · rw [ltOf_cmp] at hso
    rw [List.pairwise_iff_getElem]
    intro i j hi hj hij
    have := hso i j (Nat.zero_le _) hij (by omega)
    rw [getElem!_pos d' j (by simpa using hj), getElem!_pos d' i (by simpa using hi)] at this
    simpa using this
  · rw [← hl']
    exact DR.mk hg k1 (by omega) hm (by rw [k2, hs]) k3
end Go.Proofs.Ytdhilhjiccpkkaa
