/-
  An append of one-cell elements that are no bytes keeps its row clean of bytes.
-/
import Derived.Test.YtcndkkagnobpmaaDoorOwnR
import Derived.Test.YtcndkkagnobpmaaDoorBy
namespace Go.Proofs.YtcndkkagnobpmaaDoor
open Go.RowKit
set_option linter.unusedVariables false

/-- no byte lies in the row that the value owns -/
def Clean (w : World) (v : Value) : Prop := ∀ g, v.ownBlock = some g → NoBy w g
/-- no value of the list is a byte -/
def NoB (xs : List Value) : Prop := ∀ u ∈ xs, ∀ x : Int, u ≠ .int .u8 x
section
variable {w w' : World} {v : Value}
theorem Clean.nil (w : World) : Clean w (.slice none 0 0) := fun g h => by cases h
theorem Clean.cell {w' : World} (h : Clean w v) (hc : ∀ g o, v.ownBlock = some g → w'.cell? ⟨g, o, none⟩ = w.cell? ⟨g, o, none⟩) : Clean w' v := fun g hg o x => by rw [hc g o hg]; exact h g hg o x
theorem NoBy.fr {S : Nat → Prop} {g : Nat} (h : NoBy w g) (hf : Fr S w w') (hg : g < w.heap.size) (hS : ¬ S g) : NoBy w' g := fun o x => by
  rw [hf.cell (p := ⟨g, o, none⟩) hg hS]; exact h o x
theorem Clean.fr {S : Nat → Prop} (h : Clean w v) (hf : Fr S w w') (hv : ∀ g, v.ownBlock = some g → g < w.heap.size ∧ ¬ S g) : Clean w' v := fun g hg => (h g hg).fr hf (hv g hg).1 (hv g hg).2
theorem noBy_of_list {g : Nat} {e : TypeId} {cs : Array Value} (h : w.heap[g]? = some (.cells cs e (0, 0))) (hn : NoB cs.toList) : NoBy w g := by
  refine NoBy.of_blk (t := e) h (fun k x hk => ?_)
  exact hn _ (Array.mem_toList_iff.2 (Array.mem_of_getElem? hk)) x rfl
theorem noB_of_blk {g : Nat} {e : TypeId} {cs : Array Value} (h : w.heap[g]? = some (.cells cs e (0, 0))) (hn : NoBy w g) : NoB cs.toList := by
  intro u hu x e
  subst e
  obtain ⟨k, hk⟩ := List.getElem?_of_mem hu
  have := hn k x
  rw [Blk.cell h] at this
  exact this (by simpa using hk)
theorem NoB.append {xs ys : List Value} (h : NoB xs) (k : NoB ys) : NoB (xs ++ ys) := fun u hu => by
  rcases List.mem_append.1 hu with hu | hu
  · exact h u hu
  · exact k u hu
theorem noB_zero {z : Value} (hz : z.cells = #[z]) (hz2 : ∀ x : Int, z ≠ .int .u8 x) (n : Nat) : NoB (Builtin.zeroCells z.cells n).toList := by
  intro u hu
  have : u = z := by
    rw [hz] at hu
    simp [Builtin.zeroCells, Nat.mod_one] at hu
    exact hu.2.symm
  subst this
  exact hz2
end
section
variable {P : Program} (w : World)
theorem run_append_clean (base : Nat) (t ty e : TypeId) (i : TypeInfo) (z : Value) (bytes : Nat) (ht : P.underlying t = some (.slice e)) (hi : P.info? e = some i) (hz : i.zero = some z)
    (hsize : i.size = 1) (hby : i.bytes = bytes) (hzc : z.cells = #[z]) (hz2 : ∀ x : Int, z ≠ .int .u8 x)
    (v : Value) (n : Nat) (xs : List Value) (hown : w.ownsRow base e 1 v n xs) (hcl : Clean w v)
    (a : Addr) (m c : Nat) (news : List Value) (hl : news.length = m) (hm : 0 < m) (hnews : ∀ j u, news[j]? = some u → w.cell? (a.add j) = some u) (h1 : ∀ u ∈ news, u.oneCell' = true) (hnn : NoB news)
    (h63 : n + m ≤ maxLen) (hbytes : (n + m) * bytes ≤ 140737488355328) {v' : Value} {w' : World}
    (hrun : (Builtin.append_ #[t, t] ty #[v, .slice (some a) m c]).run P w = .ok v' w') : Clean w' v' := by
  subst hby
  have hsmall : n + m ≤ 9223372036854775807 := by simp only [maxLen] at h63; omega
  have hl' : news.length = m * i.size := by rw [hsize]; omega
  rcases hown.2 with ⟨rfl, rfl⟩ | ⟨g, cap, cur, rfl, hbg, hg, hnc, hcm, hcs, htake⟩
  · have hr := run_append_nil (P := P) w t ty e i z ht hi hz a m c news hl' hnews hm (by omega) (by have hb := hbytes; simp only [Nat.zero_add] at hb; omega)
    rw [hr] at hrun
    injection hrun with e1 e2
    subst e1 e2
    intro g' hg'
    injection hg' with hg'
    subst hg'
    refine noBy_of_list (heap_alloc_new w.drew _) ?_
    rw [Array.toList_append]
    exact NoB.append hnn (noB_zero hzc hz2 _)
  · have hcur : NoB cur.toList := noB_of_blk hg (hcl g rfl)
    by_cases hroom : n + m ≤ cap
    · have hr := run_append_room (P := P) w t ty e i ht hi g n cap cur hg a m c news hl' hnews h1 hroom (by rw [hsize]; omega)
      rw [hr] at hrun
      injection hrun with e1 e2
      subst e1 e2
      intro g' hg'
      injection hg' with hg'
      subst hg'
      refine noBy_of_list (setRow_heap w g cur _ e _ hg) ?_
      refine NoB.append (NoB.append (fun u hu => hcur u (List.mem_of_mem_take hu)) hnn) (fun u hu => hcur u (List.mem_of_mem_drop hu))
    · have holds : ∀ j u, xs[j]? = some u → w.cell? ((⟨g, 0, none⟩ : Addr).add j) = some u := hown.cells (g := g) rfl
      have hxs : NoB xs := fun u hu => hcur u (List.mem_of_mem_take (htake ▸ hu))
      have hr := run_append_grow (P := P) w t ty e i z ht hi hz ⟨g, 0, none⟩ n cap xs (by rw [hsize]; exact hown.1) holds a m c news hl' hnews (by omega) (by omega) (growslice_fits (by omega) hbytes)
      rw [hr] at hrun
      injection hrun with e1 e2
      subst e1 e2
      intro g' hg'
      injection hg' with hg'
      subst hg'
      refine noBy_of_list (heap_alloc_new w.drew _) ?_
      rw [Array.toList_append, Array.toList_append]
      exact NoB.append (NoB.append hxs hnn) (noB_zero hzc hz2 _)

theorem step_append_clean {ops : Array Oper} {o : Oper} {a : Act} {K : Act → World → Prop} {Q : Exit → Act → World → Prop} {E : Prop} (hgd : o.guard = none) (s x : Operand) (t : TypeId)
    (ho : o.op = .call { callee := .builtin .append, args := #[s, x], argTypes := #[t, t] })
    (base : Nat) (e : TypeId) (i : TypeInfo) (z : Value) (bytes : Nat) (ht : P.underlying t = some (.slice e)) (hi : P.info? e = some i) (hz : i.zero = some z)
    (hsize : i.size = 1) (hby : i.bytes = bytes) (hzs : z.cells = #[z]) (hz2 : ∀ x : Int, z ≠ .int .u8 x)
    (v : Value) (n : Nat) (xs : List Value) (hs : a.eval s = v) (hown : w.ownsRow base e 1 v n xs) (hcl : Clean w v)
    (B : Nat) (A : Addr) (m c : Nat) (news : List Value) (hx : a.eval x = .slice (some A) m c) (hr : Reads w B 1 (some A) m news) (hm : 0 < m) (h1 : ∀ u ∈ news, u.oneCell' = true) (hnn : NoB news)
    (h63 : n + m ≤ maxLen) (hbytes : (n + m) * bytes ≤ 140737488355328) (hbase : base ≤ w.heap.size)
    (h : ∀ v' w', w'.ownsRow base e 1 v' (n + m) (xs ++ news) → w.grownBy w' v.ownBlock → (v'.ownBlock = v.ownBlock ∨ v'.ownBlock = some w.heap.size) → Clean w' v' → K (a.put o.dst v') w') :
    if Region.wanted o (yielded ops a.tmps) = true then Oper.wp P o a w K Q else E := by
  have hw : Region.wanted o (yielded ops a.tmps) = true := by simp [Region.wanted, hgd]
  rw [if_pos hw]
  obtain ⟨v', w', hrun, h2, h3, h4⟩ := run_append_any (P := P) w base t o.type e i z 1 bytes ht hi hz hsize hby (by rw [hzs]; rfl) (by omega) v n xs hown B (some A) m c news hr h1 h63 hbytes hbase
  have hnews : ∀ j u, news[j]? = some u → w.cell? (A.add j) = some u := by
    obtain ⟨ad, e1, _, hc⟩ := hr.2 hm
    cases e1
    exact hc
  have h5 := run_append_clean (P := P) w base t o.type e i z bytes ht hi hz hsize hby hzs hz2 v n xs hown hcl A m c news (by have := hr.1; omega) hm hnews h1 hnn h63 hbytes hrun
  unfold Oper.wp execOp
  simp only [ho, resolve, invoke, builtin, Sem.run_bind, Sem.run_pure, Result.andThen_ok, List.map_toArray, List.map_cons, List.map_nil, hs, hx, hrun]
  exact h v' w' h2 h3 h4 h5
end
end Go.Proofs.YtcndkkagnobpmaaDoor
