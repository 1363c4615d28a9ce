/-
  due.row: Push.
-/
import Derived.Test.YtdhilhjiccpkkaaDueW4
import Derived.Deep.RegionLaw
import Derived.Deep.RegionHeld3
namespace Go.Proofs.Ytdhilhjiccpkkaa
open Go.RowKit
set_option linter.unusedVariables false

theorem infoDue : (Try.prog.info? 44).map (fun i => (i.zero, i.size, i.bytes)) = some (some (.agg #[.string ⟨#[]⟩, .int .i64 0]), 2, 24) := by kernel_rfl
theorem reads_due (W0 : World) (e : TypeId) (x y : Value) (g : Nat) (hg : W0.heap.size = g) : Reads (W0.alloc (.cells #[x, y] e)) (g + 1) 2 (some ⟨g, 0, none⟩) 1 [x, y] := by
  subst hg
  refine ⟨rfl, fun _ => ⟨_, rfl, Nat.lt_succ_self _, fun j u hu => ?_⟩⟩
  rw [Addr.add_lit, Nat.zero_add, (Blk.new W0 e #[x, y]).cell j]
  simpa using hu
theorem reads_due2 (W0 : World) (e : TypeId) (x y : Value) (g : Nat) (hg : W0.heap.size = g) : Reads ((W0.alloc (.cells #[x, y] e)).drew) (g + 1) 2 (some ⟨g, 0, none⟩) 1 [x, y] := reads_due W0 e x y g hg
theorem assert_due (a : ByteArray) (b : Int) (w : World) : (Instr.typeAssert (.iface 44 (.agg #[.string a, .int .i64 b])) 20 44 true).run Try.prog w = .ok (.tuple #[.agg #[.string a, .int .i64 b], .bool true]) w := by kernel_rfl
/-- the world ahead of the append: the map knows the place, the box holds the name -/
structure PushV (w V : World) (base r M : Nat) (v : Value) (l : List Du) (a : ByteArray) (b : Int) (n : Nat) : Prop where
  box : Blk V w.heap.size 44 #[.string a, .int .i64 b]
  row : Blk V r 55 #[v, .map (some M)]
  own : DR V base v l
  map : SM V M (upd (idxL l) a (some n))
  fr : Fr (RS r M v) w V
  siz : base ≤ V.heap.size
  nr : ∀ g, v.ownBlock = some g → g ≠ r
theorem push_v {w : World} {base r M : Nat} {v : Value} {l : List Du} {a : ByteArray} {b : Int} {n : Nat} {o : Obj} (h : HR w base r M v l) (hm : SM (Go.ChangeMaps.setBlock (w.alloc (.cells #[.string a, .int .i64 b] 44)).drew M o) M (upd (idxL l) a (some n))) (hM : w.heap.size ≠ M) :
    PushV w (Go.ChangeMaps.setBlock (w.alloc (.cells #[.string a, .int .i64 b] 44)).drew M o) base r M v l a b n := by
  have hf := fr_setBlock (w.alloc (.cells #[.string a, .int .i64 b] 44)).drew M o
  have hne := h.ne
  have h0 : Fr (fun _ => False) w (w.alloc (.cells #[.string a, .int .i64 b] 44)).drew := ((Fr.refl _ w).alloc _).drew
  have hr := h.row.lt
  refine ⟨?_, ?_, ?_, hm, ?_, ?_, fun g e => (hne.2 g e).1⟩
  · exact (Blk.new w 44 #[.string a, .int .i64 b]).drew.fr' hf hM
  · exact (h.row.fr' h0 (fun x => x)).fr' hf hne.1
  · exact (h.own.fr h0 (fun _ _ x => x)).fr hf (fun g e => (hne.2 g e).2)
  · exact (h0.mono (T := RS r M v) (fun _ _ x => x.elim)).trans_new hf (fun j _ e => .inr (.inl e))
  · have := h.ge.1; have := hf.size; have := h0.size; omega
theorem push_own {w V : World} {base r M : Nat} {l : List Du} {a : ByteArray} {b : Int} {n : Nat} {A : Option Addr} {c m : Nat} (h : PushV w V base r M (.slice A m c) l a b n) : ((V.alloc (.cells #[.string a, .int .i64 b] 44)).drew).ownsRow base 44 2 (.slice A m c) m (dcells l) := by
  have h1 : DR ((V.alloc (.cells #[.string a, .int .i64 b] 44)).drew) base (.slice A m c) l := h.own.below (((Below.refl V.heap.size V).alloc (Nat.le_refl _) _).drew)
  have h2 : m = l.length := by
    rcases h.own.shape with ⟨e, rfl⟩ | ⟨g, cap, cur, e, _⟩
    · cases e; rfl
    · cases e; rfl
  rw [h2] at h1 ⊢
  exact h1
theorem own_val {w : World} {base n : Nat} {v : Value} {xs : List Value} {t : TypeId} {s : Nat} (h : w.ownsRow base t s v n xs) : ∃ A c, v = .slice A n c := by
  rcases h.2 with ⟨rfl, rfl⟩ | ⟨g, cap, cur, rfl, _⟩
  · exact ⟨none, 0, rfl⟩
  · exact ⟨_, _, rfl⟩
theorem push_mem {w V w' : World} {base r M : Nat} {l : List Du} {a : ByteArray} {b : Int} {n : Nat} {A : Option Addr} {c : Nat} {v' : Value} (h : HR w base r M (.slice A n c) l) (hv : PushV w V base r M (.slice A n c) l a b n) (hn : n = l.length) (hd : ¬ a ∈ Nm l) (hok : OkDu (a, b)) (hlt : n < 256)
    (ho : w'.ownsRow base 44 2 v' (n + 1) (dcells l ++ [.string a, .int .i64 b])) (hg : ((V.alloc (.cells #[.string a, .int .i64 b] 44)).drew).grownBy w' (Value.slice A n c).ownBlock) (hat : v'.ownBlock = (Value.slice A n c).ownBlock ∨ v'.ownBlock = some ((V.alloc (.cells #[.string a, .int .i64 b] 44)).drew).heap.size) :
    HR (w'.setCell ⟨r, 0, none⟩ v') base r M v' (l ++ [(a, b)]) ∧ Fr (RS r M (.slice A n c)) w (w'.setCell ⟨r, 0, none⟩ v') ∧ ∀ g, v'.ownBlock = some g → (Value.slice A n c).ownBlock = some g ∨ w.heap.size ≤ g := by
  have hne := h.ne
  have h0 : Fr (fun _ => False) V ((V.alloc (.cells #[.string a, .int .i64 b] 44)).drew) := ((Fr.refl _ V).alloc _).drew
  have h1 : Fr (fun g => (Value.slice A n c).ownBlock = some g) ((V.alloc (.cells #[.string a, .int .i64 b] 44)).drew) w' := Fr.of_grown hg (fun g e => e)
  have h2 : Fr (fun g => (Value.slice A n c).ownBlock = some g) V w' := (h0.mono (fun _ _ x => x.elim)).trans h1
  have hf : Fr (· = r) w' (w'.setCell ⟨r, 0, none⟩ v') := fr_cell' r 0 v'
  have hge : ∀ g, v'.ownBlock = some g → (Value.slice A n c).ownBlock = some g ∨ V.heap.size < g := fun g e => by
    rcases hat with e2 | e2
    · exact .inl (e2.symm.trans e)
    · right
      rw [e2] at e
      cases e
      simp
  have hrV := hv.row.lt
  have hMV := hv.map.lt
  have hvne : ∀ g, v'.ownBlock = some g → g ≠ r ∧ g ≠ M := fun g e => by
    rcases hge g e with h | h
    · exact hne.2 g h
    · exact ⟨by omega, by omega⟩
  have hl : (l ++ [(a, b)]).length = n + 1 := by simp [hn]
  have hdr : DR w' base v' (l ++ [(a, b)]) := by
    unfold DR
    rw [dcells_append, hl]
    exact ho
  refine ⟨⟨h.ge, ?_, hdr.fr hf (fun g e => (hvne g e).1), ?_, nodup_append h.nd hd, by omega, ?_⟩, ?_, ?_⟩
  · have := (hv.row.fr' h2 (fun e => (hne.2 r e).1 rfl)).set_ 0 v'
    exact this
  · refine ((hv.map.fr h2 (fun e => (hne.2 M e).2 rfl)).fr hf (fun e => hne.1 e.symm)).congr (fun s => ?_)
    rw [idx_push h.nd hd, ← hn]
    rfl
  · intro d hd
    rcases List.mem_append.1 hd with hd | hd
    · exact h.ok d hd
    · rw [List.mem_singleton] at hd
      subst hd
      exact hok
  · refine (hv.fr.trans_new h2 (fun j _ e => .inr (.inr e))).trans_new hf (fun j _ e => .inl e)
  · intro g e
    rcases hge g e with h3 | h3
    · exact .inl h3
    · right
      have := hv.fr.size
      omega
def PushPost (w : World) (base r M : Nat) (v : Value) (l : List Du) (d : Du) (e : Ending) (w' : World) : Prop :=
  ∃ v', e = .returned (.tuple #[]) ∧ HR w' base r M v' (l ++ [d]) ∧ Fr (RS r M v) w w' ∧ ∀ g, v'.ownBlock = some g → v.ownBlock = some g ∨ w.heap.size ≤ g
theorem push_put {w : World} {base r M : Nat} {v : Value} {l : List Du} {a : ByteArray} {n : Nat} {b : Int} (h : HR w base r M v l) (ha : a.size ≤ maxLen) :
    ∃ es' clock', (Instr.mapUpdate 53 (.map (some M)) (.string a) (.int .i64 (n : Int))).run Try.prog ((w.alloc (.cells #[.string a, .int .i64 b] 44)).drew) = .ok () (Go.ChangeMaps.setBlock ((w.alloc (.cells #[.string a, .int .i64 b] 44)).drew) M (.map es' clock')) ∧ SM (Go.ChangeMaps.setBlock ((w.alloc (.cells #[.string a, .int .i64 b] 44)).drew) M (.map es' clock')) M (upd (idxL l) a (some n)) :=
  SM.put (w := ((w.alloc (.cells #[.string a, .int .i64 b] 44)).drew)) (h.map.below (((Below.refl w.heap.size w).alloc (Nat.le_refl _) _).drew)) a ha n
set_option maxRecDepth 100000 in
set_option maxHeartbeats 4000000 in
theorem row_push {w : World} {base r M : Nat} {v : Value} {l : List Du} (h : HR w base r M v l) (d : Du) (hd : d.1 ∉ Nm l) (hok : OkDu d) (hlt : l.length < 256) :
    Calls Try.prog 82 #[.pointer (some ⟨r, 0, none⟩), .iface 44 (.agg #[.string d.1, .int .i64 d.2])] w fun e w' => PushPost w base r M v l d e w' := by
  obtain ⟨a, b⟩ := d
  obtain ⟨A, c, rfl⟩ := h.val
  obtain ⟨n, hn⟩ : ∃ n, n = l.length := ⟨_, rfl⟩
  rw [← hn] at h hlt
  rw [← hn]
  have HN := Lib.hid hn
  have HH := Lib.hid h
  have HD := Lib.hid hd
  have HO := Lib.hid hok
  clear h hn hd hok
  have ra := assert_due a b
  have HCL := Lib.hid (push_put (n := n) (b := b) HH.out (by have := HO.out.1; show a.size ≤ maxLen; unfold maxLen; simp at this; omega))
  go_enter Try.func82, Try.ntmps82
  go_wp2
  clear ra
  have hX := Blk.new w 44 #[.string a, .int .i64 b]
  have x0 := hX.cell 0
  have x1 := hX.cell 1
  simp only [List.getElem?_toArray, List.getElem?_cons_zero, List.getElem?_cons_succ] at x0 x1
  have hrow := HH.out.row.alloc (.cells #[.string a, .int .i64 b] 44)
  have c0 := hrow.cell 0
  have c1 := hrow.cell 1
  simp only [List.getElem?_toArray, List.getElem?_cons_zero, List.getElem?_cons_succ] at c0 c1
  obtain ⟨es1, cl1, hR, hM⟩ := HCL.out
  have HM := Lib.hid hM
  have HRM : Hid (r ≠ M) := Lib.hid HH.out.ne.1
  have HXM : Hid (w.heap.size ≠ M) := Lib.hid (fun e => by have := HH.out.map.lt; omega)
  have hal : Below w.heap.size w (w.alloc (.cells #[.string a, .int .i64 b] 44)) := (Below.refl _ _).alloc (Nat.le_refl _) _
  have HAL := Lib.hid hal
  clear hX hrow hM HCL hal
  generalize hW : w.alloc (.cells #[.string a, .int .i64 b] 44) = W at x0 x1 c0 c1 hR HM HAL ⊢
  have hws : w.heap.size < W.heap.size := by rw [← hW]; simp
  have HKS : Hid (∀ (V : World) (o : Obj), (V.cell? ⟨r, 0, none⟩ = some (.slice A n c) ∧ V.cell? ⟨r, 1, none⟩ = some (.map (some M)) ∧ V.cell? ⟨w.heap.size, 0, none⟩ = some (.string a)) → ((Go.ChangeMaps.setBlock V M o).cell? ⟨r, 0, none⟩ = some (.slice A n c) ∧ (Go.ChangeMaps.setBlock V M o).cell? ⟨r, 1, none⟩ = some (.map (some M)) ∧ (Go.ChangeMaps.setBlock V M o).cell? ⟨w.heap.size, 0, none⟩ = some (.string a))) := Lib.hid (fun V o h => by
    have hf := fr_setBlock V M o
    obtain ⟨h1, h2, h3⟩ := h
    exact ⟨cell_fr hf HRM.out h1, cell_fr hf HRM.out h2, cell_fr hf HXM.out h3⟩)
  have HW := Lib.hid hW
  clear hW
  go_region_held3 (fun V : World => V.cell? ⟨r, 0, none⟩ = some (.slice A n c) ∧ V.cell? ⟨r, 1, none⟩ = some (.map (some M)) ∧ V.cell? ⟨w.heap.size, 0, none⟩ = some (.string a)) (first | go_keep | (refine HKS.out _ _ ?_; assumption)) (fail)
  obtain ⟨V, hV⟩ : ∃ V, V = Go.ChangeMaps.setBlock W.drew M (.map es1 cl1) := ⟨_, rfl⟩
  have HPV : Hid (PushV w V base r M (.slice A n c) l a b n) := by
    refine Lib.hid ?_
    subst hV
    have hw := HW.out
    subst hw
    exact push_v HH.out HM.out HXM.out
  rw [← hV]
  clear hV hR HM x0 x1 c0 c1 HKS HW HAL
  have x0 := HPV.out.box.cell 0
  have x1 := HPV.out.box.cell 1
  have c0 := HPV.out.row.cell 0
  simp only [List.getElem?_toArray, List.getElem?_cons_zero, List.getElem?_cons_succ] at x0 x1 c0
  have x0a : ∀ o, (V.alloc o).cell? ⟨w.heap.size, 0, none⟩ = some (.string a) := fun o => by rw [World.cell?_alloc_lt _ _ _ HPV.out.box.lt]; exact x0
  have x1a : ∀ o, (V.alloc o).cell? ⟨w.heap.size, 1, none⟩ = some (.int .i64 b) := fun o => by rw [World.cell?_alloc_lt _ _ _ HPV.out.box.lt]; exact x1
  have c0a : ∀ o, (V.alloc o).cell? ⟨r, 0, none⟩ = some (.slice A n c) := fun o => by rw [World.cell?_alloc_lt _ _ _ HPV.out.row.lt]; exact c0
  have t0 : 0 < 2 := by omega
  have t1 : ∀ u ∈ [Value.string a, .int .i64 b], u.oneCell' = true := by simp [Value.oneCell']
  have t2 : n + 1 ≤ maxLen := by unfold maxLen; omega
  have t3 : (n + 1) * 24 ≤ 140737488355328 := by omega
  have t4 : base ≤ ((V.alloc (.cells #[.string a, .int .i64 b] 44)).drew).heap.size := by have := HPV.out.siz; simp; omega
  obtain ⟨i0, hi0, hz0, hz1, hz2⟩ := info_parts infoDue
  go_wp2
  go_region_law ((refine step_append_any _ (by rfl) (.tmp 28) (.tmp 30) 26 (by rfl) base 44 i0 (.agg #[.string ⟨#[]⟩, .int .i64 0]) 2 24 Try.underlying26 hi0 hz0 hz1 hz2 rfl t0 (.slice A n c) n (dcells l) (by rfl) (push_own (a := a) (b := b) HPV.out) (V.heap.size + 1) (some ⟨V.heap.size, 0, none⟩) 1 1 [.string a, .int .i64 b] (by rfl) (reads_due2 V 44 _ _ V.heap.size rfl) t1 t2 t3 t4 ?_; intro v' w' ho hg hat; obtain ⟨A', c', rfl⟩ := own_val ho; have HN2 := Lib.hid (push_mem HH.out HPV.out HN.out HD.out HO.out hlt ho hg hat); have hDw := Blk.grown ((HPV.out.row.alloc (.cells #[.string a, .int .i64 b] 44)).drew) hg (fun e => by have := HPV.out.nr _ e.symm; omega); have g0 := hDw.cell 0; have g1 := hDw.frozen 0; simp only [List.getElem?_toArray, List.getElem?_cons_zero] at g0; clear hDw ho hg hat))
  all_goals (go_end0; exact ⟨_, rfl, HN2.out.1, HN2.out.2.1, HN2.out.2.2⟩)
end Go.Proofs.Ytdhilhjiccpkkaa
