/-
  due.row: Pop.
-/
import Derived.Test.YtdhilhjiccpkkaaDueW5
namespace Go.Proofs.Ytdhilhjiccpkkaa
open Go.RowKit
set_option linter.unusedVariables false

theorem pop_del {w : World} {base r M : Nat} {v : Value} {l : List Du} {a : ByteArray} {b : Int} (h : HR w base r M v l) (ha : a.size ≤ maxLen) (ty : TypeId) :
    ∃ es' clock', (Builtin.delete_ #[53, 9] ty #[.map (some M), .string a]).run Try.prog ((w.alloc (.cells #[.string a, .int .i64 b] 44)).drew) = .ok (.tuple #[]) (Go.ChangeMaps.setBlock ((w.alloc (.cells #[.string a, .int .i64 b] 44)).drew) M (.map es' clock')) ∧ SM (Go.ChangeMaps.setBlock ((w.alloc (.cells #[.string a, .int .i64 b] 44)).drew) M (.map es' clock')) M (upd (idxL l) a none) :=
  SM.del (w := ((w.alloc (.cells #[.string a, .int .i64 b] 44)).drew)) (h.map.below (((Below.refl w.heap.size w).alloc (Nat.le_refl _) _).drew)) a ha ty
/-- the world behind the delete -/
structure PopV (w V : World) (base r M : Nat) (v : Value) (l : List Du) (a : ByteArray) (b : Int) : Prop where
  box : Blk V w.heap.size 44 #[.string a, .int .i64 b]
  row : Blk V r 55 #[v, .map (some M)]
  own : DR V base v l
  map : SM V M (upd (idxL l) a none)
  fr : Fr (RS r M v) w V
theorem pop_v {w : World} {base r M : Nat} {v : Value} {l : List Du} {a : ByteArray} {b : Int} {o : Obj} (h : HR w base r M v l) (hm : SM (Go.ChangeMaps.setBlock (w.alloc (.cells #[.string a, .int .i64 b] 44)).drew M o) M (upd (idxL l) a none)) (hM : w.heap.size ≠ M) :
    PopV w (Go.ChangeMaps.setBlock (w.alloc (.cells #[.string a, .int .i64 b] 44)).drew M o) base r M v l a b := by
  have hf := fr_setBlock (w.alloc (.cells #[.string a, .int .i64 b] 44)).drew M o
  have hne := h.ne
  have h0 : Fr (fun _ => False) w (w.alloc (.cells #[.string a, .int .i64 b] 44)).drew := ((Fr.refl _ w).alloc _).drew
  refine ⟨?_, ?_, ?_, hm, ?_⟩
  · exact (Blk.new w 44 #[.string a, .int .i64 b]).drew.fr' hf hM
  · exact (h.row.fr' h0 (fun x => x)).fr' hf hne.1
  · exact (h.own.fr h0 (fun _ _ x => x)).fr hf (fun g e => (hne.2 g e).2)
  · exact (h0.mono (T := RS r M v) (fun _ _ x => x.elim)).trans_new hf (fun j _ e => .inr (.inl e))
theorem pop_mem {w V : World} {base r M g cap n : Nat} {l0 : List Du} {a : ByteArray} {b : Int} (h : HR w base r M (.slice (some ⟨g, 0, none⟩) (n + 1) cap) (l0 ++ [(a, b)])) (hv : PopV w V base r M (.slice (some ⟨g, 0, none⟩) (n + 1) cap) (l0 ++ [(a, b)]) a b) (hn : n = l0.length) :
    HR (V.setCell ⟨r, 0, none⟩ (.slice (some ⟨g, 0, none⟩) n cap)) base r M (.slice (some ⟨g, 0, none⟩) n cap) l0 ∧ Fr (RS r M (.slice (some ⟨g, 0, none⟩) (n + 1) cap)) w (V.setCell ⟨r, 0, none⟩ (.slice (some ⟨g, 0, none⟩) n cap)) := by
  have hne := h.ne
  have hf : Fr (· = r) V (V.setCell ⟨r, 0, none⟩ (.slice (some ⟨g, 0, none⟩) n cap)) := fr_cell' r 0 _
  have hnd : (Nm l0).Nodup := by
    have := h.nd
    rw [nm_append] at this
    exact (List.nodup_append.1 this).1
  refine ⟨⟨h.ge, ?_, ?_, ?_, hnd, ?_, fun d hd => h.ok d (List.mem_append_left _ hd)⟩, hv.fr.trans_new hf (fun j _ e => .inl e)⟩
  · exact hv.row.set_ 0 _
  · rcases hv.own.shape with ⟨e, _⟩ | ⟨g', cap', cur, e, h1, h2, h3, h4, h5, h6⟩
    · cases e
    · injection e with e1 _ e3
      injection e1 with e1
      injection e1 with e1
      subst e1 e3
      have h3' : l0.length ≤ cap := by rw [List.length_append] at h3; omega
      have hd : DR V base (.slice (some ⟨g, 0, none⟩) n cap) l0 := by
        rw [hn]
        exact DR.mk h1 h2 h3' h4 h5 (fun k hk => by
          have := h6 k (by simp; omega)
          rw [gd_append hk] at this
          exact this)
      refine hd.fr (S := (· = r)) hf (fun g' e => ?_)
      injection e with e
      subst e
      exact (hne.2 g rfl).1
  · refine (hv.map.fr hf (fun e => hne.1 e.symm)).congr (fun s => ?_)
    rw [idx_pop h.nd]
    rfl
  · have := h.few
    simp at this
    omega
def PopPost (w : World) (base r M : Nat) (v : Value) (l0 : List Du) (d : Du) (e : Ending) (w' : World) : Prop :=
  ∃ v', e = .returned (.iface 44 (.agg #[.string d.1, .int .i64 d.2])) ∧ HR w' base r M v' l0 ∧ Fr (RS r M v) w w' ∧ v'.ownBlock = v.ownBlock
set_option maxRecDepth 100000 in
set_option maxHeartbeats 4000000 in
theorem row_pop {w : World} {base r M : Nat} {v : Value} {l0 : List Du} {d : Du} (h : HR w base r M v (l0 ++ [d])) :
    Calls Try.prog 81 #[.pointer (some ⟨r, 0, none⟩)] w fun e w' => PopPost w base r M v l0 d e w' := by
  obtain ⟨a, b⟩ := d
  obtain ⟨g, cap, cur, rfl, hg, hB, hn, hm, hs, hdc⟩ := h.open_ (by simp)
  have hlen : (l0 ++ [((a, b) : Du)]).length = l0.length + 1 := by simp
  rw [hlen] at h hn ⊢
  obtain ⟨n, hn'⟩ : ∃ n, n = l0.length := ⟨_, rfl⟩
  rw [← hn'] at h hn ⊢
  have e0 := (hdc n (by simp; omega)).1
  have e1 := (hdc n (by simp; omega)).2
  have hgl : gd (l0 ++ [(a, b)]) n = (a, b) := by rw [hn']; exact gd_append_last _ _
  rw [← hB.cell, hgl] at e0 e1
  have c0 := h.row.cell 0
  have c1 := h.row.cell 1
  simp only [List.getElem?_toArray, List.getElem?_cons_zero, List.getElem?_cons_succ] at c0 c1
  have hfew := h.few
  rw [hlen, ← hn'] at hfew
  have HN := Lib.hid hn'
  have HH := Lib.hid h
  have hasz : a.size ≤ maxLen := by
    have := (h.ok (a, b) (by simp)).1
    simp only at this
    unfold maxLen; omega
  have HCL := Lib.hid (fun ty => pop_del (a := a) (b := b) h hasz ty)
  have q1 : (0 : Int) ≤ (n : Int) := by omega
  have q2 : (n : Int) < (n : Int) + 1 := by omega
  unfold maxLen at hm
  simp only at e0 e1
  clear h hB hs hdc hgl hlen hn' hasz hg
  go_enter Try.func81, Try.ntmps81
  go_wp2
  obtain ⟨es1, cl1, hR, hM⟩ := HCL.out 0
  have HRM : Hid (r ≠ M) := Lib.hid HH.out.ne.1
  have HXM : Hid (w.heap.size ≠ M) := Lib.hid (fun e => by have := HH.out.map.lt; omega)
  have HPV := Lib.hid (pop_v HH.out hM HXM.out)
  have hX := Blk.new w 44 #[.string a, .int .i64 b]
  have x0 := hX.cell 0
  have x1 := hX.cell 1
  have hrow := HH.out.row.alloc (.cells #[.string a, .int .i64 b] 44)
  have c0 := hrow.cell 0
  have c1 := hrow.cell 1
  simp only [List.getElem?_toArray, List.getElem?_cons_zero, List.getElem?_cons_succ] at x0 x1 c0 c1
  clear hX hrow hM HCL e0 e1
  generalize hW : w.alloc (.cells #[.string a, .int .i64 b] 44) = W at x0 x1 c0 c1 hR HPV ⊢
  have HKS : Hid (∀ (V : World) (o : Obj), (V.cell? ⟨r, 1, none⟩ = some (.map (some M)) ∧ V.cell? ⟨w.heap.size, 0, none⟩ = some (.string a)) → ((Go.ChangeMaps.setBlock V M o).cell? ⟨r, 1, none⟩ = some (.map (some M)) ∧ (Go.ChangeMaps.setBlock V M o).cell? ⟨w.heap.size, 0, none⟩ = some (.string a))) := Lib.hid (fun V o h => by
    have hf := fr_setBlock V M o
    obtain ⟨h1, h2⟩ := h
    exact ⟨cell_fr hf HRM.out h1, cell_fr hf HXM.out h2⟩)
  clear hW
  go_region_held3 (fun V : World => V.cell? ⟨r, 1, none⟩ = some (.map (some M)) ∧ V.cell? ⟨w.heap.size, 0, none⟩ = some (.string a)) (first | go_keep | (refine HKS.out _ _ ?_; assumption)) (fail)
  obtain ⟨V, hV⟩ : ∃ V, V = Go.ChangeMaps.setBlock W.drew M (.map es1 cl1) := ⟨_, rfl⟩
  rw [← hV] at HPV ⊢
  clear hV hR x0 x1 c0 c1 HKS
  have x0 := HPV.out.box.cell 0
  have x1 := HPV.out.box.cell 1
  have c0 := HPV.out.row.cell 0
  have z0 := HPV.out.row.frozen 0
  have hrx : r ≠ w.heap.size := fun e => by have := HH.out.row.lt; omega
  simp only [List.getElem?_toArray, List.getElem?_cons_zero, List.getElem?_cons_succ] at x0 x1 c0
  have HN2 := Lib.hid (pop_mem HH.out HPV.out HN.out)
  have q5 : (0 : Int) ≤ (n : Int) := by omega
  have q6 : (n : Int) ≤ (cap : Int) := by omega
  go_wp2
  go_ret
  exact ⟨_, rfl, HN2.out.1, HN2.out.2, rfl⟩
end Go.Proofs.Ytdhilhjiccpkkaa
