/-
  The document's queue: Drop.
-/
import Derived.Test.YtdhilhjiccpkkaaDueR1
import Derived.Test.YtdhilhjiccpkkaaDueQ3
import Derived.Deep.RegionLaw
namespace Go.Proofs.Ytdhilhjiccpkkaa
open Go.RowKit
set_option linter.unusedVariables false

/-- what is read of a list, as the append's law wants it -/
theorem RL.reads {w : World} {A : Option Addr} {L : List Du} (h : RL w A L) (hA : L = [] ∨ True) : Reads w w.heap.size 2 A L.length (dcells L) := by
  rcases h with h | ⟨b, o, rfl, hb, hc⟩
  · subst h
    exact ⟨rfl, fun hn => by simp at hn⟩
  · refine ⟨dcells_length L, fun hn => ⟨⟨b, o, none⟩, rfl, hb, fun j u hu => ?_⟩⟩
    have hj : j < L.length * 2 := by
      rcases Nat.lt_or_ge j (L.length * 2) with h | h
      · exact h
      · rw [List.getElem?_eq_none (by rw [dcells_length]; exact h)] at hu; cases hu
    have h1 := hc (j / 2) (by omega)
    have h2 := dcells_at L (j / 2) (by omega)
    rw [Addr.add_lit]
    rcases (by omega : j = j / 2 * 2 ∨ j = j / 2 * 2 + 1) with e | e
    · have hu2 : (dcells L)[j / 2 * 2]? = some u := by rw [← e]; exact hu
      rw [h2.1] at hu2
      cases hu2
      rw [show o + j = o + j / 2 * 2 from by omega]
      exact h1.1
    · have hu2 : (dcells L)[j / 2 * 2 + 1]? = some u := by rw [← e]; exact hu
      rw [h2.2] at hu2
      cases hu2
      rw [show o + j = o + j / 2 * 2 + 1 from by omega]
      exact h1.2
theorem own_empty (w : World) (base g : Nat) (h : w.heap[g]? = some (.cells #[] 44 (0, 0))) (hb : base ≤ g) : w.ownsRow base 44 2 (.slice (some ⟨g, 0, none⟩) 0 0) 0 [] :=
  ⟨rfl, .inr ⟨g, 0, #[], rfl, hb, h, Nat.le_refl _, by unfold maxLen; omega, rfl, rfl⟩⟩
theorem dcells_one (l : List Du) : ∀ u ∈ dcells l, u.oneCell' = true := by
  intro u hu
  simp only [dcells, List.mem_flatMap, List.mem_cons, List.not_mem_nil, or_false] at hu
  obtain ⟨d, _, rfl | rfl⟩ := hu <;> rfl
def xset (w : World) (x : Nat) (A : Option Addr) (n c : Nat) : World := w.setCell ⟨x, 0, none⟩ (.slice A n c)
/-- behind an append onto an empty row of the call's own, and one more onto that -/
structure XNew (w w' : World) (x : Nat) (v : Value) (n : Nat) (L : List Du) : Prop where
  own : w'.ownsRow w.heap.size 44 2 v n (dcells L)
  fr : Fr (fun _ => False) w w'
theorem XNew.step {w w1 w2 : World} {x n m k : Nat} {v v' : Value} {L M : List Du} (h : XNew w w1 x v n L) (hk : n + m = k) (ho : w2.ownsRow w.heap.size 44 2 v' (n + m) (dcells L ++ dcells M)) (hg : w1.grownBy w2 v.ownBlock) : XNew w w2 x v' k (L ++ M) := by
  refine ⟨by rw [dcells_append, ← hk]; exact ho, ?_⟩
  have h1 : Fr (fun g => v.ownBlock = some g) w1 w2 := Fr.of_grown hg (fun g e => e)
  refine h.fr.trans_new h1 (fun j hj e => ?_)
  have := (World.ownsRow.lt h.own j e).1
  omega
theorem XNew.rl {w w1 : World} {x n : Nat} {v : Value} {L M : List Du} {A : Option Addr} (h : XNew w w1 x v n L) (hr : RL w A M) : RL w1 A M := hr.fr h.fr (fun _ _ e => e)
theorem XNew.blk {w w1 : World} {x n : Nat} {v : Value} {L : List Du} {t : TypeId} {cs : Array Value} (h : XNew w w1 x v n L) (hb : Blk w x t cs) : Blk w1 x t cs := hb.fr' h.fr (fun e => e)
/-- what the document's queue is behind a change -/
def XPost (w : World) (x : Nat) (A : Option Addr) (E : Ending) (X' : List Du) (e : Ending) (w' : World) : Prop :=
  ∃ A' c', e = E ∧ XAt w' x A' c' X' ∧ Fr (· = x) w w' ∧ ∀ ad, A' = some ad → (∃ ad0, A = some ad0 ∧ ad0.block = ad.block) ∨ w.heap.size ≤ ad.block
theorem XNew.done {w w1 : World} {x n c : Nat} {A : Option Addr} {v0 : Value} {L : List Du} (h : XNew w w1 x (.slice A n c) n L) (hn : n = L.length) (hb : Blk w x 28 #[v0]) :
    XAt (w1.setCell ⟨x, 0, none⟩ (.slice A n c)) x A c L ∧ Fr (· = x) w (w1.setCell ⟨x, 0, none⟩ (.slice A n c)) ∧ ∀ ad, A = some ad → w.heap.size ≤ ad.block := by
  have hx := hb.lt
  have hf : Fr (· = x) w1 (w1.setCell ⟨x, 0, none⟩ (.slice A n c)) := fr_cell' x 0 _
  have hd : DR w1 w.heap.size (.slice A L.length c) L := by unfold DR; rw [← hn]; exact h.own
  have hge : ∀ ad, A = some ad → w.heap.size ≤ ad.block := fun ad e => hd.ge ad.block (by rw [e]; rfl)
  have hcap : L.length ≤ c ∧ c ≤ maxLen := by
    rcases hd.shape with ⟨e, e2⟩ | ⟨g, cap, cur, e, _, _, h1, h2, _⟩
    · subst e2; exact ⟨Nat.zero_le _, by injection e with _ _ e; subst e; unfold maxLen; omega⟩
    · injection e with _ _ e; subst e; exact ⟨h1, h2⟩
  refine ⟨⟨?_, (RL.of_dr hd).fr hf (fun ad e e2 => by have := hge ad e; omega), hcap.1, hcap.2, ?_⟩, (h.fr.mono (fun _ _ e => e.elim)).trans_new hf (fun j _ e => e), fun ad e => hge ad e⟩
  · have := (h.blk hb).set_ 0 (.slice A n c)
    rw [hn] at this ⊢
    exact this
  · rcases hd.shape with ⟨e, _⟩ | ⟨g, cap, cur, e, _, hB, _⟩
    · injection e with e1 _ e3
      exact .inl ⟨e1, e3⟩
    · injection e with e1
      exact .inr ⟨g, 0, e1, Nat.lt_of_lt_of_le hB.lt hf.size⟩
set_option maxRecDepth 100000 in
set_option maxHeartbeats 4000000 in
theorem xdrop_some {x c : Nat} {A : Option Addr} {X : List Du} (w : World) (h : XAt w x A c X) (s : ByteArray) (hf : X.length ≤ 256) {i : Nat} (hi : idxL X s = some i) :
    Calls Try.prog 23 #[.pointer (some ⟨x, 0, none⟩), .string s] w fun e w' => XPost w x A (.returned (.int .i64 0)) (X.take i ++ X.drop (i + 1)) e w' := by
  have HF := Lib.hid (xfind_any w h s hf)
  have hfi : findI X s = (i : Int) := by unfold findI; rw [hi]
  rw [hfi] at HF
  have hiX : i < X.length := by
    unfold idxL at hi
    rw [List.findIdx?_eq_some_iff_getElem] at hi
    exact hi.1
  have c0 := h.blk.cell 0
  simp only [List.getElem?_toArray, List.getElem?_cons_zero] at c0
  have hrl := h.rl
  rcases h.rl with e | ⟨b, o, rfl, hb, hc⟩
  · subst e; simp at hiX
  have hle := h.le
  have hcm := h.cm
  unfold maxLen at hcm
  obtain ⟨n, hn⟩ : ∃ n, n = X.length := ⟨_, rfl⟩
  rw [← hn] at c0 hiX hf hle
  have HH := Lib.hid h
  have HN := Lib.hid hn
  have HT : Hid (RL w (some ⟨b, o, none⟩) (X.take i)) := Lib.hid (hrl.take (by omega))
  have HTL : Hid ((X.take i).length = i) := Lib.hid (by rw [List.length_take]; omega)
  have HDL : Hid ((X.drop (i + 1)).length = n - (i + 1)) := Lib.hid (by rw [List.length_drop]; omega)
  obtain ⟨T1, hT1⟩ : ∃ T1, T1 = X.take i := ⟨_, rfl⟩
  obtain ⟨T2, hT2⟩ : ∃ T2, T2 = X.drop (i + 1) := ⟨_, rfl⟩
  have q0 : decide ((i : Int) < 0) = false := by rw [decide_eq_false_iff_not]; omega
  have q1 : (0 : Int) ≤ (i : Int) := by omega
  have q2 : (i : Int) ≤ (c : Int) := by omega
  have q3 : (i : Int) + 1 ≤ (n : Int) := by omega
  have q4 : ((i : Int) + 1).toNat = i + 1 := by omega
  have q5 : IntKind.i64.wrap ((i : Int) + 1) = (i : Int) + 1 := IntWalk.i64_in _ (by omega)
  have q6 : (n : Int) ≤ (c : Int) := by omega
  have q7 : (0 : Int) ≤ (i : Int) + 1 := by omega
  have c0a : ∀ ob, (w.alloc ob).cell? ⟨x, 0, none⟩ = some (.slice (some ⟨b, o, none⟩) n c) := fun ob => by rw [World.cell?_alloc_lt _ _ _ HH.out.blk.lt]; exact c0
  have HDR : Hid (RL w (some ⟨b, o + (i + 1) * 2, none⟩) (X.drop (i + 1))) := Lib.hid (hrl.drop (i + 1))
  rw [← hT1, ← hT2]
  rw [← hT1] at HT HTL
  rw [← hT2] at HDL HDR
  have HX0 : Hid (XNew w ((w.alloc (.cells #[] 44)).drew) x (.slice (some ⟨w.heap.size, 0, none⟩) 0 0) 0 []) := Lib.hid ⟨own_empty _ _ _ (heap_alloc_new w _) (Nat.le_refl _), ((Fr.refl _ w).alloc _).drew⟩
  have HR1 : Hid (Reads ((w.alloc (.cells #[] 44)).drew) ((w.alloc (.cells #[] 44)).drew).heap.size 2 (some ⟨b, o, none⟩) i (dcells T1)) := by
    have := (HX0.out.rl HT.out).reads (.inr trivial)
    rw [HTL.out] at this
    exact Lib.hid this
  obtain ⟨i0, hi0, hz0, hz1, hz2⟩ := info_parts infoDue
  have t0 : 0 < 2 := by omega
  have D1 := Lib.hid (dcells_one T1)
  have D2 := Lib.hid (dcells_one T2)
  have HB := Lib.hid HH.out.blk
  clear h hn hfi hi hc hb hrl hT1 hT2
  by_cases hcap : c = i + 1
  · have HDR : Hid (RL w (some ⟨b, o, none⟩) T2) := Lib.hid (by
      have : T2 = [] := List.eq_nil_of_length_eq_zero (by rw [HDL.out]; omega)
      rw [this]; exact RL.nil _ _)
    have HDL : Hid (T2.length = 0) := Lib.hid (by rw [HDL.out]; omega)
    have q4' : ((i : Int) + 1).toNat = c := by omega
    have hcap2 : i + 1 = c := hcap.symm
    clear hcap q4
    go_enter Try.func23, Try.ntmps23
    go_wp2_with (go_at_call 21; refine HF.out.mono ?_; rintro e w ⟨rfl, rfl⟩)
    go_region_law (first
      | (refine step_append_any _ (by rfl) (.tmp 12) (.tmp 18) 26 (by rfl) w.heap.size 44 i0 (.agg #[.string ⟨#[]⟩, .int .i64 0]) 2 24 Try.underlying26 hi0 hz0 hz1 hz2 rfl t0 (.slice (some ⟨w.heap.size, 0, none⟩) 0 0) 0 (dcells []) (by rfl) HX0.out.own _ (some ⟨b, o, none⟩) i c (dcells T1) (by rfl) HR1.out D1.out (by unfold maxLen; omega) (by omega) (by simp) ?_; intro v1 w1 ho1 hg1 hat1; have HX1 := Lib.hid (HX0.out.step (k := i) (Nat.zero_add i) ho1 hg1); have y0 := (HX1.out.blk HB.out).cell 0; simp only [List.getElem?_toArray, List.getElem?_cons_zero, ← HN.out] at y0; obtain ⟨A1, cc1, rfl⟩ := own_val HX1.out.own; have HR2 := Lib.hid ((HX1.out.rl HDR.out).reads (.inr trivial)); rw [HDL.out] at HR2; have HW1 : Hid (w.heap.size ≤ w1.heap.size) := Lib.hid HX1.out.fr.size; clear ho1 hg1 hat1)
      | (refine step_append_any _ (by rfl) (.tmp 19) (.tmp 26) 26 (by rfl) w.heap.size 44 i0 (.agg #[.string ⟨#[]⟩, .int .i64 0]) 2 24 Try.underlying26 hi0 hz0 hz1 hz2 rfl t0 (.slice A1 i cc1) i (dcells ([] ++ T1)) (by rfl) HX1.out.own _ (some ⟨b, o, none⟩) 0 0 (dcells T2) (by rfl) HR2.out D2.out (by unfold maxLen; omega) (by omega) HW1.out ?_; intro v2 w2 ho2 hg2 hat2; have HX2 := Lib.hid (HX1.out.step rfl ho2 hg2); have y1 := (HX2.out.blk HB.out).cell 0; have y2 := (HX2.out.blk HB.out).frozen 0; simp only [List.getElem?_toArray, List.getElem?_cons_zero, ← HN.out] at y1; obtain ⟨A2, cc2, rfl⟩ := own_val ho2; clear ho2 hg2 hat2))
    all_goals
      have HE := Lib.hid (HX2.out.done (c := cc2) (by rw [List.length_append, List.length_append, HTL.out, HDL.out, List.length_nil, Nat.zero_add]) HB.out)
      clear y0 y1 y2
      go_wp2
      go_ret
      exact ⟨A2, cc2, rfl, HE.out.1, HE.out.2.1, fun ad e => .inr (HE.out.2.2 ad e)⟩
  · go_enter Try.func23, Try.ntmps23
    go_wp2_with (go_at_call 21; refine HF.out.mono ?_; rintro e w ⟨rfl, rfl⟩)
    go_region_law (first
      | (refine step_append_any _ (by rfl) (.tmp 12) (.tmp 18) 26 (by rfl) w.heap.size 44 i0 (.agg #[.string ⟨#[]⟩, .int .i64 0]) 2 24 Try.underlying26 hi0 hz0 hz1 hz2 rfl t0 (.slice (some ⟨w.heap.size, 0, none⟩) 0 0) 0 (dcells []) (by rfl) HX0.out.own _ (some ⟨b, o, none⟩) i c (dcells T1) (by rfl) HR1.out D1.out (by unfold maxLen; omega) (by omega) (by simp) ?_; intro v1 w1 ho1 hg1 hat1; have HX1 := Lib.hid (HX0.out.step (k := i) (Nat.zero_add i) ho1 hg1); have y0 := (HX1.out.blk HB.out).cell 0; simp only [List.getElem?_toArray, List.getElem?_cons_zero, ← HN.out] at y0; obtain ⟨A1, cc1, rfl⟩ := own_val HX1.out.own; have HR2 := Lib.hid ((HX1.out.rl HDR.out).reads (.inr trivial)); rw [HDL.out] at HR2; have HW1 : Hid (w.heap.size ≤ w1.heap.size) := Lib.hid HX1.out.fr.size; clear ho1 hg1 hat1)
      | (refine step_append_any _ (by rfl) (.tmp 19) (.tmp 26) 26 (by rfl) w.heap.size 44 i0 (.agg #[.string ⟨#[]⟩, .int .i64 0]) 2 24 Try.underlying26 hi0 hz0 hz1 hz2 rfl t0 (.slice A1 i cc1) i (dcells ([] ++ T1)) (by rfl) HX1.out.own _ (some ⟨b, o + (i + 1) * 2, none⟩) (n - (i + 1)) (c - (i + 1)) (dcells T2) (by rfl) HR2.out D2.out (by unfold maxLen; omega) (by omega) HW1.out ?_; intro v2 w2 ho2 hg2 hat2; have HX2 := Lib.hid (HX1.out.step rfl ho2 hg2); have y1 := (HX2.out.blk HB.out).cell 0; have y2 := (HX2.out.blk HB.out).frozen 0; simp only [List.getElem?_toArray, List.getElem?_cons_zero, ← HN.out] at y1; obtain ⟨A2, cc2, rfl⟩ := own_val ho2; clear ho2 hg2 hat2))
    all_goals
      have HE := Lib.hid (HX2.out.done (c := cc2) (by rw [List.length_append, List.length_append, HTL.out, HDL.out, List.length_nil, Nat.zero_add]) HB.out)
      clear y0 y1 y2
      go_wp2
      go_ret
      exact ⟨A2, cc2, rfl, HE.out.1, HE.out.2.1, fun ad e => .inr (HE.out.2.2 ad e)⟩
end Go.Proofs.Ytdhilhjiccpkkaa
