/-
  Reading: a text's contract in one piece; []byte of a text; a file is appended.
-/
import Derived.Test.YtgpcinfhcamgpaaGreatDoorStM2
import Derived.Test.YtgpcinfhcamgpaaGreatDoorGA
import Derived.Deep.DrawnRows
namespace Go.Proofs.YtgpcinfhcamgpaaGreatDoor
open Go.RowKit
attribute [local go_sem ↓] Go.wp_at_zero Go.wp_at_succ
set_option linter.unusedVariables false
set_option linter.unusedSimpArgs false

theorem RD.empty {w : World} {r : Nat} {l : List UInt8} {bad : Bool} (h : RD w r l bad) : bad = true → l = [] := by
  obtain ⟨_, _, _, _, _, _, _, hbad, _⟩ := h
  exact hbad
theorem RX.empty {w : World} {r : Nat} {l : List UInt8} {bad : Bool} (h : RX w r l bad) : bad = true → l = [] := by
  obtain ⟨_, _, _, _, _, _, _, hbad, _⟩ := h
  exact hbad
theorem rtextC (w : World) (r : Nat) (l : List UInt8) (bad : Bool) (h : RD w r l bad) :
    Calls Tryz.prog 39 #[.pointer (some ⟨r, 0, none⟩), .int .i64 1048576] w fun e w' => e = .returned (.string ⟨(rdT l).1.toArray⟩) ∧ RD w' r (rdT l).2.1 (rdT l).2.2 ∧ Fr (· = r) w w' := by
  by_cases h4 : l.length < 4
  · rw [rdT_bad (.inl h4)]
    exact rtext_no w r l bad 1048576 h h4
  · have hb : bad = false := by
      cases bad with
      | false => rfl
      | true => rw [h.empty rfl] at h4; simp at h4
    subst hb
    by_cases h5 : 1048576 < beVal (l.take 4)
    · rw [rdT_bad (.inr (.inl h5))]
      exact rtext_long w r l 1048576 h (by omega) (by omega)
    · by_cases h6 : l.length - 4 < beVal (l.take 4)
      · rw [rdT_bad (.inr (.inr h6))]
        exact rtext_short w r l 1048576 h (by omega) (by omega) h6
      · rw [rdT_ok (by omega) (by omega) (by omega)]
        exact rtext_ok w r l 1048576 h (by omega) (by omega) (by omega)
theorem rtextX (w : World) (r : Nat) (l : List UInt8) (bad : Bool) (h : RX w r l bad) :
    Calls Tryz.prog 42 #[.pointer (some ⟨r, 0, none⟩), .int .i64 1048576] w fun e w' => e = .returned (.string ⟨(rdT l).1.toArray⟩) ∧ RX w' r (rdT l).2.1 (rdT l).2.2 ∧ Fr (· = r) w w' := by
  by_cases h4 : l.length < 4
  · rw [rdT_bad (.inl h4)]
    exact xtext_no w r l bad 1048576 h h4
  · have hb : bad = false := by
      cases bad with
      | false => rfl
      | true => rw [h.empty rfl] at h4; simp at h4
    subst hb
    by_cases h5 : 1048576 < beVal (l.take 4)
    · rw [rdT_bad (.inr (.inl h5))]
      exact xtext_long w r l 1048576 h (by omega) (by omega)
    · by_cases h6 : l.length - 4 < beVal (l.take 4)
      · rw [rdT_bad (.inr (.inr h6))]
        exact xtext_short w r l 1048576 h (by omega) (by omega) h6
      · rw [rdT_ok (by omega) (by omega) (by omega)]
        exact xtext_ok w r l 1048576 h (by omega) (by omega) (by omega)
theorem conv_body (t : List UInt8) (w : World) (hs : t.length ≤ maxLen) : ∃ cap W', (convert 9 22 (.string ⟨t.toArray⟩)).run Tryz.prog w = .ok (.slice (some ⟨w.heap.size, 0, none⟩) t.length cap) W' ∧ t.length ≤ cap ∧ cap ≤ maxLen ∧
    (∀ base, BodyOK W' base (some ⟨w.heap.size, 0, none⟩) t) ∧ Below w.heap.size w W' ∧ W'.heap.size = w.heap.size + 1 := by
  have hsz : (⟨t.toArray⟩ : ByteArray).size = t.length := by simp [ByteArray.size]
  have e : (convert 9 22 (.string ⟨t.toArray⟩)).run Tryz.prog w = .ok (.slice (some ⟨w.heap.size, 0, none⟩) (⟨t.toArray⟩ : ByteArray).size (grownCap w (⟨t.toArray⟩ : ByteArray).size 0 5)) (Lib.bytesWorld w 5 ⟨t.toArray⟩) := Lib.run_convert_string_bytes w 9 22 5 _ Tryz.underlying9 Tryz.underlying22 Tryz.underlying5
  obtain ⟨cap, W', h1, h2, h3, h4, h5⟩ := conv_bytes ⟨t.toArray⟩ w (by rw [hsz]; exact hs)
  have h6 := h1
  rw [e] at h6
  injection h6 with h7 h8
  injection h7 with _ _ h9
  rw [hsz] at h1 h2
  refine ⟨cap, W', h1, h2, h3, fun base => ⟨h4, fun ad e' => .inr ?_⟩, h5, ?_⟩
  · cases e'
    rw [← h8]
    exact ⟨_, _, Lib.bytesWorld_at_new w 5 _⟩
  · rw [← h8]; exact Lib.bytesWorld_size w 5 _
theorem infoFile : (Tryz.prog.info? 55).map (fun i => (i.zero, i.size, i.bytes)) = some (some (.agg #[.string ⟨#[]⟩, .slice none 0 0]), 2, 40) := by kernel_rfl
theorem OFl.drew {bb : Nat} {w : World} {base : Nat} {v : Value} {fs : List FV} (h : OFl bb w base v fs) : OFl bb w.drew base v fs := h.below (Below.refl _ _).drew
theorem app_file (w : World) {ops : Array Oper} {rest : List Oper} {o : Oper} {a : Act} {Q : Exit → Act → World → Prop} (hgd : o.guard = none) (s x : Operand)
    (ho : o.op = .call { callee := .builtin .append, args := #[s, x], argTypes := #[23, 23] })
    (bb base : Nat) (hbb : bb ≤ base) (v : Value) (fs : List FV) (hs : a.eval s = v) (hown : OFl bb w base v fs) (f : FV) (n : Nat) (hn : n = f.b.length) (hf : FVok w bb f) (hx : a.eval x = .slice (some ⟨w.heap.size, 0, none⟩) 1 1)
    (hlen : fs.length ≤ 1000000) (hbase : base ≤ w.heap.size)
    (h : ∀ v' w', OFl bb w' base v' (fs ++ [f]) → (w.alloc (.cells #[.string f.nm, .slice f.A n f.c] 55)).grownBy w' v.ownBlock → wpList Tryz.prog ops Q rest (a.put o.dst v') w') : wpList Tryz.prog ops Q (o :: rest) a (w.alloc (.cells #[.string f.nm, .slice f.A n f.c] 55)) := by
  obtain ⟨i0, hi0, hz0, hz1, hz2⟩ := info_parts infoFile
  have hb1 : Below w.heap.size w (w.alloc (.cells #[.string f.nm, .slice f.A n f.c] 55)) := (Below.refl _ _).alloc (Nat.le_refl _) _
  have ho1 := hown.below hb1
  have hr : Reads (w.alloc (.cells #[.string f.nm, .slice f.A n f.c] 55)) (w.alloc (.cells #[.string f.nm, .slice f.A n f.c] 55)).heap.size 2 (some ⟨w.heap.size, 0, none⟩) 1 (FV.cells f) := by
    refine ⟨rfl, fun _ => ⟨_, rfl, by simp, fun j u hu => ?_⟩⟩
    rw [Addr.add_lit, Nat.zero_add, (Blk.new w 55 _).cell j]
    rw [hn]
    simpa [FV.cells] using hu
  refine wpList_append_any _ hgd s x 23 ho base 55 i0 _ 2 40 Tryz.underlying23 hi0 hz0 hz1 hz2 rfl (by omega) v fs.length (fs.flatMap FV.cells) hs ho1.1 _ _ 1 1 (FV.cells f) hx hr (fun u hu => by
    simp only [FV.cells, List.mem_cons, List.not_mem_nil, or_false] at hu
    rcases hu with rfl | rfl <;> rfl) (by simp only [maxLen]; omega) (by omega) (by simp; omega) ?_
  intro v' w' h1 h2 _
  refine h v' w' ⟨?_, fun g hg => ?_⟩ h2
  · rw [List.length_append, List.flatMap_append]
    simpa using h1
  · refine FVok.fr (S := fun k => v.ownBlock = some k) ?_ (Fr.of_grown h2 (fun k e => e)) (fun k hk => ⟨Nat.le_trans hbb (ho1.ge k hk), ho1.row k hk⟩)
    rcases List.mem_append.1 hg with hg | hg
    · exact ho1.2 g hg
    · rw [List.mem_singleton] at hg
      subst hg
      exact hf.below hb1
end Go.Proofs.YtgpcinfhcamgpaaGreatDoor
