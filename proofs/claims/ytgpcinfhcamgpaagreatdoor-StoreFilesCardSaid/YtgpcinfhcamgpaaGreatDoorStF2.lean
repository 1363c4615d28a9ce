/-
  store.copies; an element of an owned row of files is written.
-/
import Derived.Test.YtgpcinfhcamgpaaGreatDoorStF1
import Derived.Test.YtgpcinfhcamgpaaGreatDoorGA
namespace Go.Proofs.YtgpcinfhcamgpaaGreatDoor
open Go.RowKit
attribute [local go_sem ↓] Go.wp_at_zero Go.wp_at_succ
set_option linter.unusedVariables false
set_option linter.unusedSimpArgs false

theorem flat_set1 : ∀ (fs : List FV) (i : Nat) (hi : i < fs.length) (A : Option Addr) (c : Nat) (l : List UInt8), (fs.flatMap FV.cells).set (i * 2 + 1) (.slice A l.length c) = (fs.set i ⟨fs[i].nm, A, c, l⟩).flatMap FV.cells
  | [], i, h, _, _, _ => by simp at h
  | f :: fs, 0, _, A, c, l => by simp [FV.cells]
  | f :: fs, k + 1, h, A, c, l => by
    have := flat_set1 fs k (by simpa using h) A c l
    have e : (f :: fs).flatMap FV.cells = Value.string f.nm :: Value.slice f.A f.b.length f.c :: fs.flatMap FV.cells := by simp [FV.cells]
    rw [e, show (k + 1) * 2 + 1 = (k * 2 + 1) + 2 from by omega]
    simp [FV.cells, this]
theorem flat_set0 : ∀ (fs : List FV) (i : Nat) (hi : i < fs.length) (s : ByteArray), (fs.flatMap FV.cells).set (i * 2) (.string s) = (fs.set i ⟨s, fs[i].A, fs[i].c, fs[i].b⟩).flatMap FV.cells
  | [], i, h, _ => by simp at h
  | f :: fs, 0, _, s => by simp [FV.cells]
  | f :: fs, k + 1, h, s => by
    have := flat_set0 fs k (by simpa using h) s
    have e : (f :: fs).flatMap FV.cells = Value.string f.nm :: Value.slice f.A f.b.length f.c :: fs.flatMap FV.cells := by simp [FV.cells]
    rw [e, show (k + 1) * 2 = k * 2 + 2 from by omega]
    simp [FV.cells, this]
section
variable {w w' : World} {fs : List FV} {base B : Nat} {v : Value}
/-- a body is written -/
theorem OFs.set1 {g cap n : Nat} (h : OFs B w base (.slice (some ⟨g, 0, none⟩) n cap) fs) (hB : B ≤ base) (hn : fs.length = n) (i : Nat) (hi : i < fs.length) (A : Option Addr) (c : Nat) (l : List UInt8) (hb : BodyS w B A l) (hc : l.length ≤ c ∧ c ≤ maxLen) :
    OFs B (w.setCell ⟨g, i * 2 + 1, none⟩ (.slice A l.length c)) base (.slice (some ⟨g, 0, none⟩) n cap) (fs.set i ⟨fs[i].nm, A, c, l⟩) ∧ Fr (· = g) w (w.setCell ⟨g, i * 2 + 1, none⟩ (.slice A l.length c)) := by
  have hne : fs ≠ [] := fun e => by subst e; simp at hi
  obtain ⟨g', cap', cur, e, hg, hk, h1, h2, h3, h4⟩ := h.cut hne
  injection e with e1 e2 e3
  injection e1 with e1
  injection e1 with e1 _ _
  subst e1
  subst e3
  have hf : Fr (· = g) w (w.setCell ⟨g, i * 2 + 1, none⟩ (.slice A l.length c)) := (Fr.refl (· = g) w).setCell (p := ⟨g, i * 2 + 1, none⟩) (fun _ => rfl) _
  have hno : NoB8 w B (· = g) := fun j e => h.noB hB j (by subst e; rfl)
  refine ⟨?_, hf⟩
  have hs := hk.set_ (i * 2 + 1) (.slice A l.length c)
  have hl : (fs.set i ⟨fs[i].nm, A, c, l⟩).length = n := by rw [List.length_set, hn]
  rw [← hl]
  refine OFs.of_blk hg hs (by rw [List.length_set]; exact h1) h2 (by simpa using h3) ?_ (fun f hf' => ?_)
  · rw [List.length_set, Array.toList_setIfInBounds, List.take_set, h4, flat_set1 fs i hi]
  · rcases List.mem_or_eq_of_mem_set hf' with h5 | h5
    · exact (h.2 f h5).fr hf hno
    · subst h5
      exact ⟨hb.fr hf hno, hc⟩
/-- a name is written -/
theorem OFs.set0 {g cap n : Nat} (h : OFs B w base (.slice (some ⟨g, 0, none⟩) n cap) fs) (hB : B ≤ base) (hn : fs.length = n) (i : Nat) (hi : i < fs.length) (s : ByteArray) :
    OFs B (w.setCell ⟨g, i * 2, none⟩ (.string s)) base (.slice (some ⟨g, 0, none⟩) n cap) (fs.set i ⟨s, fs[i].A, fs[i].c, fs[i].b⟩) ∧ Fr (· = g) w (w.setCell ⟨g, i * 2, none⟩ (.string s)) := by
  have hne : fs ≠ [] := fun e => by subst e; simp at hi
  obtain ⟨g', cap', cur, e, hg, hk, h1, h2, h3, h4⟩ := h.cut hne
  injection e with e1 e2 e3
  injection e1 with e1
  injection e1 with e1 _ _
  subst e1
  subst e3
  have hf : Fr (· = g) w (w.setCell ⟨g, i * 2, none⟩ (.string s)) := (Fr.refl (· = g) w).setCell (p := ⟨g, i * 2, none⟩) (fun _ => rfl) _
  have hno : NoB8 w B (· = g) := fun j e => h.noB hB j (by subst e; rfl)
  refine ⟨?_, hf⟩
  have hs := hk.set_ (i * 2) (.string s)
  have hl : (fs.set i ⟨s, fs[i].A, fs[i].c, fs[i].b⟩).length = n := by rw [List.length_set, hn]
  rw [← hl]
  refine OFs.of_blk hg hs (by rw [List.length_set]; exact h1) h2 (by simpa using h3) ?_ (fun f hf' => ?_)
  · rw [List.length_set, Array.toList_setIfInBounds, List.take_set, h4, flat_set0 fs i hi]
  · rcases List.mem_or_eq_of_mem_set hf' with h5 | h5
    · exact (h.2 f h5).fr hf hno
    · subst h5
      exact (h.2 _ (List.getElem_mem hi)).fr hf hno
end
/-- a row of copies: the same files to a reader -/
def CopP (B : Nat) (fs : List FV) (w : World) (e : Ending) (w' : World) : Prop := ∃ v fs', e = .returned v ∧ OFs B w' w.heap.size v fs' ∧ fiL fs' = fiL fs ∧ Below w.heap.size w w'
theorem fiL_set (fs : List FV) (i : Nat) (hi : i < fs.length) (A : Option Addr) (c : Nat) : fiL (fs.set i ⟨fs[i].nm, A, c, fs[i].b⟩) = fiL fs := by
  unfold fiL
  apply List.ext_getElem (by simp)
  intro j h1 h2
  simp only [List.getElem_map, List.getElem_set]
  split
  · rename_i e
    subst e
    rfl
  · rfl
theorem fiL_bl {fs fs' : List FV} (h : fiL fs' = fiL fs) {m : Nat} (hm : ∀ f ∈ fs, f.b.length ≤ m) : ∀ f ∈ fs', f.b.length ≤ m := fun f hf => by
  have h1 : FV.fi f ∈ fiL fs := h ▸ List.mem_map_of_mem hf
  obtain ⟨g, hg, e⟩ := List.mem_map.1 h1
  have := hm g hg
  have e2 : g.b = f.b := congrArg Fi.b e
  rw [← e2]
  exact this
set_option maxRecDepth 100000 in
set_option maxHeartbeats 4000000 in
theorem copies_any (B : Nat) (A : Option Addr) (n c : Nat) (fs : List FV) (w : World) (hl : Fls w A fs) (hn : fs.length = n) (hbig : n ≤ 2000000000000) (hv : ∀ f ∈ fs, FVs w B f) (hB : B ≤ w.heap.size) (hbl : ∀ f ∈ fs, f.b.length ≤ 140737488355328) :
    Calls Tryz.prog 65 #[.slice A n c] w fun e w' => CopP B fs w e w' := by
  have HC := Lib.hid (fclone_any B A n c fs w hl hn hbig hv hB)
  have HN := Lib.hid hn
  have HB := Lib.hid hB
  have HBL := Lib.hid hbl
  clear hl hn hv hB hbl
  go_enter Tryz.func65, Tryz.ntmps65
  go_wp2_with fail
  refine HC.out.mono ?_
  rintro e w1 ⟨v, rfl, hown, hb1⟩
  obtain ⟨A1, c1, rfl, hc1, hcm, hf1⟩ := hown.fls
  have HO := Lib.hid hown
  have HB1 := Lib.hid hb1
  rw [HN.out] at HO ⊢
  have hn63 : n ≤ 9223372036854775807 := by omega
  clear hown hb1 hc1 hcm hf1 HC
  go_wp2
  go_loopw [9] (fun i wr => ∃ (k : Nat) (gs : List FV), k ≤ n ∧ i = .int .i64 (k : Int) ∧ Hid (OFs B wr w.heap.size (.slice A1 n c1) gs ∧ fiL gs = fiL fs ∧ gs.length = n) ∧ Hid (Below w.heap.size w wr)) (fun i _ => n - (intOf i).toNat)
  case atStart => exact ⟨0, fs, Nat.zero_le _, rfl, Lib.hid ⟨HO.out, rfl, HN.out⟩, HB1⟩
  case round =>
    clear HO HB1
    obtain ⟨k, gs, hk, rfl, HO, HW⟩ := hrel
    rcases (by omega : k < n ∨ k = n) with hlt | heq
    · have q0 : decide ((k : Int) < (n : Int)) = true := by rw [decide_eq_true_iff]; omega
      have q0' : decide (k < n) = true := by rw [decide_eq_true_iff]; omega
      have hkl : k < gs.length := by rw [HO.out.2.2]; exact hlt
      have hne : gs ≠ [] := fun e => by subst e; simp at hkl
      obtain ⟨g, cap, cur, ev, hg, hbk, _⟩ := HO.out.1.cut hne
      injection ev with ev1 ev2 ev3
      subst ev1
      have HGB := Lib.hid hg
      obtain ⟨A2, c2, e2, _, _, hfl⟩ := HO.out.1.fls
      injection e2 with e21 e22 e23
      subst e21
      obtain ⟨b, o, hA, hb, c0, c1', hrb, hbc, hbm⟩ := hfl.at_ hkl
      injection hA with hA
      injection hA with hA1 hA2 _
      subst hA1
      subst hA2
      rw [Nat.zero_add] at c0 c1'
      have hfz := hbk.frozen (k * 2 + 1)
      have hglt := hbk.lt
      obtain ⟨nb, hnb⟩ : ∃ nb, nb = gs[k].b.length := ⟨_, rfl⟩
      have HCL := Lib.hid (clone_n gs[k].A nb gs[k].c gs[k].b wr hnb.symm (by rw [hnb]; exact fiL_bl HO.out.2.1 HBL.out _ (List.getElem_mem hkl)) hrb)
      rw [← hnb] at c1'
      have HNB := Lib.hid hnb
      have hki : (k : Int) < (n : Int) := by omega
      have hk0 : (0 : Int) ≤ (k : Int) := by omega
      have HBK := Lib.hid hbk
      have HGL := Lib.hid hglt
      clear hbk hg ev2 ev3 e22 e23 hfl hrb hb hnb hbc hbm c0 hglt
      go_wp2_with fail
      refine HCL.out.mono ?_
      rintro e w2 ⟨v2, rfl, hv2, hb2⟩
      obtain ⟨A3, c3, rfl, hc3, hm3, hr3, _⟩ := hv2.shape
      have HV2 := Lib.hid hv2
      have HM3 := Lib.hid (And.intro hc3 hm3)
      have HB2 := Lib.hid hb2
      have hfz2 := (HBK.out.below hb2 HBK.out.lt).frozen (k * 2 + 1)
      have hcc : (w2.cell? ⟨g, k * 2 + 1, none⟩).isSome = true := by
        rw [hb2.cell (p := ⟨g, k * 2 + 1, none⟩) HGL.out, c1']
        rfl
      obtain ⟨x9, hx9⟩ := Option.isSome_iff_exists.1 hcc
      clear hv2 hc3 hm3 hr3 hb2 hcc hfz c1'
      obtain ⟨m3, hm3⟩ : ∃ m, m = gs[k].b.length := ⟨_, rfl⟩
      rw [← hm3]
      have HM := Lib.hid hm3
      clear hm3
      go_wp2
      have HSET := Lib.hid (OFs.set1 (HO.out.1.below HB2.out) HB.out HO.out.2.2 k hkl A3 c3 gs[k].b (BodyS.of_ob HV2.out) HM3.out)
      rw [← HM.out] at HSET
      go_roundw
      case rel => exact ⟨k + 1, _, by omega, by go_num, Lib.hid ⟨HSET.out.1, (fiL_set gs k hkl A3 c3).trans HO.out.2.1, by rw [List.length_set]; exact HO.out.2.2⟩, Lib.hid (Fr.below_trans (HW.out.trans (HB2.out.mono HW.out.size)) HSET.out.2 (HW.out.trans (HB2.out.mono HW.out.size)).size (fun j e => e ▸ HGB.out))⟩
      case measure => simp [intOf]; omega
    · have q0 : decide ((k : Int) < (n : Int)) = false := by rw [decide_eq_false_iff_not]; omega
      have q0' : decide (k < n) = false := by rw [decide_eq_false_iff_not]; omega
      clear heq
      go_wp2
      go_ret
      exact ⟨_, gs, rfl, HO.out.1, HO.out.2.1, HW.out⟩
end Go.Proofs.YtgpcinfhcamgpaaGreatDoor
