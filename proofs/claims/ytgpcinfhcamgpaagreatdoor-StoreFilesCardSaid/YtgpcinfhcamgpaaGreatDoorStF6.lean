/-
  The document's Get and Drop; parts of files that are read.
-/
import Derived.Test.YtgpcinfhcamgpaaGreatDoorStF5
namespace Go.Proofs.YtgpcinfhcamgpaaGreatDoor
open Go.RowKit
attribute [local go_sem ↓] Go.wp_at_zero Go.wp_at_succ
set_option linter.unusedVariables false
set_option linter.unusedSimpArgs false

theorem flat_drop (fs : List FV) : ∀ m, (fs.flatMap FV.cells).drop (m * 2) = (fs.drop m).flatMap FV.cells := by
  intro m
  have h : fs.flatMap FV.cells = (fs.take m).flatMap FV.cells ++ (fs.drop m).flatMap FV.cells := by rw [← List.flatMap_append, List.take_append_drop]
  rcases Nat.lt_or_ge fs.length m with h1 | h1
  · rw [List.drop_of_length_le (by rw [flat_len]; omega), List.drop_of_length_le (l := fs) (by omega)]
    rfl
  · rw [h, List.drop_left' (by rw [flat_len, List.length_take]; omega)]
theorem flat_take (fs : List FV) : ∀ m, (fs.flatMap FV.cells).take (m * 2) = (fs.take m).flatMap FV.cells := by
  intro m
  have h : fs.flatMap FV.cells = (fs.take m).flatMap FV.cells ++ (fs.drop m).flatMap FV.cells := by rw [← List.flatMap_append, List.take_append_drop]
  rcases Nat.lt_or_ge fs.length m with h1 | h1
  · rw [List.take_of_length_le (by rw [flat_len]; omega), List.take_of_length_le (l := fs) (by omega)]
  · rw [h, List.take_left' (by rw [flat_len, List.length_take]; omega)]
section
variable {w w' : World} {A : Option Addr} {fs : List FV} {base B : Nat} {v : Value}
theorem Fls.take (h : Fls w A fs) (m : Nat) : Fls w A (fs.take m) := by
  refine ⟨⟨by rw [flat_len], fun hn => ?_⟩, fun f hf => h.2 f (List.mem_of_mem_take hf)⟩
  obtain ⟨ad, e, hb, hc⟩ := h.1.2 (by rw [List.length_take] at hn; omega)
  refine ⟨ad, e, hb, fun j u hu => hc j u ?_⟩
  rw [← flat_take, List.getElem?_take] at hu
  split at hu
  · exact hu
  · cases hu
theorem Fls.drop (h : Fls w A fs) (m : Nat) : Fls w (A.map fun x => x.add (m * 2)) (fs.drop m) := by
  refine ⟨⟨by rw [flat_len], fun hn => ?_⟩, fun f hf => h.2 f (List.mem_of_mem_drop hf)⟩
  obtain ⟨ad, e, hb, hc⟩ := h.1.2 (by rw [List.length_drop] at hn; omega)
  refine ⟨ad.add (m * 2), by rw [e]; rfl, by rw [block_of_add]; exact hb, fun j u hu => ?_⟩
  rw [add_of_add]
  refine hc _ u ?_
  rw [← flat_drop, List.getElem?_drop] at hu
  exact hu
theorem Fls.one {q : Nat} {f : FV} (hq : Blk w q 55 (FV.cells f).toArray) (hf : FVs w B f) : Fls w (some ⟨q, 0, none⟩) [f] :=
  ⟨⟨by simp [FV.cells], fun _ => ⟨_, rfl, hq.lt, fun j u hu => by
    rw [Addr.add_lit, Nat.zero_add, hq.cell j]
    simpa using hu⟩⟩, fun g hg => by rw [List.mem_singleton] at hg; subst hg; exact ⟨hf.1.1, hf.2⟩⟩
end
theorem step_app_files (w : World) {ops : Array Oper} {o : Oper} {a : Act} {K : Act → World → Prop} {Q : Exit → Act → World → Prop} {E : Prop} (hgd : o.guard = none) (d : Option Tmp) (hd : o.dst = d) (s x : Operand)
    (ho : o.op = .call { callee := .builtin .append, args := #[s, x], argTypes := #[23, 23] })
    (B base : Nat) (hbb : B ≤ base) (v : Value) (fs : List FV) (hs : a.eval s = v) (hown : OFs B w base v fs) (A : Option Addr) (m c : Nat) (gs : List FV) (hx : a.eval x = .slice A m c) (hgs : Fls w A gs) (hm : gs.length = m) (hvs : ∀ f ∈ gs, FVs w B f)
    (hlen : fs.length + m ≤ 3000000000000) (hbase : base ≤ w.heap.size)
    (h : ∀ v' w', OFs B w' base v' (fs ++ gs) → w.grownBy w' v.ownBlock → K (a.put d v') w') :
    if Region.wanted o (yielded ops a.tmps) = true then Oper.wp Tryz.prog o a w K Q else E := by
  subst hm
  subst hd
  obtain ⟨i0, hi0, hz0, hz1, hz2⟩ := info_parts infoFile
  refine step_append_any w hgd s x 23 ho base 55 i0 _ 2 40 Tryz.underlying23 hi0 hz0 hz1 hz2 rfl (by omega) v fs.length (fs.flatMap FV.cells) hs hown.1 _ _ gs.length c (gs.flatMap FV.cells) hx hgs.1 (oneC_files gs) (by simp only [maxLen]; omega) (by omega) hbase ?_
  intro v' w' h1 h2 h3
  refine h v' w' ⟨?_, fun g hg => ?_⟩ h2
  · rw [List.length_append, List.flatMap_append]
    exact h1
  · refine FVs.fr (S := fun k => v.ownBlock = some k) ?_ (Fr.of_grown h2 (fun k e => e)) (hown.noB hbb)
    rcases List.mem_append.1 hg with hg | hg
    · exact hown.2 g hg
    · exact hvs g hg
/-- what the document's Get answers -/
def RGetP (fs : List FV) (s : ByteArray) (w : World) (e : Ending) (w' : World) : Prop :=
  w' = w ∧ ((∃ b A c, getF (fiL fs) s = some b ∧ e = .returned (.tuple #[.slice A b.length c, .bool true]) ∧ RB w A b ∧ b.length ≤ c ∧ c ≤ maxLen) ∨ (getF (fiL fs) s = none ∧ e = .returned (.tuple #[.slice none 0 0, .bool false])))
set_option maxRecDepth 100000 in
set_option maxHeartbeats 4000000 in
theorem rget_any (A : Option Addr) (n c : Nat) (fs : List FV) (s : ByteArray) (w : World) (hl : Fls w A fs) (hn : fs.length = n) (hbig : n ≤ 140737488355328) :
    Calls Tryz.prog 30 #[.slice A n c, .string s] w fun e w' => RGetP fs s w e w' := by
  show Calls Tryz.prog 30 #[.slice A n c, .string s] w fun e w' => PF (RGetP fs s w) e w'
  have HF := Lib.hid hl
  have HN := Lib.hid hn
  clear hl hn
  go_enter Tryz.func30, Tryz.ntmps30
  go_wp2
  go_loop [6] (fun i => ∃ k : Nat, k ≤ n ∧ i = .int .i64 (k : Int) ∧ Hid (∀ j (hj : j < fs.length), j < k → ¬ fs[j].nm = s)) (fun i => n - (intOf i).toNat)
  case atStart => exact ⟨0, Nat.zero_le _, rfl, Lib.hid (fun j hj h => by omega)⟩
  case round =>
    obtain ⟨k, hk, rfl, HJ⟩ := hrel
    rcases (by omega : k < n ∨ k = n) with hlt | heq
    · have q0 : decide ((k : Int) < (n : Int)) = true := by rw [decide_eq_true_iff]; omega
      have q0' : decide (k < n) = true := by rw [decide_eq_true_iff]; omega
      have hkl : k < fs.length := by rw [HN.out]; exact hlt
      obtain ⟨b, o, hA, hb, c0, c1, hrb, hbc, hbm⟩ := HF.out.at_ hkl
      subst hA
      have hki : (k : Int) < (n : Int) := by omega
      have hk0 : (0 : Int) ≤ (k : Int) := by omega
      have hq := nm_beq fs[k].nm s
      by_cases he : fs[k].nm = s
      · rw [decide_eq_true he] at hq
        have HG : Hid (getF (fiL fs) s = some fs[k].b) := Lib.hid (getF_some hkl (idxG_hit _ fs k hkl (by simpa using he) (fun j hj h => by simpa using HJ.out j hj h)))
        have HR : Hid (PF (RGetP fs s w) (.returned (.tuple #[.slice fs[k].A fs[k].b.length fs[k].c, .bool true])) w) := Lib.hid ⟨rfl, .inl ⟨_, _, _, HG.out, rfl, hrb, hbc, hbm⟩⟩
        clear he hrb hbc hbm hb
        go_wp2
        go_ret2
        exact HR.out
      · rw [decide_eq_false he] at hq
        have HJ2 : Hid (∀ j (hj : j < fs.length), j < k + 1 → ¬ fs[j].nm = s) := Lib.hid (fun j hj h => by
          rcases (by omega : j < k ∨ j = k) with h1 | h1
          · exact HJ.out j hj h1
          · subst h1; exact he)
        clear he hrb hbc hbm hb
        go_wp2
        go_round
        case rel => exact ⟨k + 1, by omega, by go_num, HJ2⟩
        case measure => simp [intOf]; omega
    · have q0 : decide ((k : Int) < (n : Int)) = false := by rw [decide_eq_false_iff_not]; omega
      have q0' : decide (k < n) = false := by rw [decide_eq_false_iff_not]; omega
      have HG : Hid (getF (fiL fs) s = none) := Lib.hid (getF_none (by rw [idxG_miss _ fs (fun j hj => by simpa using HJ.out j hj (by rw [HN.out] at hj; omega))]; decide))
      have HR : Hid (PF (RGetP fs s w) (.returned (.tuple #[.slice none 0 0, .bool false])) w) := Lib.hid ⟨rfl, .inr ⟨HG.out, rfl⟩⟩
      clear heq
      go_wp2
      go_ret2
      exact HR.out
set_option maxRecDepth 100000 in
set_option maxHeartbeats 4000000 in
theorem rdrop_any (B : Nat) (A : Option Addr) (n c : Nat) (fs : List FV) (s : ByteArray) (w : World) (hl : Fls w A fs) (hn : fs.length = n) (hbig : n ≤ 1000000000000) (hv : ∀ f ∈ fs, FVs w B f) (hB : B ≤ w.heap.size) :
    Calls Tryz.prog 33 #[.slice A n c, .string s] w fun e w' => DropP B fs s w e w' := by
  show Calls Tryz.prog 33 #[.slice A n c, .string s] w fun e w' => PF (DropP B fs s w) e w'
  have HF := Lib.hid hl
  have HN := Lib.hid hn
  have HVS := Lib.hid hv
  have HB := Lib.hid hB
  clear hl hn hv hB
  go_enter Tryz.func33, Tryz.ntmps33
  go_wp2
  go_loopw [5, 6] (fun x i wr => ∃ k : Nat, k ≤ n ∧ i = .int .i64 (k : Int) ∧ Hid (OFs B wr w.heap.size x ((fs.take k).filter (fun f => !decide (f.nm = s)))) ∧ Hid (Below w.heap.size w wr)) (fun _ i _ => n - (intOf i).toNat)
  case atStart => exact ⟨0, Nat.zero_le _, rfl, Lib.hid (OFs.nil _ _ _), Lib.hid (Below.refl _ _)⟩
  case round =>
    obtain ⟨k, hk, rfl, HO, HW⟩ := hrel
    rcases (by omega : k < n ∨ k = n) with hlt | heq
    · have q0 : decide ((k : Int) < (n : Int)) = true := by rw [decide_eq_true_iff]; omega
      have q0' : decide (k < n) = true := by rw [decide_eq_true_iff]; omega
      have hkl : k < fs.length := by rw [HN.out]; exact hlt
      obtain ⟨b, o, hA, hb, c0, c1, _⟩ := (HF.out.below HW.out).at_ hkl
      subst hA
      have hki : (k : Int) < (n : Int) := by omega
      have hk0 : (0 : Int) ≤ (k : Int) := by omega
      have hq := nm_beq fs[k].nm s
      have hst := filter_step fs (fun f : FV => !decide (f.nm = s)) k hkl
      by_cases he : fs[k].nm = s
      · rw [decide_eq_true he] at hq
        rw [decide_eq_true he] at hst
        simp only [Bool.not_true, Bool.false_eq_true, if_false, List.append_nil] at hst
        rw [← hst] at HO
        clear he hst hb
        go_wp2
        go_roundw
        case rel => exact ⟨k + 1, by omega, by go_num, HO, HW⟩
        case measure => simp [intOf]; omega
      · rw [decide_eq_false he] at hq hst
        simp only [Bool.not_false, if_true] at hst
        have HVK := Lib.hid ((HVS.out fs[k] (List.getElem_mem hkl)).below HW.out)
        have hlen : ((fs.take k).filter (fun f => !decide (f.nm = s))).length ≤ n := Nat.le_trans (List.length_filter_le _ _) (by rw [List.length_take]; omega)
        have HST := Lib.hid hst
        have HLE := Lib.hid hlen
        have HBL : Hid (Blk (wr.alloc (.cells #[.string fs[k].nm, .slice fs[k].A fs[k].b.length fs[k].c] 55)) wr.heap.size 55 (FV.cells fs[k]).toArray) := Lib.hid (Blk.new _ _ _)
        have hbb : Below wr.heap.size wr (wr.alloc (.cells #[.string fs[k].nm, .slice fs[k].A fs[k].b.length fs[k].c] 55)) := (Below.refl _ _).alloc (Nat.le_refl _) _
        have HBB := Lib.hid hbb
        have HGE : Hid (∀ j, Value.ownBlock _ = some j → w.heap.size ≤ j) := Lib.hid HO.out.ge
        have hbw := Nat.le_trans HW.out.size HBB.out.size
        clear he hst hb hlen hbb
        go_wp2_with (at_builtin; refine app_files _ rfl _ _ rfl B w.heap.size HB.out _ _ rfl (HO.out.below HBB.out) _ 1 1 [fs[k]] rfl (Fls.one HBL.out (HVK.out.below HBB.out)) rfl (fun f hf => by rw [List.mem_singleton] at hf; subst hf; exact HVK.out.below HBB.out) (by have := HLE.out; omega) hbw ?_; intro v1 w1 hown1 hg1 hat1)
        have HO2 := Lib.hid hown1
        rw [← HST.out] at HO2
        have HW2 : Hid (Below w.heap.size w w1) := Lib.hid ((HW.out.trans (HBB.out.mono HW.out.size)).grown hg1 hbw (fun j e => HGE.out j e))
        clear hown1 hg1 hat1
        go_wp2
        go_roundw
        case rel => exact ⟨k + 1, by omega, by go_num, HO2, HW2⟩
        case measure => simp [intOf]; omega
    · have q0 : decide ((k : Int) < (n : Int)) = false := by rw [decide_eq_false_iff_not]; omega
      have q0' : decide (k < n) = false := by rw [decide_eq_false_iff_not]; omega
      rw [heq, List.take_of_length_le (by rw [HN.out]; exact Nat.le_refl _)] at HO
      clear heq
      go_wp2
      go_ret
      exact ⟨_, _, rfl, HO.out, fiL_drop _ _, HW.out⟩
end Go.Proofs.YtgpcinfhcamgpaaGreatDoor
