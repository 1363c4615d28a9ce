/-
  slices.Insert of one file into an owned row of files.
-/
import Derived.Test.YtgpcinfhcamgpaaGreatDoorStF2
import Derived.Shelf.Spec.SlicesInsert
import Derived.Lib.AppendZerosOnto
namespace Go.Proofs.YtgpcinfhcamgpaaGreatDoor
open Go.RowKit
attribute [local go_sem ↓] Go.wp_at_zero Go.wp_at_succ
set_option linter.unusedVariables false
set_option linter.unusedSimpArgs false

theorem oneC_files (fs : List FV) : ∀ u ∈ fs.flatMap FV.cells, u.oneCell' = true := fun u hu => by
  rw [List.mem_flatMap] at hu
  obtain ⟨f, _, hu⟩ := hu
  simp only [FV.cells, List.mem_cons, List.not_mem_nil, or_false] at hu
  rcases hu with rfl | rfl <;> rfl
theorem run_copy_files (w : World) (ty : TypeId) (g o dLen dCap : Nat) (a : Addr) (sLen sCap : Nat) (cur : Array Value) (cs : List Value) (k : Nat) (hg : Blk w g 55 cur) (hk : k = Nat.min sLen dLen) (hn : cs.length = k * 2)
    (hsrc : ∀ j v, cs[j]? = some v → w.cell? (a.add j) = some v) (hfit : o + cs.length ≤ cur.size) (h1 : ∀ v ∈ cs, v.oneCell' = true) :
    (Builtin.copy_ #[23, 23] ty #[.slice (some ⟨g, o, none⟩) dLen dCap, .slice (some a) sLen sCap]).run Tryz.prog w =
      .ok (goInt k) (w.setRow g (cur.toList.take o ++ cs ++ cur.toList.drop (o + cs.length)).toArray) := by
  have hl := run_loadCells_list (P := Tryz.prog) w a cs hsrc
  have hst := run_storeCells_at Tryz.prog g o 55 cs 0 cur w hg (by simpa using hfit) h1
  obtain ⟨i0, hi0, hz0, hz1, hz2⟩ := info_parts infoFile
  rw [hn] at hl
  simp only [Nat.add_zero] at hst
  simp [Builtin.copy_, run_underlying Tryz.underlying23, Builtin.lenOf, Builtin.firstCells, sizeOf, typeInfo, hi0, hz1, ← hk, hl, hst]
section
variable {w w' : World} {g : Nat} {cur cs : Array Value} {t : TypeId} {S : Nat → Prop}
theorem Blk.setRow (h : Blk w g t cur) (cs : Array Value) : Blk (w.setRow g cs) g t cs := setRow_heap w g cur cs t _ h
theorem Fr.setRow (w : World) (g : Nat) (cs : Array Value) : Fr (· = g) w (w.setRow g cs) :=
  ⟨rfl, rfl, rfl, by simp [World.setRow], fun i hi hs => setRow_other w g i cs hs⟩
end
/-- what an insertion lays: in place -/
theorem ins_row (C L1 L2 F : List Value) (i n : Nat) (h1 : L1.length = i * 2) (h2 : L2.length = (n - i) * 2) (hF : F.length = 2) (hi : i ≤ n) (hC : C.take (n * 2) = L1 ++ L2) (hs : (n + 1) * 2 ≤ C.length)
    (R1 : List Value) (hR1 : R1 = C.take ((i + 1) * 2) ++ L2 ++ C.drop ((i + 1) * 2 + L2.length)) : (R1.take (i * 2) ++ F ++ R1.drop (i * 2 + F.length)).take ((n + 1) * 2) = L1 ++ F ++ L2 := by
  have e1 : C.take (i * 2) = L1 := by
    have h3 := congrArg (List.take (i * 2)) hC
    rw [List.take_take, Nat.min_eq_left (by omega), List.take_left' h1] at h3
    exact h3
  have e2 : R1.take (i * 2) = L1 := by
    rw [hR1, List.append_assoc, List.take_append_of_le_length (by rw [List.length_take]; omega), List.take_take, Nat.min_eq_left (by omega), e1]
  have e3 : R1.drop (i * 2 + F.length) = L2 ++ C.drop ((i + 1) * 2 + L2.length) := by
    rw [hR1, List.append_assoc, List.drop_left' (by rw [List.length_take]; omega)]
  rw [e2, e3, ← List.append_assoc, List.take_append_of_le_length (by simp only [List.length_append]; omega), List.take_of_length_le (by simp only [List.length_append]; omega)]
/-- .. in a new row -/
theorem ins_new (C L1 L2 F : List Value) (i n : Nat) (h1 : L1.length = i * 2) (h2 : L2.length = (n - i) * 2) (hF : F.length = 2) (hi : i ≤ n) (hC : C.take (i * 2) = L1) (hs : (n + 1) * 2 ≤ C.length)
    (R1 : List Value) (hR1 : R1 = C.take (i * 2) ++ F ++ C.drop (i * 2 + F.length)) : (R1.take ((i + 1) * 2) ++ L2 ++ R1.drop ((i + 1) * 2 + L2.length)).take ((n + 1) * 2) = L1 ++ F ++ L2 := by
  have e1 : R1.take ((i + 1) * 2) = L1 ++ F := by
    rw [hR1, hC, List.take_left' (by simp only [List.length_append]; omega)]
  rw [e1, List.take_left' (by simp only [List.length_append]; omega)]
theorem hov_files (w : World) (vb b o : Nat) (m vc lb cb : Nat) (cv cb' : Array Value) (hv : Blk w vb 55 cv) (hb : Blk w b 55 cb') (hvb : vb ≠ b) (hne : cb'.size ≠ 0) :
    (callFunc 100 #[.slice (some ⟨vb, 0, none⟩) m vc, .slice (some ⟨b, o, none⟩) lb cb]).run Tryz.prog w = .ok (.value (.bool false)) w := by
  obtain ⟨i0, hi0, hz0, hz1, hz2⟩ := info_parts infoFile
  have hsa : w.shape? vb = some (55, cv.size) := by unfold World.shape?; rw [show w.heap[vb]? = _ from hv]
  have hsb : w.shape? b = some (55, cb'.size) := by unfold World.shape?; rw [show w.heap[b]? = _ from hb]
  rw [run_callFunc_extern Tryz.func100 (by kernel_rfl) (by kernel_rfl) (by kernel_rfl) (e := Extern.SlicesOverlaps.overlaps #[23, 23] #[4]) (by kernel_rfl),
    Lib.run_overlaps_apart w 23 4 55 Tryz.underlying23 2 (fun w => by simp [sizeOf, typeInfo, hi0, hz1]) ⟨vb, 0, none⟩ ⟨b, o, none⟩ m vc lb cb hvb 55 55 cv.size cb'.size hsa hsb hne (hv.frozen 0) (hv.frozen cv.size)]
  rfl
set_option maxRecDepth 100000 in
set_option maxHeartbeats 8000000 in
/-- at the end -/
theorem finsert_end (B base : Nat) (v : Value) (A : Option Addr) (n c vb : Nat) (fs : List FV) (f : FV) (w : World) (ho : OFs B w base v fs) (hv : v = .slice A n c) (hn : fs.length = n) (hbig : n ≤ 2000000000000) (hB : B ≤ base) (hbase : base ≤ w.heap.size) (hvb : Blk w vb 55 (FV.cells f).toArray) (hf : FVs w B f) :
    Calls Tryz.prog 69 #[.slice A n c, .int .i64 (n : Int), .slice (some ⟨vb, 0, none⟩) 1 1] w fun e w' => ∃ v', e = .returned v' ∧ OFs B w' base v' (fs ++ [f]) ∧ w.grownBy w' v.ownBlock := by
  have HO := Lib.hid ho
  have HV := Lib.hid hv
  have HN := Lib.hid hn
  have HB := Lib.hid hB
  have HBA := Lib.hid hbase
  have HF1 : Hid (Fls w (some ⟨vb, 0, none⟩) [f]) := Lib.hid ⟨⟨by simp [FV.cells], fun _ => ⟨_, rfl, hvb.lt, fun j u hu => by
    rw [Addr.add_lit, Nat.zero_add, hvb.cell j]
    simpa using hu⟩⟩, fun g hg => by rw [List.mem_singleton] at hg; subst hg; exact ⟨hf.1.1, hf.2⟩⟩
  have HVS : Hid (∀ g ∈ [f], FVs w B g) := Lib.hid (fun g hg => by rw [List.mem_singleton] at hg; subst hg; exact hf)
  have hc : n ≤ c ∧ c ≤ maxLen := by
    obtain ⟨A', c', e, h1, h2, _⟩ := ho.fls
    rw [hv] at e
    injection e with _ _ e3
    subst e3
    exact ⟨by omega, h2⟩
  have hc1 := hc.1
  have hc2 := hc.2
  unfold maxLen at hc2
  clear ho hv hn hB hbase hvb hf hc
  go_enter Tryz.func69, Tryz.ntmps69
  go_wp2_with (at_builtin; refine app_files _ rfl _ _ rfl B base HB.out _ fs rfl (HV.out ▸ HO.out) _ 1 1 [f] rfl HF1.out rfl HVS.out (by rw [HN.out]; omega) HBA.out ?_; intro v1 w1 hown1 hg1 hat1)
  all_goals
    go_ret
    exact ⟨v1, rfl, hown1, by rw [HV.out]; exact hg1⟩
set_option maxRecDepth 100000 in
set_option maxHeartbeats 8000000 in
/-- in the midst, there is room -/
theorem finsert_room (B base g cap vb i n : Nat) (fs : List FV) (f : FV) (w : World) (ho : OFs B w base (.slice (some ⟨g, 0, none⟩) n cap) fs) (hn : fs.length = n) (hi : i < n) (hcap : n + 1 ≤ cap) (hB : B ≤ base) (hvb : Blk w vb 55 (FV.cells f).toArray) (hne : vb ≠ g) (hf : FVs w B f) :
    Calls Tryz.prog 69 #[.slice (some ⟨g, 0, none⟩) n cap, .int .i64 (i : Int), .slice (some ⟨vb, 0, none⟩) 1 1] w fun e w' => e = .returned (.slice (some ⟨g, 0, none⟩) (n + 1) cap) ∧ OFs B w' base (.slice (some ⟨g, 0, none⟩) (n + 1) cap) (fs.take i ++ f :: fs.drop i) ∧ Fr (· = g) w w' := by
  obtain ⟨g', cap', cur, e, hg, hk, h1, h2, h3, h4⟩ := ho.cut (fun e => by subst e; simp at hn; omega)
  injection e with e1 e2 e3
  injection e1 with e1
  injection e1 with e1 _ _
  subst e1
  subst e3
  rw [hn] at h1 h4
  have hL2 : ((fs.drop i).flatMap FV.cells).length = (n - i) * 2 := by rw [flat_len, List.length_drop, hn]
  have hL1 : ((fs.take i).flatMap FV.cells).length = i * 2 := by rw [flat_len, List.length_take, hn, Nat.min_eq_left (by omega)]
  have hsp : fs.flatMap FV.cells = (fs.take i).flatMap FV.cells ++ (fs.drop i).flatMap FV.cells := by rw [← List.flatMap_append, List.take_append_drop]
  rw [hsp] at h4
  obtain ⟨L2, hL2e⟩ : ∃ L, L = (fs.drop i).flatMap FV.cells := ⟨_, rfl⟩
  rw [← hL2e] at hL2 h4
  have hcl : cur.toList.length = cap * 2 := by rw [Array.length_toList]; exact h3
  have hsrc1 : ∀ j u, L2[j]? = some u → w.cell? ((⟨g, i * 2, none⟩ : Addr).add j) = some u := fun j u hu => by
    rw [Addr.add_lit, hk.cell]
    have hj : j < L2.length := by
      rcases Nat.lt_or_ge j L2.length with h | h
      · exact h
      · rw [List.getElem?_eq_none h] at hu; cases hu
    have h5 := congrArg (fun l : List Value => l[i * 2 + j]?) h4
    simp only [List.getElem?_take] at h5
    rw [if_pos (by omega), List.getElem?_append_right (by omega), hL1, Nat.add_sub_cancel_left, hu] at h5
    simpa using h5
  have hcp1 := fun ty dc sc => run_copy_files w.drew ty g ((i + 1) * 2) (n - i) dc ⟨g, i * 2, none⟩ (n + 1 - i) sc cur L2 (n - i) hk (Nat.min_eq_right (by omega)).symm hL2 hsrc1 (by rw [hL2, h3]; omega) (by rw [hL2e]; exact oneC_files _)
  obtain ⟨R1, hR1⟩ : ∃ R1, R1 = cur.toList.take ((i + 1) * 2) ++ L2 ++ cur.toList.drop ((i + 1) * 2 + L2.length) := ⟨_, rfl⟩
  rw [← hR1] at hcp1
  have hR1l : R1.length = cap * 2 := by
    rw [hR1]
    simp only [List.length_append, List.length_take, List.length_drop]
    omega
  obtain ⟨W1, hW1⟩ : ∃ W1, W1 = w.drew.setRow g R1.toArray := ⟨_, rfl⟩
  rw [← hW1] at hcp1
  have hk1 : Blk W1 g 55 R1.toArray := by rw [hW1]; exact Blk.setRow (w := w.drew) hk _
  have hf1 : Fr (· = g) w W1 := by
    rw [hW1]
    exact ((Fr.refl (· = g) w).drew).trans (Fr.setRow w.drew g _)
  have hvb1 := hvb.fr hf1 hne
  have hcp2 := fun ty dc => run_copy_files W1 ty g (i * 2) (n + 1 - i) dc ⟨vb, 0, none⟩ 1 1 R1.toArray (FV.cells f) 1 hk1 (Nat.min_eq_left (by omega)).symm rfl (fun j u hu => by rw [Addr.add_lit, Nat.zero_add, hvb1.cell j]; simpa using hu) (by simp only [List.size_toArray]; rw [hR1l]; simp only [FV.cells, List.length_cons, List.length_nil]; omega) (fun u hu => by
    simp only [FV.cells, List.mem_cons, List.not_mem_nil, or_false] at hu
    rcases hu with rfl | rfl <;> rfl)
  have hins := ins_row cur.toList ((fs.take i).flatMap FV.cells) L2 (FV.cells f) i n hL1 hL2 rfl (by omega) h4 (by rw [hcl]; omega) R1 hR1
  obtain ⟨R2, hR2⟩ : ∃ R2, R2 = R1.take (i * 2) ++ FV.cells f ++ R1.drop (i * 2 + (FV.cells f).length) := ⟨_, rfl⟩
  have hR2l : R2.length = cap * 2 := by
    rw [hR2]
    simp only [List.length_append, List.length_take, List.length_drop, FV.cells, List.length_cons, List.length_nil]
    omega
  rw [← hR2] at hins
  have hcp2' : ∀ ty dc, (Builtin.copy_ #[23, 23] ty #[.slice (some ⟨g, i * 2, none⟩) (n + 1 - i) dc, .slice (some ⟨vb, 0, none⟩) 1 1]).run Tryz.prog W1 = .ok (goInt 1) (W1.setRow g R2.toArray) := fun ty dc => by rw [hR2]; exact hcp2 ty dc
  have hov := fun lb cb => hov_files w vb g ((i + 1) * 2) 1 1 lb cb _ _ hvb hk hne (by omega)
  have HP : Hid (OFs B (W1.setRow g R2.toArray) base (.slice (some ⟨g, 0, none⟩) (n + 1) cap) (fs.take i ++ f :: fs.drop i) ∧ Fr (· = g) w (W1.setRow g R2.toArray)) := by
    have hff : Fr (· = g) w (W1.setRow g R2.toArray) := hf1.trans (Fr.setRow W1 g _)
    have hno : NoB8 w B (· = g) := fun j e => ho.noB hB j (by subst e; rfl)
    have hlen : (fs.take i ++ f :: fs.drop i).length = n + 1 := by
      simp only [List.length_append, List.length_take, List.length_cons, List.length_drop]
      omega
    refine Lib.hid ⟨?_, hff⟩
    rw [← hlen]
    refine OFs.of_blk hg (hk1.setRow _) (by omega) h2 (by simpa using hR2l) ?_ (fun x hx => ?_)
    · rw [hlen]
      show R2.take ((n + 1) * 2) = _
      rw [hins, hL2e]
      simp
    · refine FVs.fr ?_ hff hno
      rcases List.mem_append.1 hx with hx | hx
      · exact ho.2 x (List.mem_of_mem_take hx)
      · rcases List.mem_cons.1 hx with hx | hx
        · subst hx; exact hf
        · exact ho.2 x (List.mem_of_mem_drop hx)
  unfold maxLen at h2
  have mixed : Tryz.prog.follows .mixedOrders = true := by kernel_rfl
  have hb1 : (0 : Int) ≤ (i : Int) + 1 := by omega
  have hin : i ≤ n := by omega
  have htn : ((i : Int) + 1).toNat = i + 1 := by omega
  have hb2 : ¬ (cap = i + 1) := by omega
  have hb3 : (i : Int) ≤ (n : Int) + 1 := by omega
  have hb5 : (i : Int) + 1 ≤ (n : Int) + 1 := by omega
  have hb4 : ¬ (cap = i) := by omega
  clear hcp2 hins hR2l hR2 hR1 hR1l hsrc1 hL1 hL2 hsp h4 hcl hk1 hf1 hvb1 hW1 hL2e ho hk hvb hf h3 hB hg hn e2
  have hw1 : IntKind.i64.wrap ((i : Int) + 1) = (i : Int) + 1 := IntWalk.i64_in _ (by omega)
  have hw2 : IntKind.i64.wrap ((n : Int) + 1) = (n : Int) + 1 := IntWalk.i64_in _ (by omega)
  have hq1 : ((i : Int) == (n : Int)) = false := by rw [beq_eq_false_iff_ne]; omega
  have hq2 : decide ((cap : Int) < (n : Int) + 1) = false := by rw [decide_eq_false_iff_not]; omega
  go_enter Tryz.func69, Tryz.ntmps69
  go_wp2_with (simp only [hov])
  go_region_law_o (refine step_copy_runI rfl _ _ 23 23 rfl _ _ (by simp [Act.eval, Act.put]) (by simp [Act.eval, Act.put]) (hcp1 _ _ _) ?_)
  go_wp2_with (at_builtin; refine wpList_copy_runI _ rfl _ _ 23 23 rfl _ _ rfl rfl (hcp2' _ _) ?_)
  go_ret
  exact ⟨rfl, HP.out⟩
set_option maxRecDepth 100000 in
set_option maxHeartbeats 8000000 in
/-- in the midst, there is no room -/
theorem finsert_grow (B base g cap vb i n : Nat) (fs : List FV) (f : FV) (w : World) (ho : OFs B w base (.slice (some ⟨g, 0, none⟩) n cap) fs) (hn : fs.length = n) (hi : i < n) (hcap : cap < n + 1) (hbig : n ≤ 2000000000000) (hB : B ≤ base) (hbase : base ≤ w.heap.size) (hvb : Blk w vb 55 (FV.cells f).toArray) (hf : FVs w B f) :
    Calls Tryz.prog 69 #[.slice (some ⟨g, 0, none⟩) n cap, .int .i64 (i : Int), .slice (some ⟨vb, 0, none⟩) 1 1] w fun e w' => ∃ v', e = .returned v' ∧ OFs B w' base v' (fs.take i ++ f :: fs.drop i) ∧ Below w.heap.size w w' := by
  obtain ⟨g', cap', cur, e, hg, hk, h1, h2, h3, h4⟩ := ho.cut (fun e => by subst e; simp at hn; omega)
  injection e with e1 e2 e3
  injection e1 with e1
  injection e1 with e1 _ _
  subst e1
  subst e3
  rw [hn] at h1 h4
  have hL2 : ((fs.drop i).flatMap FV.cells).length = (n - i) * 2 := by rw [flat_len, List.length_drop, hn]
  have hL1 : ((fs.take i).flatMap FV.cells).length = i * 2 := by rw [flat_len, List.length_take, hn, Nat.min_eq_left (by omega)]
  have hsp : fs.flatMap FV.cells = (fs.take i).flatMap FV.cells ++ (fs.drop i).flatMap FV.cells := by rw [← List.flatMap_append, List.take_append_drop]
  rw [hsp] at h4
  obtain ⟨L2, hL2e⟩ : ∃ L, L = (fs.drop i).flatMap FV.cells := ⟨_, rfl⟩
  obtain ⟨L1, hL1e⟩ : ∃ L, L = (fs.take i).flatMap FV.cells := ⟨_, rfl⟩
  rw [← hL2e, ← hL1e] at h4
  rw [← hL2e] at hL2
  rw [← hL1e] at hL1
  have hcell : ∀ j, j < n * 2 → w.cell? ⟨g, j, none⟩ = (L1 ++ L2)[j]? := fun j hj => by
    rw [hk.cell, ← h4, List.getElem?_take, if_pos hj]
    simp
  have hsrc1 : ∀ j u, L2[j]? = some u → w.cell? ((⟨g, i * 2, none⟩ : Addr).add j) = some u := fun j u hu => by
    have hj : j < L2.length := by
      rcases Nat.lt_or_ge j L2.length with h | h
      · exact h
      · rw [List.getElem?_eq_none h] at hu; cases hu
    rw [Addr.add_lit, hcell _ (by omega), List.getElem?_append_right (by omega), hL1, Nat.add_sub_cancel_left, hu]
  obtain ⟨i0, hi0, hz0, hz1, hz2⟩ := info_parts infoFile
  have hold : (Builtin.firstCells i0.size i (.slice (some ⟨g, 0, none⟩) i cap)).run Tryz.prog w.drew = .ok L1.toArray w.drew := by
    rw [hz1]
    refine run_firstCells_some w.drew 2 i ⟨g, 0, none⟩ i cap L1 hL1 (fun j u hu => ?_)
    have hj : j < L1.length := by
      rcases Nat.lt_or_ge j L1.length with h | h
      · exact h
      · rw [List.getElem?_eq_none h] at hu; cases hu
    show w.cell? _ = _
    rw [Addr.add_lit, Nat.zero_add, hcell _ (by omega), List.getElem?_append_left hj, hu]
  have hkk : (n : Int) + 1 - (i : Int) = ((n + 1 - i : Nat) : Int) := by omega
  have hik : i + (n + 1 - i) = n + 1 := by omega
  obtain ⟨G, hG⟩ : ∃ G, G = grownCap w (n + 1) cap 55 := ⟨_, rfl⟩
  have hGn : n + 1 ≤ G := by rw [hG]; exact grownCap_ge w _ _ _
  have hG63 : G ≤ maxLen := by rw [hG]; exact grownCap_le_maxLen w (n + 1) cap 55 (by unfold maxLen; omega)
  obtain ⟨ROW, hROW⟩ : ∃ ROW : Array Value, ROW = L1.toArray ++ Builtin.zeroCells (Value.agg #[.string ⟨#[]⟩, .slice none 0 0]).cells (n + 1 - i) ++ Builtin.zeroCells (Value.agg #[.string ⟨#[]⟩, .slice none 0 0]).cells (G - (n + 1)) := ⟨_, rfl⟩
  have hRs : ROW.size = G * 2 := by
    rw [hROW, Array.size_append, Array.size_append, size_zeroCells, size_zeroCells]
    have : (Value.agg #[.string ⟨#[]⟩, .slice none 0 0]).cells.size = 2 := rfl
    rw [this, List.size_toArray, hL1]
    omega
  have hRt : ROW.toList.take (i * 2) = L1 := by
    rw [hROW]
    simp only [Array.toList_append, List.append_assoc]
    rw [List.take_left' (by simpa using hL1)]
  have hrz : ∀ ty, (Builtin.append_ #[23, 3] ty #[.slice (some ⟨g, 0, none⟩) i cap, .int .i64 ((n : Int) + 1 - (i : Int))]).run Tryz.prog w =
      .ok (.slice (some ⟨w.heap.size, 0, none⟩) (n + 1) G) (w.drew.alloc (.cells ROW 55)) := fun ty => by
    have h := Lib.run_append_grow_zeros w 23 3 ty 55 i0 _ .i64 .i64 Tryz.underlying23 Tryz.underlying3 hi0 hz0 (some ⟨g, 0, none⟩) i cap L1 hold (n + 1 - i) (by omega) (by omega) (by omega) (by omega) (by rw [hz2]; omega) (by rw [hz2, hik]; exact growslice_fits hcap (by omega))
    rw [hik] at h
    rw [hkk, h, ← hG, ← hROW]
  obtain ⟨W1, hW1⟩ : ∃ W1, W1 = w.drew.alloc (.cells ROW 55) := ⟨_, rfl⟩
  obtain ⟨H, hH⟩ : ∃ H, H = w.heap.size := ⟨_, rfl⟩
  have hb1 : Below w.heap.size w W1 := by rw [hW1]; exact ((Below.refl _ _).drew).alloc (Nat.le_refl _) _
  have hk1 : Blk W1 H 55 ROW := by rw [hW1, hH]; exact Blk.new w.drew _ _
  have hvl := hvb.lt
  have hkl := hk.lt
  have hvb1 := hvb.below hb1 hvb.lt
  have hcp1 := fun ty dc => run_copy_files W1 ty H (i * 2) (n + 1 - i) dc ⟨vb, 0, none⟩ 1 1 ROW (FV.cells f) 1 hk1 (Nat.min_eq_left (by omega)).symm rfl (fun j u hu => by rw [Addr.add_lit, Nat.zero_add, hvb1.cell j]; simpa using hu) (by rw [hRs]; simp only [FV.cells, List.length_cons, List.length_nil]; omega) (fun u hu => by
    simp only [FV.cells, List.mem_cons, List.not_mem_nil, or_false] at hu
    rcases hu with rfl | rfl <;> rfl)
  obtain ⟨R1, hR1⟩ : ∃ R1, R1 = ROW.toList.take (i * 2) ++ FV.cells f ++ ROW.toList.drop (i * 2 + (FV.cells f).length) := ⟨_, rfl⟩
  rw [← hR1] at hcp1
  have hR1l : R1.length = G * 2 := by
    rw [hR1]
    simp only [List.length_append, List.length_take, List.length_drop, FV.cells, List.length_cons, List.length_nil, Array.length_toList]
    omega
  obtain ⟨W2, hW2⟩ : ∃ W2, W2 = W1.setRow H R1.toArray := ⟨_, rfl⟩
  rw [← hW2] at hcp1
  have hk2 : Blk W2 H 55 R1.toArray := by rw [hW2]; exact hk1.setRow _
  have hb2 : Below w.heap.size w W2 := by rw [hW2]; exact Fr.below_trans hb1 (Fr.setRow W1 H _) hb1.size (fun j e => by omega)
  have hcp2 := fun ty dc sc => run_copy_files W2.drew ty H ((i + 1) * 2) (n - i) dc ⟨g, i * 2, none⟩ (n - i) sc R1.toArray L2 (n - i) hk2 (Nat.min_eq_right (by omega)).symm hL2 (fun j u hu => by
    show W2.cell? _ = _
    rw [hb2.cell (by rw [Addr.add_lit]; exact hkl)]
    exact hsrc1 j u hu) (by simp only [List.size_toArray]; rw [hL2, hR1l]; omega) (by rw [hL2e]; exact oneC_files _)
  have hins := ins_new ROW.toList L1 L2 (FV.cells f) i n hL1 hL2 rfl (by omega) hRt (by rw [Array.length_toList, hRs]; omega) R1 hR1
  obtain ⟨R2, hR2⟩ : ∃ R2, R2 = R1.take ((i + 1) * 2) ++ L2 ++ R1.drop ((i + 1) * 2 + L2.length) := ⟨_, rfl⟩
  have hR2l : R2.length = G * 2 := by
    rw [hR2]
    simp only [List.length_append, List.length_take, List.length_drop]
    omega
  rw [← hR2] at hins
  have hcp2' : ∀ ty dc sc, (Builtin.copy_ #[23, 23] ty #[.slice (some ⟨H, (i + 1) * 2, none⟩) (n - i) dc, .slice (some ⟨g, i * 2, none⟩) (n - i) sc]).run Tryz.prog W2.drew = .ok (goInt (n - i : Nat)) (W2.drew.setRow H R2.toArray) := fun ty dc sc => by rw [hR2]; exact hcp2 ty dc sc
  have HP : Hid (OFs B (W2.drew.setRow H R2.toArray) base (.slice (some ⟨H, 0, none⟩) (n + 1) G) (fs.take i ++ f :: fs.drop i) ∧ Below w.heap.size w (W2.drew.setRow H R2.toArray)) := by
    have hff : Below w.heap.size w (W2.drew.setRow H R2.toArray) := Fr.below_trans hb2.drew (Fr.setRow W2.drew H _) hb2.size (fun j e => by omega)
    have hlen : (fs.take i ++ f :: fs.drop i).length = n + 1 := by
      simp only [List.length_append, List.length_take, List.length_cons, List.length_drop]
      omega
    refine Lib.hid ⟨?_, hff⟩
    rw [← hlen]
    refine OFs.of_blk (by omega) (Blk.setRow (w := W2.drew) hk2 _) (by omega) hG63 (by simpa using hR2l) ?_ (fun x hx => ?_)
    · rw [hlen]
      show R2.take ((n + 1) * 2) = _
      rw [hins, hL2e, hL1e]
      simp
    · refine FVs.below ?_ hff
      rcases List.mem_append.1 hx with hx | hx
      · exact ho.2 x (List.mem_of_mem_take hx)
      · rcases List.mem_cons.1 hx with hx | hx
        · subst hx; exact hf
        · exact ho.2 x (List.mem_of_mem_drop hx)
  rw [← hH, ← hW1] at hrz
  unfold maxLen at h2 hG63
  have mixed : Tryz.prog.follows .mixedOrders = true := by kernel_rfl
  have hb11 : (0 : Int) ≤ (i : Int) + 1 := by omega
  have hin : i ≤ n := by omega
  have htn : ((i : Int) + 1).toNat = i + 1 := by omega
  have hb4 : ¬ (cap = i) := by omega
  have hGi : ¬ (G = i) := by omega
  have hGim : ¬ (G = i + 1) := by omega
  have hGn' : (i : Int) + 1 ≤ (n : Int) + 1 := by omega
  have hGn3 : (i : Int) ≤ (n : Int) + 1 := by omega
  have hkk2 : (0 : Int) ≤ (n : Int) + 1 - (i : Int) := by omega
  clear hcp2 hins hR2l hR2 hR1 hR1l hsrc1 hL1 hL2 hsp h4 hk1 hvb1 hW1 hW2 hL2e hL1e ho hk hvb hf h3 hB hg hn e2 hb1 hb2 hold hkk hik hROW hRs hRt hk2 hG hcell hH hi0 hz0 hz1 hz2 hvl hkl hbase
  have hw1 : IntKind.i64.wrap ((i : Int) + 1) = (i : Int) + 1 := IntWalk.i64_in _ (by omega)
  have hw2 : IntKind.i64.wrap ((n : Int) + 1) = (n : Int) + 1 := IntWalk.i64_in _ (by omega)
  have hw3 : IntKind.i64.wrap ((n : Int) + 1 - (i : Int)) = (n : Int) + 1 - (i : Int) := IntWalk.i64_in _ (by omega)
  have hq1 : ((i : Int) == (n : Int)) = false := by rw [beq_eq_false_iff_ne]; omega
  have hq2 : decide ((cap : Int) < (n : Int) + 1) = true := by rw [decide_eq_true_iff]; omega
  go_enter Tryz.func69, Tryz.ntmps69
  go_wp2_with first | (at_builtin; refine Lib.wpList_append_run _ rfl _ _ _ _ rfl _ _ rfl rfl _ _ (hrz _) ?_; clear hrz) | (at_builtin; refine wpList_copy_runI _ rfl _ _ 23 23 rfl _ _ rfl rfl (hcp1 _ _) ?_; clear hcp1)
  go_region_law_o (refine step_copy_runI rfl _ _ 23 23 rfl _ _ (by simp [Act.eval, Act.put]) (by simp [Act.eval, Act.put]) (hcp2' _ _ _) ?_)
  go_wp2
  go_ret
  exact ⟨_, rfl, HP.out⟩
end Go.Proofs.YtgpcinfhcamgpaaGreatDoor
