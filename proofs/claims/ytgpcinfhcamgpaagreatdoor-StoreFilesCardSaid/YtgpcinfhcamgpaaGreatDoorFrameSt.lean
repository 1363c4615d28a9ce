/-
  What the frames of the laws of store share: the length that package bytealg lays, sha's constants, a world for the witnesses; states that came in.
-/
import Derived.Test.YtgpcinfhcamgpaaGreatDoorStL3
import Derived.Test.YtgpcinfhcamgpaaGreatDoorRows
import Derived.ProofKit
import Derived.OpenShut
import Derived.ShutString
import Derived.ChangeOld
import Derived.Deep.DeepHandedRow
import Derived.Deep.DeepWitnessRowRef
import Derived.Lib.LaidTab
import Derived.Stop.LaidErr
import Derived.Lay
import Derived.MakeChecks
import Derived.Deep.Slices
import Derived.Deep.Fields
import Derived.ChangeSame
set_option linter.unusedVariables false
set_option linter.unusedSimpArgs false
namespace Go.Proofs.YtgpcinfhcamgpaaGreatDoor
open Go.ChangeShapes Go.WideShapes Go.ChangeAt Go.RowKit Go.Deep

theorem own : ownKnob Tryz.prog.godebug = none := by kernel_rfl
theorem laidOut : laidOutB Tryz.prog = true := by kernel_rfl
theorem tab_of_shaped {W : World} (h : W.ShapedOpen Tryz.prog) : Tab W := by
  obtain ⟨m, hm⟩ := Tryz.laysM146.s1_3 W h
  have hm' : W.cell? ⟨2, 0, none⟩ = some (.int .i64 m) := hm
  refine ⟨?_, m, hm'⟩
  rcases Nat.lt_or_ge 2 W.heap.size with hlt | hge
  · exact hlt
  · unfold World.cell? at hm'
    rw [Array.getElem?_eq_none hge] at hm'
    cases hm'
theorem kon_lit {H : Type} : (Rows.laid_pursuivant_sha_constants : DataW H) = Lib.tabData .u32 kL := rfl
theorem kon_glob : Tryz.prog.globalNamed "pursuivant/sha.constants" = some 3 := by kernel_rfl
theorem kon_type : (Tryz.prog.globals[(3 : Nat)]?).map (·.type) = some 174 := by kernel_rfl
theorem tabK_of_laid {W : World} (h : laidMetH Tryz.prog Rows.storeNobodyRow.laid W) : TabK W := by
  have h2 := laidMet.tail (show laidMet Tryz.prog [("unicode/utf8.acceptRanges", Rows.laid_unicode_utf8_acceptRanges), ("pursuivant/sha.constants", Rows.laid_pursuivant_sha_constants), ("unicode/utf8.first", Rows.laid_unicode_utf8_first)] W from h)
  rw [kon_lit] at h2
  have h3 := Lib.tabIs_of_head kon_glob kon_type Tryz.underlying174 Tryz.underlying163 (by kernel_rfl) (by kernel_rfl) h2
  unfold Lib.TabIs World.var? at h3
  rw [kon_glob] at h3
  simp only [Option.bind_some] at h3
  split at h3
  · rename_i cs t fr heq
    cases h3
    exact ⟨t, fr, heq⟩
  · cases h3
/-- A start whose tables hold what their initialisers lay. -/
noncomputable def laidWorld_s (os : Os) : World := World.laidAll Tryz.prog os Rows.storeNobodyRow.laid
theorem laid_s (os : Os) (args : Array Value) : laidMet Tryz.prog Rows.storeNobodyRow.laid ((laidWorld_s os).forCall (fun _ _ => 0) ⟨#[], args, []⟩).memory :=
  laidMet_laidAll _ (by kernel_rfl) (by kernel_rfl)
theorem block_lt_of_cell {w : World} {a : Addr} {v : Value} (h : w.cell? a = some v) : a.block < w.heap.size := by
  rcases Nat.lt_or_ge a.block w.heap.size with h1 | h1
  · exact h1
  · simp [World.cell?, Array.getElem?_eq_none h1] at h

/-- A slice of bytes that came in. -/
theorem open_bytes {H : Type} {enc : TypeId × Value → H} {W : World} {a0 : Option Addr} {n c : Nat} {d : DataW H} {p : List MemPlace}
    (h : DataW.Trod enc Tryz.prog W 0 (fun _ => true) true 22 (.slice a0 n c) d p) :
    ∃ l : List UInt8, l.length = n ∧ n ≤ c ∧ c ≤ maxLen ∧ RB W a0 l ∧ (d = .nil ∧ n = 0 ∨ ∃ sp, d = .slice (lits .u8 (l.map fun b => (b.toNat : Int))) sp) := by
  obtain ⟨fuel, hf⟩ := h
  rcases open_ints Tryz.underlying22 Tryz.underlying5 (by kernel_rfl) hf with ⟨hcs, hx⟩ | ⟨x, l, c', zs, hcs, _, hl, hm, hz, hx, hcell, hwz⟩
  · simp [Value.cells] at hcs
    obtain ⟨rfl, rfl, rfl⟩ := hcs
    simp only [Prod.mk.injEq] at hx
    exact ⟨[], rfl, Nat.le_refl _, by simp [maxLen], RB.nil W, .inl ⟨hx.1, rfl⟩⟩
  · simp [Value.cells] at hcs
    obtain ⟨rfl, rfl, rfl⟩ := hcs
    simp only [Prod.mk.injEq] at hx
    have hz' : zs.length = c := by simpa using hz
    have hby : ∀ z ∈ zs, ((UInt8.ofNat z.toNat).toNat : Int) = z := by
      intro z hz2
      have hw := bounds_u8 (hwz z hz2)
      rw [UInt8.toNat_ofNat']
      omega
    have hlen : ((zs.take n).map fun z => UInt8.ofNat z.toNat).length = n := by rw [List.length_map, List.length_take]; omega
    refine ⟨(zs.take n).map fun z => UInt8.ofNat z.toNat, hlen, hl, hm, ?_, .inr ⟨lits .u8 (zs.drop n), ?_⟩⟩
    · refine ⟨by simp [Lib.byteCells], fun hn => ⟨x, rfl, ?_, fun j u hu => ?_⟩⟩
      · have := block_lt_of_cell (hcell 0 (by omega))
        rwa [block_of_add] at this
      · have hj : j < n := by
          rcases Nat.lt_or_ge j n with h1 | h1
          · exact h1
          · rw [List.getElem?_eq_none (by rw [Lib.byteCells_length, hlen]; exact h1)] at hu; cases hu
        rw [hcell j (by omega)]
        rw [← hu]
        have hjz : j < zs.length := by omega
        simp only [Lib.byteCells, List.map_map, List.getElem?_map]
        rw [List.getElem?_take_of_lt hj, List.getElem?_eq_getElem hjz]
        simp only [Option.map_some, Function.comp, List.getD_eq_getElem?_getD, List.getElem?_eq_getElem hjz, Option.getD_some]
        rw [hby _ (List.getElem_mem hjz)]
    · rw [hx.1]
      congr 2
      rw [List.map_map]
      conv => lhs; rw [← List.map_id (zs.take n)]
      apply List.map_congr_left
      intro z hz2
      simp only [Function.comp, id]
      rw [hby z (List.mem_of_mem_take hz2)]

theorem bytesByte : Tryz.prog.bytesOf 5 = 1 := by kernel_rfl

section
variable {H : Type} {enc : TypeId × Value → H} {W : World}
/-- a datum whose sizes are all within reach -/
def Szd (t : TypeId) (d : DataW H) : Prop := ∀ n ∈ d.weights Tryz.prog t, n ≤ reachBytes
theorem szd_each {ts : List TypeId} {ds : List (DataW H)} (h : (DataW.weightsEach Tryz.prog ts ds).all (· ≤ reachBytes) = true) {j : Nat} {t : TypeId} {d : DataW H} (ht : ts[j]? = some t) (hd : ds[j]? = some d) : Szd t d := fun n hn => by
  have := List.all_eq_true.1 h n (DataW.weights_mem_each ht hd n hn)
  simpa using this
theorem weights_mem_all {e : TypeId} : ∀ {ds : List (DataW H)} {j : Nat} {d : DataW H}, ds[j]? = some d → ∀ n ∈ d.weights Tryz.prog e, n ∈ DataW.weightsAll Tryz.prog e ds
  | d0 :: ds, 0, d, hd, n, hn => by
    simp only [List.getElem?_cons_zero, Option.some.injEq] at hd
    subst hd
    simp only [DataW.weightsAll, List.mem_append]
    exact .inl hn
  | d0 :: ds, j + 1, d, hd, n, hn => by
    simp only [List.getElem?_cons_succ] at hd
    simp only [DataW.weightsAll, List.mem_append]
    exact .inr (weights_mem_all hd n hn)
  | [], _, _, hd, _, _ => by simp at hd
theorem Szd.field {t : TypeId} {fs : Array Field} (hu : Tryz.prog.underlying t = some (.struct fs)) {parts : List (DataW H)} (h : Szd t (.agg parts)) {j : Nat} {f : Field} {d : DataW H} (hf : fs[j]? = some f) (hd : parts[j]? = some d) : Szd f.type d := fun n hn => by
  refine h n ?_
  rw [DataW.weights, hu]
  exact DataW.weights_mem_each (ts := fs.toList.map (·.type)) (j := j) (by simp [hf]) hd n hn
theorem Szd.elem {t e : TypeId} (hu : Tryz.prog.underlying t = some (.slice e)) {elems spare : List (DataW H)} (h : Szd t (.slice elems spare)) {j : Nat} {d : DataW H} (hd : elems[j]? = some d) : Szd e d := fun n hn => by
  refine h n ?_
  rw [DataW.weights, hu]
  exact List.mem_cons_of_mem _ (List.mem_append_left _ (weights_mem_all hd n hn))
theorem Szd.slice {t e : TypeId} (hu : Tryz.prog.underlying t = some (.slice e)) {elems spare : List (DataW H)} (h : Szd t (.slice elems spare)) : (elems.length + spare.length) * Tryz.prog.bytesOf e ≤ reachBytes := by
  refine h _ ?_
  rw [DataW.weights, hu]
  exact List.mem_cons_self ..
theorem slice_of {t e : TypeId} {n : Nat} {c : Value} {y : DataW H × List MemPlace} (hu : Tryz.prog.underlying t = some (.slice e)) (h : DataW.trod enc Tryz.prog W 0 (fun _ => true) true n t [c] = some y) : ∃ A ln cp, c = .slice A ln cp := by
  rcases DataW.trod_slice hu h with ⟨e, _⟩ | ⟨x1, x2, x3, x4, x5, x6, x7, e, _⟩
  · injection e with e
    exact ⟨_, _, _, e⟩
  · injection e with e
    exact ⟨_, _, _, e⟩
theorem open_bytesZ {a0 : Option Addr} {n c : Nat} {d : DataW H} {p : List MemPlace} (h : DataW.Trod enc Tryz.prog W 0 (fun _ => true) true 22 (.slice a0 n c) d p) (hz : Szd 22 d) :
    ∃ l : List UInt8, l.length = n ∧ n ≤ c ∧ c ≤ maxLen ∧ RB W a0 l ∧ n ≤ 140737488351232 := by
  obtain ⟨l, h1, h2, h3, h4, h5⟩ := open_bytes h
  refine ⟨l, h1, h2, h3, h4, ?_⟩
  rcases h5 with ⟨_, h6⟩ | ⟨sp, h6⟩
  · omega
  · subst h6
    have := hz.slice Tryz.underlying22
    rw [bytesByte] at this
    simp only [lits, List.length_map, reachBytes] at this
    omega
theorem bytesFile : Tryz.prog.bytesOf 55 = 40 := by kernel_rfl
theorem list_of {α : Type} [Inhabited α] {p : Nat → α → Prop} (n : Nat) (h : ∀ i, i < n → ∃ x, p i x) : ∃ l : List α, l.length = n ∧ ∀ i (hi : i < l.length), p i l[i] := by
  obtain ⟨f, hf⟩ := choose_lt h
  refine ⟨(List.range n).map f, by simp, fun i hi => ?_⟩
  have hi' : i < n := by simpa using hi
  simpa using hf i hi'
instance : Inhabited FV := ⟨⟨⟨#[]⟩, none, 0, []⟩⟩
set_option maxRecDepth 100000 in
theorem open_files {a0 : Option Addr} {n c : Nat} {d : DataW H} {p : List MemPlace} (h : DataW.Trod enc Tryz.prog W 0 (fun _ => true) true 23 (.slice a0 n c) d p) (hz : Szd 23 d) :
    ∃ fs : List FV, Fls W a0 fs ∧ fs.length = n ∧ n ≤ c ∧ c ≤ maxLen ∧ n ≤ 140737488351232 ∧ ∀ f ∈ fs, f.nm.size ≤ 140737488351232 ∧ f.b.length ≤ 140737488351232 := by
  obtain ⟨fuel, hf⟩ := h
  rcases open_slice Tryz.underlying23 hf with ⟨hcs, _⟩ | ⟨a, len, cap, m, n', D, Pl, hcs, hb, hl, hm, hmm, hx, hi⟩
  · simp [Value.cells] at hcs
    obtain ⟨rfl, rfl, rfl⟩ := hcs
    exact ⟨[], Fls.nil _ _, rfl, Nat.le_refl _, by simp [maxLen], by omega, fun f hf => by cases hf⟩
  · simp [Value.cells] at hcs
    obtain ⟨rfl, rfl, rfl⟩ := hcs
    simp only [Prod.mk.injEq] at hx
    rw [hx.1] at hz
    have hn : n ≤ 140737488351232 := by
      have := hz.slice Tryz.underlying23
      rw [bytesFile] at this
      simp only [List.length_map, List.length_range, reachBytes] at this
      omega
    obtain ⟨fs, hfs, hat⟩ := list_of (p := fun i (f : FV) => W.cell? (a.add (i * 2)) = some (.string f.nm) ∧ W.cell? (a.add (i * 2 + 1)) = some (.slice f.A f.b.length f.c) ∧ (RB W f.A f.b ∧ f.b.length ≤ f.c ∧ f.c ≤ maxLen) ∧ f.nm.size ≤ 140737488351232 ∧ f.b.length ≤ 140737488351232) n (fun i hin => by
      obtain ⟨cs', hc, ht'⟩ := hi i (by rw [hmm]; simp; omega)
      have hC : Tryz.prog.cellsOf 55 = 2 := by kernel_rfl
      rw [hC] at hc
      obtain ⟨ys, n'', hn', hy, hlen, hyl, hfld⟩ := DataW.trod_struct Tryz.underlying55 ht'
      obtain ⟨_, hcl, hcat⟩ := World.cells?_some hc
      match cs', hcl, ys, hyl with
      | [c0, c1], _, [y0, y1], _ =>
        have h0 : DataW.trod enc Tryz.prog W 0 (fun _ => true) true n'' 9 [c0] = some y0 := hfld 0 _ rfl
        have h1 : DataW.trod enc Tryz.prog W 0 (fun _ => true) true n'' 22 [c1] = some y1 := hfld 1 _ rfl
        have hze : Szd 55 (D i) := hz.elem Tryz.underlying23 (j := i) (by simp [hin])
        have hDi : D i = .agg [y0.1, y1.1] := by injection hy
        rw [hDi] at hze
        have hz0 : Szd 9 y0.1 := hze.field Tryz.underlying55 (j := 0) rfl rfl
        have hz1 : Szd 22 y1.1 := hze.field Tryz.underlying55 (j := 1) rfl rfl
        obtain ⟨s, hs, hsy, _⟩ := DataW.trod_string Tryz.underlying9 h0
        obtain ⟨A, ln, cp, rfl⟩ := slice_of Tryz.underlying22 h1
        obtain ⟨l, g1, g2, g3, g4, g5⟩ := open_bytesZ ⟨n'', h1⟩ hz1
        injection hs with hs
        subst hs
        subst g1
        refine ⟨⟨s, A, cp, l⟩, ?_, ?_, ⟨g4, g2, g3⟩, ?_, g5⟩
        · have := hcat 0 (by omega)
          simpa [Addr.add] using this
        · have := hcat 1 (by omega)
          rw [← Go.Deep.add_add]
          simpa using this
        · rw [hsy] at hz0
          have := hz0 s.data.toList.length (by simp [DataW.weights])
          rw [Array.length_toList] at this
          simp only [reachBytes] at this
          show s.data.size ≤ _
          omega)
    refine ⟨fs, ⟨⟨by rw [flat_len], fun hn0 => ⟨a, rfl, ?_, fun j u hu => ?_⟩⟩, fun f hf => ?_⟩, hfs, hl, hm, hn, fun f hf => ?_⟩
    · have := (hat 0 (by omega)).1
      have h4 := block_lt_of_cell this
      rwa [block_of_add] at h4
    · have hj : j < fs.length * 2 := by
        rcases Nat.lt_or_ge j (fs.length * 2) with h7 | h7
        · exact h7
        · rw [List.getElem?_eq_none (by rw [flat_len]; omega)] at hu; cases hu
      have hk : j / 2 < fs.length := by omega
      obtain ⟨f1, f2⟩ := flat_at fs (j / 2) hk
      obtain ⟨q1, q2, _⟩ := hat (j / 2) hk
      rcases (by omega : j = j / 2 * 2 ∨ j = j / 2 * 2 + 1) with e | e
      · rw [e] at hu ⊢
        rw [f1] at hu
        rw [q1]; exact hu
      · rw [e] at hu ⊢
        rw [f2] at hu
        rw [q2]; exact hu
    · obtain ⟨i, hi', rfl⟩ := List.getElem_of_mem hf
      exact (hat i hi').2.2.1
    · obtain ⟨i, hi', rfl⟩ := List.getElem_of_mem hf
      exact (hat i hi').2.2.2
set_option maxRecDepth 100000 in
theorem open_cells5 {t : TypeId} {f0 f1 f2 f3 f4 : Field} {fuel : Nat} {cs : List Value} {y : DataW H × List MemPlace} (hs : Tryz.prog.underlying t = some (.struct #[f0, f1, f2, f3, f4])) (hone : oneCellFields Tryz.prog #[f0, f1, f2, f3, f4] = true) (hC : Tryz.prog.cellsOf t = 5)
    (h : DataW.trod enc Tryz.prog W 0 (fun _ => true) true fuel t cs = some y) : ∃ (c0 c1 c2 c3 c4 : Value) (y0 y1 y2 y3 y4 : DataW H × List MemPlace) (n : Nat), cs = [c0, c1, c2, c3, c4] ∧ y.1 = .agg [y0.1, y1.1, y2.1, y3.1, y4.1] ∧
      DataW.trod enc Tryz.prog W 0 (fun _ => true) true n f0.type [c0] = some y0 ∧ DataW.trod enc Tryz.prog W 0 (fun _ => true) true n f1.type [c1] = some y1 ∧ DataW.trod enc Tryz.prog W 0 (fun _ => true) true n f2.type [c2] = some y2 ∧ DataW.trod enc Tryz.prog W 0 (fun _ => true) true n f3.type [c3] = some y3 ∧ DataW.trod enc Tryz.prog W 0 (fun _ => true) true n f4.type [c4] = some y4 := by
  obtain ⟨xs, n, _, hx, hlc, hlen, hg⟩ := DataW.trod_struct hs h
  obtain ⟨o0, k0⟩ := hone_of hone 0 f0 rfl
  obtain ⟨o1, k1⟩ := hone_of hone 1 f1 rfl
  obtain ⟨o2, k2⟩ := hone_of hone 2 f2 rfl
  obtain ⟨o3, k3⟩ := hone_of hone 3 f3 rfl
  obtain ⟨o4, k4⟩ := hone_of hone 4 f4 rfl
  match cs, hlc.trans hC, xs, hlen with
  | [c0, c1, c2, c3, c4], _, [y0, y1, y2, y3, y4], _ =>
    exact ⟨c0, c1, c2, c3, c4, y0, y1, y2, y3, y4, n, rfl, by rw [hx]; rfl, by simpa [o0, k0] using hg 0 f0 rfl, by simpa [o1, k1] using hg 1 f1 rfl, by simpa [o2, k2] using hg 2 f2 rfl, by simpa [o3, k3] using hg 3 f3 rfl, by simpa [o4, k4] using hg 4 f4 rfl⟩
set_option maxRecDepth 100000 in
theorem open_stateC {fuel : Nat} {cs : List Value} {y : DataW H × List MemPlace} (h : DataW.trod enc Tryz.prog W 0 (fun _ => true) true fuel 25 cs = some y) (hz : Szd 25 y.1) : ∃ x : SV, cs = x.cs.toList ∧ SAt W x ∧ SBd x := by
  obtain ⟨c0, c1, c2, c3, c4, y0, y1, y2, y3, y4, n, rfl, hy, h0, h1, h2, h3, h4⟩ := open_cells5 Tryz.underlying25 (by kernel_rfl) (by kernel_rfl) h
  rw [hy] at hz
  have z0 : Szd 22 y0.1 := hz.field Tryz.underlying25 (j := 0) rfl rfl
  have z1 : Szd 22 y1.1 := hz.field Tryz.underlying25 (j := 1) rfl rfl
  have z2 : Szd 22 y2.1 := hz.field Tryz.underlying25 (j := 2) rfl rfl
  have z3 : Szd 23 y3.1 := hz.field Tryz.underlying25 (j := 3) rfl rfl
  have z4 : Szd 23 y4.1 := hz.field Tryz.underlying25 (j := 4) rfl rfl
  obtain ⟨A0, n0, p0, rfl⟩ := slice_of Tryz.underlying22 h0
  obtain ⟨A1, n1, p1, rfl⟩ := slice_of Tryz.underlying22 h1
  obtain ⟨A2, n2, p2, rfl⟩ := slice_of Tryz.underlying22 h2
  obtain ⟨A3, n3, p3, rfl⟩ := slice_of Tryz.underlying23 h3
  obtain ⟨A4, n4, p4, rfl⟩ := slice_of Tryz.underlying23 h4
  obtain ⟨l0, rfl, a2, a3, a4, a5⟩ := open_bytesZ ⟨n, h0⟩ z0
  obtain ⟨l1, rfl, b2, b3, b4, b5⟩ := open_bytesZ ⟨n, h1⟩ z1
  obtain ⟨l2, rfl, e2, e3, e4, e5⟩ := open_bytesZ ⟨n, h2⟩ z2
  obtain ⟨f3, g1, rfl, g3, g4, g5, g6⟩ := open_files ⟨n, h3⟩ z3
  obtain ⟨f4, k1, rfl, k3, k4, k5, k6⟩ := open_files ⟨n, h4⟩ z4
  refine ⟨⟨⟨A0, p0, l0⟩, ⟨A1, p1, l1⟩, ⟨A2, p2, l2⟩, A3, p3, f3, A4, p4, f4⟩, rfl, ⟨⟨a4, a2, a3⟩, ⟨b4, b2, b3⟩, ⟨e4, e2, e3⟩, g1, k1⟩, ⟨?_, ?_, ?_, ?_, ?_, fun f hf => ?_, fun f hf => ?_⟩⟩
  · show l0.length ≤ _; omega
  · show l1.length ≤ _; omega
  · show l2.length ≤ _; omega
  · show f3.length ≤ _; omega
  · show f4.length ≤ _; omega
  · have := g6 f hf; omega
  · have := k6 f hf; omega
set_option maxRecDepth 100000 in
theorem open_state {base : Nat} {v : Value} {d : DataW H} {p : List MemPlace} (hv : Value.okWide Tryz.prog W .any base 25 v) (h : DataW.Trod enc Tryz.prog W 0 (fun _ => true) true 25 v d p) (hz : Szd 25 d) : ∃ x : SV, v = x.v ∧ SAt W x ∧ SBd x := by
  obtain ⟨cs, rfl, hsz⟩ := okWide_struct Tryz.underlying25 hv
  obtain ⟨fuel, hf⟩ := h
  obtain ⟨x, hx, h1, h2⟩ := open_stateC hf hz
  refine ⟨x, ?_, h1, h2⟩
  have : cs.toList = x.cs.toList := hx
  rw [Array.toList_inj.1 this]
  rfl
end
end Go.Proofs.YtgpcinfhcamgpaaGreatDoor
