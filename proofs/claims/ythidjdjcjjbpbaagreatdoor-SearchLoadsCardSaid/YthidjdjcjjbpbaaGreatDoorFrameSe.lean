/-
  What the frames of the laws of search share: the length that package bytealg lays, sha's constants, a world for the witnesses; metadata that came in.
-/
import Derived.Test.YthidjdjcjjbpbaaGreatDoorSeU2
import Derived.Test.YthidjdjcjjbpbaaGreatDoorRows
import Derived.ProofKit
import Derived.OpenShut
import Derived.ShutString
import Derived.ChangeOld
import Derived.Deep.DeepHandedRow
import Derived.Deep.DeepWitnessRowRef
import Derived.Lib.LaidTab
import Derived.Stop.LaidErr
import Derived.Lay
import Derived.MakeChecks
import Derived.Deep.Slices
import Derived.Deep.Fields
import Derived.ChangeSame
import Derived.MapViews
set_option linter.unusedVariables false
set_option linter.unusedSimpArgs false
namespace Go.Proofs.YthidjdjcjjbpbaaGreatDoor
open Go.ChangeShapes Go.WideShapes Go.ChangeAt Go.RowKit Go.Deep Sea

theorem own : ownKnob Tryz.prog.godebug = none := by kernel_rfl
theorem laidOut : laidOutB Tryz.prog = true := by kernel_rfl
theorem tab_of_shaped {W : World} (h : W.ShapedOpen Tryz.prog) : Tab W := by
  obtain ⟨m, hm⟩ := Tryz.laysM219.s1_3 W h
  have hm' : W.cell? ⟨0, 0, none⟩ = some (.int .i64 m) := hm
  refine ⟨?_, m, hm'⟩
  rcases Nat.lt_or_ge 0 W.heap.size with hlt | hge
  · exact hlt
  · unfold World.cell? at hm'
    rw [Array.getElem?_eq_none hge] at hm'
    cases hm'
theorem kon_lit {H : Type} : (Rows.laid_pursuivant_sha_constants : DataW H) = Lib.tabData .u32 kL := rfl
theorem kon_glob : Tryz.prog.globalNamed "pursuivant/sha.constants" = some 1 := by kernel_rfl
theorem kon_type : (Tryz.prog.globals[(1 : Nat)]?).map (·.type) = some 113 := by kernel_rfl
theorem tabK_of_laid {W : World} (h : laidMetH Tryz.prog Rows.searchFindsRow.laid W) : TabK W := by
  have h2 := laidMet.tail (show laidMet Tryz.prog [("unicode/utf8.acceptRanges", Rows.laid_unicode_utf8_acceptRanges), ("pursuivant/sha.constants", Rows.laid_pursuivant_sha_constants), ("unicode/utf8.first", Rows.laid_unicode_utf8_first)] W from h)
  rw [kon_lit] at h2
  have h3 := Lib.tabIs_of_head kon_glob kon_type Tryz.underlying113 Tryz.underlying106 (by kernel_rfl) (by kernel_rfl) h2
  unfold Lib.TabIs World.var? at h3
  rw [kon_glob] at h3
  simp only [Option.bind_some] at h3
  split at h3
  · rename_i cs t fr heq
    cases h3
    exact ⟨t, fr, heq⟩
  · cases h3
/-- A start whose tables hold what their initialisers lay. -/
noncomputable def laidWorld_se (os : Os) : World := World.laidAll Tryz.prog os Rows.searchFindsRow.laid
theorem laid_se (os : Os) (args : Array Value) : laidMet Tryz.prog Rows.searchFindsRow.laid ((laidWorld_se os).forCall (fun _ _ => 0) ⟨#[], args, []⟩).memory :=
  laidMet_laidAll _ (by kernel_rfl) (by kernel_rfl)
theorem block_lt_of_cell {w : World} {a : Addr} {v : Value} (h : w.cell? a = some v) : a.block < w.heap.size := by
  rcases Nat.lt_or_ge a.block w.heap.size with h1 | h1
  · exact h1
  · simp [World.cell?, Array.getElem?_eq_none h1] at h

section
variable {H : Type} {enc : TypeId × Value → H} {W : World}
/-- a datum whose sizes are all within reach -/
def Szd (t : TypeId) (d : DataW H) : Prop := ∀ n ∈ d.weights Tryz.prog t, n ≤ reachBytes
theorem szd_each {ts : List TypeId} {ds : List (DataW H)} (h : (DataW.weightsEach Tryz.prog ts ds).all (· ≤ reachBytes) = true) {j : Nat} {t : TypeId} {d : DataW H} (ht : ts[j]? = some t) (hd : ds[j]? = some d) : Szd t d := fun n hn => by
  have := List.all_eq_true.1 h n (DataW.weights_mem_each ht hd n hn)
  simpa using this
theorem weights_mem_all {e : TypeId} : ∀ {ds : List (DataW H)} {j : Nat} {d : DataW H}, ds[j]? = some d → ∀ n ∈ d.weights Tryz.prog e, n ∈ DataW.weightsAll Tryz.prog e ds
  | d0 :: ds, 0, d, hd, n, hn => by
    simp only [List.getElem?_cons_zero, Option.some.injEq] at hd
    subst hd
    simp only [DataW.weightsAll, List.mem_append]
    exact .inl hn
  | d0 :: ds, j + 1, d, hd, n, hn => by
    simp only [List.getElem?_cons_succ] at hd
    simp only [DataW.weightsAll, List.mem_append]
    exact .inr (weights_mem_all hd n hn)
  | [], _, _, hd, _, _ => by simp at hd
theorem Szd.field {t : TypeId} {fs : Array Field} (hu : Tryz.prog.underlying t = some (.struct fs)) {parts : List (DataW H)} (h : Szd t (.agg parts)) {j : Nat} {f : Field} {d : DataW H} (hf : fs[j]? = some f) (hd : parts[j]? = some d) : Szd f.type d := fun n hn => by
  refine h n ?_
  rw [DataW.weights, hu]
  exact DataW.weights_mem_each (ts := fs.toList.map (·.type)) (j := j) (by simp [hf]) hd n hn
theorem Szd.elem {t e : TypeId} (hu : Tryz.prog.underlying t = some (.slice e)) {elems spare : List (DataW H)} (h : Szd t (.slice elems spare)) {j : Nat} {d : DataW H} (hd : elems[j]? = some d) : Szd e d := fun n hn => by
  refine h n ?_
  rw [DataW.weights, hu]
  exact List.mem_cons_of_mem _ (List.mem_append_left _ (weights_mem_all hd n hn))
theorem Szd.slice {t e : TypeId} (hu : Tryz.prog.underlying t = some (.slice e)) {elems spare : List (DataW H)} (h : Szd t (.slice elems spare)) : (elems.length + spare.length) * Tryz.prog.bytesOf e ≤ reachBytes := by
  refine h _ ?_
  rw [DataW.weights, hu]
  exact List.mem_cons_self ..
theorem slice_of {t e : TypeId} {n : Nat} {c : Value} {y : DataW H × List MemPlace} (hu : Tryz.prog.underlying t = some (.slice e)) (h : DataW.trod enc Tryz.prog W 0 (fun _ => true) true n t [c] = some y) : ∃ A ln cp, c = .slice A ln cp := by
  rcases DataW.trod_slice hu h with ⟨e, _⟩ | ⟨x1, x2, x3, x4, x5, x6, x7, e, _⟩
  · injection e with e
    exact ⟨_, _, _, e⟩
  · injection e with e
    exact ⟨_, _, _, e⟩
theorem list_of {α : Type} [Inhabited α] {p : Nat → α → Prop} (n : Nat) (h : ∀ i, i < n → ∃ x, p i x) : ∃ l : List α, l.length = n ∧ ∀ i (hi : i < l.length), p i l[i] := by
  obtain ⟨f, hf⟩ := choose_lt h
  refine ⟨(List.range n).map f, by simp, fun i hi => ?_⟩
  have hi' : i < n := by simpa using hi
  simpa using hf i hi'

/-- blocks behind a world -/
abbrev Beh (W : World) : Nat → Prop := fun b => W.heap.size ≤ b
/-- a slice of structs that came in: its elements, told by what their cells are -/
theorem open_rowG {α : Type} [Inhabited α] {t e : TypeId} {K : Nat} (hu : Tryz.prog.underlying t = some (.slice e)) (hC : Tryz.prog.cellsOf e = K) (hK : 0 < K) (E : α → List Value → Prop)
    (hel : ∀ {m : Nat} {cs : List Value} {y : DataW H × List MemPlace}, DataW.trod enc Tryz.prog W 0 (fun _ => true) true m e cs = some y → Szd e y.1 → ∃ x, E x cs)
    {m : Nat} {a0 : Option Addr} {n c : Nat} {y : DataW H × List MemPlace} (h : DataW.trod enc Tryz.prog W 0 (fun _ => true) true m t [.slice a0 n c] = some y) (hz : Szd t y.1) :
    ∃ l : List α, l.length = n ∧ n ≤ c ∧ c ≤ maxLen ∧ (∀ x ∈ l, ∃ cs, E x cs) ∧ (0 < n → ∃ b o, a0 = some ⟨b, o, none⟩ ∧ b < W.heap.size ∧ ∀ i (hi : i < l.length), ∃ cs, E l[i] cs ∧ cs.length = K ∧ ∀ j, j < K → W.cell? ⟨b, o + i * K + j, none⟩ = cs[j]?) := by
  rcases open_slice hu h with ⟨hcs, _⟩ | ⟨a, len, cap, mm, n', D, Pl, hcs, hb, hl, hm, hmm, hx, hi⟩
  · simp at hcs
    obtain ⟨rfl, rfl, rfl⟩ := hcs
    exact ⟨[], rfl, Nat.le_refl _, by simp [maxLen], fun x hx => (by cases hx), fun h => absurd h (by omega)⟩
  · simp at hcs
    obtain ⟨rfl, rfl, rfl⟩ := hcs
    rw [hx] at hz
    have key : ∀ i, i < n → ∃ x : α, ∃ cs, E x cs ∧ cs.length = K ∧ ∀ j, j < K → W.cell? (a.add (i * K + j)) = cs[j]? := fun i hin => by
      obtain ⟨cs', hc, ht'⟩ := hi i (by rw [hmm]; simp; omega)
      rw [hC] at hc
      obtain ⟨_, hcl, hcat⟩ := World.cells?_some hc
      obtain ⟨x, hE⟩ := hel ht' (hz.elem hu (j := i) (by simp [hin]))
      refine ⟨x, cs', hE, hcl, fun j hj => ?_⟩
      rw [← Go.Deep.add_add]
      exact hcat j hj
    obtain ⟨l, hln, hat⟩ := list_of n key
    refine ⟨l, hln, hl, hm, fun x hx => ?_, fun h0 => ?_⟩
    · obtain ⟨i, hi', rfl⟩ := List.getElem_of_mem hx
      obtain ⟨cs, hE, _⟩ := hat i hi'
      exact ⟨cs, hE⟩
    · obtain ⟨cs0, _, hl0, hc0⟩ := hat 0 (by omega)
      have hz0 := hc0 0 hK
      rw [Nat.zero_mul, List.getElem?_eq_getElem (by omega)] at hz0
      have hz0' : W.cell? (a.add 0) = some (cs0[0]'(by omega)) := by simpa using hz0
      have ha : a = ⟨a.block, a.off, none⟩ := by
        have h9 : W.cell? a = some (cs0[0]'(by omega)) := by simpa [Addr.add] using hz0'
        exact cell_spot h9
      refine ⟨a.block, a.off, by rw [← ha], ?_, fun i hi' => ?_⟩
      · have h9 : W.cell? a = some (cs0[0]'(by omega)) := by simpa [Addr.add] using hz0'
        exact block_lt_of_cell h9
      · obtain ⟨cs, hE, hcl, hc⟩ := hat i hi'
        refine ⟨cs, hE, hcl, fun j hj => ?_⟩
        have h9 := hc j hj
        rw [ha, Addr.add_lit] at h9
        rw [Nat.add_assoc]
        exact h9
instance : Inhabited PT := ⟨⟨⟨#[]⟩, 0, ⟨#[]⟩⟩⟩
instance : Inhabited PD := ⟨⟨⟨#[]⟩, [], 0, false, [], []⟩⟩
instance : Inhabited PN := ⟨⟨⟨#[]⟩, noM⟩⟩
instance : Inhabited ByteArray := ⟨⟨#[]⟩⟩
theorem szd_str {t : TypeId} {s : ByteArray} (h : Szd (H := H) t (.lit (.string s.data.toList))) : s.size ≤ 140737488351232 := by
  have := h s.data.toList.length (by simp [DataW.weights])
  rw [Array.length_toList] at this
  simp only [reachBytes] at this
  show s.data.size ≤ _
  omega
/-- strings that came in -/
theorem open_strsZ {m : Nat} {a0 : Option Addr} {n c : Nat} {y : DataW H × List MemPlace} (h : DataW.trod enc Tryz.prog W 0 (fun _ => true) true m 32 [.slice a0 n c] = some y) (hz : Szd 32 y.1) :
    ∃ l : List ByteArray, l.length = n ∧ n ≤ c ∧ c ≤ maxLen ∧ StrR (Beh W) W a0 l ∧ ∀ p ∈ l, p.size ≤ 140737488351232 := by
  obtain ⟨l, h1, h2, h3, h4, h5⟩ := open_rowG (α := ByteArray) Tryz.underlying32 (K := 1) (by kernel_rfl) (by omega) (fun x cs => cs = [.string x] ∧ x.size ≤ 140737488351232) (fun {m cs y} ht hzz => by
    obtain ⟨s, rfl, rfl, _⟩ := DataW.trod_string Tryz.underlying9 ht
    exact ⟨s, rfl, szd_str hzz⟩) h hz
  refine ⟨l, h1, h2, h3, ⟨⟨by simp, fun h0 => ?_⟩, fun h0 ad e => ?_⟩, fun p hp => by obtain ⟨cs, _, q⟩ := h4 p hp; exact q⟩
  · obtain ⟨b, o, hA, hb, hc⟩ := h5 (by omega)
    refine ⟨_, hA, hb, fun j u hu => ?_⟩
    have hj : j < l.length := by
      have := (List.getElem?_eq_some_iff.1 hu).1
      rw [List.length_map] at this
      exact this
    obtain ⟨cs, ⟨rfl, _⟩, _, hcc⟩ := hc j hj
    have := hcc 0 (by omega)
    rw [List.getElem?_map, List.getElem?_eq_getElem hj] at hu
    rw [Addr.add_lit]
    simp only [Nat.mul_one, Nat.add_zero] at this
    rw [this]
    exact hu
  · obtain ⟨b, o, hA, hb, _⟩ := h5 (by omega)
    rw [hA] at e
    cases e
    show ¬ W.heap.size ≤ b
    omega
set_option maxRecDepth 100000 in
theorem open_tgt {m : Nat} {cs : List Value} {y : DataW H × List MemPlace} (h : DataW.trod enc Tryz.prog W 0 (fun _ => true) true m 31 cs = some y) : ∃ x : PT, cs = [.string x.p, .int .i64 x.n, .string x.h] := by
  obtain ⟨ys, n, _, _, hl, hyl, hf⟩ := DataW.trod_struct Tryz.underlying31 h
  have hl : cs.length = 3 := hl.trans (by kernel_rfl)
  match cs, hl, ys, hyl with
  | [c0, c1, c2], _, [y0, y1, y2], _ =>
    have h0 : DataW.trod enc Tryz.prog W 0 (fun _ => true) true n 9 [c0] = some y0 := hf 0 _ rfl
    have h1 : DataW.trod enc Tryz.prog W 0 (fun _ => true) true n 3 [c1] = some y1 := hf 1 _ rfl
    have h2 : DataW.trod enc Tryz.prog W 0 (fun _ => true) true n 9 [c2] = some y2 := hf 2 _ rfl
    obtain ⟨s, e0, _⟩ := DataW.trod_string Tryz.underlying9 h0
    obtain ⟨z, e1, _⟩ := DataW.trod_int Tryz.underlying3 h1
    obtain ⟨u, e2, _⟩ := DataW.trod_string Tryz.underlying9 h2
    cases e0; cases e1; cases e2
    exact ⟨⟨s, z, u⟩, rfl⟩
/-- a key's row: its cells' form -/
def KForm0 (k : PK) : Prop := ∃ (id : ByteArray) (n m : Int) (bs : List Int), bs.length = 32 ∧ k = .string id :: .int .i64 n :: .int .i64 m :: bs.map (Value.int .u8)
theorem KForm0.o {k : PK} (h : KForm0 k) : k.length = 35 ∧ ∀ u ∈ k, u.oneCell' = true := by
  obtain ⟨id, n, m, bs, hb, rfl⟩ := h
  refine ⟨by simp [hb], fun u hu => ?_⟩
  simp only [List.mem_cons, List.mem_map] at hu
  rcases hu with rfl | rfl | rfl | ⟨x, _, rfl⟩ <;> rfl
/-- and told as a key -/
def KForm (k : PK) : Prop := KForm0 k ∧ ∃ L, Tryz.prog.keyLits 4 78 k = some L
theorem KForm.o {k : PK} (h : KForm k) : k.length = 35 ∧ ∀ u ∈ k, u.oneCell' = true := h.1.o
set_option maxRecDepth 100000 in
theorem open_cells5 {t : TypeId} {f0 f1 f2 f3 f4 : Field} {fuel : Nat} {cs : List Value} {y : DataW H × List MemPlace} (hs : Tryz.prog.underlying t = some (.struct #[f0, f1, f2, f3, f4])) (hone : oneCellFields Tryz.prog #[f0, f1, f2, f3, f4] = true) (hC : Tryz.prog.cellsOf t = 5)
    (h : DataW.trod enc Tryz.prog W 0 (fun _ => true) true fuel t cs = some y) : ∃ (c0 c1 c2 c3 c4 : Value) (y0 y1 y2 y3 y4 : DataW H × List MemPlace) (n : Nat), cs = [c0, c1, c2, c3, c4] ∧ y.1 = .agg [y0.1, y1.1, y2.1, y3.1, y4.1] ∧
      DataW.trod enc Tryz.prog W 0 (fun _ => true) true n f0.type [c0] = some y0 ∧ DataW.trod enc Tryz.prog W 0 (fun _ => true) true n f1.type [c1] = some y1 ∧ DataW.trod enc Tryz.prog W 0 (fun _ => true) true n f2.type [c2] = some y2 ∧ DataW.trod enc Tryz.prog W 0 (fun _ => true) true n f3.type [c3] = some y3 ∧ DataW.trod enc Tryz.prog W 0 (fun _ => true) true n f4.type [c4] = some y4 := by
  obtain ⟨xs, n, _, hx, hlc, hlen, hg⟩ := DataW.trod_struct hs h
  obtain ⟨o0, k0⟩ := hone_of hone 0 f0 rfl
  obtain ⟨o1, k1⟩ := hone_of hone 1 f1 rfl
  obtain ⟨o2, k2⟩ := hone_of hone 2 f2 rfl
  obtain ⟨o3, k3⟩ := hone_of hone 3 f3 rfl
  obtain ⟨o4, k4⟩ := hone_of hone 4 f4 rfl
  match cs, hlc.trans hC, xs, hlen with
  | [c0, c1, c2, c3, c4], _, [y0, y1, y2, y3, y4], _ =>
    exact ⟨c0, c1, c2, c3, c4, y0, y1, y2, y3, y4, n, rfl, by rw [hx]; rfl, by simpa [o0, k0] using hg 0 f0 rfl, by simpa [o1, k1] using hg 1 f1 rfl, by simpa [o2, k2] using hg 2 f2 rfl, by simpa [o3, k3] using hg 3 f3 rfl, by simpa [o4, k4] using hg 4 f4 rfl⟩
set_option maxRecDepth 100000 in
theorem open_u8s {m : Nat} {cs : List Value} {y : DataW H × List MemPlace} (h : DataW.trod enc Tryz.prog W 0 (fun _ => true) true m 74 cs = some y) : ∃ bs : List Int, bs.length = 32 ∧ cs = bs.map (Value.int .u8) := by
  obtain ⟨xs, n, _, _, hl, hxl, hi⟩ := DataW.trod_array Tryz.underlying74 h
  have hl : cs.length = 32 := hl.trans (by kernel_rfl)
  have h1 : Tryz.prog.cellsOf 5 = 1 := by kernel_rfl
  rw [h1] at hi
  have key : ∀ i, i < 32 → ∃ b : Int, cs[i]? = some (.int .u8 b) := fun i hi' => by
    have q := hi i hi'
    rw [Nat.mul_one, List.drop_eq_getElem_cons (by omega), List.getElem?_eq_getElem (by omega)] at q
    obtain ⟨b, e, _⟩ := DataW.trod_int Tryz.underlying5 q
    simp only [List.take_succ_cons, List.take_zero, List.cons.injEq, and_true] at e
    exact ⟨b, by rw [List.getElem?_eq_getElem (by omega), e]⟩
  obtain ⟨bs, hb, hc⟩ := list_of 32 key
  refine ⟨bs, hb, List.ext_getElem? fun i => ?_⟩
  rcases Nat.lt_or_ge i 32 with h2 | h2
  · rw [hc i (by omega), List.getElem?_map, List.getElem?_eq_getElem (by omega)]; rfl
  · rw [List.getElem?_eq_none (by omega), List.getElem?_eq_none (by simp; omega)]
set_option maxRecDepth 100000 in
theorem open_key0 {m : Nat} {cs : List Value} {y : DataW H × List MemPlace} (h : DataW.trod enc Tryz.prog W 0 (fun _ => true) true m 78 cs = some y) : KForm0 cs := by
  obtain ⟨ys, n, _, _, hl, hyl, hf⟩ := DataW.trod_struct Tryz.underlying78 h
  have hl : cs.length = 35 := hl.trans (by kernel_rfl)
  match cs, hl, ys, hyl with
  | c0 :: c1 :: c2 :: r, hl, [y0, y1], _ =>
    have h0 : DataW.trod enc Tryz.prog W 0 (fun _ => true) true n 9 [c0] = some y0 := hf 0 _ rfl
    have hk : Tryz.prog.cellsOf 76 = 34 := by kernel_rfl
    have hlr : r.length = 32 := by simp at hl; omega
    have h1 : DataW.trod enc Tryz.prog W 0 (fun _ => true) true n 76 (c1 :: c2 :: r) = some y1 := by
      have q := hf 1 _ rfl
      have e : ((c0 :: c1 :: c2 :: r).drop 1).take 34 = c1 :: c2 :: r := List.take_of_length_le (by simp [hlr])
      rw [← e]
      exact q
    obtain ⟨zs, n2, _, _, hl2, hzl, hf2⟩ := DataW.trod_struct Tryz.underlying76 h1
    match zs, hzl with
    | [z0, z1, z2], _ =>
      have g0 : DataW.trod enc Tryz.prog W 0 (fun _ => true) true n2 3 [c1] = some z0 := hf2 0 _ rfl
      have g1 : DataW.trod enc Tryz.prog W 0 (fun _ => true) true n2 3 [c2] = some z1 := hf2 1 _ rfl
      have g2 : DataW.trod enc Tryz.prog W 0 (fun _ => true) true n2 74 r = some z2 := by
        have q := hf2 2 _ rfl
        have e : ((c1 :: c2 :: r).drop 2).take 32 = r := List.take_of_length_le (by simp [hlr])
        rw [← e]
        exact q
      obtain ⟨s, e0, _⟩ := DataW.trod_string Tryz.underlying9 h0
      obtain ⟨a, e1, _⟩ := DataW.trod_int Tryz.underlying3 g0
      obtain ⟨b, e2, _⟩ := DataW.trod_int Tryz.underlying3 g1
      obtain ⟨bs, hb, e3⟩ := open_u8s g2
      cases e0; cases e1; cases e2; subst e3
      exact ⟨s, a, b, bs, hb, rfl⟩
theorem open_key {m : Nat} {cs : List Value} {y : DataW H × List MemPlace} (h : DataW.trod enc Tryz.prog W 0 (fun _ => true) true m 78 cs = some y) : KForm cs :=
  ⟨open_key0 h, _, (keyLits_of_trod 4 _ (by kernel_rfl) m cs y h).1⟩
set_option maxRecDepth 100000 in
theorem open_del {m : Nat} {cs : List Value} {y : DataW H × List MemPlace} (h : DataW.trod enc Tryz.prog W 0 (fun _ => true) true m 59 cs = some y) (hz : Szd 59 y.1) : ∃ d : PD, ∃ a : DA, cs = d.cs a ∧ DOk (Beh W) W d a ∧ PDz d := by
  obtain ⟨ys, n, _, hy, hl, hyl, hf⟩ := DataW.trod_struct Tryz.underlying59 h
  have hl : cs.length = 6 := hl.trans (by kernel_rfl)
  match cs, hl, ys, hyl with
  | [c0, c1, c2, c3, c4, c5], _, [y0, y1, y2, y3, y4], _ =>
    have h0 : DataW.trod enc Tryz.prog W 0 (fun _ => true) true n 9 [c0] = some y0 := hf 0 _ rfl
    have h1 : DataW.trod enc Tryz.prog W 0 (fun _ => true) true n 57 [c1, c2] = some y1 := hf 1 _ rfl
    have h2 : DataW.trod enc Tryz.prog W 0 (fun _ => true) true n 4 [c3] = some y2 := hf 2 _ rfl
    have h3 : DataW.trod enc Tryz.prog W 0 (fun _ => true) true n 32 [c4] = some y3 := hf 3 _ rfl
    have h4 : DataW.trod enc Tryz.prog W 0 (fun _ => true) true n 32 [c5] = some y4 := hf 4 _ rfl
    have hy : y.1 = .agg [y0.1, y1.1, y2.1, y3.1, y4.1] := by rw [hy]; rfl
    rw [hy] at hz
    have z1 : Szd 57 y1.1 := hz.field Tryz.underlying59 (j := 1) rfl rfl
    have z3 : Szd 32 y3.1 := hz.field Tryz.underlying59 (j := 3) rfl rfl
    have z4 : Szd 32 y4.1 := hz.field Tryz.underlying59 (j := 4) rfl rfl
    obtain ⟨zs, n2, _, hy1, _, hzl, hf2⟩ := DataW.trod_struct Tryz.underlying57 h1
    match zs, hzl with
    | [u0, u1], _ =>
      have g0 : DataW.trod enc Tryz.prog W 0 (fun _ => true) true n2 32 [c1] = some u0 := hf2 0 _ rfl
      have g1 : DataW.trod enc Tryz.prog W 0 (fun _ => true) true n2 3 [c2] = some u1 := hf2 1 _ rfl
      have hy1 : y1.1 = .agg [u0.1, u1.1] := by rw [hy1]; rfl
      rw [hy1] at z1
      have w0 : Szd 32 u0.1 := z1.field Tryz.underlying57 (j := 0) rfl rfl
      obtain ⟨s, e0, _⟩ := DataW.trod_string Tryz.underlying9 h0
      obtain ⟨z, e2, _⟩ := DataW.trod_int Tryz.underlying3 g1
      obtain ⟨b, e3, _⟩ := DataW.trod_bool Tryz.underlying4 h2
      obtain ⟨A1, n1, p1, rfl⟩ := slice_of Tryz.underlying32 g0
      obtain ⟨A2, n2', p2, rfl⟩ := slice_of Tryz.underlying32 h3
      obtain ⟨A3, n3, p3, rfl⟩ := slice_of Tryz.underlying32 h4
      obtain ⟨l1, rfl, q11, q12, q13, q14⟩ := open_strsZ g0 w0
      obtain ⟨l2, rfl, q21, q22, q23, q24⟩ := open_strsZ h3 z3
      obtain ⟨l3, rfl, q31, q32, q33, q34⟩ := open_strsZ h4 z4
      cases e0; cases e2; cases e3
      exact ⟨⟨s, l1, z, b, l2, l3⟩, ⟨A1, p1, A2, p2, A3, p3⟩, rfl, ⟨q13, q23, q33, ⟨q11, q12⟩, ⟨q21, q22⟩, ⟨q31, q32⟩⟩, q24, q34⟩
/-- keys' rows as they may be -/
def PKf (t : PM) : Prop := ∀ k ∈ t.ks, KForm k
theorem PKf.o {t : PM} (h : PKf t) : PKo t := fun k hk => (h k hk).o
set_option maxRecDepth 100000 in
theorem open_tgsC {m : Nat} {cs : List Value} {y : DataW H × List MemPlace} (h : DataW.trod enc Tryz.prog W 0 (fun _ => true) true m 26 cs = some y) (hz : Szd 26 y.1) : ∃ t : PM, ∃ a : MA, cs = t.cs a ∧ MOk (Beh W) W t a ∧ PMz t ∧ PKf t := by
  obtain ⟨c0, c1, c2, c3, c4, y0, y1, y2, y3, y4, n, rfl, hy, h0, h1, h2, h3, h4⟩ := open_cells5 Tryz.underlying26 (by kernel_rfl) (by kernel_rfl) h
  rw [hy] at hz
  have z2 : Szd 22 y2.1 := hz.field Tryz.underlying26 (j := 2) rfl rfl
  have z3 : Szd 23 y3.1 := hz.field Tryz.underlying26 (j := 3) rfl rfl
  have z4 : Szd 24 y4.1 := hz.field Tryz.underlying26 (j := 4) rfl rfl
  obtain ⟨v, e0, _⟩ := DataW.trod_int Tryz.underlying3 h0
  obtain ⟨x, e1, _⟩ := DataW.trod_int Tryz.underlying3 h1
  obtain ⟨A1, n1, p1, rfl⟩ := slice_of Tryz.underlying22 h2
  obtain ⟨A2, n2, p2, rfl⟩ := slice_of Tryz.underlying23 h3
  obtain ⟨A3, n3, p3, rfl⟩ := slice_of Tryz.underlying24 h4
  obtain ⟨ts, rfl, q11, q12, q13, q14⟩ := open_rowG (α := PT) Tryz.underlying22 (K := 3) (by kernel_rfl) (by omega) (fun x cs => cs = [.string x.p, .int .i64 x.n, .string x.h]) (fun ht _ => open_tgt ht) h2 z2
  obtain ⟨ks, rfl, q21, q22, q23, q24⟩ := open_rowG (α := PK) Tryz.underlying23 (K := 35) (by kernel_rfl) (by omega) (fun x cs => cs = x ∧ KForm x) (fun {_ cs _} ht _ => ⟨cs, rfl, open_key ht⟩) h3 z3
  obtain ⟨ds, rfl, q31, q32, q33, q34⟩ := open_rowG (α := PD) Tryz.underlying24 (K := 6) (by kernel_rfl) (by omega) (fun d cs => ∃ a : DA, cs = d.cs a ∧ DOk (Beh W) W d a ∧ PDz d) (fun ht hzz => open_del ht hzz) h4 z4
  cases e0; cases e1
  refine ⟨⟨v, x, ts, ks, ds⟩, ⟨A1, p1, A2, p2, A3, p3⟩, rfl, ⟨fun h0 => ?_, fun h0 => ?_, fun h0 => ?_, ⟨q11, q12⟩, ⟨q21, q22⟩, ⟨q31, q32⟩⟩, fun d hd => ?_, fun k hk => ?_⟩
  · obtain ⟨b, o, hA, hb, hc⟩ := q14 h0
    refine ⟨b, o, hA, hb, by show ¬ W.heap.size ≤ b; omega, fun i hi => ?_⟩
    obtain ⟨cs, rfl, _, hcc⟩ := hc i hi
    exact ⟨hcc 0 (by omega), hcc 1 (by omega), hcc 2 (by omega)⟩
  · obtain ⟨b, o, hA, hb, hc⟩ := q24 h0
    refine ⟨b, o, hA, hb, by show ¬ W.heap.size ≤ b; omega, fun i hi => ?_⟩
    obtain ⟨cs, ⟨rfl, hk⟩, hl, hcc⟩ := hc i hi
    exact ⟨hl, hcc⟩
  · obtain ⟨b, o, hA, hb, hc⟩ := q34 h0
    refine ⟨b, o, hA, hb, by show ¬ W.heap.size ≤ b; omega, fun i hi => ?_⟩
    obtain ⟨cs, ⟨a, rfl, hok, _⟩, _, hcc⟩ := hc i hi
    exact ⟨a, hcc, hok⟩
  · obtain ⟨cs, a, _, _, hz⟩ := q33 d hd
    exact hz
  · obtain ⟨cs, _, hf⟩ := q23 k hk
    exact hf
set_option maxRecDepth 100000 in
theorem open_targets {base : Nat} {v : Value} {d : DataW H} {p : List MemPlace} (hv : Value.okWide Tryz.prog W .any base 26 v) (h : DataW.Trod enc Tryz.prog W 0 (fun _ => true) true 26 v d p) (hz : Szd 26 d) : ∃ (t : PM) (a : MA), v = t.val a ∧ MOk (Beh W) W t a ∧ PMz t ∧ PKf t := by
  obtain ⟨cs, rfl, hsz⟩ := okWide_struct Tryz.underlying26 hv
  obtain ⟨fuel, hf⟩ := h
  obtain ⟨t, a, hx, h1⟩ := open_tgsC hf hz
  refine ⟨t, a, ?_, h1⟩
  have e : cs.toList = t.cs a := hx
  show Value.agg cs = .agg (t.cs a).toArray
  rw [← e]
set_option maxRecDepth 100000 in
theorem open_nameds {a0 : Option Addr} {n c : Nat} {d : DataW H} {p : List MemPlace} (h : DataW.Trod enc Tryz.prog W 0 (fun _ => true) true 27 (.slice a0 n c) d p) (hz : Szd 27 d) : ∃ l : List PN, l.length = n ∧ n ≤ c ∧ c ≤ maxLen ∧ NsR (Beh W) W a0 l ∧ ∀ x ∈ l, PMz x.t ∧ PKf x.t := by
  obtain ⟨fuel, hf⟩ := h
  obtain ⟨l, h1, h2, h3, h4, h5⟩ := open_rowG (α := PN) Tryz.underlying27 (K := 6) (by kernel_rfl) (by omega) (fun x cs => ∃ a : MA, cs = .string x.name :: x.t.cs a ∧ MOk (Beh W) W x.t a ∧ PMz x.t ∧ PKf x.t) (fun {m cs y} ht hzz => by
    obtain ⟨ys, n2, _, hy, hl, hyl, hfl⟩ := DataW.trod_struct Tryz.underlying46 ht
    have hl : cs.length = 6 := hl.trans (by kernel_rfl)
    match cs, hl, ys, hyl with
    | [c0, c1, c2, c3, c4, c5], _, [y0, y1], _ =>
      have g0 : DataW.trod enc Tryz.prog W 0 (fun _ => true) true n2 9 [c0] = some y0 := hfl 0 _ rfl
      have g1 : DataW.trod enc Tryz.prog W 0 (fun _ => true) true n2 26 [c1, c2, c3, c4, c5] = some y1 := hfl 1 _ rfl
      have hy : y.1 = .agg [y0.1, y1.1] := by rw [hy]; rfl
      rw [hy] at hzz
      have z1 : Szd 26 y1.1 := hzz.field Tryz.underlying46 (j := 1) rfl rfl
      obtain ⟨s, e0, _⟩ := DataW.trod_string Tryz.underlying9 g0
      obtain ⟨t, a, ht', hm⟩ := open_tgsC g1 z1
      cases e0
      exact ⟨⟨s, t⟩, a, by rw [ht'], hm⟩) hf hz
  refine ⟨l, h1, h2, h3, fun h0 => ?_, fun x hx => ?_⟩
  · obtain ⟨b, o, hA, hb, hc⟩ := h5 (by omega)
    refine ⟨b, o, hA, hb, by show ¬ W.heap.size ≤ b; omega, fun i hi => ?_⟩
    obtain ⟨cs, ⟨a, rfl, hok, _⟩, _, hcc⟩ := hc i hi
    exact ⟨a, hcc, hok⟩
  · obtain ⟨cs, a, _, _, hz⟩ := h4 x hx
    exact hz
end
end Go.Proofs.YthidjdjcjjbpbaaGreatDoor
