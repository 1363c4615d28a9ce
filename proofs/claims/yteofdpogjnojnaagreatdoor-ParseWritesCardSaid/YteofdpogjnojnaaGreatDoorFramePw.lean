/-
  What the frame of ParseWrites takes: the tables of package utf8 as they are laid, a world for the witnesses; values that came in, lists of them, pairs.
-/
import Derived.Test.YteofdpogjnojnaaGreatDoorPaU
import Derived.Test.YteofdpogjnojnaaGreatDoorGPe
import Derived.Test.YteofdpogjnojnaaGreatDoorRows
import Derived.ProofKit
import Derived.OpenShut
import Derived.ShutString
import Derived.ChangeOld
import Derived.Deep.DeepHandedRow
import Derived.Deep.DeepWitnessRowRef
import Derived.Lib.LaidU8T
import Derived.Lib.LaidCase
import Derived.Lay
import Derived.MakeChecks
import Derived.Deep.Slices
import Derived.Deep.Fields
import Derived.ChangeSame
set_option linter.unusedVariables false
set_option linter.unusedSimpArgs false
namespace Go.Proofs.YteofdpogjnojnaaGreatDoor
open Go.ChangeShapes Go.WideShapes Go.ChangeAt Go.RowKit Go.Deep

theorem own : ownKnob Tryz.prog.godebug = none := by kernel_rfl
theorem laidOut : laidOutB Tryz.prog = true := by kernel_rfl
theorem first_lit : Rows.laid_unicode_utf8_first = Lib.firstData := by kernel_rfl
theorem accept_lit : (Rows.laid_unicode_utf8_acceptRanges : DataW Unit) = Lib.acceptData := by kernel_rfl
theorem extraU : U8Extra Tryz.prog Tryz.lays260_ren := ⟨by kernel_rfl, by kernel_rfl, by kernel_rfl, by kernel_rfl, by kernel_rfl, by kernel_rfl, by kernel_rfl⟩
theorem case_lit : (Rows.laid_unicode_CaseRanges : DataW Unit) = Lib.caseData := by kernel_rfl
theorem extraC : CaseExtra Tryz.prog Tryz.lays159_ren := ⟨by kernel_rfl, by kernel_rfl, by kernel_rfl, by kernel_rfl, by kernel_rfl, by kernel_rfl⟩
theorem tab_of_laid {W : World} (h : laidMetH Tryz.prog [("unicode/utf8.acceptRanges", Rows.laid_unicode_utf8_acceptRanges), ("unicode.CaseRanges", Rows.laid_unicode_CaseRanges), ("unicode/utf8.first", Rows.laid_unicode_utf8_first)] W) : tabV W := by
  have h2 : laidMet Tryz.prog [("unicode/utf8.acceptRanges", Rows.laid_unicode_utf8_acceptRanges), ("unicode.CaseRanges", Rows.laid_unicode_CaseRanges), ("unicode/utf8.first", Rows.laid_unicode_utf8_first)] W := h
  have a1 := Lib.laidMet.reads h2 (.tail _ (.tail _ (.head _)))
  have a2 := Lib.laidMet.reads h2 (.head _)
  have a3 := Lib.laidMet.reads h2 (.tail _ (.head _))
  rw [first_lit] at a1
  rw [accept_lit] at a2
  rw [case_lit] at a3
  exact ⟨utf8Tabs_of_readsT (U8Types.of260 Tryz.lays260) extraU a1 a2, caseVar_of_reads (ρ := Tryz.lays159_ren) { Tryz.lays159 with } Tryz.lays159.t206 extraC a3⟩
/-- A start whose tables hold what their initialisers lay. -/
noncomputable def laidWorld_va (os : Os) : World := World.laidAll Tryz.prog os Rows.parseWritesRow.laid
theorem laid_va (os : Os) (args : Array Value) : laidMet Tryz.prog Rows.parseWritesRow.laid ((laidWorld_va os).forCall (fun _ _ => 0) ⟨#[], args, []⟩).memory :=
  laidMet_laidAll _ (by kernel_rfl) (by kernel_rfl)
theorem block_lt_of_cell {w : World} {a : Addr} {v : Value} (h : w.cell? a = some v) : a.block < w.heap.size := by
  rcases Nat.lt_or_ge a.block w.heap.size with h1 | h1
  · exact h1
  · simp [World.cell?, Array.getElem?_eq_none h1] at h
theorem cellsVal : Tryz.prog.cellsOf 25 = 5 := by kernel_rfl
theorem cellsPair : Tryz.prog.cellsOf 40 = 6 := by kernel_rfl
theorem bytesVal : Tryz.prog.bytesOf 25 = 80 := by kernel_rfl
theorem bytesPair : Tryz.prog.bytesOf 40 = 96 := by kernel_rfl
instance : Inhabited MV := ⟨.mk ⟨#[]⟩ 0 0 ⟨#[]⟩ none 0 [] none 0 []⟩
theorem list_of {α : Type} [Inhabited α] {p : Nat → α → Prop} (n : Nat) (h : ∀ i, i < n → ∃ x, p i x) : ∃ l : List α, l.length = n ∧ ∀ i (hi : i < l.length), p i l[i] := by
  obtain ⟨f, hf⟩ := choose_lt h
  refine ⟨(List.range n).map f, by simp, fun i hi => ?_⟩
  have hi' : i < n := by simpa using hi
  simpa using hf i hi'

section
variable {H : Type} {enc : TypeId × Value → H} {W : World}
/-- a datum whose sizes are all within reach -/
def Szd (t : TypeId) (d : DataW H) : Prop := ∀ n ∈ d.weights Tryz.prog t, n ≤ reachBytes
theorem szd_each {ts : List TypeId} {ds : List (DataW H)} (h : (DataW.weightsEach Tryz.prog ts ds).all (· ≤ reachBytes) = true) {j : Nat} {t : TypeId} {d : DataW H} (ht : ts[j]? = some t) (hd : ds[j]? = some d) : Szd t d := fun n hn => by
  have := List.all_eq_true.1 h n (DataW.weights_mem_each ht hd n hn)
  simpa using this
theorem weights_mem_all {e : TypeId} : ∀ {ds : List (DataW H)} {j : Nat} {d : DataW H}, ds[j]? = some d → ∀ n ∈ d.weights Tryz.prog e, n ∈ DataW.weightsAll Tryz.prog e ds
  | d0 :: ds, 0, d, hd, n, hn => by
    simp only [List.getElem?_cons_zero, Option.some.injEq] at hd
    subst hd
    simp only [DataW.weightsAll, List.mem_append]
    exact .inl hn
  | d0 :: ds, j + 1, d, hd, n, hn => by
    simp only [List.getElem?_cons_succ] at hd
    simp only [DataW.weightsAll, List.mem_append]
    exact .inr (weights_mem_all hd n hn)
  | [], _, _, hd, _, _ => by simp at hd
theorem Szd.field {t : TypeId} {fs : Array Field} (hu : Tryz.prog.underlying t = some (.struct fs)) {parts : List (DataW H)} (h : Szd t (.agg parts)) {j : Nat} {f : Field} {d : DataW H} (hf : fs[j]? = some f) (hd : parts[j]? = some d) : Szd f.type d := fun n hn => by
  refine h n ?_
  rw [DataW.weights, hu]
  exact DataW.weights_mem_each (ts := fs.toList.map (·.type)) (j := j) (by simp [hf]) hd n hn
theorem Szd.elem {t e : TypeId} (hu : Tryz.prog.underlying t = some (.slice e)) {elems spare : List (DataW H)} (h : Szd t (.slice elems spare)) {j : Nat} {d : DataW H} (hd : elems[j]? = some d) : Szd e d := fun n hn => by
  refine h n ?_
  rw [DataW.weights, hu]
  exact List.mem_cons_of_mem _ (List.mem_append_left _ (weights_mem_all hd n hn))
theorem Szd.slice {t e : TypeId} (hu : Tryz.prog.underlying t = some (.slice e)) {elems spare : List (DataW H)} (h : Szd t (.slice elems spare)) : (elems.length + spare.length) * Tryz.prog.bytesOf e ≤ reachBytes := by
  refine h _ ?_
  rw [DataW.weights, hu]
  exact List.mem_cons_self ..
theorem str_szd {t : TypeId} {s : ByteArray} (h : Szd (H := H) t (.lit (.string s.data.toList))) : s.size ≤ 140737488351232 := by
  have := h s.data.toList.length (by simp [DataW.weights])
  rw [Array.length_toList] at this
  simp only [reachBytes] at this
  show s.data.size ≤ _
  omega
/-- a row of values, each of which came in -/
theorem rows_of {t e : TypeId} {size bytes : Nat} {cs : MV → List Value} (hcl : ∀ x, (cs x).length = size) (hsz : 0 < size) (hby : 0 < bytes) (hu : Tryz.prog.underlying t = some (.slice e)) (hC : Tryz.prog.cellsOf e = size) (hB : Tryz.prog.bytesOf e = bytes) {n : Nat} {c : Value} {y : DataW H × List MemPlace}
    (h : DataW.trod enc Tryz.prog W 0 (fun _ => true) true n t [c] = some y) (hz : Szd t y.1) (Q : MV → Prop) (ih : ∀ m, m < n → ∀ cs' y', DataW.trod enc Tryz.prog W 0 (fun _ => true) true m e cs' = some y' → Szd e y'.1 → ∃ v : MV, cs' = cs v ∧ Q v) :
    ∃ (A : Option Addr) (l : List MV) (cap : Nat), c = .slice A l.length cap ∧ Reads W W.heap.size size A l.length (l.flatMap cs) ∧ l.length ≤ cap ∧ cap ≤ maxLen ∧ l.length ≤ 140737488351232 ∧ ∀ x ∈ l, Q x := by
  rcases DataW.trod_slice hu h with ⟨hc, _⟩ | ⟨a, len, cap, elems, rest, m, hn, hc, hx, _, hl, hm, hlen, hel, _, _⟩
  · injection hc with hc
    exact ⟨none, [], 0, hc, Reads.none_, Nat.le_refl _, by simp [maxLen], by simp, fun x hx => by cases hx⟩
  · injection hc with hc
    have hz' : Szd t (.slice (elems.map (·.1)) (rest.map (·.1))) := by rw [hx] at hz; exact hz
    have hlb : len ≤ 140737488351232 := by
      have h1 := hz'.slice hu
      rw [hB, List.length_map, hlen] at h1
      simp only [reachBytes] at h1
      have h2 : len * 1 ≤ (len + (rest.map (·.1)).length) * bytes := Nat.mul_le_mul (by omega) hby
      omega
    obtain ⟨l, hll, hat⟩ := list_of (p := fun i (v : MV) => (∀ k, k < size → W.cell? (a.add (i * size + k)) = (cs v)[k]?) ∧ Q v) len (fun i hi => by
      have h1 := hel i hi
      rw [hC] at h1
      have hei : i < elems.length := by rw [hlen]; exact hi
      rw [List.getElem?_eq_getElem hei] at h1
      cases hcs : W.cells? 0 (a.add (i * size)) size with
      | none => rw [hcs] at h1; cases h1
      | some cs' =>
        rw [hcs] at h1
        obtain ⟨v, hv1, hv2⟩ := ih m (by omega) cs' elems[i] h1 (hz'.elem hu (j := i) (by simp [hei]))
        obtain ⟨_, _, hcat⟩ := World.cells?_some hcs
        refine ⟨v, fun k hk => ?_, hv2⟩
        have := hcat k hk
        rw [Go.Deep.add_add, hv1] at this
        exact this)
    have hfl : (l.flatMap cs).length = l.length * size := by
      clear hat hll
      induction l with
      | nil => simp
      | cons v r ihl => rw [List.flatMap_cons, List.length_append, ihl, hcl, List.length_cons, Nat.succ_mul]; omega
    refine ⟨some a, l, cap, by rw [hc, hll], ⟨hfl, fun hn0 => ⟨a, rfl, ?_, fun j u hu' => ?_⟩⟩, by rw [hll]; exact hl, hm, by rw [hll]; exact hlb, fun x hx => ?_⟩
    · have h1 := (hat 0 hn0).1 0 hsz
      rw [List.getElem?_eq_getElem (by rw [hcl]; exact hsz)] at h1
      have h4 := block_lt_of_cell h1
      rwa [block_of_add] at h4
    · have hj : j < l.length * size := by
        rcases Nat.lt_or_ge j (l.length * size) with h7 | h7
        · exact h7
        · rw [List.getElem?_eq_none (by rw [hfl]; exact h7)] at hu'; cases hu'
      have hk : j / size < l.length := Nat.div_lt_of_lt_mul (by rw [Nat.mul_comm]; exact hj)
      have hgen : ∀ (l : List MV) (i : Nat) (hi : i < l.length) (k : Nat), k < size → (l.flatMap cs)[i * size + k]? = (cs l[i])[k]? := by
        intro l
        induction l with
        | nil => intro i hi; simp at hi
        | cons v r ihl =>
          intro i hi k hk
          rw [List.flatMap_cons]
          cases i with
          | zero => rw [Nat.zero_mul, Nat.zero_add, List.getElem?_append_left (by rw [hcl]; exact hk)]; rfl
          | succ i =>
            rw [List.getElem?_append_right (by rw [hcl, Nat.succ_mul]; omega), hcl, show (i + 1) * size + k - size = i * size + k from by rw [Nat.succ_mul]; omega, ihl i (by simpa using hi) k hk]
            rfl
      have hmod : j % size < size := Nat.mod_lt _ hsz
      have hdm : j / size * size + j % size = j := by rw [Nat.mul_comm]; exact Nat.div_add_mod j size
      have h1 := (hat (j / size) hk).1 (j % size) hmod
      have h2 := hgen l (j / size) hk (j % size) hmod
      rw [hdm] at h1 h2
      rw [h1, ← h2]
      exact hu'
    · obtain ⟨i, hi, rfl⟩ := List.getElem_of_mem hx
      exact (hat i hi).2
def OkV (W : World) (v : MV) : Prop := VAt W v ∧ SzV v
set_option maxRecDepth 100000 in
theorem open_val : ∀ (n : Nat) (key : ByteArray) (cs : List Value) (y : DataW H × List MemPlace), DataW.trod enc Tryz.prog W 0 (fun _ => true) true n 25 cs = some y → Szd 25 y.1 → ∃ v : MV, v.key = key ∧ cs = v.cs ∧ OkV W v
  | n, key, cs, y, h, hz => by
    obtain ⟨ys, m, hn, hy, hlen, hyl, hfld⟩ := DataW.trod_struct Tryz.underlying25 h
    rw [cellsVal] at hlen
    match cs, hlen, ys, hyl with
    | [c0, c1, c2, c3, c4], _, [y0, y1, y2, y3, y4], _ =>
      have h0 : DataW.trod enc Tryz.prog W 0 (fun _ => true) true m 3 [c0] = some y0 := hfld 0 _ rfl
      have h1 : DataW.trod enc Tryz.prog W 0 (fun _ => true) true m 3 [c1] = some y1 := hfld 1 _ rfl
      have h2 : DataW.trod enc Tryz.prog W 0 (fun _ => true) true m 9 [c2] = some y2 := hfld 2 _ rfl
      have h3 : DataW.trod enc Tryz.prog W 0 (fun _ => true) true m 22 [c3] = some y3 := hfld 3 _ rfl
      have h4 : DataW.trod enc Tryz.prog W 0 (fun _ => true) true m 23 [c4] = some y4 := hfld 4 _ rfl
      have hze : Szd 25 (.agg [y0.1, y1.1, y2.1, y3.1, y4.1]) := by rw [hy] at hz; exact hz
      obtain ⟨k, hk, _, hkw⟩ := DataW.trod_int Tryz.underlying3 h0
      obtain ⟨nn, hnn, _, hnw⟩ := DataW.trod_int Tryz.underlying3 h1
      obtain ⟨s, hs, hsy, _⟩ := DataW.trod_string Tryz.underlying9 h2
      injection hk with hk
      injection hnn with hnn
      injection hs with hs
      subst hk hnn hs
      have hss : s.size ≤ 140737488351232 := by
        have h9 : Szd 9 y2.1 := hze.field Tryz.underlying25 (j := 2) rfl rfl
        rw [hsy] at h9
        exact str_szd h9
      obtain ⟨A, l, lc, rfl, hr, hl1, hl2, hl3, hlq⟩ := rows_of (cs := MV.cs) (size := 5) (bytes := 80) (fun _ => rfl) (by omega) (by omega) Tryz.underlying22 cellsVal bytesVal h3 (hze.field Tryz.underlying25 (j := 3) rfl rfl) (OkV W) (fun m' hm' cs' y' ht' hz' => by
        obtain ⟨v, _, e, hv⟩ := open_val m' ⟨#[]⟩ cs' y' ht' hz'
        exact ⟨v, e, hv⟩)
      obtain ⟨A2, l2, lc2, rfl, hr2, hm1, hm2, hm3, hmq⟩ := rows_of (cs := MV.pcs) (size := 6) (bytes := 96) (fun _ => rfl) (by omega) (by omega) Tryz.underlying23 cellsPair bytesPair h4 (hze.field Tryz.underlying25 (j := 4) rfl rfl) (fun v => OkV W v ∧ v.key.size ≤ 140737488351232) (fun m' hm' cs' y' ht' hz' => by
        obtain ⟨zs, m2, hn2, hzy, hlen2, hzl, hfld2⟩ := DataW.trod_struct Tryz.underlying40 ht'
        rw [cellsPair] at hlen2
        match cs', hlen2, zs, hzl with
        | [p0, p1, p2, p3, p4, p5], _, [z0, z1], _ =>
          have g0 : DataW.trod enc Tryz.prog W 0 (fun _ => true) true m2 9 [p0] = some z0 := hfld2 0 _ rfl
          have g1 : DataW.trod enc Tryz.prog W 0 (fun _ => true) true m2 25 [p1, p2, p3, p4, p5] = some z1 := hfld2 1 _ rfl
          have hzp : Szd 40 (.agg [z0.1, z1.1]) := by rw [hzy] at hz'; exact hz'
          obtain ⟨ky, hky, hkyy, _⟩ := DataW.trod_string Tryz.underlying9 g0
          injection hky with hky
          subst hky
          have hks : ky.size ≤ 140737488351232 := by
            have h9 : Szd 9 z0.1 := hzp.field Tryz.underlying40 (j := 0) rfl rfl
            rw [hkyy] at h9
            exact str_szd h9
          obtain ⟨v, hv1, e, hv⟩ := open_val m2 ky [p1, p2, p3, p4, p5] z1 g1 (hzp.field Tryz.underlying40 (j := 1) rfl rfl)
          exact ⟨v, by rw [MV.pcs, hv1, ← e], hv, by rw [hv1]; exact hks⟩)
      exact ⟨.mk key k nn s A lc l A2 lc2 l2, rfl, rfl, .mk hkw hnw hr hl1 hl2 hr2 hm1 hm2 (fun x hx => (hlq x hx).1) (fun x hx => (hmq x hx).1.1), .mk hss hl3 hm3 (fun x hx => (hlq x hx).2) (fun x hx => (hmq x hx).2) (fun x hx => (hmq x hx).1.2)⟩
termination_by n => n
set_option maxRecDepth 100000 in
theorem open_pairC (m' : Nat) (cs' : List Value) (y' : DataW H × List MemPlace) (ht' : DataW.trod enc Tryz.prog W 0 (fun _ => true) true m' 40 cs' = some y') (hz' : Szd 40 y'.1) : ∃ v : MV, cs' = v.pcs ∧ OkV W v ∧ v.key.size ≤ 140737488351232 := by
  obtain ⟨zs, m2, hn2, hzy, hlen2, hzl, hfld2⟩ := DataW.trod_struct Tryz.underlying40 ht'
  rw [cellsPair] at hlen2
  match cs', hlen2, zs, hzl with
  | [p0, p1, p2, p3, p4, p5], _, [z0, z1], _ =>
    have g0 : DataW.trod enc Tryz.prog W 0 (fun _ => true) true m2 9 [p0] = some z0 := hfld2 0 _ rfl
    have g1 : DataW.trod enc Tryz.prog W 0 (fun _ => true) true m2 25 [p1, p2, p3, p4, p5] = some z1 := hfld2 1 _ rfl
    have hzp : Szd 40 (.agg [z0.1, z1.1]) := by rw [hzy] at hz'; exact hz'
    obtain ⟨ky, hky, hkyy, _⟩ := DataW.trod_string Tryz.underlying9 g0
    injection hky with hky
    subst hky
    have hks : ky.size ≤ 140737488351232 := by
      have h9 : Szd 9 z0.1 := hzp.field Tryz.underlying40 (j := 0) rfl rfl
      rw [hkyy] at h9
      exact str_szd h9
    obtain ⟨v, hv1, e, hv⟩ := open_val m2 ky [p1, p2, p3, p4, p5] z1 g1 (hzp.field Tryz.underlying40 (j := 1) rfl rfl)
    exact ⟨v, by rw [MV.pcs, hv1, ← e], hv, by rw [hv1]; exact hks⟩
set_option maxRecDepth 100000 in
/-- A value that came in. -/
theorem open_value {base : Nat} {v : Value} {d : DataW H} {p : List MemPlace} (hv : Value.okWide Tryz.prog W .any base 25 v) (h : DataW.Trod enc Tryz.prog W 0 (fun _ => true) true 25 v d p) (hz : Szd 25 d) : ∃ m : MV, v = m.val ∧ VAt W m ∧ SzV m := by
  obtain ⟨cs, rfl, hsz⟩ := okWide_struct Tryz.underlying25 hv
  obtain ⟨fuel, hf⟩ := h
  obtain ⟨x, _, hx, h1, h2⟩ := open_val fuel ⟨#[]⟩ cs.toList _ hf hz
  refine ⟨x, ?_, h1, h2⟩
  have : cs.toList = x.cs.toArray.toList := by simpa using hx
  rw [Array.toList_inj.1 this]
  rfl
set_option maxRecDepth 100000 in
/-- A list of values that came in. -/
theorem open_values {a0 : Option Addr} {n c : Nat} {d : DataW H} {p : List MemPlace} (h : DataW.Trod enc Tryz.prog W 0 (fun _ => true) true 22 (.slice a0 n c) d p) (hz : Szd 22 d) : ∃ l : List MV, n = l.length ∧ VAt W (.mk ⟨#[]⟩ 5 0 ⟨#[]⟩ a0 c l none 0 []) ∧ SzV (.mk ⟨#[]⟩ 5 0 ⟨#[]⟩ a0 c l none 0 []) := by
  obtain ⟨fuel, hf⟩ := h
  obtain ⟨A, l, lc, hv, hr, hl1, hl2, hl3, hlq⟩ := rows_of (cs := MV.cs) (size := 5) (bytes := 80) (fun _ => rfl) (by omega) (by omega) Tryz.underlying22 cellsVal bytesVal hf hz (OkV W) (fun m' hm' cs' y' ht' hz' => by
    obtain ⟨v, _, e, hv⟩ := open_val m' ⟨#[]⟩ cs' y' ht' hz'
    exact ⟨v, e, hv⟩)
  injection hv with e1 e2 e3
  subst e1 e2 e3
  exact ⟨l, rfl, .mk rfl rfl hr hl1 hl2 Reads.none_ (Nat.le_refl _) (by simp [maxLen]) (fun x hx => (hlq x hx).1) (fun x hx => by cases hx), .mk (by simp [ByteArray.size]) hl3 (by simp) (fun x hx => (hlq x hx).2) (fun x hx => by cases hx) (fun x hx => by cases hx)⟩
set_option maxRecDepth 100000 in
/-- Pairs that came in. -/
theorem open_pairs {a0 : Option Addr} {n c : Nat} {d : DataW H} {p : List MemPlace} (h : DataW.Trod enc Tryz.prog W 0 (fun _ => true) true 23 (.slice a0 n c) d p) (hz : Szd 23 d) : ∃ l : List MV, n = l.length ∧ VAt W (.mk ⟨#[]⟩ 6 0 ⟨#[]⟩ none 0 [] a0 c l) ∧ SzV (.mk ⟨#[]⟩ 6 0 ⟨#[]⟩ none 0 [] a0 c l) := by
  obtain ⟨fuel, hf⟩ := h
  obtain ⟨A2, l2, lc2, hv, hr2, hm1, hm2, hm3, hmq⟩ := rows_of (cs := MV.pcs) (size := 6) (bytes := 96) (fun _ => rfl) (by omega) (by omega) Tryz.underlying23 cellsPair bytesPair hf hz (fun v => OkV W v ∧ v.key.size ≤ 140737488351232) (fun m' hm' cs' y' ht' hz' => open_pairC m' cs' y' ht' hz')
  injection hv with e1 e2 e3
  subst e1 e2 e3
  exact ⟨l2, rfl, .mk rfl rfl Reads.none_ (Nat.le_refl _) (by simp [maxLen]) hr2 hm1 hm2 (fun x hx => by cases hx) (fun x hx => (hmq x hx).1.1), .mk (by simp [ByteArray.size]) (by simp) hm3 (fun x hx => by cases hx) (fun x hx => (hmq x hx).2) (fun x hx => (hmq x hx).1.2)⟩
end
end Go.Proofs.YteofdpogjnojnaaGreatDoor
