/-
 What the frames of the laws of listing share: the tables as they are laid, a world for the witnesses; files and listings that came in.
-/
import Derived.Test.YtefkpphahimkgaaGreatDoorLiL2
import Derived.Test.YtefkpphahimkgaaGreatDoorRows
import Derived.ProofKit
import Derived.OpenShut
import Derived.ShutString
import Derived.ChangeOld
import Derived.Deep.DeepHandedRow
import Derived.Deep.DeepWitnessRowRef
import Derived.Lib.LaidTab
import Derived.Lib.LaidU8T
import Derived.Stop.LaidErr
import Derived.Lay
import Derived.MakeChecks
import Derived.Deep.Slices
import Derived.Deep.Fields
import Derived.ChangeSame
set_option linter.unusedVariables false
set_option linter.unusedSimpArgs false
namespace Go.Proofs.YtefkpphahimkgaaGreatDoor
open Go.ChangeShapes Go.WideShapes Go.ChangeAt Go.RowKit Go.Deep
theorem own : ownKnob Tryz.prog.godebug = none := by kernel_rfl
theorem laidOut : laidOutB Tryz.prog = true := by kernel_rfl
theorem tabM_of_shaped {W : World} (h : W.ShapedOpen Tryz.prog) : tabM W := Tryz.laysM146.s1_3 W h
theorem kon_lit {H : Type} : (Rows.laid_pursuivant_sha_constants : DataW H) = Lib.tabData .u32 kL := rfl
theorem kon_glob : Tryz.prog.globalNamed "pursuivant/sha.constants" = some 2 := by kernel_rfl
theorem kon_type : (Tryz.prog.globals[(2 : Nat)]?).map (·.type) = some 175 := by kernel_rfl
theorem first_lit : Rows.laid_unicode_utf8_first = Lib.firstData := by kernel_rfl
theorem accept_lit : (Rows.laid_unicode_utf8_acceptRanges : DataW Unit) = Lib.acceptData := by kernel_rfl
theorem extraU : U8Extra Tryz.prog Tryz.lays260_ren := ⟨by kernel_rfl, by kernel_rfl, by kernel_rfl, by kernel_rfl, by kernel_rfl, by kernel_rfl, by kernel_rfl⟩
theorem globP : Tryz.prog.globalNamed "internal/strconv.uint64pow10" = some 4 := by kernel_rfl
theorem globPT : (Tryz.prog.globals[4]?).map (·.type) = some 217 := by kernel_rfl
theorem pow_lit {H : Type} : (Rows.laid_internal_strconv_uint64pow10 : DataW H) = Lib.tabData .u64 Lib.pow10Tab := rfl
theorem tabL_of {W : World} (h : laidMetH Tryz.prog [("math/bits.deBruijn32tab", Rows.laid_math_bits_deBruijn32tab), ("math/bits.deBruijn64tab", Rows.laid_math_bits_deBruijn64tab), ("internal/strconv.uint64pow10", Rows.laid_internal_strconv_uint64pow10), ("unicode/utf8.acceptRanges", Rows.laid_unicode_utf8_acceptRanges), ("pursuivant/sha.constants", Rows.laid_pursuivant_sha_constants), ("unicode/utf8.first", Rows.laid_unicode_utf8_first)] W) (hsh : W.ShapedOpen Tryz.prog) : tabL W := by
 have h0 : laidMet Tryz.prog [("math/bits.deBruijn32tab", Rows.laid_math_bits_deBruijn32tab), ("math/bits.deBruijn64tab", Rows.laid_math_bits_deBruijn64tab), ("internal/strconv.uint64pow10", Rows.laid_internal_strconv_uint64pow10), ("unicode/utf8.acceptRanges", Rows.laid_unicode_utf8_acceptRanges), ("pursuivant/sha.constants", Rows.laid_pursuivant_sha_constants), ("unicode/utf8.first", Rows.laid_unicode_utf8_first)] W := h
 have hP := laidMet.tail (laidMet.tail h0)
 rw [pow_lit] at hP
 have hK := laidMet.tail (laidMet.tail (laidMet.tail (laidMet.tail h0)))
 rw [kon_lit] at hK
 have a1 := Lib.laidMet.reads h0 (.tail _ (.tail _ (.tail _ (.tail _ (.tail _ (.head _))))))
 have a2 := Lib.laidMet.reads h0 (.tail _ (.tail _ (.tail _ (.head _))))
 rw [first_lit] at a1
 rw [accept_lit] at a2
 refine ⟨utf8Tabs_of_readsT (U8Types.of260 Tryz.lays260) extraU a1 a2, Lib.tabIs_of_head globP globPT Tryz.underlying217 Tryz.underlying204 (by kernel_rfl) (by kernel_rfl) hP, tabM_of_shaped hsh, ?_⟩
 have h3 := Lib.tabIs_of_head kon_glob kon_type Tryz.underlying175 Tryz.underlying140 (by kernel_rfl) (by kernel_rfl) hK
 unfold Lib.TabIs World.var? at h3
 rw [kon_glob] at h3
 simp only [Option.bind_some] at h3
 split at h3
 ·rename_i cs t fr heq
  cases h3
  exact ⟨t, fr, heq⟩
 ·cases h3
noncomputable def laidWorld_li (os : Os) : World := World.laidAll Tryz.prog os Rows.listingFitsRow.laid
theorem laid_li (os : Os) (args : Array Value) : laidMet Tryz.prog Rows.listingFitsRow.laid ((laidWorld_li os).forCall (fun _ _ => 0) ⟨#[], args, []⟩).memory :=
 laidMet_laidAll _ (by kernel_rfl) (by kernel_rfl)
theorem block_lt_of_cell {w : World} {a : Addr} {v : Value} (h : w.cell? a = some v) : a.block < w.heap.size := by
 rcases Nat.lt_or_ge a.block w.heap.size with h1 | h1
 ·exact h1
 ·simp [World.cell?, Array.getElem?_eq_none h1] at h
theorem list_of {α : Type} [Inhabited α] {p : Nat → α → Prop} (n : Nat) (h : ∀ i, i < n → ∃ x, p i x) : ∃ l : List α, l.length = n ∧ ∀ i (hi : i < l.length), p i l[i] := by
 obtain ⟨f, hf⟩ := choose_lt h
 refine ⟨(List.range n).map f, by simp, fun i hi => ?_⟩
 have hi' : i < n := by simpa using hi
 simpa using hf i hi'
section
variable {H : Type} {enc : TypeId × Value → H} {W : World}
def Szd (t : TypeId) (d : DataW H) : Prop := ∀ n ∈ d.weights Tryz.prog t, n ≤ reachBytes
theorem szd_each {ts : List TypeId} {ds : List (DataW H)} (h : (DataW.weightsEach Tryz.prog ts ds).all (· ≤ reachBytes) = true) {j : Nat} {t : TypeId} {d : DataW H} (ht : ts[j]? = some t) (hd : ds[j]? = some d) : Szd t d := fun n hn => by
 have := List.all_eq_true.1 h n (DataW.weights_mem_each ht hd n hn)
 simpa using this
theorem weights_mem_all {e : TypeId} : ∀ {ds : List (DataW H)} {j : Nat} {d : DataW H}, ds[j]? = some d → ∀ n ∈ d.weights Tryz.prog e, n ∈ DataW.weightsAll Tryz.prog e ds
 | d0 :: ds, 0, d, hd, n, hn => by
  simp only [List.getElem?_cons_zero, Option.some.injEq] at hd
  subst hd
  simp only [DataW.weightsAll, List.mem_append]
  exact .inl hn
 | d0 :: ds, j + 1, d, hd, n, hn => by
  simp only [List.getElem?_cons_succ] at hd
  simp only [DataW.weightsAll, List.mem_append]
  exact .inr (weights_mem_all hd n hn)
 | [], _, _, hd, _, _ => by simp at hd
theorem Szd.field {t : TypeId} {fs : Array Field} (hu : Tryz.prog.underlying t = some (.struct fs)) {parts : List (DataW H)} (h : Szd t (.agg parts)) {j : Nat} {f : Field} {d : DataW H} (hf : fs[j]? = some f) (hd : parts[j]? = some d) : Szd f.type d := fun n hn => by
 refine h n ?_
 rw [DataW.weights, hu]
 exact DataW.weights_mem_each (ts := fs.toList.map (·.type)) (j := j) (by simp [hf]) hd n hn
theorem Szd.elem {t e : TypeId} (hu : Tryz.prog.underlying t = some (.slice e)) {elems spare : List (DataW H)} (h : Szd t (.slice elems spare)) {j : Nat} {d : DataW H} (hd : elems[j]? = some d) : Szd e d := fun n hn => by
 refine h n ?_
 rw [DataW.weights, hu]
 exact List.mem_cons_of_mem _ (List.mem_append_left _ (weights_mem_all hd n hn))
theorem Szd.slice {t e : TypeId} (hu : Tryz.prog.underlying t = some (.slice e)) {elems spare : List (DataW H)} (h : Szd t (.slice elems spare)) : (elems.length + spare.length) * Tryz.prog.bytesOf e ≤ reachBytes := by
 refine h _ ?_
 rw [DataW.weights, hu]
 exact List.mem_cons_self ..
theorem str_szd {t : TypeId} {s : ByteArray} (h : Szd (H := H) t (.lit (.string s.data.toList))) : s.size ≤ 140737488351232 := by
 have := h s.data.toList.length (by simp [DataW.weights])
 rw [Array.length_toList] at this
 simp only [reachBytes] at this
 show s.data.size ≤ _
 omega
theorem rows_ofE {t e : TypeId} {size bytes : Nat} {cs : ME → List Value} (hcl : ∀ x, (cs x).length = size) (hsz : 0 < size) (hby : 0 < bytes) (hu : Tryz.prog.underlying t = some (.slice e)) (hC : Tryz.prog.cellsOf e = size) (hB : Tryz.prog.bytesOf e = bytes) {n : Nat} {c : Value} {y : DataW H × List MemPlace}
  (h : DataW.trod enc Tryz.prog W 0 (fun _ => true) true n t [c] = some y) (hz : Szd t y.1) (Q : ME → Prop) (ih : ∀ m, m < n → ∀ cs' y', DataW.trod enc Tryz.prog W 0 (fun _ => true) true m e cs' = some y' → Szd e y'.1 → ∃ v : ME, cs' = cs v ∧ Q v) :
  ∃ (A : Option Addr) (l : List ME) (cap : Nat), c = .slice A l.length cap ∧ Reads W W.heap.size size A l.length (l.flatMap cs) ∧ l.length ≤ cap ∧ cap ≤ maxLen ∧ l.length ≤ 140737488351232 ∧ ∀ x ∈ l, Q x := by
 rcases DataW.trod_slice hu h with ⟨hc, _⟩ | ⟨a, len, cap, elems, rest, m, hn, hc, hx, _, hl, hm, hlen, hel, _, _⟩
 ·injection hc with hc
  exact ⟨none, [], 0, hc, Reads.none_, Nat.le_refl _, by simp [maxLen], by simp, fun x hx => by cases hx⟩
 ·injection hc with hc
  have hz' : Szd t (.slice (elems.map (·.1)) (rest.map (·.1))) := by rw [hx] at hz; exact hz
  have hlb : len ≤ 140737488351232 := by
   have h1 := hz'.slice hu
   rw [hB, List.length_map, hlen] at h1
   simp only [reachBytes] at h1
   have h2 : len * 1 ≤ (len + (rest.map (·.1)).length) * bytes := Nat.mul_le_mul (by omega) hby
   omega
  obtain ⟨l, hll, hat⟩ := list_of (p := fun i (v : ME) => (∀ k, k < size → W.cell? (a.add (i * size + k)) = (cs v)[k]?) ∧ Q v) len (fun i hi => by
   have h1 := hel i hi
   rw [hC] at h1
   have hei : i < elems.length := by rw [hlen]; exact hi
   rw [List.getElem?_eq_getElem hei] at h1
   cases hcs : W.cells? 0 (a.add (i * size)) size with
   | none => rw [hcs] at h1; cases h1
   | some cs' =>
    rw [hcs] at h1
    obtain ⟨v, hv1, hv2⟩ := ih m (by omega) cs' elems[i] h1 (hz'.elem hu (j := i) (by simp [hei]))
    obtain ⟨_, _, hcat⟩ := World.cells?_some hcs
    refine ⟨v, fun k hk => ?_, hv2⟩
    have := hcat k hk
    rw [Go.Deep.add_add, hv1] at this
    exact this)
  have hfl : (l.flatMap cs).length = l.length * size := by
   clear hat hll
   induction l with
   | nil => simp
   | cons v r ihl => rw [List.flatMap_cons, List.length_append, ihl, hcl, List.length_cons, Nat.succ_mul]; omega
  refine ⟨some a, l, cap, by rw [hc, hll], ⟨hfl, fun hn0 => ⟨a, rfl, ?_, fun j u hu' => ?_⟩⟩, by rw [hll]; exact hl, hm, by rw [hll]; exact hlb, fun x hx => ?_⟩
  ·have h1 := (hat 0 hn0).1 0 hsz
   rw [List.getElem?_eq_getElem (by rw [hcl]; exact hsz)] at h1
   have h4 := block_lt_of_cell h1
   rwa [block_of_add] at h4
  ·have hj : j < l.length * size := by
    rcases Nat.lt_or_ge j (l.length * size) with h7 | h7
    ·exact h7
    ·rw [List.getElem?_eq_none (by rw [hfl]; exact h7)] at hu'; cases hu'
   have hk : j / size < l.length := Nat.div_lt_of_lt_mul (by rw [Nat.mul_comm]; exact hj)
   have hgen : ∀ (l : List ME) (i : Nat) (hi : i < l.length) (k : Nat), k < size → (l.flatMap cs)[i * size + k]? = (cs l[i])[k]? := by
    intro l
    induction l with
    | nil => intro i hi; simp at hi
    | cons v r ihl =>
     intro i hi k hk
     rw [List.flatMap_cons]
     cases i with
     | zero => rw [Nat.zero_mul, Nat.zero_add, List.getElem?_append_left (by rw [hcl]; exact hk)]; rfl
     | succ i =>
      rw [List.getElem?_append_right (by rw [hcl, Nat.succ_mul]; omega), hcl, show (i + 1) * size + k - size = i * size + k from by rw [Nat.succ_mul]; omega, ihl i (by simpa using hi) k hk]
      rfl
   have hmod : j % size < size := Nat.mod_lt _ hsz
   have hdm : j / size * size + j % size = j := by rw [Nat.mul_comm]; exact Nat.div_add_mod j size
   have h1 := (hat (j / size) hk).1 (j % size) hmod
   have h2 := hgen l (j / size) hk (j % size) hmod
   rw [hdm] at h1 h2
   rw [h1, ← h2]
   exact hu'
  ·obtain ⟨i, hi, rfl⟩ := List.getElem_of_mem hx
   exact (hat i hi).2
def OkE (m : ME) : Prop := ((Lit.int .i64 m.ver).wf = true ∧ (Lit.int .i64 m.len).wf = true) ∧ (m.name.size ≤ 140737488351232 ∧ m.hash.size ≤ 140737488351232)
theorem cellsMeta : Tryz.prog.cellsOf 44 = 4 := by kernel_rfl
theorem bytesMeta : Tryz.prog.bytesOf 44 = 48 := by kernel_rfl
theorem cellsListing : Tryz.prog.cellsOf 24 = 3 := by kernel_rfl
set_option maxRecDepth 100000 in
theorem open_metaC (m' : Nat) (cs' : List Value) (y' : DataW H × List MemPlace) (ht' : DataW.trod enc Tryz.prog W 0 (fun _ => true) true m' 44 cs' = some y') (hz' : Szd 44 y'.1) : ∃ m : ME, cs' = m.cs ∧ OkE m := by
 obtain ⟨zs, m2, hn2, hzy, hlen2, hzl, hfld2⟩ := DataW.trod_struct Tryz.underlying44 ht'
 rw [cellsMeta] at hlen2
 match cs', hlen2, zs, hzl with
 | [p0, p1, p2, p3], _, [z0, z1, z2, z3], _ =>
  have g0 : DataW.trod enc Tryz.prog W 0 (fun _ => true) true m2 9 [p0] = some z0 := hfld2 0 _ rfl
  have g1 : DataW.trod enc Tryz.prog W 0 (fun _ => true) true m2 3 [p1] = some z1 := hfld2 1 _ rfl
  have g2 : DataW.trod enc Tryz.prog W 0 (fun _ => true) true m2 3 [p2] = some z2 := hfld2 2 _ rfl
  have g3 : DataW.trod enc Tryz.prog W 0 (fun _ => true) true m2 9 [p3] = some z3 := hfld2 3 _ rfl
  have hzp : Szd 44 (.agg [z0.1, z1.1, z2.1, z3.1]) := by rw [hzy] at hz'; exact hz'
  obtain ⟨nm, hnm, hnmy, _⟩ := DataW.trod_string Tryz.underlying9 g0
  obtain ⟨vr, hvr, _, hvw⟩ := DataW.trod_int Tryz.underlying3 g1
  obtain ⟨ln, hln, _, hlw⟩ := DataW.trod_int Tryz.underlying3 g2
  obtain ⟨hs, hhs, hhy, _⟩ := DataW.trod_string Tryz.underlying9 g3
  injection hnm with hnm
  injection hvr with hvr
  injection hln with hln
  injection hhs with hhs
  subst hnm hvr hln hhs
  have hks : nm.size ≤ 140737488351232 := by
   have h9 : Szd 9 z0.1 := hzp.field Tryz.underlying44 (j := 0) rfl rfl
   rw [hnmy] at h9
   exact str_szd h9
  have hhz : hs.size ≤ 140737488351232 := by
   have h9 : Szd 9 z3.1 := hzp.field Tryz.underlying44 (j := 3) rfl rfl
   rw [hhy] at h9
   exact str_szd h9
  exact ⟨⟨nm, vr, ln, hs⟩, rfl, ⟨hvw, hlw⟩, hks, hhz⟩
set_option maxRecDepth 100000 in
theorem open_listing {base : Nat} {v : Value} {d : DataW H} {p : List MemPlace} (hv : Value.okWide Tryz.prog W .any base 24 v) (h : DataW.Trod enc Tryz.prog W 0 (fun _ => true) true 24 v d p) (hz : Szd 24 d) : ∃ (n e : Int) (A : Option Addr) (k c : Nat) (l : List ME), v = .agg #[.int .i64 n, .int .i64 e, .slice A k c] ∧ MAt W A c l ∧ l.length = k := by
 obtain ⟨cs, rfl, hsz⟩ := okWide_struct Tryz.underlying24 hv
 obtain ⟨l⟩ := cs
 obtain ⟨fuel, hf⟩ := h
 obtain ⟨ys, m, hn, hy, hlen, hyl, hfld⟩ := DataW.trod_struct Tryz.underlying24 hf
 rw [cellsListing] at hlen
 have hf' : (Value.agg ⟨l⟩).cells.toList = l := rfl
 match l, hlen, ys, hyl with
 | [c0, c1, c2], _, [y0, y1, y2], _ =>
  have h0 : DataW.trod enc Tryz.prog W 0 (fun _ => true) true m 3 [c0] = some y0 := hfld 0 _ rfl
  have h1 : DataW.trod enc Tryz.prog W 0 (fun _ => true) true m 3 [c1] = some y1 := hfld 1 _ rfl
  have h2 : DataW.trod enc Tryz.prog W 0 (fun _ => true) true m 22 [c2] = some y2 := hfld 2 _ rfl
  have hze : Szd 24 (.agg [y0.1, y1.1, y2.1]) := by
   have h9 : d = .agg [y0.1, y1.1, y2.1] := congrArg Prod.fst hy
   rw [h9] at hz
   exact hz
  obtain ⟨n, hn', _, _⟩ := DataW.trod_int Tryz.underlying3 h0
  obtain ⟨e, he', _, _⟩ := DataW.trod_int Tryz.underlying3 h1
  injection hn' with hn'
  injection he' with he'
  subst hn' he'
  obtain ⟨A, l, lc, rfl, hr, hl1, hl2, hl3, hlq⟩ := rows_ofE (cs := ME.cs) (size := 4) (bytes := 48) (fun _ => rfl) (by omega) (by omega) Tryz.underlying22 cellsMeta bytesMeta h2 (hze.field Tryz.underlying24 (j := 2) rfl rfl) OkE (fun m' _ cs' y' ht' hz' => open_metaC m' cs' y' ht' hz')
  exact ⟨n, e, A, l.length, lc, l, rfl, ⟨hr, hl1, hl2, fun x hx => (hlq x hx).1, fun x hx => (hlq x hx).2⟩, rfl⟩
end
end Go.Proofs.YtefkpphahimkgaaGreatDoor
