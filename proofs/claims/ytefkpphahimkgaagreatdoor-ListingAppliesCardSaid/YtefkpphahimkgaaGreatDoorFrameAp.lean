/-
  Changes that came in.
-/
import Derived.Test.YtefkpphahimkgaaGreatDoorFrameLi
import Derived.Test.YtefkpphahimkgaaGreatDoorApP
set_option linter.unusedVariables false
set_option linter.unusedSimpArgs false
namespace Go.Proofs.YtefkpphahimkgaaGreatDoor
open Go.ChangeShapes Go.WideShapes Go.ChangeAt Go.RowKit Go.Deep

section
variable {H : Type} {enc : TypeId × Value → H} {W : World}
/-- a row of values, each of which came in -/
theorem rows_ofC {t e : TypeId} {size bytes : Nat} {cs : CE → List Value} (hcl : ∀ x, (cs x).length = size) (hsz : 0 < size) (hby : 0 < bytes) (hu : Tryz.prog.underlying t = some (.slice e)) (hC : Tryz.prog.cellsOf e = size) (hB : Tryz.prog.bytesOf e = bytes) {n : Nat} {c : Value} {y : DataW H × List MemPlace}
    (h : DataW.trod enc Tryz.prog W 0 (fun _ => true) true n t [c] = some y) (hz : Szd t y.1) (Q : CE → Prop) (ih : ∀ m, m < n → ∀ cs' y', DataW.trod enc Tryz.prog W 0 (fun _ => true) true m e cs' = some y' → Szd e y'.1 → ∃ v : CE, cs' = cs v ∧ Q v) :
    ∃ (A : Option Addr) (l : List CE) (cap : Nat), c = .slice A l.length cap ∧ Reads W W.heap.size size A l.length (l.flatMap cs) ∧ l.length ≤ cap ∧ cap ≤ maxLen ∧ l.length ≤ 140737488351232 ∧ ∀ x ∈ l, Q x := by
  rcases DataW.trod_slice hu h with ⟨hc, _⟩ | ⟨a, len, cap, elems, rest, m, hn, hc, hx, _, hl, hm, hlen, hel, _, _⟩
  · injection hc with hc
    exact ⟨none, [], 0, hc, Reads.none_, Nat.le_refl _, by simp [maxLen], by simp, fun x hx => by cases hx⟩
  · injection hc with hc
    have hz' : Szd t (.slice (elems.map (·.1)) (rest.map (·.1))) := by rw [hx] at hz; exact hz
    have hlb : len ≤ 140737488351232 := by
      have h1 := hz'.slice hu
      rw [hB, List.length_map, hlen] at h1
      simp only [reachBytes] at h1
      have h2 : len * 1 ≤ (len + (rest.map (·.1)).length) * bytes := Nat.mul_le_mul (by omega) hby
      omega
    obtain ⟨l, hll, hat⟩ := list_of (p := fun i (v : CE) => (∀ k, k < size → W.cell? (a.add (i * size + k)) = (cs v)[k]?) ∧ Q v) len (fun i hi => by
      have h1 := hel i hi
      rw [hC] at h1
      have hei : i < elems.length := by rw [hlen]; exact hi
      rw [List.getElem?_eq_getElem hei] at h1
      cases hcs : W.cells? 0 (a.add (i * size)) size with
      | none => rw [hcs] at h1; cases h1
      | some cs' =>
        rw [hcs] at h1
        obtain ⟨v, hv1, hv2⟩ := ih m (by omega) cs' elems[i] h1 (hz'.elem hu (j := i) (by simp [hei]))
        obtain ⟨_, _, hcat⟩ := World.cells?_some hcs
        refine ⟨v, fun k hk => ?_, hv2⟩
        have := hcat k hk
        rw [Go.Deep.add_add, hv1] at this
        exact this)
    have hfl : (l.flatMap cs).length = l.length * size := by
      clear hat hll
      induction l with
      | nil => simp
      | cons v r ihl => rw [List.flatMap_cons, List.length_append, ihl, hcl, List.length_cons, Nat.succ_mul]; omega
    refine ⟨some a, l, cap, by rw [hc, hll], ⟨hfl, fun hn0 => ⟨a, rfl, ?_, fun j u hu' => ?_⟩⟩, by rw [hll]; exact hl, hm, by rw [hll]; exact hlb, fun x hx => ?_⟩
    · have h1 := (hat 0 hn0).1 0 hsz
      rw [List.getElem?_eq_getElem (by rw [hcl]; exact hsz)] at h1
      have h4 := block_lt_of_cell h1
      rwa [block_of_add] at h4
    · have hj : j < l.length * size := by
        rcases Nat.lt_or_ge j (l.length * size) with h7 | h7
        · exact h7
        · rw [List.getElem?_eq_none (by rw [hfl]; exact h7)] at hu'; cases hu'
      have hk : j / size < l.length := Nat.div_lt_of_lt_mul (by rw [Nat.mul_comm]; exact hj)
      have hgen : ∀ (l : List CE) (i : Nat) (hi : i < l.length) (k : Nat), k < size → (l.flatMap cs)[i * size + k]? = (cs l[i])[k]? := by
        intro l
        induction l with
        | nil => intro i hi; simp at hi
        | cons v r ihl =>
          intro i hi k hk
          rw [List.flatMap_cons]
          cases i with
          | zero => rw [Nat.zero_mul, Nat.zero_add, List.getElem?_append_left (by rw [hcl]; exact hk)]; rfl
          | succ i =>
            rw [List.getElem?_append_right (by rw [hcl, Nat.succ_mul]; omega), hcl, show (i + 1) * size + k - size = i * size + k from by rw [Nat.succ_mul]; omega, ihl i (by simpa using hi) k hk]
            rfl
      have hmod : j % size < size := Nat.mod_lt _ hsz
      have hdm : j / size * size + j % size = j := by rw [Nat.mul_comm]; exact Nat.div_add_mod j size
      have h1 := (hat (j / size) hk).1 (j % size) hmod
      have h2 := hgen l (j / size) hk (j % size) hmod
      rw [hdm] at h1 h2
      rw [h1, ← h2]
      exact hu'
    · obtain ⟨i, hi, rfl⟩ := List.getElem_of_mem hx
      exact (hat i hi).2
/-- a change that came in -/
def OkC (m : CE) : Prop := ((Lit.int .i64 m.fr).wf = true ∧ (Lit.int .i64 m.to).wf = true) ∧ m.name.size ≤ 140737488351232
theorem cellsChange : Tryz.prog.cellsOf 94 = 3 := by kernel_rfl
theorem bytesChange : Tryz.prog.bytesOf 94 = 32 := by kernel_rfl
set_option maxRecDepth 100000 in
theorem open_changeC (m' : Nat) (cs' : List Value) (y' : DataW H × List MemPlace) (ht' : DataW.trod enc Tryz.prog W 0 (fun _ => true) true m' 94 cs' = some y') (hz' : Szd 94 y'.1) : ∃ m : CE, cs' = m.cs ∧ OkC m := by
  obtain ⟨zs, m2, hn2, hzy, hlen2, hzl, hfld2⟩ := DataW.trod_struct Tryz.underlying94 ht'
  rw [cellsChange] at hlen2
  match cs', hlen2, zs, hzl with
  | [p0, p1, p2], _, [z0, z1, z2], _ =>
    have g0 : DataW.trod enc Tryz.prog W 0 (fun _ => true) true m2 9 [p0] = some z0 := hfld2 0 _ rfl
    have g1 : DataW.trod enc Tryz.prog W 0 (fun _ => true) true m2 3 [p1] = some z1 := hfld2 1 _ rfl
    have g2 : DataW.trod enc Tryz.prog W 0 (fun _ => true) true m2 3 [p2] = some z2 := hfld2 2 _ rfl
    have hzp : Szd 94 (.agg [z0.1, z1.1, z2.1]) := by rw [hzy] at hz'; exact hz'
    obtain ⟨nm, hnm, hnmy, _⟩ := DataW.trod_string Tryz.underlying9 g0
    obtain ⟨vr, hvr, _, hvw⟩ := DataW.trod_int Tryz.underlying3 g1
    obtain ⟨ln, hln, _, hlw⟩ := DataW.trod_int Tryz.underlying3 g2
    injection hnm with hnm
    injection hvr with hvr
    injection hln with hln
    subst hnm hvr hln
    have hks : nm.size ≤ 140737488351232 := by
      have h9 : Szd 9 z0.1 := hzp.field Tryz.underlying94 (j := 0) rfl rfl
      rw [hnmy] at h9
      exact str_szd h9
    exact ⟨⟨nm, vr, ln⟩, rfl, ⟨hvw, hlw⟩, hks⟩
set_option maxRecDepth 100000 in
/-- Changes that came in. -/
theorem open_changes {a : Option Addr} {n c : Nat} {d : DataW H} {p : List MemPlace} (h : DataW.Trod enc Tryz.prog W 0 (fun _ => true) true 48 (.slice a n c) d p) (hz : Szd 48 d) : ∃ l : List CE, CAt W a c l ∧ l.length = n := by
  obtain ⟨fuel, hf⟩ := h
  obtain ⟨A, l, lc, he, hr, hl1, hl2, hl3, hlq⟩ := rows_ofC (cs := CE.cs) (size := 3) (bytes := 32) (fun _ => rfl) (by omega) (by omega) Tryz.underlying48 cellsChange bytesChange hf hz OkC (fun m' _ cs' y' ht' hz' => open_changeC m' cs' y' ht' hz')
  injection he with e1 e2 e3
  subst e1 e2 e3
  exact ⟨l, ⟨hr, fun x hx => (hlq x hx).1, fun x hx => (hlq x hx).2⟩, rfl⟩
end
end Go.Proofs.YtefkpphahimkgaaGreatDoor
