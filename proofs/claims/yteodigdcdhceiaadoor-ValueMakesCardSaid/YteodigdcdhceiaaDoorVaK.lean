/-
  value: the keys of a map (a map from texts to true), and what is plain.
-/
import Derived.Test.YteodigdcdhceiaaDoorVaP2
import Derived.Maps.Own
import Derived.Maps.Views
import Derived.ChangeKeys
namespace Go.Proofs.YteodigdcdhceiaaDoor
open Go.RowKit Go.WideMaps Go.Maps
attribute [local go_sem ↓] Go.wp_at_zero Go.wp_at_succ
set_option linter.unusedVariables false
set_option linter.unusedSimpArgs false

theorem keyedSt : Keyed Tryd.prog 9 := string_keyed Tryd.underlying9
theorem zeroBl (w : World) : (zeroValue 4).run Tryd.prog w = .ok (.bool false) w := by kernel_rfl
theorem keySt (s : ByteArray) (h : s.size ≤ maxLen) : keyOf Tryd.prog 9 (.string s) = some (.string s.data.toList) := by
  simp [keyOf, mapKey, Tryd.underlying9, h]
theorem strLit_inj {a b : ByteArray} (h : (Lit.string a.data.toList) = .string b.data.toList) : a = b := by
  injection h with h
  cases a; cases b
  congr 1
  exact Array.toList_inj.1 h
def inS (s : ByteArray) (S : List ByteArray) : Bool := S.any (fun y => decide (y = s))
/-- block M is a map that holds true at the texts of S, and at no other -/
def SeenS (w : World) (M : Nat) (S : List ByteArray) : Prop :=
  ∃ D : DataW Unit, w.ownsMap Tryd.prog 9 (plainElem Tryd.prog 4) M S.length D ∧ IsMap D ∧ ∀ s : ByteArray, s.size ≤ maxLen → D.atKey (.string s.data.toList) (.lit (.bool false)) = .lit (.bool (inS s S))
theorem SeenS.new (w : World) : SeenS (w.alloc (.map #[] 0)) w.heap.size [] :=
  ⟨_, World.ownsMap_made _ _ _ _, isMap_empty, fun s _ => rfl⟩
theorem SeenS.lt {w : World} {M : Nat} {S : List ByteArray} (h : SeenS w M S) : M < w.heap.size := by obtain ⟨D, h, _⟩ := h; exact h.lt
theorem SeenS.below {w w' : World} {M : Nat} {S : List ByteArray} (h : SeenS w M S) (hb : Below w.heap.size w w') : SeenS w' M S := by
  have hl := h.lt
  obtain ⟨D, ⟨es, clock, h1, h2⟩, h4, h5⟩ := h
  exact ⟨D, ⟨es, clock, (hb.block M hl).trans h1, h2⟩, h4, h5⟩
theorem SeenS.look {w : World} {M : Nat} {S : List ByteArray} (h : SeenS w M S) {s : ByteArray} (hs : s.size ≤ maxLen) :
    (Instr.lookup 93 (.map (some M)) (.string s) false).run Tryd.prog w = .ok (.bool (inS s S)) w := by
  obtain ⟨D, h3, _, h5⟩ := h
  obtain ⟨v, ps, hrun, hv⟩ := h3.lookup keyedSt Tryd.underlying93 (zeroBl w) (plainElem_bool (H := Unit) Tryd.underlying4 false) (keySt s hs)
  rw [h5 s hs] at hv
  unfold plainElem at hv
  rw [Tryd.underlying4] at hv
  cases v <;> simp at hv
  rw [hrun, hv.1]
theorem SeenS.put {w : World} {M : Nat} {S : List ByteArray} (h : SeenS w M S) {s : ByteArray} (hs : s.size ≤ maxLen) (hl : S.length < maxLen) :
    ∃ w', (Instr.mapUpdate 93 (.map (some M)) (.string s) (.bool true)).run Tryd.prog w = .ok () w' ∧ SeenS w' M (s :: S) ∧ w.grownBy w' (some M) := by
  obtain ⟨D, h3, h4, h5⟩ := h
  obtain ⟨w', hrun, hown, hg⟩ := h3.update keyedSt Tryd.underlying93 hl (keySt s hs) (plainElem_bool (H := Unit) Tryd.underlying4 true)
  refine ⟨w', hrun, ⟨_, hown, h4.put _ _, fun s' hs' => ?_⟩, hg⟩
  by_cases e : s' = s
  · subst e
    rw [atKey_put_same h4 (keyedSt.key (keySt s' hs'))]
    simp [inS]
  · rw [atKey_put_other (fun x => e (strLit_inj x)), h5 s' hs']
    have : decide (s = s') = false := decide_eq_false (fun h => e h.symm)
    simp [inS, this]
def KeP (r : Bool) (w : World) (e : Ending) (w' : World) : Prop := e = .returned (.bool r) ∧ Below w.heap.size w w'
theorem keysB_no (l : List ByteArray) (i : Nat) (h : keysB (l.take i) = false) : keysB l = false := by
  cases e : keysB l
  · rfl
  · rw [keysB_take l i e] at h; cases h
set_option maxRecDepth 100000 in
set_option maxHeartbeats 1000000 in
theorem keys_any {w0 : World} {key : ByteArray} {k n : Int} {s : ByteArray} {lA : Option Addr} {lc : Nat} {l : List MV} {m : List MV} {mA : Option Addr} {mc : Nat} (hv : VAt w0 (.mk key k n s lA lc l mA mc m)) (hz : ∀ x ∈ m, x.key.size ≤ 140737488351232) (nm : Nat) (hnm : nm = m.length) (hmn : nm ≤ 3001) (w : World) (hb : Below w0.heap.size w0 w) (ht : tabU w) :
    Calls Tryd.prog 68 #[.slice mA nm mc] w fun e w' => PF (KeP (keysB (m.map MV.key)) w) e w' := by
  have HV := Lib.hid (hv.bel hb)
  have HNL := Lib.hid hnm
  have HZ := Lib.hid hz
  have HT := Lib.hid ht
  obtain ⟨W2, hW2⟩ : ∃ W2, W2 = w.alloc (.map #[] 0) := ⟨_, rfl⟩
  have HB2 : Hid (Below w.heap.size w W2) := Lib.hid (by rw [hW2]; exact below_new _ _)
  have HS0 : Hid (SeenS W2 w.heap.size []) := Lib.hid (by rw [hW2]; exact SeenS.new w)
  have HSZ : Hid (w.heap.size < W2.heap.size) := Lib.hid HS0.out.lt
  clear hv hb hnm hz ht
  have hmm := @run_makeMap Tryd.prog
  go_enter Tryd.func68, Tryd.ntmps68
  go_wp2
  rw [← hW2]
  clear hW2
  go_loopw [5, 9] (fun y z wr => ∃ (i : Nat) (z0 : Value), y = z0 ∧ z = .int .i64 (i : Int) ∧ i ≤ nm ∧ Hid (keysB ((m.take i).map MV.key) = true) ∧ Hid (SeenS wr w.heap.size ((m.take i).map MV.key).reverse) ∧ Hid (Below w.heap.size w wr)) (fun _ z _ => nm - (intOf z).toNat)
  case atStart => exact ⟨0, _, rfl, rfl, Nat.zero_le _, Lib.hid rfl, HS0, HB2⟩
  case round =>
    obtain ⟨i, z0, rfl, rfl, hi, HR, HS, HW⟩ := hrel
    rcases (by omega : i < nm ∨ i = nm) with hlt | heq
    · have q0 : decide ((i : Int) < (nm : Int)) = true := by rw [decide_eq_true_iff]; omega
      have q0' : decide (i < nm) = true := by rw [decide_eq_true_iff]; omega
      have hil : i < m.length := by rw [← HNL.out]; exact hlt
      obtain ⟨b, o, hA, hbl, hc⟩ := (HV.out.bel HW.out).ma (i := i) hil
      change mA = _ at hA
      change ∀ j, j < 6 → wr.cell? _ = (m[i]'hil).pcs[j]? at hc
      obtain ⟨x, hx⟩ : ∃ x, x = m[i]'hil := ⟨_, rfl⟩
      rw [← hx] at hc
      have d0 : wr.cell? ⟨b, o + i * 6, none⟩ = some (.string x.key) := hc 0 (by omega)
      have d1 : wr.cell? ⟨b, o + i * 6 + 1, none⟩ = some (.int .i64 x.k) := hc 1 (by omega)
      have d2 : wr.cell? ⟨b, o + i * 6 + 2, none⟩ = some (.int .i64 x.n) := hc 2 (by omega)
      have d3 : wr.cell? ⟨b, o + i * 6 + 3, none⟩ = some (.string x.s) := hc 3 (by omega)
      have d4 : wr.cell? ⟨b, o + i * 6 + 4, none⟩ = some (.slice x.lA x.l.length x.lc) := hc 4 (by omega)
      have d5 : wr.cell? ⟨b, o + i * 6 + 5, none⟩ = some (.slice x.mA x.m.length x.mc) := hc 5 (by omega)
      have hxm : x ∈ m := by rw [hx]; exact List.getElem_mem hil
      have hxs : x.key.size ≤ maxLen := by have := HZ.out x hxm; simp only [maxLen]; omega
      have HXS := Lib.hid hxs
      obtain ⟨K1, hK1⟩ : ∃ K, K = wr.alloc (.cells #[.string x.key, .int .i64 x.k, .int .i64 x.n, .string x.s, .slice x.lA x.l.length x.lc, .slice x.mA x.m.length x.mc] 33) := ⟨_, rfl⟩
      have hb1 : Below wr.heap.size wr K1 := by rw [hK1]; exact below_new _ _
      have HS1 := Lib.hid (HS.out.below hb1)
      have hlook := HS1.out.look hxs
      have HW1 : Hid (Below w.heap.size w K1) := Lib.hid (HW.out.trans (hb1.mono HW.out.size))
      have HBK : Hid (Blk K1 wr.heap.size 33 #[.string x.key, .int .i64 x.k, .int .i64 x.n, .string x.s, .slice x.lA x.l.length x.lc, .slice x.mA x.m.length x.mc]) := Lib.hid (by rw [hK1]; exact Blk.new _ _ _)
      have HNE : Hid (¬ wr.heap.size = w.heap.size) := Lib.hid (by have := HS.out.lt; omega)
      have hnx : keysB ((m.take (i + 1)).map MV.key) = (Lib.validD x.key.data.toList && !inS x.key ((m.take i).map MV.key)) := by
        rw [List.take_succ_eq_append_getElem hil, List.map_append, List.map_singleton, keysB_snoc, HR.out, ← hx, Bool.true_and]; rfl
      have hrv : inS x.key ((m.take i).map MV.key).reverse = inS x.key ((m.take i).map MV.key) := by unfold inS; rw [List.any_reverse]
      rw [hrv] at hlook
      obtain ⟨sn, hsn⟩ : ∃ sn, sn = inS x.key ((m.take i).map MV.key) := ⟨_, rfl⟩
      rw [← hsn] at hlook hnx
      have HVA := Lib.hid (valid_any x.key K1 (HT.out.below HW1.out) (by have := hxs; simp only [maxLen] at this; omega))
      obtain ⟨rv, hrvd⟩ : ∃ r, r = Lib.validD x.key.data.toList := ⟨_, rfl⟩
      rw [← hrvd] at HVA hnx
      have HN := Lib.hid hnx
      have HTK : Hid (((m.take (i + 1)).map MV.key).reverse = x.key :: ((m.take i).map MV.key).reverse) := Lib.hid (by
        rw [List.take_succ_eq_append_getElem hil, ← hx, List.map_append, List.reverse_append]; rfl)
      have HLN : Hid (((m.take i).map MV.key).reverse.length < maxLen) := Lib.hid (by rw [List.length_reverse, List.length_map, List.length_take]; simp only [maxLen]; omega)
      have hii : (i : Int) < (nm : Int) := by omega
      have hi0 : (0 : Int) ≤ (i : Int) := by omega
      subst hA
      clear hc hx hbl hxm hxs hb1 hrv hsn hrvd hnx HR HS HV
      rw [hK1] at hlook
      cases sn with
      | true =>
        go_wp2
        go_ret
        rw [← hK1]
        exact ⟨by rw [keysB_no (m.map MV.key) (i + 1) (by rw [← List.map_take, HN.out]; simp)]; rfl, HW1.out⟩
      | false =>
        rw [hK1] at HVA
        go_wp2_with fail
        refine HVA.out.mono ?_
        rw [← hK1]
        rintro e w2 ⟨rfl, hb2⟩
        have HS2 := Lib.hid (HS1.out.below hb2)
        have HW2 : Hid (Below w.heap.size w w2) := Lib.hid (HW1.out.trans (hb2.mono HW1.out.size))
        have HBK2 := Lib.hid (HBK.out.below hb2 HBK.out.lt)
        clear hlook d0 d1 d2 d3 d4 d5
        cases rv with
        | false =>
          go_wp2
          go_ret
          exact ⟨by rw [keysB_no (m.map MV.key) (i + 1) (by rw [← List.map_take, HN.out]; simp)]; rfl, HW2.out⟩
        | true =>
          obtain ⟨w3, hput, hs3, hg3⟩ := HS2.out.put HXS.out HLN.out
          have HS3 : Hid (SeenS w3 w.heap.size ((m.take (i + 1)).map MV.key).reverse) := Lib.hid (by rw [HTK.out]; exact hs3)
          have HW3 : Hid (Below w.heap.size w w3) := Lib.hid (HW2.out.grown hg3 HW2.out.size (by intro j hj; cases hj; exact Nat.le_refl _))
          have c0 := HBK2.out.cell 0
          simp only [List.getElem?_toArray, List.getElem?_cons_zero] at c0
          clear hs3 hg3
          go_wp2
          go_roundw
          case rel => exact ⟨i + 1, _, rfl, by go_num, by omega, Lib.hid HN.out, HS3, HW3⟩
          case measure => simp [intOf]; omega
    · have q0 : decide ((i : Int) < (nm : Int)) = false := by rw [decide_eq_false_iff_not]; omega
      have q0' : decide (i < nm) = false := by rw [decide_eq_false_iff_not]; omega
      have HE : Hid (keysB (m.map MV.key) = true) := Lib.hid (by have := HR.out; rwa [heq, HNL.out, List.take_length] at this)
      clear heq
      go_wp2
      go_ret
      exact ⟨by rw [HE.out]; rfl, HW.out⟩
end Go.Proofs.YteodigdcdhceiaaDoor
