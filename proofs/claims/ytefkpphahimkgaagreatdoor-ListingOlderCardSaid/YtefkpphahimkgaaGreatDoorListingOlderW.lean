/-
  The law ListingOlder: what it says in plain Lean, its walk.
-/
import Derived.Test.YtefkpphahimkgaaGreatDoorLiL2
import Derived.Test.YtefkpphahimkgaaGreatDoorLiW5
namespace Go.Proofs.YtefkpphahimkgaaGreatDoor
open Go.RowKit
attribute [local go_sem ↓] Go.wp_at_zero Go.wp_at_succ
set_option linter.unusedVariables false
set_option linter.unusedSimpArgs false

theorem older_nil_iff {a b : List ME} : olderL a b = [] ↔ ∀ x ∈ a, ∃ y, findL b x.name = some y ∧ x.ver ≤ y.ver := by
  unfold olderL
  rw [List.map_eq_nil_iff, List.filter_eq_nil_iff]
  constructor
  · intro h x hx
    have h1 := h x hx
    unfold oldB at h1
    cases hf : findL b x.name with
    | none => rw [hf] at h1; exact absurd rfl h1
    | some y => rw [hf] at h1; exact ⟨y, rfl, by simpa using h1⟩
  · intro h x hx
    obtain ⟨y, hf, hy⟩ := h x hx
    unfold oldB
    rw [hf]
    simpa using hy
theorem find_name {b : List ME} {n : ByteArray} {y : ME} (h : findL b n = some y) : y ∈ b ∧ y.name = n := by
  unfold findL at h
  exact ⟨List.mem_of_find?_eq_some h, by have := List.find?_some h; simpa using this⟩
theorem older_trans {a b c : List ME} (h1 : olderL a b = []) (h2 : olderL b c = []) : olderL a c = [] := by
  rw [older_nil_iff] at h1 h2 ⊢
  intro x hx
  obtain ⟨y, hf, hy⟩ := h1 x hx
  obtain ⟨hm, hn⟩ := find_name hf
  obtain ⟨z, hz, hle⟩ := h2 y hm
  exact ⟨z, by rw [← hn]; exact hz, Int.le_trans hy hle⟩
theorem older_self {a : List ME} (h : allB a = true) : olderL a a = [] := by
  rw [older_nil_iff]
  intro x hx
  cases hf : findL a x.name with
  | none =>
    unfold findL at hf
    rw [List.find?_eq_none] at hf
    exact absurd (by simp) (hf x hx)
  | some y =>
    obtain ⟨hm, hn⟩ := find_name hf
    obtain ⟨i, hi, rfl⟩ := List.getElem_of_mem hx
    obtain ⟨j, hj, rfl⟩ := List.getElem_of_mem hm
    obtain rfl : j = i := allB_inj h hj hi hn
    exact ⟨_, rfl, Int.le_refl _⟩
theorem or_form {w : World} {base : Nat} {v : Value} {xs : List Value} (h : OR 9 w base v xs) : ∃ A c, v = .slice A xs.length c := by
  have hh : w.ownsRow base 9 1 v xs.length xs := h
  rcases hh.2 with ⟨hv, h0⟩ | ⟨g, cap, cur, hv, hg, hb, hn⟩
  · rw [h0]; exact ⟨_, _, hv⟩
  · exact ⟨_, _, hv⟩
theorem older_at {w : World} (v1 e1 v2 e2 : Int) {A A2 : Option Addr} {c c2 n n2 : Nat} {l l2 : List ME} (hn : l.length = n) (hn2 : l2.length = n2) (h : MAt w A c l) (h2 : MAt w A2 c2 l2) (hl : n ≤ 1000) (k : Nat) (hk : (olderL l l2).length = k) :
    Calls Tryz.prog 18 #[.agg #[.int .i64 v1, .int .i64 e1, .slice A n c], .agg #[.int .i64 v2, .int .i64 e2, .slice A2 n2 c2]] w fun e w' => ∃ B d, e = .returned (.slice B k d) ∧ Below w.heap.size w w' := by
  subst hn hn2
  refine (older_any v1 e1 v2 e2 h h2 hl).mono fun e w' ⟨v, he, ho, hb⟩ => ?_
  obtain ⟨B, d, rfl⟩ := or_form ho
  rw [List.length_map, hk] at he
  exact ⟨B, d, he, hb⟩
set_option maxRecDepth 100000 in
set_option maxHeartbeats 16000000 in
theorem listingOlder_walk (va ea : Int) (Aa : Option Addr) (na ca : Nat) (la : List ME) (vb eb : Int) (Ab : Option Addr) (nb cb : Nat) (lb : List ME) (vc ec : Int) (Ac : Option Addr) (nc cc : Nat) (lc : List ME) (w : World) (ht : tabL w)
    (ha : MAt w Aa ca la) (hna : la.length = na) (hb : MAt w Ab cb lb) (hnb : lb.length = nb) (hc : MAt w Ac cc lc) (hnc : lc.length = nc) :
    Calls Tryz.prog 4 #[.agg #[.int .i64 va, .int .i64 ea, .slice Aa na ca], .agg #[.int .i64 vb, .int .i64 eb, .slice Ab nb cb], .agg #[.int .i64 vc, .int .i64 ec, .slice Ac nc cc]] w fun e w' => e = .returned (.bool true) ∧ Below w.heap.size w w' := by
  obtain ⟨W3, hW3⟩ : ∃ W3, W3 = ((w.alloc (.cells #[.int .i64 va, .int .i64 ea, .slice Aa na ca] 24)).alloc (.cells #[.int .i64 vb, .int .i64 eb, .slice Ab nb cb] 24)).alloc (.cells #[.int .i64 vc, .int .i64 ec, .slice Ac nc cc] 24) := ⟨_, rfl⟩
  obtain ⟨hb3, hk1, hk2, hk3, hs3⟩ := new3_ w _ _ _ _ _ _ W3 hW3
  have HCE : Hid (∀ V, Below W3.heap.size W3 V → (V.cell? ⟨w.heap.size, 0, none⟩ = some (.int .i64 va) ∧ V.cell? ⟨w.heap.size, 1, none⟩ = some (.int .i64 ea) ∧ V.cell? ⟨w.heap.size, 2, none⟩ = some (.slice Aa na ca)) ∧ (V.cell? ⟨w.heap.size + 1, 0, none⟩ = some (.int .i64 vb) ∧ V.cell? ⟨w.heap.size + 1, 1, none⟩ = some (.int .i64 eb) ∧ V.cell? ⟨w.heap.size + 1, 2, none⟩ = some (.slice Ab nb cb)) ∧ (V.cell? ⟨w.heap.size + 2, 0, none⟩ = some (.int .i64 vc) ∧ V.cell? ⟨w.heap.size + 2, 1, none⟩ = some (.int .i64 ec) ∧ V.cell? ⟨w.heap.size + 2, 2, none⟩ = some (.slice Ac nc cc))) := Lib.hid (fun V hV => ⟨three_cells (hk1.below hV hk1.lt), three_cells (hk2.below hV hk2.lt), three_cells (hk3.below hV hk3.lt)⟩)
  have HTA := Lib.hid (fun V hV => (ht.below hb3).below (w' := V) hV)
  have HMa := Lib.hid (fun V hV => (ha.bel hb3).bel (w' := V) hV)
  have HMb := Lib.hid (fun V hV => (hb.bel hb3).bel (w' := V) hV)
  have HMc := Lib.hid (fun V hV => (hc.bel hb3).bel (w' := V) hV)
  have HW3 := Lib.hid hW3
  have HB3 := Lib.hid hb3
  have HB := Lib.hid (Below.refl W3.heap.size W3)
  have HNa := Lib.hid hna
  have HNb := Lib.hid hnb
  have HNc := Lib.hid hnc
  obtain ⟨⟨h0, h1, h2⟩, ⟨h3, h4, h5⟩, ⟨h6, h7, h8⟩⟩ := HCE.out W3 HB.out
  clear ht ha hb hc hna hnb hnc hk1 hk2 hk3 hs3 hb3 hW3
  rcases Nat.lt_or_ge 200 na with hla | hla
  · have HaL : Hid (decide (200 < na) = true) := Lib.hid (decide_eq_true hla)
    clear hla
    go_enter Tryz.func4, Tryz.ntmps4
    go_upto_region 1 with (fail)
    rw [← HW3.out]
    go_wp2_with fail
    have hc9 := rLarge15_any va ea (HMa.out _ HB.out)
    rw [HNa.out, HaL.out] at hc9
    refine hc9.mono ?_
    clear hc9
    rintro e y1 ⟨rfl, hby⟩
    have HB := Lib.hid (HB.out.trans (hby.mono HB.out.size))
    clear hby h0 h1 h2 h3 h4 h5 h6 h7 h8
    obtain ⟨⟨h0, h1, h2⟩, ⟨h3, h4, h5⟩, ⟨h6, h7, h8⟩⟩ := HCE.out y1 HB.out
    go_wp2_with fail
    have hc9 := llives_any _ (HTA.out _ HB.out)
    refine hc9.mono ?_
    clear hc9
    rintro e y2 ⟨rfl, hby⟩
    have HB := Lib.hid (HB.out.trans (hby.mono HB.out.size))
    clear hby h0 h1 h2 h3 h4 h5 h6 h7 h8
    obtain ⟨⟨h0, h1, h2⟩, ⟨h3, h4, h5⟩, ⟨h6, h7, h8⟩⟩ := HCE.out y2 HB.out
    go_wp2
    refine bodyPost_ret (v := .bool true) (by simp [results, Tryz.results4, go_sem]) rfl ?_
    exact ⟨rfl, HB3.out.trans (HB.out.mono HB3.out.size)⟩
  · have HaL : Hid (decide (200 < na) = false) := Lib.hid (decide_eq_false (Nat.not_lt.2 hla))
    rcases Nat.lt_or_ge 200 nb with hlb | hlb
    · have HbL : Hid (decide (200 < nb) = true) := Lib.hid (decide_eq_true hlb)
      clear hlb
      go_enter Tryz.func4, Tryz.ntmps4
      go_upto_region 1 with (fail)
      rw [← HW3.out]
      go_wp2_with fail
      have hc9 := rLarge15_any va ea (HMa.out _ HB.out)
      rw [HNa.out, HaL.out] at hc9
      refine hc9.mono ?_
      clear hc9
      rintro e y3 ⟨rfl, hby⟩
      have HB := Lib.hid (HB.out.trans (hby.mono HB.out.size))
      clear hby h0 h1 h2 h3 h4 h5 h6 h7 h8
      obtain ⟨⟨h0, h1, h2⟩, ⟨h3, h4, h5⟩, ⟨h6, h7, h8⟩⟩ := HCE.out y3 HB.out
      go_wp2_with fail
      have hc9 := rLarge15_any vb eb (HMb.out _ HB.out)
      rw [HNb.out, HbL.out] at hc9
      refine hc9.mono ?_
      clear hc9
      rintro e y4 ⟨rfl, hby⟩
      have HB := Lib.hid (HB.out.trans (hby.mono HB.out.size))
      clear hby h0 h1 h2 h3 h4 h5 h6 h7 h8
      obtain ⟨⟨h0, h1, h2⟩, ⟨h3, h4, h5⟩, ⟨h6, h7, h8⟩⟩ := HCE.out y4 HB.out
      go_wp2_with fail
      have hc9 := llives_any _ (HTA.out _ HB.out)
      refine hc9.mono ?_
      clear hc9
      rintro e y5 ⟨rfl, hby⟩
      have HB := Lib.hid (HB.out.trans (hby.mono HB.out.size))
      clear hby h0 h1 h2 h3 h4 h5 h6 h7 h8
      obtain ⟨⟨h0, h1, h2⟩, ⟨h3, h4, h5⟩, ⟨h6, h7, h8⟩⟩ := HCE.out y5 HB.out
      go_wp2
      refine bodyPost_ret (v := .bool true) (by simp [results, Tryz.results4, go_sem]) rfl ?_
      exact ⟨rfl, HB3.out.trans (HB.out.mono HB3.out.size)⟩
    · have HbL : Hid (decide (200 < nb) = false) := Lib.hid (decide_eq_false (Nat.not_lt.2 hlb))
      rcases Nat.lt_or_ge 200 nc with hlc | hlc
      · have HcL : Hid (decide (200 < nc) = true) := Lib.hid (decide_eq_true hlc)
        clear hlc
        go_enter Tryz.func4, Tryz.ntmps4
        go_upto_region 1 with (fail)
        rw [← HW3.out]
        go_wp2_with fail
        have hc9 := rLarge15_any va ea (HMa.out _ HB.out)
        rw [HNa.out, HaL.out] at hc9
        refine hc9.mono ?_
        clear hc9
        rintro e y6 ⟨rfl, hby⟩
        have HB := Lib.hid (HB.out.trans (hby.mono HB.out.size))
        clear hby h0 h1 h2 h3 h4 h5 h6 h7 h8
        obtain ⟨⟨h0, h1, h2⟩, ⟨h3, h4, h5⟩, ⟨h6, h7, h8⟩⟩ := HCE.out y6 HB.out
        go_wp2_with fail
        have hc9 := rLarge15_any vb eb (HMb.out _ HB.out)
        rw [HNb.out, HbL.out] at hc9
        refine hc9.mono ?_
        clear hc9
        rintro e y7 ⟨rfl, hby⟩
        have HB := Lib.hid (HB.out.trans (hby.mono HB.out.size))
        clear hby h0 h1 h2 h3 h4 h5 h6 h7 h8
        obtain ⟨⟨h0, h1, h2⟩, ⟨h3, h4, h5⟩, ⟨h6, h7, h8⟩⟩ := HCE.out y7 HB.out
        go_wp2_with fail
        have hc9 := rLarge15_any vc ec (HMc.out _ HB.out)
        rw [HNc.out, HcL.out] at hc9
        refine hc9.mono ?_
        clear hc9
        rintro e y8 ⟨rfl, hby⟩
        have HB := Lib.hid (HB.out.trans (hby.mono HB.out.size))
        clear hby h0 h1 h2 h3 h4 h5 h6 h7 h8
        obtain ⟨⟨h0, h1, h2⟩, ⟨h3, h4, h5⟩, ⟨h6, h7, h8⟩⟩ := HCE.out y8 HB.out
        go_wp2_with fail
        have hc9 := llives_any _ (HTA.out _ HB.out)
        refine hc9.mono ?_
        clear hc9
        rintro e y9 ⟨rfl, hby⟩
        have HB := Lib.hid (HB.out.trans (hby.mono HB.out.size))
        clear hby h0 h1 h2 h3 h4 h5 h6 h7 h8
        obtain ⟨⟨h0, h1, h2⟩, ⟨h3, h4, h5⟩, ⟨h6, h7, h8⟩⟩ := HCE.out y9 HB.out
        go_wp2
        refine bodyPost_ret (v := .bool true) (by simp [results, Tryz.results4, go_sem]) rfl ?_
        exact ⟨rfl, HB3.out.trans (HB.out.mono HB3.out.size)⟩
      · have HcL : Hid (decide (200 < nc) = false) := Lib.hid (decide_eq_false (Nat.not_lt.2 hlc))
        cases hma : mayL ssN va ea la with
        | false =>
          have HaM := Lib.hid hma
          clear hma
          go_enter Tryz.func4, Tryz.ntmps4
          go_upto_region 1 with (fail)
          rw [← HW3.out]
          go_wp2_with fail
          have hc9 := rLarge15_any va ea (HMa.out _ HB.out)
          rw [HNa.out, HaL.out] at hc9
          refine hc9.mono ?_
          clear hc9
          rintro e y10 ⟨rfl, hby⟩
          have HB := Lib.hid (HB.out.trans (hby.mono HB.out.size))
          clear hby h0 h1 h2 h3 h4 h5 h6 h7 h8
          obtain ⟨⟨h0, h1, h2⟩, ⟨h3, h4, h5⟩, ⟨h6, h7, h8⟩⟩ := HCE.out y10 HB.out
          go_wp2_with fail
          have hc9 := rLarge15_any vb eb (HMb.out _ HB.out)
          rw [HNb.out, HbL.out] at hc9
          refine hc9.mono ?_
          clear hc9
          rintro e y11 ⟨rfl, hby⟩
          have HB := Lib.hid (HB.out.trans (hby.mono HB.out.size))
          clear hby h0 h1 h2 h3 h4 h5 h6 h7 h8
          obtain ⟨⟨h0, h1, h2⟩, ⟨h3, h4, h5⟩, ⟨h6, h7, h8⟩⟩ := HCE.out y11 HB.out
          go_wp2_with fail
          have hc9 := rLarge15_any vc ec (HMc.out _ HB.out)
          rw [HNc.out, HcL.out] at hc9
          refine hc9.mono ?_
          clear hc9
          rintro e y12 ⟨rfl, hby⟩
          have HB := Lib.hid (HB.out.trans (hby.mono HB.out.size))
          clear hby h0 h1 h2 h3 h4 h5 h6 h7 h8
          obtain ⟨⟨h0, h1, h2⟩, ⟨h3, h4, h5⟩, ⟨h6, h7, h8⟩⟩ := HCE.out y12 HB.out
          go_wp2_with fail
          have hc9 := rmay15_any ssN va ea (HMa.out _ HB.out)
          rw [HNa.out, HaM.out] at hc9
          unfold ssN at hc9
          refine hc9.mono ?_
          clear hc9
          rintro e y13 ⟨rfl, hby⟩
          have HB := Lib.hid (HB.out.trans (hby.mono HB.out.size))
          clear hby h0 h1 h2 h3 h4 h5 h6 h7 h8
          obtain ⟨⟨h0, h1, h2⟩, ⟨h3, h4, h5⟩, ⟨h6, h7, h8⟩⟩ := HCE.out y13 HB.out
          go_wp2_with fail
          have hc9 := llives_any _ (HTA.out _ HB.out)
          refine hc9.mono ?_
          clear hc9
          rintro e y14 ⟨rfl, hby⟩
          have HB := Lib.hid (HB.out.trans (hby.mono HB.out.size))
          clear hby h0 h1 h2 h3 h4 h5 h6 h7 h8
          obtain ⟨⟨h0, h1, h2⟩, ⟨h3, h4, h5⟩, ⟨h6, h7, h8⟩⟩ := HCE.out y14 HB.out
          go_wp2
          refine bodyPost_ret (v := .bool true) (by simp [results, Tryz.results4, go_sem]) rfl ?_
          exact ⟨rfl, HB3.out.trans (HB.out.mono HB3.out.size)⟩
        | true =>
          have HaM := Lib.hid hma
          clear hma
          cases hmb : mayL ssN vb eb lb with
          | false =>
            have HbM := Lib.hid hmb
            clear hmb
            go_enter Tryz.func4, Tryz.ntmps4
            go_upto_region 1 with (fail)
            rw [← HW3.out]
            go_wp2_with fail
            have hc9 := rLarge15_any va ea (HMa.out _ HB.out)
            rw [HNa.out, HaL.out] at hc9
            refine hc9.mono ?_
            clear hc9
            rintro e y15 ⟨rfl, hby⟩
            have HB := Lib.hid (HB.out.trans (hby.mono HB.out.size))
            clear hby h0 h1 h2 h3 h4 h5 h6 h7 h8
            obtain ⟨⟨h0, h1, h2⟩, ⟨h3, h4, h5⟩, ⟨h6, h7, h8⟩⟩ := HCE.out y15 HB.out
            go_wp2_with fail
            have hc9 := rLarge15_any vb eb (HMb.out _ HB.out)
            rw [HNb.out, HbL.out] at hc9
            refine hc9.mono ?_
            clear hc9
            rintro e y16 ⟨rfl, hby⟩
            have HB := Lib.hid (HB.out.trans (hby.mono HB.out.size))
            clear hby h0 h1 h2 h3 h4 h5 h6 h7 h8
            obtain ⟨⟨h0, h1, h2⟩, ⟨h3, h4, h5⟩, ⟨h6, h7, h8⟩⟩ := HCE.out y16 HB.out
            go_wp2_with fail
            have hc9 := rLarge15_any vc ec (HMc.out _ HB.out)
            rw [HNc.out, HcL.out] at hc9
            refine hc9.mono ?_
            clear hc9
            rintro e y17 ⟨rfl, hby⟩
            have HB := Lib.hid (HB.out.trans (hby.mono HB.out.size))
            clear hby h0 h1 h2 h3 h4 h5 h6 h7 h8
            obtain ⟨⟨h0, h1, h2⟩, ⟨h3, h4, h5⟩, ⟨h6, h7, h8⟩⟩ := HCE.out y17 HB.out
            go_wp2_with fail
            have hc9 := rmay15_any ssN va ea (HMa.out _ HB.out)
            rw [HNa.out, HaM.out] at hc9
            unfold ssN at hc9
            refine hc9.mono ?_
            clear hc9
            rintro e y18 ⟨rfl, hby⟩
            have HB := Lib.hid (HB.out.trans (hby.mono HB.out.size))
            clear hby h0 h1 h2 h3 h4 h5 h6 h7 h8
            obtain ⟨⟨h0, h1, h2⟩, ⟨h3, h4, h5⟩, ⟨h6, h7, h8⟩⟩ := HCE.out y18 HB.out
            go_wp2_with fail
            have hc9 := rmay15_any ssN vb eb (HMb.out _ HB.out)
            rw [HNb.out, HbM.out] at hc9
            unfold ssN at hc9
            refine hc9.mono ?_
            clear hc9
            rintro e y19 ⟨rfl, hby⟩
            have HB := Lib.hid (HB.out.trans (hby.mono HB.out.size))
            clear hby h0 h1 h2 h3 h4 h5 h6 h7 h8
            obtain ⟨⟨h0, h1, h2⟩, ⟨h3, h4, h5⟩, ⟨h6, h7, h8⟩⟩ := HCE.out y19 HB.out
            go_wp2_with fail
            have hc9 := llives_any _ (HTA.out _ HB.out)
            refine hc9.mono ?_
            clear hc9
            rintro e y20 ⟨rfl, hby⟩
            have HB := Lib.hid (HB.out.trans (hby.mono HB.out.size))
            clear hby h0 h1 h2 h3 h4 h5 h6 h7 h8
            obtain ⟨⟨h0, h1, h2⟩, ⟨h3, h4, h5⟩, ⟨h6, h7, h8⟩⟩ := HCE.out y20 HB.out
            go_wp2
            refine bodyPost_ret (v := .bool true) (by simp [results, Tryz.results4, go_sem]) rfl ?_
            exact ⟨rfl, HB3.out.trans (HB.out.mono HB3.out.size)⟩
          | true =>
            have HbM := Lib.hid hmb
            clear hmb
            cases hmc : mayL ssN vc ec lc with
            | false =>
              have HcM := Lib.hid hmc
              clear hmc
              go_enter Tryz.func4, Tryz.ntmps4
              go_upto_region 1 with (fail)
              rw [← HW3.out]
              go_wp2_with fail
              have hc9 := rLarge15_any va ea (HMa.out _ HB.out)
              rw [HNa.out, HaL.out] at hc9
              refine hc9.mono ?_
              clear hc9
              rintro e y21 ⟨rfl, hby⟩
              have HB := Lib.hid (HB.out.trans (hby.mono HB.out.size))
              clear hby h0 h1 h2 h3 h4 h5 h6 h7 h8
              obtain ⟨⟨h0, h1, h2⟩, ⟨h3, h4, h5⟩, ⟨h6, h7, h8⟩⟩ := HCE.out y21 HB.out
              go_wp2_with fail
              have hc9 := rLarge15_any vb eb (HMb.out _ HB.out)
              rw [HNb.out, HbL.out] at hc9
              refine hc9.mono ?_
              clear hc9
              rintro e y22 ⟨rfl, hby⟩
              have HB := Lib.hid (HB.out.trans (hby.mono HB.out.size))
              clear hby h0 h1 h2 h3 h4 h5 h6 h7 h8
              obtain ⟨⟨h0, h1, h2⟩, ⟨h3, h4, h5⟩, ⟨h6, h7, h8⟩⟩ := HCE.out y22 HB.out
              go_wp2_with fail
              have hc9 := rLarge15_any vc ec (HMc.out _ HB.out)
              rw [HNc.out, HcL.out] at hc9
              refine hc9.mono ?_
              clear hc9
              rintro e y23 ⟨rfl, hby⟩
              have HB := Lib.hid (HB.out.trans (hby.mono HB.out.size))
              clear hby h0 h1 h2 h3 h4 h5 h6 h7 h8
              obtain ⟨⟨h0, h1, h2⟩, ⟨h3, h4, h5⟩, ⟨h6, h7, h8⟩⟩ := HCE.out y23 HB.out
              go_wp2_with fail
              have hc9 := rmay15_any ssN va ea (HMa.out _ HB.out)
              rw [HNa.out, HaM.out] at hc9
              unfold ssN at hc9
              refine hc9.mono ?_
              clear hc9
              rintro e y24 ⟨rfl, hby⟩
              have HB := Lib.hid (HB.out.trans (hby.mono HB.out.size))
              clear hby h0 h1 h2 h3 h4 h5 h6 h7 h8
              obtain ⟨⟨h0, h1, h2⟩, ⟨h3, h4, h5⟩, ⟨h6, h7, h8⟩⟩ := HCE.out y24 HB.out
              go_wp2_with fail
              have hc9 := rmay15_any ssN vb eb (HMb.out _ HB.out)
              rw [HNb.out, HbM.out] at hc9
              unfold ssN at hc9
              refine hc9.mono ?_
              clear hc9
              rintro e y25 ⟨rfl, hby⟩
              have HB := Lib.hid (HB.out.trans (hby.mono HB.out.size))
              clear hby h0 h1 h2 h3 h4 h5 h6 h7 h8
              obtain ⟨⟨h0, h1, h2⟩, ⟨h3, h4, h5⟩, ⟨h6, h7, h8⟩⟩ := HCE.out y25 HB.out
              go_wp2_with fail
              have hc9 := rmay15_any ssN vc ec (HMc.out _ HB.out)
              rw [HNc.out, HcM.out] at hc9
              unfold ssN at hc9
              refine hc9.mono ?_
              clear hc9
              rintro e y26 ⟨rfl, hby⟩
              have HB := Lib.hid (HB.out.trans (hby.mono HB.out.size))
              clear hby h0 h1 h2 h3 h4 h5 h6 h7 h8
              obtain ⟨⟨h0, h1, h2⟩, ⟨h3, h4, h5⟩, ⟨h6, h7, h8⟩⟩ := HCE.out y26 HB.out
              go_wp2_with fail
              have hc9 := llives_any _ (HTA.out _ HB.out)
              refine hc9.mono ?_
              clear hc9
              rintro e y27 ⟨rfl, hby⟩
              have HB := Lib.hid (HB.out.trans (hby.mono HB.out.size))
              clear hby h0 h1 h2 h3 h4 h5 h6 h7 h8
              obtain ⟨⟨h0, h1, h2⟩, ⟨h3, h4, h5⟩, ⟨h6, h7, h8⟩⟩ := HCE.out y27 HB.out
              go_wp2
              refine bodyPost_ret (v := .bool true) (by simp [results, Tryz.results4, go_sem]) rfl ?_
              exact ⟨rfl, HB3.out.trans (HB.out.mono HB3.out.size)⟩
            | true =>
              have HcM := Lib.hid hmc
              clear hmc
              have HOaa : Hid ((olderL la la).length = 0) := Lib.hid (by rw [older_self (may_all HaM.out).1]; rfl)
              obtain ⟨k, hk0⟩ : ∃ k, (olderL la lb).length = k := ⟨_, rfl⟩
              rcases Nat.eq_zero_or_pos k with rfl | hk
              · have HOab := Lib.hid hk0
                clear hk0
                obtain ⟨k, hk0⟩ : ∃ k, (olderL lb lc).length = k := ⟨_, rfl⟩
                rcases Nat.eq_zero_or_pos k with rfl | hk
                · have HObc := Lib.hid hk0
                  clear hk0
                  have HOac : Hid ((olderL la lc).length = 0) := Lib.hid (by rw [older_trans (List.length_eq_zero_iff.1 HOab.out) (List.length_eq_zero_iff.1 HObc.out)]; rfl)
                  go_enter Tryz.func4, Tryz.ntmps4
                  go_upto_region 1 with (fail)
                  rw [← HW3.out]
                  go_wp2_with fail
                  have hc9 := rLarge15_any va ea (HMa.out _ HB.out)
                  rw [HNa.out, HaL.out] at hc9
                  refine hc9.mono ?_
                  clear hc9
                  rintro e y37 ⟨rfl, hby⟩
                  have HB := Lib.hid (HB.out.trans (hby.mono HB.out.size))
                  clear hby h0 h1 h2 h3 h4 h5 h6 h7 h8
                  obtain ⟨⟨h0, h1, h2⟩, ⟨h3, h4, h5⟩, ⟨h6, h7, h8⟩⟩ := HCE.out y37 HB.out
                  go_wp2_with fail
                  have hc9 := rLarge15_any vb eb (HMb.out _ HB.out)
                  rw [HNb.out, HbL.out] at hc9
                  refine hc9.mono ?_
                  clear hc9
                  rintro e y38 ⟨rfl, hby⟩
                  have HB := Lib.hid (HB.out.trans (hby.mono HB.out.size))
                  clear hby h0 h1 h2 h3 h4 h5 h6 h7 h8
                  obtain ⟨⟨h0, h1, h2⟩, ⟨h3, h4, h5⟩, ⟨h6, h7, h8⟩⟩ := HCE.out y38 HB.out
                  go_wp2_with fail
                  have hc9 := rLarge15_any vc ec (HMc.out _ HB.out)
                  rw [HNc.out, HcL.out] at hc9
                  refine hc9.mono ?_
                  clear hc9
                  rintro e y39 ⟨rfl, hby⟩
                  have HB := Lib.hid (HB.out.trans (hby.mono HB.out.size))
                  clear hby h0 h1 h2 h3 h4 h5 h6 h7 h8
                  obtain ⟨⟨h0, h1, h2⟩, ⟨h3, h4, h5⟩, ⟨h6, h7, h8⟩⟩ := HCE.out y39 HB.out
                  go_wp2_with fail
                  have hc9 := rmay15_any ssN va ea (HMa.out _ HB.out)
                  rw [HNa.out, HaM.out] at hc9
                  unfold ssN at hc9
                  refine hc9.mono ?_
                  clear hc9
                  rintro e y40 ⟨rfl, hby⟩
                  have HB := Lib.hid (HB.out.trans (hby.mono HB.out.size))
                  clear hby h0 h1 h2 h3 h4 h5 h6 h7 h8
                  obtain ⟨⟨h0, h1, h2⟩, ⟨h3, h4, h5⟩, ⟨h6, h7, h8⟩⟩ := HCE.out y40 HB.out
                  go_wp2_with fail
                  have hc9 := rmay15_any ssN vb eb (HMb.out _ HB.out)
                  rw [HNb.out, HbM.out] at hc9
                  unfold ssN at hc9
                  refine hc9.mono ?_
                  clear hc9
                  rintro e y41 ⟨rfl, hby⟩
                  have HB := Lib.hid (HB.out.trans (hby.mono HB.out.size))
                  clear hby h0 h1 h2 h3 h4 h5 h6 h7 h8
                  obtain ⟨⟨h0, h1, h2⟩, ⟨h3, h4, h5⟩, ⟨h6, h7, h8⟩⟩ := HCE.out y41 HB.out
                  go_wp2_with fail
                  have hc9 := rmay15_any ssN vc ec (HMc.out _ HB.out)
                  rw [HNc.out, HcM.out] at hc9
                  unfold ssN at hc9
                  refine hc9.mono ?_
                  clear hc9
                  rintro e y42 ⟨rfl, hby⟩
                  have HB := Lib.hid (HB.out.trans (hby.mono HB.out.size))
                  clear hby h0 h1 h2 h3 h4 h5 h6 h7 h8
                  obtain ⟨⟨h0, h1, h2⟩, ⟨h3, h4, h5⟩, ⟨h6, h7, h8⟩⟩ := HCE.out y42 HB.out
                  go_wp2_with fail
                  have hc9 := llives_any _ (HTA.out _ HB.out)
                  refine hc9.mono ?_
                  clear hc9
                  rintro e y43 ⟨rfl, hby⟩
                  have HB := Lib.hid (HB.out.trans (hby.mono HB.out.size))
                  clear hby h0 h1 h2 h3 h4 h5 h6 h7 h8
                  obtain ⟨⟨h0, h1, h2⟩, ⟨h3, h4, h5⟩, ⟨h6, h7, h8⟩⟩ := HCE.out y43 HB.out
                  go_wp2_with fail
                  have hc9 := older_at va ea va ea HNa.out HNa.out (HMa.out _ HB.out) (HMa.out _ HB.out) (by omega) _ HOaa.out
                  refine hc9.mono ?_
                  clear hc9
                  rintro e y44 ⟨B44, d44, rfl, hby⟩
                  have HB := Lib.hid (HB.out.trans (hby.mono HB.out.size))
                  clear hby h0 h1 h2 h3 h4 h5 h6 h7 h8
                  obtain ⟨⟨h0, h1, h2⟩, ⟨h3, h4, h5⟩, ⟨h6, h7, h8⟩⟩ := HCE.out y44 HB.out
                  go_wp2_with fail
                  have hc9 := older_at va ea vb eb HNa.out HNb.out (HMa.out _ HB.out) (HMb.out _ HB.out) (by omega) _ HOab.out
                  refine hc9.mono ?_
                  clear hc9
                  rintro e y45 ⟨B45, d45, rfl, hby⟩
                  have HB := Lib.hid (HB.out.trans (hby.mono HB.out.size))
                  clear hby h0 h1 h2 h3 h4 h5 h6 h7 h8
                  obtain ⟨⟨h0, h1, h2⟩, ⟨h3, h4, h5⟩, ⟨h6, h7, h8⟩⟩ := HCE.out y45 HB.out
                  go_wp2_with fail
                  have hc9 := older_at vb eb vc ec HNb.out HNc.out (HMb.out _ HB.out) (HMc.out _ HB.out) (by omega) _ HObc.out
                  refine hc9.mono ?_
                  clear hc9
                  rintro e y46 ⟨B46, d46, rfl, hby⟩
                  have HB := Lib.hid (HB.out.trans (hby.mono HB.out.size))
                  clear hby h0 h1 h2 h3 h4 h5 h6 h7 h8
                  obtain ⟨⟨h0, h1, h2⟩, ⟨h3, h4, h5⟩, ⟨h6, h7, h8⟩⟩ := HCE.out y46 HB.out
                  go_wp2_with fail
                  have hc9 := older_at va ea vc ec HNa.out HNc.out (HMa.out _ HB.out) (HMc.out _ HB.out) (by omega) _ HOac.out
                  refine hc9.mono ?_
                  clear hc9
                  rintro e y47 ⟨B47, d47, rfl, hby⟩
                  have HB := Lib.hid (HB.out.trans (hby.mono HB.out.size))
                  clear hby h0 h1 h2 h3 h4 h5 h6 h7 h8
                  obtain ⟨⟨h0, h1, h2⟩, ⟨h3, h4, h5⟩, ⟨h6, h7, h8⟩⟩ := HCE.out y47 HB.out
                  go_wp2
                  refine bodyPost_ret (v := .bool true) (by simp [results, Tryz.results4, go_sem]) rfl ?_
                  exact ⟨rfl, HB3.out.trans (HB.out.mono HB3.out.size)⟩
                · have HObc := Lib.hid hk0
                  clear hk0
                  have k1 : decide ((k : Int) > 0) = true := by rw [decide_eq_true_iff]; omega
                  have k2 : decide (0 < (k : Int)) = true := by rw [decide_eq_true_iff]; omega
                  have k3 : decide (0 < k) = true := decide_eq_true hk
                  clear hk
                  go_enter Tryz.func4, Tryz.ntmps4
                  go_upto_region 1 with (fail)
                  rw [← HW3.out]
                  go_wp2_with fail
                  have hc9 := rLarge15_any va ea (HMa.out _ HB.out)
                  rw [HNa.out, HaL.out] at hc9
                  refine hc9.mono ?_
                  clear hc9
                  rintro e y48 ⟨rfl, hby⟩
                  have HB := Lib.hid (HB.out.trans (hby.mono HB.out.size))
                  clear hby h0 h1 h2 h3 h4 h5 h6 h7 h8
                  obtain ⟨⟨h0, h1, h2⟩, ⟨h3, h4, h5⟩, ⟨h6, h7, h8⟩⟩ := HCE.out y48 HB.out
                  go_wp2_with fail
                  have hc9 := rLarge15_any vb eb (HMb.out _ HB.out)
                  rw [HNb.out, HbL.out] at hc9
                  refine hc9.mono ?_
                  clear hc9
                  rintro e y49 ⟨rfl, hby⟩
                  have HB := Lib.hid (HB.out.trans (hby.mono HB.out.size))
                  clear hby h0 h1 h2 h3 h4 h5 h6 h7 h8
                  obtain ⟨⟨h0, h1, h2⟩, ⟨h3, h4, h5⟩, ⟨h6, h7, h8⟩⟩ := HCE.out y49 HB.out
                  go_wp2_with fail
                  have hc9 := rLarge15_any vc ec (HMc.out _ HB.out)
                  rw [HNc.out, HcL.out] at hc9
                  refine hc9.mono ?_
                  clear hc9
                  rintro e y50 ⟨rfl, hby⟩
                  have HB := Lib.hid (HB.out.trans (hby.mono HB.out.size))
                  clear hby h0 h1 h2 h3 h4 h5 h6 h7 h8
                  obtain ⟨⟨h0, h1, h2⟩, ⟨h3, h4, h5⟩, ⟨h6, h7, h8⟩⟩ := HCE.out y50 HB.out
                  go_wp2_with fail
                  have hc9 := rmay15_any ssN va ea (HMa.out _ HB.out)
                  rw [HNa.out, HaM.out] at hc9
                  unfold ssN at hc9
                  refine hc9.mono ?_
                  clear hc9
                  rintro e y51 ⟨rfl, hby⟩
                  have HB := Lib.hid (HB.out.trans (hby.mono HB.out.size))
                  clear hby h0 h1 h2 h3 h4 h5 h6 h7 h8
                  obtain ⟨⟨h0, h1, h2⟩, ⟨h3, h4, h5⟩, ⟨h6, h7, h8⟩⟩ := HCE.out y51 HB.out
                  go_wp2_with fail
                  have hc9 := rmay15_any ssN vb eb (HMb.out _ HB.out)
                  rw [HNb.out, HbM.out] at hc9
                  unfold ssN at hc9
                  refine hc9.mono ?_
                  clear hc9
                  rintro e y52 ⟨rfl, hby⟩
                  have HB := Lib.hid (HB.out.trans (hby.mono HB.out.size))
                  clear hby h0 h1 h2 h3 h4 h5 h6 h7 h8
                  obtain ⟨⟨h0, h1, h2⟩, ⟨h3, h4, h5⟩, ⟨h6, h7, h8⟩⟩ := HCE.out y52 HB.out
                  go_wp2_with fail
                  have hc9 := rmay15_any ssN vc ec (HMc.out _ HB.out)
                  rw [HNc.out, HcM.out] at hc9
                  unfold ssN at hc9
                  refine hc9.mono ?_
                  clear hc9
                  rintro e y53 ⟨rfl, hby⟩
                  have HB := Lib.hid (HB.out.trans (hby.mono HB.out.size))
                  clear hby h0 h1 h2 h3 h4 h5 h6 h7 h8
                  obtain ⟨⟨h0, h1, h2⟩, ⟨h3, h4, h5⟩, ⟨h6, h7, h8⟩⟩ := HCE.out y53 HB.out
                  go_wp2_with fail
                  have hc9 := llives_any _ (HTA.out _ HB.out)
                  refine hc9.mono ?_
                  clear hc9
                  rintro e y54 ⟨rfl, hby⟩
                  have HB := Lib.hid (HB.out.trans (hby.mono HB.out.size))
                  clear hby h0 h1 h2 h3 h4 h5 h6 h7 h8
                  obtain ⟨⟨h0, h1, h2⟩, ⟨h3, h4, h5⟩, ⟨h6, h7, h8⟩⟩ := HCE.out y54 HB.out
                  go_wp2_with fail
                  have hc9 := older_at va ea va ea HNa.out HNa.out (HMa.out _ HB.out) (HMa.out _ HB.out) (by omega) _ HOaa.out
                  refine hc9.mono ?_
                  clear hc9
                  rintro e y55 ⟨B55, d55, rfl, hby⟩
                  have HB := Lib.hid (HB.out.trans (hby.mono HB.out.size))
                  clear hby h0 h1 h2 h3 h4 h5 h6 h7 h8
                  obtain ⟨⟨h0, h1, h2⟩, ⟨h3, h4, h5⟩, ⟨h6, h7, h8⟩⟩ := HCE.out y55 HB.out
                  go_wp2_with fail
                  have hc9 := older_at va ea vb eb HNa.out HNb.out (HMa.out _ HB.out) (HMb.out _ HB.out) (by omega) _ HOab.out
                  refine hc9.mono ?_
                  clear hc9
                  rintro e y56 ⟨B56, d56, rfl, hby⟩
                  have HB := Lib.hid (HB.out.trans (hby.mono HB.out.size))
                  clear hby h0 h1 h2 h3 h4 h5 h6 h7 h8
                  obtain ⟨⟨h0, h1, h2⟩, ⟨h3, h4, h5⟩, ⟨h6, h7, h8⟩⟩ := HCE.out y56 HB.out
                  go_wp2_with fail
                  have hc9 := older_at vb eb vc ec HNb.out HNc.out (HMb.out _ HB.out) (HMc.out _ HB.out) (by omega) _ HObc.out
                  refine hc9.mono ?_
                  clear hc9
                  rintro e y57 ⟨B57, d57, rfl, hby⟩
                  have HB := Lib.hid (HB.out.trans (hby.mono HB.out.size))
                  clear hby h0 h1 h2 h3 h4 h5 h6 h7 h8
                  obtain ⟨⟨h0, h1, h2⟩, ⟨h3, h4, h5⟩, ⟨h6, h7, h8⟩⟩ := HCE.out y57 HB.out
                  go_wp2
                  refine bodyPost_ret (v := .bool true) (by simp [results, Tryz.results4, go_sem]) rfl ?_
                  exact ⟨rfl, HB3.out.trans (HB.out.mono HB3.out.size)⟩
              · have HOab := Lib.hid hk0
                clear hk0
                have k1 : decide ((k : Int) > 0) = true := by rw [decide_eq_true_iff]; omega
                have k2 : decide (0 < (k : Int)) = true := by rw [decide_eq_true_iff]; omega
                have k3 : decide (0 < k) = true := decide_eq_true hk
                clear hk
                go_enter Tryz.func4, Tryz.ntmps4
                go_upto_region 1 with (fail)
                rw [← HW3.out]
                go_wp2_with fail
                have hc9 := rLarge15_any va ea (HMa.out _ HB.out)
                rw [HNa.out, HaL.out] at hc9
                refine hc9.mono ?_
                clear hc9
                rintro e y58 ⟨rfl, hby⟩
                have HB := Lib.hid (HB.out.trans (hby.mono HB.out.size))
                clear hby h0 h1 h2 h3 h4 h5 h6 h7 h8
                obtain ⟨⟨h0, h1, h2⟩, ⟨h3, h4, h5⟩, ⟨h6, h7, h8⟩⟩ := HCE.out y58 HB.out
                go_wp2_with fail
                have hc9 := rLarge15_any vb eb (HMb.out _ HB.out)
                rw [HNb.out, HbL.out] at hc9
                refine hc9.mono ?_
                clear hc9
                rintro e y59 ⟨rfl, hby⟩
                have HB := Lib.hid (HB.out.trans (hby.mono HB.out.size))
                clear hby h0 h1 h2 h3 h4 h5 h6 h7 h8
                obtain ⟨⟨h0, h1, h2⟩, ⟨h3, h4, h5⟩, ⟨h6, h7, h8⟩⟩ := HCE.out y59 HB.out
                go_wp2_with fail
                have hc9 := rLarge15_any vc ec (HMc.out _ HB.out)
                rw [HNc.out, HcL.out] at hc9
                refine hc9.mono ?_
                clear hc9
                rintro e y60 ⟨rfl, hby⟩
                have HB := Lib.hid (HB.out.trans (hby.mono HB.out.size))
                clear hby h0 h1 h2 h3 h4 h5 h6 h7 h8
                obtain ⟨⟨h0, h1, h2⟩, ⟨h3, h4, h5⟩, ⟨h6, h7, h8⟩⟩ := HCE.out y60 HB.out
                go_wp2_with fail
                have hc9 := rmay15_any ssN va ea (HMa.out _ HB.out)
                rw [HNa.out, HaM.out] at hc9
                unfold ssN at hc9
                refine hc9.mono ?_
                clear hc9
                rintro e y61 ⟨rfl, hby⟩
                have HB := Lib.hid (HB.out.trans (hby.mono HB.out.size))
                clear hby h0 h1 h2 h3 h4 h5 h6 h7 h8
                obtain ⟨⟨h0, h1, h2⟩, ⟨h3, h4, h5⟩, ⟨h6, h7, h8⟩⟩ := HCE.out y61 HB.out
                go_wp2_with fail
                have hc9 := rmay15_any ssN vb eb (HMb.out _ HB.out)
                rw [HNb.out, HbM.out] at hc9
                unfold ssN at hc9
                refine hc9.mono ?_
                clear hc9
                rintro e y62 ⟨rfl, hby⟩
                have HB := Lib.hid (HB.out.trans (hby.mono HB.out.size))
                clear hby h0 h1 h2 h3 h4 h5 h6 h7 h8
                obtain ⟨⟨h0, h1, h2⟩, ⟨h3, h4, h5⟩, ⟨h6, h7, h8⟩⟩ := HCE.out y62 HB.out
                go_wp2_with fail
                have hc9 := rmay15_any ssN vc ec (HMc.out _ HB.out)
                rw [HNc.out, HcM.out] at hc9
                unfold ssN at hc9
                refine hc9.mono ?_
                clear hc9
                rintro e y63 ⟨rfl, hby⟩
                have HB := Lib.hid (HB.out.trans (hby.mono HB.out.size))
                clear hby h0 h1 h2 h3 h4 h5 h6 h7 h8
                obtain ⟨⟨h0, h1, h2⟩, ⟨h3, h4, h5⟩, ⟨h6, h7, h8⟩⟩ := HCE.out y63 HB.out
                go_wp2_with fail
                have hc9 := llives_any _ (HTA.out _ HB.out)
                refine hc9.mono ?_
                clear hc9
                rintro e y64 ⟨rfl, hby⟩
                have HB := Lib.hid (HB.out.trans (hby.mono HB.out.size))
                clear hby h0 h1 h2 h3 h4 h5 h6 h7 h8
                obtain ⟨⟨h0, h1, h2⟩, ⟨h3, h4, h5⟩, ⟨h6, h7, h8⟩⟩ := HCE.out y64 HB.out
                go_wp2_with fail
                have hc9 := older_at va ea va ea HNa.out HNa.out (HMa.out _ HB.out) (HMa.out _ HB.out) (by omega) _ HOaa.out
                refine hc9.mono ?_
                clear hc9
                rintro e y65 ⟨B65, d65, rfl, hby⟩
                have HB := Lib.hid (HB.out.trans (hby.mono HB.out.size))
                clear hby h0 h1 h2 h3 h4 h5 h6 h7 h8
                obtain ⟨⟨h0, h1, h2⟩, ⟨h3, h4, h5⟩, ⟨h6, h7, h8⟩⟩ := HCE.out y65 HB.out
                go_wp2_with fail
                have hc9 := older_at va ea vb eb HNa.out HNb.out (HMa.out _ HB.out) (HMb.out _ HB.out) (by omega) _ HOab.out
                refine hc9.mono ?_
                clear hc9
                rintro e y66 ⟨B66, d66, rfl, hby⟩
                have HB := Lib.hid (HB.out.trans (hby.mono HB.out.size))
                clear hby h0 h1 h2 h3 h4 h5 h6 h7 h8
                obtain ⟨⟨h0, h1, h2⟩, ⟨h3, h4, h5⟩, ⟨h6, h7, h8⟩⟩ := HCE.out y66 HB.out
                go_wp2
                refine bodyPost_ret (v := .bool true) (by simp [results, Tryz.results4, go_sem]) rfl ?_
                exact ⟨rfl, HB3.out.trans (HB.out.mono HB3.out.size)⟩
end Go.Proofs.YtefkpphahimkgaaGreatDoor
