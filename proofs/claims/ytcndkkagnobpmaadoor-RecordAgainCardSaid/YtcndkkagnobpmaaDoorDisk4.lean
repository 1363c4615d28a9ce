/-
  block.Disk: Sync.
-/
import Derived.Test.YtcndkkagnobpmaaDoorDisk3
namespace Go.Proofs.YtcndkkagnobpmaaDoor
open Go.RowKit Go.Maps
set_option linter.unusedVariables false

theorem wpList_clear_run {P : Program} (w : World) {ops : Array Oper} {rest : List Oper} {o : Oper} {a : Act} {Q : Exit → Act → World → Prop} (hgd : o.guard = none) (s : Operand) (t : TypeId)
    (ho : o.op = .call { callee := .builtin .clear, args := #[s], argTypes := #[t] }) (vs : Value) (hs : a.eval s = vs)
    (v' : Value) (w' : World) (hr : (Builtin.clear_ #[t] o.type #[vs]).run P w = .ok v' w') (h : wpList P ops Q rest (a.put o.dst v') w') : wpList P ops Q (o :: rest) a w :=
  wpList_plain hgd fun _ hK => by
    unfold Oper.wp execOp
    simp only [ho, resolve, invoke, builtin, Sem.run_bind, Sem.run_pure, Result.andThen_ok, List.map_toArray, List.map_cons, List.map_nil, hs, hr]
    exact hK _ _ h
/-- all that is loose is sure -/
def Dk.sync (K : Dk) : Dk := { K.go with sure := (List.range K.sure.length).map K.now, loose := fun _ => none }
/-- the row of sure blocks on the way -/
def sureNow (K : Dk) (left : Lit → Bool) (i : Nat) : List UInt8 := match K.loose i with
  | some b => if left (keyI i) = true then K.sure.getD i [] else b
  | none => K.sure.getD i []
def RowAt (w : World) (s N : Nat) (g : Nat → List UInt8) : Prop := ∃ cs, Blk w s 22 cs ∧ (∀ i, i < N → ∃ v, cs[i]? = some v ∧ SlB w v (g i)) ∧ ∀ (k : Nat) (x : Int), cs[k]? ≠ some (.int .u8 x)
theorem RowAt.noBy {w : World} {s N : Nat} {g : Nat → List UInt8} (h : RowAt w s N g) : NoBy w s := by
  obtain ⟨cs, h1, _, h3⟩ := h
  exact NoBy.of_blk h1 h3
theorem RowAt.fr {S : Nat → Prop} {w w' : World} {s N : Nat} {g : Nat → List UInt8} (h : RowAt w s N g) (hf : Fr S w w') (hs : ¬ S s) (hN : ∀ k, S k → k < w.heap.size → NoBy w k) : RowAt w' s N g := by
  obtain ⟨cs, h1, h2, h3⟩ := h
  exact ⟨cs, h1.fr hf hs, fun i hi => by obtain ⟨v, k1, k2⟩ := h2 i hi; exact ⟨v, k1, k2.fr2 hf hN⟩, h3⟩
theorem RowAt.put {w : World} {s N : Nat} {g g' : Nat → List UInt8} (h : RowAt w s N g) {i : Nat} (hi : i < N) {v : Value} {b : List UInt8} (hv : SlB w v b) (hg : g' i = b) (ho : ∀ j, j ≠ i → g' j = g j) : RowAt (w.setCell ⟨s, i, none⟩ v) s N g' := by
  have hn := h.noBy
  obtain ⟨cs, h1, h2, h3⟩ := h
  have hf := fr_cell (w := w) (g := s) (k := i) v
  have hN : ∀ k, k = s → k < w.heap.size → NoBy w k := fun k e _ => e ▸ hn
  have hsz : i < cs.size := by
    obtain ⟨u, k1, _⟩ := h2 i hi
    exact (Array.getElem?_eq_some_iff.1 k1).1
  refine ⟨_, h1.set_ i v, fun j hj => ?_, fun k x => ?_⟩
  · by_cases e : j = i
    · subst e
      rw [hg]
      exact ⟨v, Array.getElem?_setIfInBounds_self_of_lt hsz, hv.fr2 hf hN⟩
    · obtain ⟨u, k1, k2⟩ := h2 j hj
      rw [ho j e]
      exact ⟨u, by rw [Array.getElem?_setIfInBounds_ne (fun x => e x.symm)]; exact k1, k2.fr2 hf hN⟩
  · by_cases e : k = i
    · subst e
      rw [Array.getElem?_setIfInBounds_self_of_lt hsz]
      obtain ⟨A, c, rfl, _⟩ := hv
      intro h; cases h
    · rw [Array.getElem?_setIfInBounds_ne (fun x => e x.symm)]
      exact h3 k x
theorem RowAt.cell {w : World} {s N : Nat} {g : Nat → List UInt8} (h : RowAt w s N g) {i : Nat} (hi : i < N) : ∃ v, w.cell? ⟨s, i, none⟩ = some v ∧ SlB w v (g i) := by
  obtain ⟨cs, h1, h2, _⟩ := h
  obtain ⟨v, k1, k2⟩ := h2 i hi
  exact ⟨v, by rw [h1.cell, k1], k2⟩
theorem RowAt.frozen {w : World} {s N : Nat} {g : Nat → List UInt8} (h : RowAt w s N g) (i : Nat) : w.frozen? ⟨s, i, none⟩ = false := by
  obtain ⟨cs, h1, _⟩ := h
  exact h1.frozen i
set_option maxRecDepth 100000 in
set_option maxHeartbeats 1000000 in
theorem sync_no {d s M n : Nat} {K : Dk} (w : World) (h : DiskAt w d s M n K) (ho : K.off = true) : Calls Tryd.prog 18 #[.pointer (some ⟨d, 0, none⟩)] w fun e w' => e = .returned (.int .i64 210) ∧ w' = w := by
  have HM := Lib.hid (may_as (K := K) 0 210 w h (by unfold mayE; rw [ho]; rfl))
  clear h ho
  go_enter Tryd.func18, Tryd.ntmps18
  go_wp2_with fail
  refine HM.out.mono ?_
  rintro e w1 ⟨rfl, rfl⟩
  go_wp2
  go_ret
  exact ⟨rfl, rfl⟩
set_option maxRecDepth 100000 in
set_option maxHeartbeats 1000000 in
theorem sync_off {d s M n : Nat} {K : Dk} (w : World) (h : DiskAt w d s M n K) (ho : K.off = false) (hgo : K.go.off = true) : Calls Tryd.prog 18 #[.pointer (some ⟨d, 0, none⟩)] w fun e w' => e = .returned (.int .i64 210) ∧ DiskAt w' d s M n K.go ∧ Fr (DS d s M) w w' := by
  have h1 := h.few.1
  have HM := Lib.hid (may_as (K := K) 0 0 w h (by unfold mayE; rw [ho, if_neg (by simp), if_neg (by omega)]))
  have HG := Lib.hid (goes_any w h ho)
  rw [hgo] at HG
  clear h ho h1 hgo
  go_enter Tryd.func18, Tryd.ntmps18
  go_wp2_with fail
  refine HM.out.mono ?_
  rintro e w1 ⟨rfl, rfl⟩
  go_wp2_with fail
  refine HG.out.mono ?_
  rintro e w2 ⟨rfl, hd2, hf2⟩
  have HD2 := Lib.hid hd2
  clear hd2
  go_wp2
  go_ret
  exact ⟨rfl, HD2.out, fr_ds hf2 (fun k e => .inl e)⟩
set_option maxRecDepth 100000 in
set_option maxHeartbeats 2000000 in
theorem sync_on {d s M n : Nat} {K : Dk} (w : World) (h : DiskAt w d s M n K) (ho : K.off = false) (hgo : K.go.off = false) : Calls Tryd.prog 18 #[.pointer (some ⟨d, 0, none⟩)] w fun e w' => e = .returned (.int .i64 0) ∧ DiskAt w' d s M 0 K.sync ∧ Fr (DS d s M) w w' := by
  have h1 := h.few.1
  have HM := Lib.hid (may_as (K := K) 0 0 w h (by unfold mayE; rw [ho, if_neg (by simp), if_neg (by omega)]))
  have HG := Lib.hid (goes_any w h ho)
  rw [hgo] at HG
  have HO := Lib.hid ho
  have HGO := Lib.hid hgo
  clear h ho h1 hgo
  go_enter Tryd.func18, Tryd.ntmps18
  go_wp2_with fail
  refine HM.out.mono ?_
  rintro e w1 ⟨rfl, rfl⟩
  go_wp2_with fail
  refine HG.out.mono ?_
  rintro e w2 ⟨rfl, hd2, hf2⟩
  have HD2 := Lib.hid hd2
  have HF2 := Lib.hid hf2
  have hne := hd2.ne
  have hno := hd2.noBy
  have hlt := hd2.lt
  obtain ⟨⟨cap, hb, hcap⟩, ⟨cs, hr, hr2, hr3⟩, ⟨f, hm, hm2, hm3⟩, hfew, hinn, hlft, hbyt⟩ := hd2
  obtain ⟨D, hown, hD2, hD3⟩ := hm
  obtain ⟨c0, c1, c2, c3, c4⟩ := disk_cells hb
  have HOWN := Lib.hid hown
  have HB := Lib.hid hb
  rw [go_sure] at c0 hcap hr2 hfew hinn
  rw [go_loose] at hm2 hm3 hinn
  have HROW : Hid (RowAt w2 s K.sure.length (sureNow K (has D))) := by
    refine ⟨cs, hr, fun i hi => ?_, hr3⟩
    obtain ⟨v, k1, k2⟩ := hr2 i hi
    refine ⟨v, k1, ?_⟩
    unfold sureNow
    cases hl : K.loose i with
    | none => exact k2
    | some b =>
      obtain ⟨v', q1, _⟩ := hm3 i b hl
      have hi1 := hinn i b hl
      have hh : has D (keyI i) = true := has_true_of_atKey (y := .held v') (fun z => by rw [hD2 i (by omega), q1])
      simp only [hh, if_true]
      exact k2
  have H2 := Lib.hid hm2
  have H3 := Lib.hid hm3
  have HI := Lib.hid hinn
  have HDA := Lib.hid hD2
  have HDB := Lib.hid hD3
  have HNB := Lib.hid hno
  obtain ⟨N, hN⟩ : ∃ N, N = K.sure.length := ⟨_, rfl⟩
  rw [← hN] at c0 HROW hcap hfew HI
  have HN := Lib.hid hN
  clear hb hr hr2 hr3 hm2 hm3 hinn hD2 hD3 hown hf2 hno hN hlft hbyt
  go_wp2_with (first
    | (at_range; refine wpList_range_own _ rfl _ 61 rfl 3 22 keyedI Tryd.underlying61 R0 M n D rfl HOWN.out ?_; intro w3 hrg hg3 hs3; have HRG := Lib.hid hrg; have HG3 := Lib.hid hg3; have HS3 := Lib.hid hs3; clear hrg hg3 hs3))
  have HF3 : Hid (Fr (· = s) w2 w3) := Lib.hid (Fr.of_grown (S := (· = s)) HG3.out (fun k e => by cases e))
  have HROW3 := Lib.hid (HROW.out.fr (S := fun _ => False) (Fr.of_grown HG3.out (fun k e => by cases e)) (fun h => h) (fun _ h => h.elim))
  obtain ⟨r, hr⟩ : ∃ r, r = w2.heap.size := ⟨_, rfl⟩
  rw [← hr] at HRG ⊢
  have HR := Lib.hid hr
  clear hr c0 c1 c2 c3 c4 HROW HG3 HS3
  go_frame
  go_loopw [4, 5] (fun _ _ wr => ∃ left cnt, Hid (wr.ranges Tryd.prog 3 R0 M r n D left cnt) ∧ Hid (∀ kl, left kl = true → has D kl = true) ∧ Hid (RowAt wr s N (sureNow K left)) ∧ Hid (Fr (· = s) w2 wr)) (fun _ _ wr => wr.rangeLeft M r)
  case atStart => exact ⟨_, _, HRG, Lib.hid (fun _ h => h), HROW3, HF3⟩
  case round =>
    obtain ⟨left, cnt, HRG, HLD, HROW, HF⟩ := hrel
    clear HROW3 HF3
    have hBw := HB.out.fr HF.out hne.1
    obtain ⟨c0, c1, c2, c3, c4⟩ := disk_cells hBw
    rw [go_sure, ← HN.out] at c0
    have HBW := Lib.hid hBw
    clear hBw
    have tok : True := trivial
    go_wp2_with (at_next; refine wpList_next_ranges _ rfl _ rfl 3 keyedI R0 (Value.int .i64) id (fun key kl hk => by obtain ⟨x, e, _⟩ := keyOf_int_inv Tryd.underlying3 hk; exact ⟨x, e⟩) (fun v y _ => ⟨v, rfl⟩) M r n D left cnt rfl HRG.out ?done ?more)
    case done =>
      intro hc0 hl0
      have HE : Hid (∀ i, sureNow K left i = K.now i) := by
        intro i
        unfold sureNow Dk.now
        cases K.loose i with
        | none => rfl
        | some b => rw [hl0]; rfl
      have hmap : LMap wr M n f := ⟨D, HRG.out.owns, HDA.out, HDB.out⟩
      obtain ⟨w6, hclear, hm6, hf6⟩ := hmap.clear 61
      have hNM : ∀ k, k = M → k < wr.heap.size → NoBy wr k := fun k e _ => by
        subst e
        intro o x
        rw [hmap.noCell]
        intro h; cases h
      have HM6 := Lib.hid hm6
      have HB6 := Lib.hid (HBW.out.fr hf6 hne.2.1)
      have HR6 := Lib.hid (HROW.out.fr hf6 hne.2.2 hNM)
      have HF6 := Lib.hid (((fr_ds (M := M) (s := s) (d := d) HF.out (fun k e => .inr (.inl e))).trans (fr_ds hf6 (fun k e => .inr (.inr e)))))
      have HCL := Lib.hid hclear
      clear hc0 hl0 hmap hclear hm6 hf6 hNM HBW HROW HRG HF
      go_wp2_with (refine wpList_clear_run _ rfl (.tmp 33) 61 rfl (.map (some M)) rfl _ _ HCL.out ?_)
      go_ret
      refine ⟨rfl, ⟨⟨cap, ?_, ?_⟩, ?_, ⟨_, HM6.out, (fun i _ => rfl), (fun i b h => by cases h)⟩, ?_, (fun i b h => by cases h), HD2.out.lft, HD2.out.byt⟩, (fr_ds HF2.out (fun k e => .inl e)).trans HF6.out⟩
      · have := HB6.out
        rw [go_sure] at this
        simp only [Dk.sync, List.length_map, List.length_range]
        exact this
      · simp only [Dk.sync, List.length_map, List.length_range]
        rw [← HN.out]; exact hcap
      · obtain ⟨cs, k1, k2, k3⟩ := HR6.out
        refine ⟨cs, k1, fun i hi => ?_, k3⟩
        simp only [Dk.sync, List.length_map, List.length_range] at hi
        obtain ⟨v, q1, q2⟩ := k2 i (by rw [HN.out]; exact hi)
        refine ⟨v, q1, ?_⟩
        rw [HE.out] at q2
        have e : (K.sync.sure).getD i [] = K.now i := by
          simp [Dk.sync, hi]
        rw [e]; exact q2
      · simp only [Dk.sync, List.length_map, List.length_range]
        rw [← HN.out]; exact hfew
    case more =>
      intro x c kl a b w' cnt' hkey hlk hR0 hat hrg hlt' hgr hsz hen
      obtain ⟨i, hi, rfl, hfi⟩ := HDB.out kl (HLD.out kl hlk)
      obtain ⟨x', e1, e2, _⟩ := keyOf_int_inv Tryd.underlying3 hkey
      have hxi : x = (i : Int) := by
        unfold keyI at e2
        injection e1 with _ e1
        injection e2 with _ e2
        omega
      subst hxi
      cases hl : K.loose i with
      | none => rw [H2.out i hl] at hfi; cases hfi
      | some bb =>
        obtain ⟨v, hv, hsl⟩ := H3.out i bb hl
        have h4 := (hat (.map [])).symm.trans (HDA.out i hi (.map []))
        rw [hv] at h4
        unfold R0 at hR0
        have hcv : c = v := by
          cases hR0
          cases h4
          rfl
        subst hcv
        have hiN := HI.out i bb hl
        obtain ⟨Ac, cc, hcs, t1, t2, t3, t4⟩ := hsl
        subst hcs
        have hsl : SlB w2 (.slice Ac 64 cc) bb := ⟨Ac, cc, rfl, t1, t2, t3, t4⟩
        clear t3
        have hFw : Fr (· = s) w2 w' := HF.out.grown hgr (fun k e h => by cases e; have := HR.out; omega)
        have hFr : Fr (· = r) wr w' := Fr.of_grown hgr (fun k e => by cases e; rfl)
        have hsr : s ≠ r := by have := HR.out; omega
        have hNr : ∀ k, k = r → k < wr.heap.size → NoBy wr k := fun k e _ => by
          subst e
          obtain ⟨_, _, _, _, _, _, _, _, _, hit, _⟩ := HRG.out
          intro o x
          simp [World.cell?, hit]
        have hrow := HROW.out.fr hFr hsr hNr
        have hsl' := hsl.fr2 hFw (fun k e _ => e ▸ HNB.out s (.inr (.inl rfl)))
        obtain ⟨u, hu, _⟩ := hrow.cell hiN
        have hfz := hrow.frozen i
        have HROW2 := Lib.hid (hrow.put (g' := sureNow K (fun z => left z && !z.sameKey (keyI i))) hiN hsl' (by
          unfold sureNow
          rw [hl]
          have : (keyI i).sameKey (keyI i) = true := WideAt.sameKey_self (keyI_lit i)
          simp [this]) (fun j hj => by
          unfold sureNow
          have : (keyI j).sameKey (keyI i) = false := sameKey_ne (fun e => hj (keyI_inj e))
          simp [this]))
        have HF2' := Lib.hid (hFw.setCell (p := ⟨s, i, none⟩) (fun _ => rfl) (.slice Ac 64 cc))
        have hgs : (w'.setCell ⟨s, i, none⟩ (.slice Ac 64 cc)).heap.size = w'.heap.size := by simp [World.setCell]
        have HRG2 : Hid ((w'.setCell ⟨s, i, none⟩ (.slice Ac 64 cc)).ranges Tryd.prog 3 R0 M r n D (fun z => left z && !z.sameKey (keyI i)) cnt') := by
          refine Lib.hid (hrg.kept (row := some s) ⟨rfl, rfl, rfl, by rw [hgs]; exact Nat.le_refl _, fun k _ hk => Below.heap_setCell _ _ _ _ (fun e => hk (by rw [e]))⟩ (by intro e; cases e; exact hne.2.2 rfl) (by intro e; cases e; exact hsr rfl))
        have HLD2 : Hid (∀ kl, (left kl && !kl.sameKey (keyI i)) = true → has D kl = true) := by
          intro kl h
          rw [Bool.and_eq_true] at h
          exact HLD.out kl h.1
        have hBw' := HB.out.fr hFw hne.1
        obtain ⟨d0, d1, d2, d3, d4⟩ := disk_cells hBw'
        rw [go_sure, ← HN.out] at d0
        have HMEAS : Hid (cnt' < cnt) := hlt'
        have HRGo := HRG
        have hi0 : (0 : Int) ≤ (i : Int) := by omega
        have hi1 : (i : Int) < (N : Int) := by omega
        clear hkey hlk hR0 hat hrg hlt' hgr hsz hfi e1 e2 h4 hl hv hsl hiN hFw hFr hsr hNr hrow hsl' hgs hBw' HROW HF HBW HLD c0 c1 c2 c3 c4 HRG
        go_wp2
        go_roundw
        case rel => exact ⟨_, cnt', HRG2, HLD2, HROW2, HF2'⟩
        case measure => rw [HRG2.out.left_eq, HRGo.out.left_eq]; exact HMEAS.out
end Go.Proofs.YtcndkkagnobpmaaDoor
