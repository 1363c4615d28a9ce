/-
  The document's queue: Set.
-/
import Derived.Test.YtdhilhjiccpkkaaDueR3
import Derived.Test.YtdhilhjiccpkkaaDueR5
namespace Go.Proofs.Ytdhilhjiccpkkaa
open Go.RowKit
set_option linter.unusedVariables false
set_option linter.unusedSimpArgs false

set_option maxRecDepth 100000 in
theorem xset_bad {x : Nat} (w : World) (s : ByteArray) (a : Int) (hok : okSet s a = false) :
    Calls Try.prog 22 #[.pointer (some ⟨x, 0, none⟩), .string s, .int .i64 a] w fun e w' => e = .returned (.int .i64 1) ∧ w' = w := by
  unfold okSet at hok
  have hor : (decide ((s.size : Int) < 1) || decide ((64 : Int) < (s.size : Int)) || decide (a < 0) || decide (253402300799 < a)) = true := by
    simp only [Bool.and_eq_false_iff, Bool.or_eq_true, decide_eq_true_eq, decide_eq_false_iff_not] at hok ⊢
    omega
  obtain ⟨b1, h1⟩ : ∃ b, b = decide ((s.size : Int) < 1) := ⟨_, rfl⟩
  obtain ⟨b2, h2⟩ : ∃ b, b = decide ((64 : Int) < (s.size : Int)) := ⟨_, rfl⟩
  obtain ⟨b3, h3⟩ : ∃ b, b = decide (a < 0) := ⟨_, rfl⟩
  obtain ⟨b4, h4⟩ : ∃ b, b = decide (253402300799 < a) := ⟨_, rfl⟩
  rw [← h1, ← h2, ← h3, ← h4] at hor
  have g1 := h1.symm
  have g2 := h2.symm
  have g3 := h3.symm
  have g4 := h4.symm
  have hsz := size_toList s
  clear h1 h2 h3 h4 hok
  rcases (by cases b1 <;> cases b2 <;> cases b3 <;> simp_all : b1 = true ∨ (b1 = false ∧ b2 = true) ∨ (b1 = false ∧ b2 = false ∧ b3 = true) ∨ (b1 = false ∧ b2 = false ∧ b3 = false ∧ b4 = true)) with rfl | ⟨rfl, rfl⟩ | ⟨rfl, rfl, rfl⟩ | ⟨rfl, rfl, rfl, rfl⟩
  all_goals
    clear hor
    go_enter Try.func22, Try.ntmps22
    go_wp2
    go_ret
    exact ⟨rfl, rfl⟩
set_option maxRecDepth 100000 in
theorem xset_full {x c : Nat} {A : Option Addr} {X : List Du} (w : World) (h : XAt w x A c X) (s : ByteArray) (a : Int) (hf : X.length ≤ 256) (hok : okSet s a = true) (hi : idxL X s = none) (hn : 256 ≤ X.length) :
    Calls Try.prog 22 #[.pointer (some ⟨x, 0, none⟩), .string s, .int .i64 a] w fun e w' => e = .returned (.int .i64 2) ∧ w' = w := by
  unfold okSet at hok
  simp only [Bool.and_eq_true, decide_eq_true_eq] at hok
  obtain ⟨⟨⟨o1, o2⟩, o3⟩, o4⟩ := hok
  have hsz := size_toList s
  have d0 : decide ((s.size : Int) < 1) = false := by rw [decide_eq_false_iff_not]; omega
  have d1 : decide ((64 : Int) < (s.size : Int)) = false := by rw [decide_eq_false_iff_not]; omega
  have d2 : decide (a < 0) = false := by rw [decide_eq_false_iff_not]; omega
  have d3 : decide (253402300799 < a) = false := by rw [decide_eq_false_iff_not]; omega
  have HF := Lib.hid (xfind_any w h s hf)
  have hfi : findI X s = -1 := by unfold findI; rw [hi]
  rw [hfi] at HF
  have c0 := h.blk.cell 0
  simp only [List.getElem?_toArray, List.getElem?_cons_zero] at c0
  rw [show X.length = 256 from by omega] at c0
  clear h hf hi hfi hn o1 o2 o3 o4
  go_enter Try.func22, Try.ntmps22
  go_wp2_with fail
  refine HF.out.mono ?_
  rintro e w1 ⟨rfl, rfl⟩
  go_wp2
  go_ret
  exact ⟨rfl, rfl⟩
/-- where the new name comes -/
theorem ins_at {Y : List Du} {d : Du} {k : Nat} (h : ∀ j, j < k → ltD (gd Y j) d = true) (hk : k ≤ Y.length) (he : k = Y.length ∨ ltD (gd Y k) d = false) : Y.take k ++ [d] ++ Y.drop k = insX Y d := by
  induction Y generalizing k with
  | nil =>
    obtain rfl : k = 0 := by simpa using hk
    simp [insX]
  | cons y Y ih =>
    cases k with
    | zero =>
      have h0 : ltD y d = false := by
        rcases he with he | he
        · simp at he
        · exact he
      simp [insX, List.takeWhile_cons, List.dropWhile_cons, h0]
    | succ k =>
      have h0 : ltD y d = true := h 0 (by omega)
      have h1 := ih (k := k) (fun j hj => by have := h (j + 1) (by omega); simpa [gd] using this) (by simpa using hk) (by
        rcases he with he | he
        · exact .inl (by simpa using he)
        · exact .inr (by simpa [gd] using he))
      have e2 : insX (y :: Y) d = y :: insX Y d := by simp [insX, List.takeWhile_cons, List.dropWhile_cons, h0]
      rw [e2, ← h1]
      simp
theorem set_tail {x k c : Nat} {A : Option Addr} {Y : List Du} {s : ByteArray} {a : Int} {w : World} (h : XAt w x A c Y) (hk : k ≤ Y.length) (hf : Y.length ≤ 256)
    (act : Act) (hsz : act.tmps.size = 107) (hdf : act.defers = []) (g0 : act.tmps.getD 0 undef = .pointer (some ⟨x, 0, none⟩)) (g1 : act.tmps.getD 1 undef = .string s) (g2 : act.tmps.getD 2 undef = .int .i64 a) (g7 : act.tmps.getD 7 undef = .int .i64 (k : Int))
    (POST : Ending → World → Prop) (hP : ∀ e w', XPost w x A (.returned (.int .i64 0)) (Y.take k ++ [(s, a)] ++ Y.drop k) e w' → POST e w') :
    Code.wp Try.prog tail22 (bodyPost Try.prog Try.f22 POST) act w := by
  have hle := h.le
  rcases h.form with ⟨hA, hc⟩ | ⟨b, o, hA, _⟩
  · exact set_tail_none act x _ k c A Y s a w h rfl hk hf hA hc hsz hdf g0 g1 g2 g7 POST hP
  · rcases (by omega : k = c ∨ k < c) with hc | hc
    · exact set_tail_cap act x _ k c A Y s a w h rfl hk hf b o hA hc hsz hdf g0 g1 g2 g7 POST hP
    · exact set_tail_below act x _ k c A Y s a w h rfl hk hf b o hA hc hsz hdf g0 g1 g2 g7 POST hP
set_option maxRecDepth 100000 in
set_option maxHeartbeats 4000000 in
theorem xset_ok {x c : Nat} {A : Option Addr} {X : List Du} (w : World) (h : XAt w x A c X) (s : ByteArray) (a : Int) (hf : X.length ≤ 256) (hnd : (Nm X).Nodup) (hok : okSet s a = true) (hfl : ¬ (idxL X s = none ∧ 256 ≤ X.length)) :
    Calls Try.prog 22 #[.pointer (some ⟨x, 0, none⟩), .string s, .int .i64 a] w fun e w' => XPost w x A (.returned (.int .i64 0)) (setX X s a) e w' := by
  unfold okSet at hok
  simp only [Bool.and_eq_true, decide_eq_true_eq] at hok
  obtain ⟨⟨⟨o1, o2⟩, o3⟩, o4⟩ := hok
  have hsz := size_toList s
  have d0 : decide ((s.size : Int) < 1) = false := by rw [decide_eq_false_iff_not]; omega
  have d1 : decide ((64 : Int) < (s.size : Int)) = false := by rw [decide_eq_false_iff_not]; omega
  have d2 : decide (a < 0) = false := by rw [decide_eq_false_iff_not]; omega
  have d3 : decide (253402300799 < a) = false := by rw [decide_eq_false_iff_not]; omega
  have HF := Lib.hid (xfind_any w h s hf)
  have HD := Lib.hid (xdrop_any w h s hf hnd)
  have c0 := h.blk.cell 0
  simp only [List.getElem?_toArray, List.getElem?_cons_zero] at c0
  obtain ⟨m, hm⟩ : ∃ m, m = X.length := ⟨_, rfl⟩
  rw [← hm] at c0
  obtain ⟨fi, hfi⟩ : ∃ fi, fi = findI X s := ⟨_, rfl⟩
  rw [← hfi] at HF
  have hcase : (decide (fi < 0) = false) ∨ (decide (fi < 0) = true ∧ decide ((256 : Int) ≤ (m : Int)) = false) := by
    cases e : idxL X s with
    | none =>
      refine .inr ⟨by rw [decide_eq_true_iff, hfi]; unfold findI; rw [e]; show (-1 : Int) < 0; omega, ?_⟩
      rw [decide_eq_false_iff_not]
      intro h1
      exact hfl ⟨e, by omega⟩
    | some i => exact .inl (by rw [decide_eq_false_iff_not, hfi]; unfold findI; rw [e]; show ¬ ((i : Int) < 0); omega)
  have hm2 : m ≤ 256 := by omega
  have hlen : (dropX X s).length ≤ 256 := by
    have := List.length_filter_le (fun d : Du => !decide (d.1 = s)) X
    unfold dropX
    omega
  have HLEN := Lib.hid hlen
  have HXB := Lib.hid h.blk
  clear h hf hfl hm hfi o1 o2 o3 o4 hlen
  go_enter Try.func22, Try.ntmps22
  go_wp2_with fail
  refine HF.out.mono ?_
  rintro e w1 ⟨rfl, rfl⟩
  rcases hcase with e0 | ⟨e0, e1⟩
  · go_wp2_with fail
    refine HD.out.mono ?_
    rintro e w2 ⟨A1, c1, rfl, hx, hfr, hne⟩
    clear c0
    obtain ⟨Y, hY⟩ : ∃ Y, Y = dropX X s := ⟨_, rfl⟩
    rw [← hY] at hx
    have HLY : Hid (Y.length ≤ 256) := Lib.hid (by rw [hY]; exact HLEN.out)
    have HY := Lib.hid hY
    have y0 := hx.blk.cell 0
    simp only [List.getElem?_toArray, List.getElem?_cons_zero] at y0
    have HX := Lib.hid hx
    have HFR := Lib.hid hfr
    have HNE := Lib.hid hne
    obtain ⟨n, hn⟩ : ∃ n, n = Y.length := ⟨_, rfl⟩
    rw [← hn] at y0
    have HN := Lib.hid hn
    have HW := Lib.hid HX.out.rl
    have hn256 : n ≤ 256 := by rw [hn]; exact HLY.out
    clear hx hfr hne hY hn
    go_wp2_with fail
    rename_i K hK
    have HT : Hid (∀ (k : Nat) (act : Act), k ≤ n → Y.take k ++ [(s, a)] ++ Y.drop k = insX Y (s, a) → act.tmps.size = 107 → act.defers = [] → act.tmps.getD 0 undef = .pointer (some ⟨x, 0, none⟩) → act.tmps.getD 1 undef = .string s → act.tmps.getD 2 undef = .int .i64 a → act.tmps.getD 7 undef = .int .i64 (k : Int) → K act w2) := Lib.hid (fun k act hk hins hsz hdf g0 g1 g2 g7 => hK _ _ (set_tail HX.out (by rw [← HN.out]; exact hk) HLY.out act hsz hdf g0 g1 g2 g7 _ (fun e w' hp => by
      obtain ⟨A', c', he, k1, k2, k3⟩ := hp
      rw [hins, HY.out] at k1
      refine ⟨A', c', he, k1, HFR.out.trans k2, fun ad e => ?_⟩
      rcases k3 ad e with ⟨ad0, e1, e2⟩ | h3
      · rcases HNE.out ad0 e1 with ⟨ad1, e3, e4⟩ | h4
        · exact .inl ⟨ad1, e3, e4.trans e2⟩
        · exact .inr (by rw [← e2]; exact h4)
      · exact .inr (Nat.le_trans HFR.out.size h3))))
    clear hK
    go_loopw [7] (fun i wr => ∃ k : Nat, k ≤ n ∧ i = .int .i64 (k : Int) ∧ wr = w2 ∧ Hid (∀ j, j < k → ltD (gd Y j) (s, a) = true)) (fun i _ => n - (intOf i).toNat)
    case atStart => exact ⟨0, Nat.zero_le _, rfl, rfl, Lib.hid (fun j hj => by omega)⟩
    case round =>
      obtain ⟨k, hk, rfl, rfl, HI⟩ := hrel
      rcases (by omega : k < n ∨ k = n) with hlt | heq
      · have hkX : k < Y.length := by rw [← HN.out]; exact hlt
        rcases HW.out with e | ⟨b, o, rfl, _, hc⟩
        · subst e; simp at hkX
        have x0 := (hc k hkX).1
        have x1 := (hc k hkX).2
        have q0 : decide ((k : Int) < (n : Int)) = true := by rw [decide_eq_true_iff]; omega
        have q0' : decide (k < n) = true := by rw [decide_eq_true_iff]; omega
        have q1 : (0 : Int) ≤ (k : Int) := by omega
        have q2 : (k : Int) < (n : Int) := by omega
        obtain ⟨d, hd⟩ : ∃ d, d = gd Y k := ⟨_, rfl⟩
        rw [← hd] at x0 x1
        have HDD := Lib.hid hd
        obtain ⟨dn, da⟩ := d
        simp only at x0 x1
        have HNXT : Hid (ltD (dn, da) (s, a) = true → ∀ j, j < k + 1 → ltD (gd Y j) (s, a) = true) := Lib.hid (fun h1 j hj => by
          rcases (by omega : j < k ∨ j = k) with h | rfl
          · exact HI.out j h
          · rw [← HDD.out]; exact h1)
        have HEND : Hid (ltD (dn, da) (s, a) = false → Y.take k ++ [(s, a)] ++ Y.drop k = insX Y (s, a)) := Lib.hid (fun h1 => ins_at HI.out (by rw [← HN.out]; exact hk) (.inr (by rw [← HDD.out]; exact h1)))
        have hlt1 : ltD (dn, da) (s, a) = (decide (da < a) || (decide (da = a) && bl dn s)) := rfl
        unfold bl at hlt1
        obtain ⟨b3, hb3⟩ : ∃ b, b = Op.bytesLess dn.toList s.toList := ⟨_, rfl⟩
        rw [← hb3] at hlt1
        have g3 := hb3.symm
        have HLT := Lib.hid hlt1
        clear hc hkX hd hlt1 hb3
        by_cases h1 : da < a
        · have g1 : decide (da < a) = true := decide_eq_true h1
          have HI2 := Lib.hid (HNXT.out (by rw [HLT.out, g1]; rfl))
          clear h1 g3
          go_wp2
          go_roundw
          case rel => exact ⟨k + 1, by omega, by go_num, by first | rfl | trivial, HI2⟩
          case measure => simp [intOf]; omega
        · have g1 : decide (da < a) = false := decide_eq_false h1
          by_cases h2 : da = a
          · have g2 : decide (da = a) = true := decide_eq_true h2
            have g2' : (da == a) = true := by rw [beq_iff_eq]; exact h2
            cases b3 with
            | true =>
              have HI2 := Lib.hid (HNXT.out (by rw [HLT.out, g1, g2]; rfl))
              clear h1 h2
              go_wp2
              go_roundw
              case rel => exact ⟨k + 1, by omega, by go_num, by first | rfl | trivial, HI2⟩
              case measure => simp [intOf]; omega
            | false =>
              have HI2 := Lib.hid (HEND.out (by rw [HLT.out, g1, g2]; rfl))
              clear h1 h2
              go_wp2
              exact HT.out k _ hk HI2.out rfl rfl rfl rfl rfl rfl
          · have g2 : decide (da = a) = false := decide_eq_false h2
            have g2' : (da == a) = false := by rw [beq_eq_false_iff_ne]; exact h2
            have HI2 := Lib.hid (HEND.out (by rw [HLT.out, g1, g2]; rfl))
            clear h1 h2 g3
            go_wp2
            exact HT.out k _ hk HI2.out rfl rfl rfl rfl rfl rfl
      · have HI2 := Lib.hid (ins_at HI.out (by rw [← HN.out]; exact hk) (.inl (by rw [heq]; exact HN.out)))
        have q0 : decide ((k : Int) < (n : Int)) = false := by rw [decide_eq_false_iff_not]; omega
        have q0' : decide (k < n) = false := by rw [decide_eq_false_iff_not]; omega
        clear heq
        go_wp2
        exact HT.out k _ hk HI2.out rfl rfl rfl rfl rfl rfl
  · go_wp2_with fail
    refine HD.out.mono ?_
    rintro e w2 ⟨A1, c1, rfl, hx, hfr, hne⟩
    clear c0
    obtain ⟨Y, hY⟩ : ∃ Y, Y = dropX X s := ⟨_, rfl⟩
    rw [← hY] at hx
    have HLY : Hid (Y.length ≤ 256) := Lib.hid (by rw [hY]; exact HLEN.out)
    have HY := Lib.hid hY
    have y0 := hx.blk.cell 0
    simp only [List.getElem?_toArray, List.getElem?_cons_zero] at y0
    have HX := Lib.hid hx
    have HFR := Lib.hid hfr
    have HNE := Lib.hid hne
    obtain ⟨n, hn⟩ : ∃ n, n = Y.length := ⟨_, rfl⟩
    rw [← hn] at y0
    have HN := Lib.hid hn
    have HW := Lib.hid HX.out.rl
    have hn256 : n ≤ 256 := by rw [hn]; exact HLY.out
    clear hx hfr hne hY hn
    go_wp2_with fail
    rename_i K hK
    have HT : Hid (∀ (k : Nat) (act : Act), k ≤ n → Y.take k ++ [(s, a)] ++ Y.drop k = insX Y (s, a) → act.tmps.size = 107 → act.defers = [] → act.tmps.getD 0 undef = .pointer (some ⟨x, 0, none⟩) → act.tmps.getD 1 undef = .string s → act.tmps.getD 2 undef = .int .i64 a → act.tmps.getD 7 undef = .int .i64 (k : Int) → K act w2) := Lib.hid (fun k act hk hins hsz hdf g0 g1 g2 g7 => hK _ _ (set_tail HX.out (by rw [← HN.out]; exact hk) HLY.out act hsz hdf g0 g1 g2 g7 _ (fun e w' hp => by
      obtain ⟨A', c', he, k1, k2, k3⟩ := hp
      rw [hins, HY.out] at k1
      refine ⟨A', c', he, k1, HFR.out.trans k2, fun ad e => ?_⟩
      rcases k3 ad e with ⟨ad0, e1, e2⟩ | h3
      · rcases HNE.out ad0 e1 with ⟨ad1, e3, e4⟩ | h4
        · exact .inl ⟨ad1, e3, e4.trans e2⟩
        · exact .inr (by rw [← e2]; exact h4)
      · exact .inr (Nat.le_trans HFR.out.size h3))))
    clear hK
    go_loopw [7] (fun i wr => ∃ k : Nat, k ≤ n ∧ i = .int .i64 (k : Int) ∧ wr = w2 ∧ Hid (∀ j, j < k → ltD (gd Y j) (s, a) = true)) (fun i _ => n - (intOf i).toNat)
    case atStart => exact ⟨0, Nat.zero_le _, rfl, rfl, Lib.hid (fun j hj => by omega)⟩
    case round =>
      obtain ⟨k, hk, rfl, rfl, HI⟩ := hrel
      rcases (by omega : k < n ∨ k = n) with hlt | heq
      · have hkX : k < Y.length := by rw [← HN.out]; exact hlt
        rcases HW.out with e | ⟨b, o, rfl, _, hc⟩
        · subst e; simp at hkX
        have x0 := (hc k hkX).1
        have x1 := (hc k hkX).2
        have q0 : decide ((k : Int) < (n : Int)) = true := by rw [decide_eq_true_iff]; omega
        have q0' : decide (k < n) = true := by rw [decide_eq_true_iff]; omega
        have q1 : (0 : Int) ≤ (k : Int) := by omega
        have q2 : (k : Int) < (n : Int) := by omega
        obtain ⟨d, hd⟩ : ∃ d, d = gd Y k := ⟨_, rfl⟩
        rw [← hd] at x0 x1
        have HDD := Lib.hid hd
        obtain ⟨dn, da⟩ := d
        simp only at x0 x1
        have HNXT : Hid (ltD (dn, da) (s, a) = true → ∀ j, j < k + 1 → ltD (gd Y j) (s, a) = true) := Lib.hid (fun h1 j hj => by
          rcases (by omega : j < k ∨ j = k) with h | rfl
          · exact HI.out j h
          · rw [← HDD.out]; exact h1)
        have HEND : Hid (ltD (dn, da) (s, a) = false → Y.take k ++ [(s, a)] ++ Y.drop k = insX Y (s, a)) := Lib.hid (fun h1 => ins_at HI.out (by rw [← HN.out]; exact hk) (.inr (by rw [← HDD.out]; exact h1)))
        have hlt1 : ltD (dn, da) (s, a) = (decide (da < a) || (decide (da = a) && bl dn s)) := rfl
        unfold bl at hlt1
        obtain ⟨b3, hb3⟩ : ∃ b, b = Op.bytesLess dn.toList s.toList := ⟨_, rfl⟩
        rw [← hb3] at hlt1
        have g3 := hb3.symm
        have HLT := Lib.hid hlt1
        clear hc hkX hd hlt1 hb3
        by_cases h1 : da < a
        · have g1 : decide (da < a) = true := decide_eq_true h1
          have HI2 := Lib.hid (HNXT.out (by rw [HLT.out, g1]; rfl))
          clear h1 g3
          go_wp2
          go_roundw
          case rel => exact ⟨k + 1, by omega, by go_num, by first | rfl | trivial, HI2⟩
          case measure => simp [intOf]; omega
        · have g1 : decide (da < a) = false := decide_eq_false h1
          by_cases h2 : da = a
          · have g2 : decide (da = a) = true := decide_eq_true h2
            have g2' : (da == a) = true := by rw [beq_iff_eq]; exact h2
            cases b3 with
            | true =>
              have HI2 := Lib.hid (HNXT.out (by rw [HLT.out, g1, g2]; rfl))
              clear h1 h2
              go_wp2
              go_roundw
              case rel => exact ⟨k + 1, by omega, by go_num, by first | rfl | trivial, HI2⟩
              case measure => simp [intOf]; omega
            | false =>
              have HI2 := Lib.hid (HEND.out (by rw [HLT.out, g1, g2]; rfl))
              clear h1 h2
              go_wp2
              exact HT.out k _ hk HI2.out rfl rfl rfl rfl rfl rfl
          · have g2 : decide (da = a) = false := decide_eq_false h2
            have g2' : (da == a) = false := by rw [beq_eq_false_iff_ne]; exact h2
            have HI2 := Lib.hid (HEND.out (by rw [HLT.out, g1, g2]; rfl))
            clear h1 h2 g3
            go_wp2
            exact HT.out k _ hk HI2.out rfl rfl rfl rfl rfl rfl
      · have HI2 := Lib.hid (ins_at HI.out (by rw [← HN.out]; exact hk) (.inl (by rw [heq]; exact HN.out)))
        have q0 : decide ((k : Int) < (n : Int)) = false := by rw [decide_eq_false_iff_not]; omega
        have q0' : decide (k < n) = false := by rw [decide_eq_false_iff_not]; omega
        clear heq
        go_wp2
        exact HT.out k _ hk HI2.out rfl rfl rfl rfl rfl rfl
theorem xset_any {x c : Nat} {A : Option Addr} {X : List Du} (w : World) (h : XAt w x A c X) (s : ByteArray) (a : Int) (hf : X.length ≤ 256) (hnd : (Nm X).Nodup) :
    Calls Try.prog 22 #[.pointer (some ⟨x, 0, none⟩), .string s, .int .i64 a] w fun e w' => XPost w x A (.returned (.int .i64 (setE X s a))) (setR X s a) e w' := by
  unfold setE setR
  cases hok : okSet s a with
  | false =>
    rw [if_pos rfl, if_pos rfl]
    refine (xset_bad w s a hok).mono ?_
    rintro e w' ⟨rfl, rfl⟩
    exact ⟨A, c, rfl, h, Fr.refl _ _, fun ad e => .inl ⟨ad, e, rfl⟩⟩
  | true =>
    rw [if_neg (show ¬ (true = false) by simp), if_neg (show ¬ (true = false) by simp)]
    by_cases hfl : idxL X s = none ∧ 256 ≤ X.length
    · rw [if_pos hfl, if_pos hfl]
      refine (xset_full w h s a hf hok hfl.1 hfl.2).mono ?_
      rintro e w' ⟨rfl, rfl⟩
      exact ⟨A, c, rfl, h, Fr.refl _ _, fun ad e => .inl ⟨ad, e, rfl⟩⟩
    · rw [if_neg hfl, if_neg hfl]
      exact xset_ok w h s a hf hnd hok hfl
end Go.Proofs.Ytdhilhjiccpkkaa
