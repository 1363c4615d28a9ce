/-
  The document's Put: its loops.
-/
import Derived.Test.YtgpcinfhcamgpaaGreatDoorStF7
namespace Go.Proofs.YtgpcinfhcamgpaaGreatDoor
open Go.RowKit
attribute [local go_sem ↓] Go.wp_at_zero Go.wp_at_succ
set_option linter.unusedVariables false
set_option linter.unusedSimpArgs false

theorem bl_flip (x s : ByteArray) (h : ¬ x = s) : bl' s x = !bl' x s := by
  have h1 := bytesLess_flip x.toList s.toList
  have h2 : (x.toList == s.toList) = false := by
    have := nm_beq x s
    rw [decide_eq_false h] at this
    exact this
  unfold bl'
  rw [← h1, h2]
  simp
theorem put_two {fs : List FV} {s : ByteArray} {bl : List UInt8} (j : Nat) (f : FV) (hf : FV.fi f = ⟨s, bl⟩) (hne : ∀ j (hj : j < fs.length), ¬ fs[j].nm = s) (hj : fs.findIdx (fun f => bl' s f.nm) = j) : fiL ((([] ++ fs.take j) ++ [f]) ++ fs.drop j) = putP (fiL fs) ⟨s, bl⟩ := by
  rw [← put_ins (fs := fs) rfl j f hf (idxG_miss _ fs (fun k hk => by simpa using hne k hk)) hj]
  simp
theorem put_one {fs : List FV} {s : ByteArray} {bl : List UInt8} (k : Nat) (hk : k < fs.length) (f : FV) (hf : FV.fi f = ⟨s, bl⟩) (hz : idxG (fun f : FV => decide (f.nm = s)) fs = (k : Int)) : fiL ((([] ++ fs.take k) ++ [f]) ++ fs.drop (k + 1)) = putP (fiL fs) ⟨s, bl⟩ := by
  rw [← put_set (fs := fs) rfl k hk hz, ← hf, ← fiL_setF fs k hk f, List.set_eq_take_append_cons_drop, if_pos hk]
  simp
set_option maxRecDepth 100000 in
set_option maxHeartbeats 16000000 in
theorem rput_two (B : Nat) (A : Option Addr) (n c : Nat) (fs : List FV) (s : ByteArray) (A2 : Option Addr) (nb c2 : Nat) (bl : List UInt8) (q : Nat) (u : Nat → Value) (w2 : World) (P : Ending → World → Prop) (hu0 : u 0 = .slice A n c) (hu1 : u 1 = .string s) (hu7 : u 7 = .pointer (some ⟨q, 0, none⟩)) (hl : Fls w2 A fs) (hn : fs.length = n) (hbig : n ≤ 1000000000000) (hnc : n ≤ c) (hc : c ≤ maxLen) (hv : ∀ f ∈ fs, FVs w2 B f) (hB : B ≤ w2.heap.size) (hq : Blk w2 q 55 #[.string s, .slice A2 nb c2]) (hnb : bl.length = nb) (hf : FVs w2 B ⟨s, A2, c2, bl⟩) (hne : ∀ j (hj : j < fs.length), ¬ fs[j].nm = s)
    (hend : ∀ v' w' gs, OFs B w' w2.heap.size v' gs → fiL gs = putP (fiL fs) ⟨s, bl⟩ → Below w2.heap.size w2 w' → PF P (.returned v') w') :
    Code.wp Tryz.prog (partG [1, 1, 1] rputC) (bodyPost Tryz.prog Tryz.f32 (PF P)) (rAct u) w2 := by
  have HTEN : Hid (∀ (a : Act) (i : Nat), a.tmps.size = 66 → a.defers = [] → a.tmps.getD 0 undef = .slice A n c → a.tmps.getD 7 undef = .pointer (some ⟨q, 0, none⟩) → a.tmps.getD 9 undef = .int .i64 (i : Int) → i ≤ n → fs.findIdx (fun f => bl' s f.nm) = i → Code.wp Tryz.prog (partG [1, 1, 1, 1, 1] rputC) (bodyPost Tryz.prog Tryz.f32 (PF P)) a w2) := Lib.hid (by
    intro a i hs hd h0 h7 h9 hi hj
    obtain ⟨v, hv', rfl⟩ := ract_lit a hs hd
    exact rput_ten B A n c fs s A2 nb c2 bl i q v w2 P _ (fun c a a' w e h => ⟨e ▸ h.1, h.2⟩) (fun a w h => h) ((hv' 0).symm.trans h0) ((hv' 7).symm.trans h7) ((hv' 9).symm.trans h9) hl hn hbig hnc hc hv hB hq hnb hf hi (fun v' w' h1 h2 => hend v' w' _ h1 (put_two i _ rfl hne hj) h2))
  have HF := Lib.hid hl
  have HN := Lib.hid hn
  have HNE := Lib.hid hne
  have HS9 : Hid (∀ (j : Nat) (hj : j < fs.length), bl' s fs[j].nm = !bl' fs[j].nm s) := Lib.hid (fun j hj => bl_flip _ _ (hne j hj))
  rw [show partG [1, 1, 1] rputC = (partG [1, 1, 1, 0] rputC).seq ((partG [1, 1, 1, 1, 0] rputC).seq (partG [1, 1, 1, 1, 1] rputC)) from rfl]
  generalize partG [1, 1, 1, 1, 1] rputC = KT at HTEN ⊢
  unfold maxLen at hc
  clear hl hn hv hB hq hnb hf hend hne
  conv => arg 2; arg 1; whnf
  conv => arg 2; arg 2; arg 1; whnf
  unfold rAct
  rw [hu0, hu1, hu7]
  clear hu0 hu1 hu7
  go_wp2_with fail
  go_loop [9] (fun i => ∃ k : Nat, k ≤ n ∧ i = .int .i64 (k : Int) ∧ Hid (∀ j (hj : j < fs.length), j < k → bl' fs[j].nm s = true)) (fun i => n - (intOf i).toNat)
  case atStart => exact ⟨0, Nat.zero_le _, rfl, Lib.hid (fun j hj h => by omega)⟩
  case round =>
    obtain ⟨k, hk, rfl, HJ⟩ := hrel
    rcases (by omega : k < n ∨ k = n) with hlt | heq
    · have q0 : decide ((k : Int) < (n : Int)) = true := by rw [decide_eq_true_iff]; omega
      have q0' : decide (k < n) = true := by rw [decide_eq_true_iff]; omega
      have hkl : k < fs.length := by rw [HN.out]; exact hlt
      obtain ⟨b, o, hA, hb, c0, c1, _⟩ := HF.out.at_ hkl
      subst hA
      have hki : (k : Int) < (n : Int) := by omega
      have hk0 : (0 : Int) ≤ (k : Int) := by omega
      cases hq : bl' fs[k].nm s with
      | true =>
        have hq' : Op.bytesLess fs[k].nm.toList s.toList = true := hq
        have HJ2 : Hid (∀ j (hj : j < fs.length), j < k + 1 → bl' fs[j].nm s = true) := Lib.hid (fun j hj h => by
          rcases (by omega : j < k ∨ j = k) with h1 | h1
          · exact HJ.out j hj h1
          · subst h1; exact hq)
        clear hq hb
        go_wp2
        go_round
        case rel => exact ⟨k + 1, by omega, by go_num, HJ2⟩
        case measure => simp [intOf]; omega
      | false =>
        have hq' : Op.bytesLess fs[k].nm.toList s.toList = false := hq
        have HI : Hid (fs.findIdx (fun f => bl' s f.nm) = k) := Lib.hid ((List.findIdx_eq hkl).2 ⟨by rw [HS9.out k hkl, hq]; rfl, fun j hj => by rw [HS9.out j (by omega), HJ.out j (by omega) hj]; rfl⟩)
        clear hq hb
        go_wp2
        exact HTEN.out _ k rfl rfl rfl rfl rfl (by omega) HI.out
    · have q0 : decide ((k : Int) < (n : Int)) = false := by rw [decide_eq_false_iff_not]; omega
      have q0' : decide (k < n) = false := by rw [decide_eq_false_iff_not]; omega
      have HI : Hid (fs.findIdx (fun f => bl' s f.nm) = k) := Lib.hid (by
        rw [heq, ← HN.out]
        refine List.findIdx_eq_length.2 (fun x hx => ?_)
        obtain ⟨j, hj, rfl⟩ := List.getElem_of_mem hx
        rw [HS9.out j hj, HJ.out j hj (by rw [heq, ← HN.out]; exact hj)]
        rfl)
      clear heq
      go_wp2
      exact HTEN.out _ k rfl rfl rfl rfl rfl (by omega) HI.out
/-- what the first loop keeps -/
def R1I (w2 : World) (v0 v1 v7 : Value) (fs : List FV) (s : ByteArray) (n k : Nat) (a : Act) (w : World) : Prop :=
  a.tmps.size = 66 ∧ a.defers = [] ∧ a.tmps.getD 0 undef = v0 ∧ a.tmps.getD 1 undef = v1 ∧ a.tmps.getD 7 undef = v7 ∧ a.tmps.getD 8 undef = .int .i64 (k : Int) ∧ k ≤ n ∧ w = w2 ∧ ∀ j (hj : j < fs.length), j < k → ¬ fs[j].nm = s
def muR (n : Nat) (a : Act) (_ : World) : Nat := n - (intOf (a.tmps.getD 8 undef)).toNat
set_option maxRecDepth 100000 in
set_option maxHeartbeats 16000000 in
theorem rput_one (B : Nat) (A : Option Addr) (n c : Nat) (fs : List FV) (s : ByteArray) (A2 : Option Addr) (nb c2 : Nat) (bl : List UInt8) (q : Nat) (u : Nat → Value) (w2 : World) (P : Ending → World → Prop) (hu0 : u 0 = .slice A n c) (hu1 : u 1 = .string s) (hu7 : u 7 = .pointer (some ⟨q, 0, none⟩)) (hl : Fls w2 A fs) (hn : fs.length = n) (hbig : n ≤ 1000000000000) (hnc : n ≤ c) (hc : c ≤ maxLen) (hv : ∀ f ∈ fs, FVs w2 B f) (hB : B ≤ w2.heap.size) (hq : Blk w2 q 55 #[.string s, .slice A2 nb c2]) (hnb : bl.length = nb) (hf : FVs w2 B ⟨s, A2, c2, bl⟩)
    (hend : ∀ v' w' gs, OFs B w' w2.heap.size v' gs → fiL gs = putP (fiL fs) ⟨s, bl⟩ → Below w2.heap.size w2 w' → PF P (.returned v') w') :
    Code.wp Tryz.prog (partG [1, 1] rputC) (bodyPost Tryz.prog Tryz.f32 (PF P)) (rAct u) w2 := by
  have HTWO : Hid (∀ a : Act, a.tmps.size = 66 → a.defers = [] → a.tmps.getD 0 undef = .slice A n c → a.tmps.getD 1 undef = .string s → a.tmps.getD 7 undef = .pointer (some ⟨q, 0, none⟩) → (∀ j (hj : j < fs.length), ¬ fs[j].nm = s) → Code.wp Tryz.prog (partG [1, 1, 1] rputC) (bodyPost Tryz.prog Tryz.f32 (PF P)) a w2) := Lib.hid (by
    intro a hs hd h0 h1 h7 hne
    obtain ⟨v, hv', rfl⟩ := ract_lit a hs hd
    exact rput_two B A n c fs s A2 nb c2 bl q v w2 P ((hv' 0).symm.trans h0) ((hv' 1).symm.trans h1) ((hv' 7).symm.trans h7) hl hn hbig hnc hc hv hB hq hnb hf hne hend)
  have HSIX : Hid (∀ (a : Act) (i : Nat) (Q : Exit → Act → World → Prop), (∀ (c : List PanicEntry) (a a' : Act) (w : World), a.defers = a'.defers → Q (.panic c) a w → Q (.panic c) a' w) → (∀ a w, bodyPost Tryz.prog Tryz.f32 (PF P) .ret a w → Q .ret a w) → a.tmps.size = 66 → a.defers = [] → a.tmps.getD 0 undef = .slice A n c → a.tmps.getD 7 undef = .pointer (some ⟨q, 0, none⟩) → a.tmps.getD 8 undef = .int .i64 (i : Int) → i < n → idxG (fun f : FV => decide (f.nm = s)) fs = (i : Int) →
      Code.wp Tryz.prog (partG [1, 1, 0, 1, 2, 3, 1, 0, 2, 1, 4] rputC) Q a w2) := Lib.hid (by
    intro a i Q hqp hret hs hd h0 h7 h8 hi hz
    obtain ⟨v, hv', rfl⟩ := ract_lit a hs hd
    exact rput_six B A n c fs s A2 nb c2 bl i q v w2 P Q hqp hret ((hv' 0).symm.trans h0) ((hv' 7).symm.trans h7) ((hv' 8).symm.trans h8) hl hn hbig hnc hc hv hB hq hnb hf hi (fun v' w' h1 h2 => hend v' w' _ h1 (put_one i (by omega) _ rfl hz) h2))
  have HF := Lib.hid hl
  have HN := Lib.hid hn
  rw [show partG [1, 1] rputC = ((partG [1, 1, 0, 0] rputC).seq (.block 0 (.loop ((partG [1, 1, 0, 1, 2, 3, 0] rputC).seq ((Code.block 1 ((partG [1, 1, 0, 1, 2, 3, 1, 0, 2, 0] rputC).seq (.cond (.tmp 25) (partG [1, 1, 0, 1, 2, 3, 1, 0, 2, 1, 4] rputC) .skip))).seq (partG [1, 1, 0, 1, 2, 3, 1, 1] rputC)))))).seq (partG [1, 1, 1] rputC) from rfl]
  generalize partG [1, 1, 1] rputC = KT at HTWO ⊢
  generalize partG [1, 1, 0, 1, 2, 3, 1, 0, 2, 1, 4] rputC = K6 at HSIX ⊢
  unfold maxLen at hc
  clear hl hn hv hB hq hnb hf hend
  refine wp_seq ?_
  obtain ⟨BL, hBL⟩ : ∃ BL, BL = Code.block 0 (.loop ((partG [1, 1, 0, 1, 2, 3, 0] rputC).seq ((Code.block 1 ((partG [1, 1, 0, 1, 2, 3, 1, 0, 2, 0] rputC).seq (.cond (.tmp 25) K6 .skip))).seq (partG [1, 1, 0, 1, 2, 3, 1, 1] rputC)))) := ⟨_, rfl⟩
  rw [← hBL]
  obtain ⟨QE, hQE⟩ : ∃ QE, QE = (Exit.then (Code.wp Tryz.prog KT (bodyPost Tryz.prog Tryz.f32 (PF P))) (bodyPost Tryz.prog Tryz.f32 (PF P))) := ⟨_, rfl⟩
  rw [← hQE]
  have HQE := Lib.hid hQE
  have HBL := Lib.hid hBL
  clear hQE hBL
  conv => arg 2; arg 1; whnf
  unfold rAct
  rw [hu0, hu1, hu7]
  clear hu0 hu1 hu7
  go_wp2_with fail
  rw [HBL.out]
  clear HBL
  refine wp_block ?_
  refine wp_loop (fun a w => ∃ k, R1I w2 (.slice A n c) (.string s) (.pointer (some ⟨q, 0, none⟩)) fs s n k a w) (muR n) ⟨0, rfl, rfl, rfl, rfl, rfl, rfl, Nat.zero_le _, rfl, fun j hj h => by omega⟩ ?_
  intro a wr2 hI
  obtain ⟨k, hs, hd, h0, h1, h7, h8, hk, hw, hj⟩ := hI
  rw [hw]
  obtain ⟨v, hv, rfl⟩ := ract_lit a hs hd
  rw [hv] at h0 h1 h7 h8
  have HJ := Lib.hid hj
  have hmu : ∀ w, muR n (rAct v) w = n - k := fun w => by
    show n - (intOf (v 8)).toNat = _
    rw [h8]
    simp [intOf]
  rw [hmu]
  refine (?_ : ∀ QI, QI = _ → Code.wp _ _ QI _ _) _ rfl
  intro QI hQI
  have HPI : Hid (∀ (c : List PanicEntry) (a a' : Act) (w : World), a.defers = a'.defers → QI (.panic c) a w → QI (.panic c) a' w) := Lib.hid (by
    rw [hQI, HQE.out]
    exact fun c a a' w e h => ⟨e ▸ h.1, h.2⟩)
  have HRI : Hid (∀ a w, bodyPost Tryz.prog Tryz.f32 (PF P) .ret a w → QI .ret a w) := Lib.hid (by
    rw [hQI, HQE.out]
    exact fun a w h => h)
  have HOUT : Hid (∀ a w, QE .normal a w → QI (.exit 0) a w) := Lib.hid (by
    rw [hQI]
    exact fun a w h => h)
  have HNX : Hid (∀ a w, (∃ k', R1I w2 (.slice A n c) (.string s) (.pointer (some ⟨q, 0, none⟩)) fs s n k' a w ∧ n - k' < n - k) → QI .normal a w) := Lib.hid (by
    rw [hQI]
    rintro a w ⟨k', h1, h2⟩
    refine ⟨⟨k', h1⟩, ?_⟩
    show n - (intOf (a.tmps.getD 8 undef)).toNat < n - k
    rw [h1.2.2.2.2.2.1]
    simpa [intOf] using h2)
  clear hQI
  refine wp_seq ?_
  refine (?_ : ∀ Q2, Q2 = _ → Code.wp _ _ Q2 _ _) _ rfl
  intro Q2 hQ2
  have HQ2 := Lib.hid hQ2
  clear hQ2
  conv => arg 2; whnf
  unfold rAct
  rw [h0, h1, h7, h8]
  clear hs hd hv h0 h1 h7 h8 hmu hj hw
  rcases (by omega : k < n ∨ k = n) with hlt | heq
  · have q0 : decide ((k : Int) < (n : Int)) = true := by rw [decide_eq_true_iff]; omega
    have q0' : decide (k < n) = true := by rw [decide_eq_true_iff]; omega
    go_wp2
    rw [HQ2.out]
    refine wp_seq ?_
    refine wp_block ?_
    refine wp_seq ?_
    refine (?_ : ∀ Q3, Q3 = _ → Code.wp _ _ Q3 _ _) _ rfl
    intro Q3 hQ3
    have HQ3 := Lib.hid hQ3
    clear hQ3
    have hkl : k < fs.length := by rw [HN.out]; exact hlt
    obtain ⟨b, o, hA, hb, c0, c1, _⟩ := HF.out.at_ hkl
    subst hA
    have hki : (k : Int) < (n : Int) := by omega
    have hk0 : (0 : Int) ≤ (k : Int) := by omega
    have hq := nm_beq fs[k].nm s
    conv => arg 2; whnf
    by_cases he : fs[k].nm = s
    · rw [decide_eq_true he] at hq
      have HI : Hid (idxG (fun f : FV => decide (f.nm = s)) fs = (k : Int)) := Lib.hid (idxG_hit _ fs k hkl (by simpa using he) (fun j hj h => by simpa using HJ.out j hj h))
      have HLT := Lib.hid hlt
      clear he hb
      go_wp2
      rw [HQ3.out]
      refine (?_ : ∀ Q4, Q4 = Exit.inBlock 1 (Exit.then (Code.wp Tryz.prog (partG [1, 1, 0, 1, 2, 3, 1, 1] rputC) QI) QI) → Exit.then (Code.wp Tryz.prog (Code.cond (.tmp 25) K6 .skip) Q4) Q4 .normal _ _) _ rfl
      intro Q4 hQ4
      show Code.wp Tryz.prog (Code.cond (.tmp 25) K6 .skip) Q4 _ _
      have HQ4 := Lib.hid hQ4
      clear hQ4
      go_wp2
      refine HSIX.out _ k _ ?_ ?_ rfl rfl rfl rfl rfl HLT.out HI.out
      · rw [HQ4.out]
        exact fun c a a' w e h => HPI.out c a a' w e h
      · rw [HQ4.out]
        exact fun a w h => HRI.out a w h
    · rw [decide_eq_false he] at hq
      have HJ2 : Hid (∀ j (hj : j < fs.length), j < k + 1 → ¬ fs[j].nm = s) := Lib.hid (fun j hj h => by
        rcases (by omega : j < k ∨ j = k) with h1 | h1
        · exact HJ.out j hj h1
        · subst h1; exact he)
      clear he hb
      go_wp2
      rw [HQ3.out]
      refine (?_ : ∀ Q4, Q4 = Exit.inBlock 1 (Exit.then (Code.wp Tryz.prog (partG [1, 1, 0, 1, 2, 3, 1, 1] rputC) QI) QI) → Exit.then (Code.wp Tryz.prog (Code.cond (.tmp 25) K6 .skip) Q4) Q4 .normal _ _) _ rfl
      intro Q4 hQ4
      show Code.wp Tryz.prog (Code.cond (.tmp 25) K6 .skip) Q4 _ _
      have HQ4 := Lib.hid hQ4
      clear hQ4
      go_wp2
      rw [HQ4.out]
      show Code.wp Tryz.prog (partG [1, 1, 0, 1, 2, 3, 1, 1] rputC) QI _ _
      conv => arg 2; whnf
      have hk9 : (k : Int) < 1000000000000 := by omega
      go_wp2
      exact HNX.out _ _ ⟨k + 1, ⟨rfl, rfl, rfl, rfl, rfl, by show Value.int _ _ = _; congr 1, by omega, rfl, HJ2.out⟩, by omega⟩
  · have q0 : decide ((k : Int) < (n : Int)) = false := by rw [decide_eq_false_iff_not]; omega
    have q0' : decide (k < n) = false := by rw [decide_eq_false_iff_not]; omega
    have HNE : Hid (∀ j (hj : j < fs.length), ¬ fs[j].nm = s) := Lib.hid (fun j hj => HJ.out j hj (by rw [heq, ← HN.out]; exact hj))
    clear heq
    go_wp2
    rw [HQ2.out]
    refine HOUT.out _ _ ?_
    rw [HQE.out]
    exact HTWO.out _ rfl rfl rfl rfl rfl HNE.out
set_option maxRecDepth 100000 in
set_option maxHeartbeats 8000000 in
theorem rput_any (B : Nat) (A : Option Addr) (n c : Nat) (fs : List FV) (s : ByteArray) (A2 : Option Addr) (nb c2 : Nat) (bl : List UInt8) (w : World) (hl : Fls w A fs) (hn : fs.length = n) (hbig : n ≤ 1000000000000) (hnc : n ≤ c) (hc : c ≤ maxLen) (hv : ∀ f ∈ fs, FVs w B f) (hB : B ≤ w.heap.size) (hb : RB w A2 bl) (hbB : BodyS w B A2 bl) (hbn : bl.length = nb) (hbc : nb ≤ c2 ∧ c2 ≤ maxLen) :
    Calls Tryz.prog 32 #[.slice A n c, .string s, .slice A2 nb c2] w fun e w' => PutP B fs s bl w e w' := by
  show Calls Tryz.prog 32 #[.slice A n c, .string s, .slice A2 nb c2] w fun e w' => PF (PutP B fs s bl w) e w'
  have HONE : Hid (∀ (a : Act) (w2 : World) (q : Nat), a.tmps.size = 66 → a.defers = [] → a.tmps.getD 0 undef = .slice A n c → a.tmps.getD 1 undef = .string s → a.tmps.getD 7 undef = .pointer (some ⟨q, 0, none⟩) → Below w.heap.size w w2 → Blk w2 q 55 #[.string s, .slice A2 nb c2] →
      Code.wp Tryz.prog (partG [1, 1] rputC) (bodyPost Tryz.prog Tryz.f32 (PF (PutP B fs s bl w))) a w2) := Lib.hid (by
    intro a w2 q hs hd h0 h1 h7 hb2 hq
    obtain ⟨v, hv', rfl⟩ := ract_lit a hs hd
    exact rput_one B A n c fs s A2 nb c2 bl q v w2 (PutP B fs s bl w) ((hv' 0).symm.trans h0) ((hv' 1).symm.trans h1) ((hv' 7).symm.trans h7) (hl.below hb2) hn hbig hnc hc (fun f hf => (hv f hf).below hb2) (Nat.le_trans hB hb2.size) hq hbn ⟨hbB.below hb2, by rw [hbn]; exact hbc⟩
      (fun v' w' gs h1 h2 h3 => ⟨v', gs, rfl, h1.base_le hb2.size, h2, hb2.trans (h3.mono hb2.size)⟩))
  refine calls_of_wp Tryz.func32 (c := rputC) rfl ?_
  simp only [Tryz.ntmps32, List.size_toArray, List.length_cons, List.length_nil, Nat.reduceAdd, Nat.reduceSub, Array.replicate_succ, Array.replicate_zero, List.push_toArray, List.append_toArray, List.nil_append, List.cons_append]
  rw [show rputC = (partG [0] rputC).seq ((partG [1, 0] rputC).seq (partG [1, 1] rputC)) from rfl]
  generalize partG [1, 1] rputC = KT at HONE ⊢
  clear hl hn hv hB hb hbB hbn hbc hnc hc
  conv => arg 2; arg 1; whnf
  conv => arg 2; arg 2; arg 1; whnf
  go_wp2
  exact HONE.out _ _ w.heap.size rfl rfl rfl rfl rfl ((Below.refl _ _).alloc (Nat.le_refl _) _) (Blk.new _ _ _)
end Go.Proofs.YtgpcinfhcamgpaaGreatDoor
