/-
  The law OctetReads, walked.
-/
import Derived.Test.YtleancgkincenaaDoorAskAny
import Derived.LoopTactic
import Derived.Outline
namespace Go.Proofs.YtleancgkincenaaDoor
open Go.RowKit
set_option linter.unusedVariables false

/-- questions that came in: pairs of numbers, below block B -/
def Ops (w : World) (B : Nat) (A : Option Addr) (n : Nat) : Prop :=
  ∀ i, i < n → ∃ (ad : Addr) (k z : Int), A = some ad ∧ ad.block < B ∧ w.cell? (ad.add (i * 2)) = some (.int .i64 k) ∧ w.cell? (ad.add (i * 2 + 1)) = some (.int .i64 z)

theorem below3 {w w1 w2 w3 : World} (h1 : Below w.heap.size w w1) (h2 : Below w1.heap.size w1 w2) (h3 : Below w2.heap.size w2 w3) : Below w.heap.size w w3 :=
  (h1.trans (h2.mono h1.size)).trans (h3.mono (Nat.le_trans h1.size h2.size))
theorem below2 {w w1 w2 : World} (h1 : Below w.heap.size w w1) (h2 : Below w1.heap.size w1 w2) : Below w.heap.size w w2 := h1.trans (h2.mono h1.size)
theorem below_new (w : World) (o : Obj) : Below w.heap.size w (w.alloc o) := (Below.refl _ _).alloc (Nat.le_refl _) _
theorem Fr.belowB {S : Nat → Prop} {B : Nat} {W w w' : World} (h : Below B W w) (hf : Fr S w w') (hS : ∀ k, S k → B ≤ k) (hB : B ≤ w.heap.size) : Below B W w' :=
  ⟨hf.os.trans h.os, hf.tape.trans h.tape, hf.output.trans h.output, Nat.le_trans h.size hf.size, fun k hk => (hf.block k (by omega) (fun hs => by have := hS k hs; omega)).trans (h.block k hk)⟩
/-- a block of bytes, the first n of which are numbers -/
def OwnB (w : World) (g n : Nat) : Prop := ∃ cs, Blk w g 5 cs ∧ ∀ j, j < n → ∃ z, cs[j]? = some (.int .u8 z)
theorem OwnB.at_ {w : World} {g n k : Nat} (h : OwnB w g n) (hk : k < n) : ∃ z, w.cell? ⟨g, k, none⟩ = some (.int .u8 z) ∧ w.frozen? ⟨g, k, none⟩ = false := by
  obtain ⟨cs, hb, hc⟩ := h
  obtain ⟨z, hz⟩ := hc k hk
  exact ⟨z, (hb.cell k).trans hz, hb.frozen k⟩
theorem OwnB.set {w : World} {g n : Nat} (h : OwnB w g n) (k : Nat) (z : Int) : OwnB (w.setCell ⟨g, k, none⟩ (.int .u8 z)) g n := by
  obtain ⟨cs, hb, hc⟩ := h
  refine ⟨_, hb.set_ k _, fun j hj => ?_⟩
  obtain ⟨y, hy⟩ := hc j hj
  have hlt : j < cs.size := by
    rcases Nat.lt_or_ge j cs.size with h1 | h1
    · exact h1
    · rw [Array.getElem?_eq_none h1] at hy; cases hy
  by_cases e : k = j
  · subst e
    exact ⟨z, by simp [hlt]⟩
  · exact ⟨y, by rw [Array.getElem?_setIfInBounds_ne e]; exact hy⟩
theorem OwnB.fr {S : Nat → Prop} {w w' : World} {g n : Nat} (h : OwnB w g n) (hf : Fr S w w') (hg : ¬ S g) : OwnB w' g n := by
  obtain ⟨cs, hb, hc⟩ := h
  exact ⟨cs, hb.fr hf hg, hc⟩
theorem OwnB.of_ob {w : World} {base g n c : Nat} {l : List UInt8} (h : OB w base (.slice (some ⟨g, 0, none⟩) n c) l) (hl : l.length = n) : OwnB w g n := by
  subst hl
  obtain ⟨cs, hb⟩ := h.typed _ rfl
  refine ⟨cs, hb, fun j hj => ?_⟩
  obtain ⟨A, c', he, _, _, hR, hA⟩ := h.shape
  injection he with e1 e2 e3
  subst e1
  obtain ⟨ad, e, _, hc⟩ := hR.at_ hj
  cases e
  exact ⟨_, (hb.cell j).symm.trans ((congrArg w.cell? (show (⟨g, j, none⟩ : Addr) = Addr.add ⟨g, 0, none⟩ j from by unfold Addr.add; split <;> simp_all)).trans hc)⟩
theorem Ops.below {w w' : World} {B : Nat} {A : Option Addr} {n : Nat} (h : Ops w B A n) (hb : Below B w w') : Ops w' B A n := by
  intro i hi
  obtain ⟨ad, k, z, e, hlt, h1, h2⟩ := h i hi
  exact ⟨ad, k, z, e, hlt, (hb.cell (by rw [block_of_add]; exact hlt)).trans h1, (hb.cell (by rw [block_of_add]; exact hlt)).trans h2⟩

set_option maxRecDepth 100000 in
set_option maxHeartbeats 800000 in
theorem reads_any (A : Option Addr) (n c : Nat) (l : List UInt8) (B : Option Addr) (m d : Nat) (W : World) (hl : l.length = n) (hn : n ≤ 5000) (hr : RB W A l) (hm : m ≤ maxLen) (ho : Ops W W.heap.size B m) :
    Calls Tryd.prog 9 #[.slice A n c, .slice B m d] W fun e w' => e = .returned (.bool true) ∧ Below W.heap.size W w' := by
  have HL := Lib.hid hl
  have HO := Lib.hid ho
  have d1 : decide (5000 < (n : Int)) = false := by rw [decide_eq_false_iff_not]; omega
  clear hl ho
  unfold maxLen at hm
  have tok1 : True := trivial
  go_enter Tryd.func9, Tryd.ntmps9
  go_wp2_with (first
    | (at_builtin
       have _t := tok1
       refine app_bytes _ rfl _ _ rfl W.heap.size _ [] rfl (emptyOB W W.heap.size (Nat.le_refl _)) A n c l rfl HL.out (hr.below ((Below.refl _ _).alloc (Nat.le_refl _) _)) (by simp; omega) (by simp) ?_
       intro v1 w1 ho1 hg1 hat1
       clear tok1
       have hb1 : Below W.heap.size W w1 := ((Below.refl _ _).alloc (Nat.le_refl _) _).grown hg1 (by simp) (by intro j hj; cases hj; exact Nat.le_refl _)
       rw [List.nil_append] at ho1
       obtain ⟨A1, c1, rfl, hc1, hm1, k1⟩ := ho1.kb_n HL.out)
    | fail)
  clear hg1 hat1
  refine (from_hi A1 n c1 l _ HL.out (by omega) k1.1).mono ?_
  rintro e w2 ⟨r, rfl, hr2, hrd, hRF, hb2⟩
  have tok2 : True := trivial
  go_wp2_with (first
    | (at_builtin
       have _t := tok2
       refine app_bytes _ rfl _ _ rfl w2.heap.size _ [] rfl (emptyOB w2 w2.heap.size (Nat.le_refl _)) A n c l rfl HL.out ((hr.below (hb1.trans (hb2.mono hb1.size))).below ((Below.refl _ _).alloc (Nat.le_refl _) _)) (by simp; omega) (by simp) ?_
       intro v3 w3 ho3 hg3 hat3
       clear tok2
       have hb3 : Below w2.heap.size w2 w3 := ((Below.refl _ _).alloc (Nat.le_refl _) _).grown hg3 (by simp) (by intro j hj; cases hj; exact Nat.le_refl _)
       rw [List.nil_append] at ho3
       obtain ⟨A3, c3, rfl, hc3, hm3, k3⟩ := ho3.kb_n HL.out)
    | fail)
  clear hg3 hat3
  have HO3 := Lib.hid ho3
  have HO1 := Lib.hid ho1
  have HRF := Lib.hid hRF
  clear ho3 ho1 hRF k1 k3
  refine (lives_any _).mono ?_
  rintro e w4 ⟨rfl, hb4⟩
  have HRD4 := Lib.hid (((hrd.below hb3).below ((Below.refl _ _).alloc (Nat.le_refl _) (.cells #[.slice A3 n c3, .bool false] 59))).below hb4)
  clear hrd
  go_wp2_with fail
  refine (left_any _ r l false HRD4.out).mono ?_
  rintro e w' ⟨rfl, rfl⟩
  rw [HL.out]
  go_wp2
  obtain ⟨q1, q2, q3⟩ : w1.heap.size ≤ w2.heap.size ∧ w2.heap.size ≤ w3.heap.size ∧ w3.heap.size < w4.heap.size := ⟨hb2.size, hb3.size, by have := hb4.size; simp at this; omega⟩
  have q0 := hb1.size
  have HB24 := Lib.hid (below3 hb2 hb3 (below2 (below_new _ _) hb4))
  have HB4 := Lib.hid (below2 hb1 HB24.out)
  have HF24 : Hid (Fr (fun k => k < w1.heap.size) w2 w4) := Fr.of_below (below2 hb3 (below2 (below_new _ _) hb4))
  have HX4 := Lib.hid ((HO3.out.below (below_new _ (.cells #[.slice A3 n c3, .bool false] 59))).below hb4)
  have HK4 := Lib.hid ((Blk.new w3 59 #[.slice A3 n c3, .bool false]).below hb4 (by simp))
  clear hr hb1 hb2 hb3 hb4 HO3 hc1 hm1 hc3 hm3 HRD4
  obtain ⟨G, hG⟩ : ∃ G : Nat, ∀ ad, A1 = some ad → ad = ⟨G, 0, none⟩ ∧ W.heap.size ≤ G ∧ G < w1.heap.size := by
    obtain ⟨A', c', he, _, _, _, hA⟩ := HO1.out.shape
    injection he with e1 e2 e3
    subst e1
    rcases A1 with _ | ad
    · exact ⟨0, by simp⟩
    · exact ⟨ad.block, fun ad' e => by cases e; exact ⟨(hA ad rfl).2.2, (hA ad rfl).1, (hA ad rfl).2.1⟩⟩
  have hOwn : 0 < n → A1 = some ⟨G, 0, none⟩ ∧ W.heap.size ≤ G ∧ G < w1.heap.size ∧ OwnB w4 G n := by
    intro h0
    obtain ⟨A', c', he, _, _, hR, _⟩ := HO1.out.shape
    injection he with e1 e2 e3
    subst e1
    obtain ⟨ad, e, _, _⟩ := hR.at_ (k := 0) (by rw [HL.out]; exact h0)
    obtain ⟨g1, g2, g3⟩ := hG ad e
    subst g1
    subst e
    exact ⟨rfl, g2, g3, (OwnB.of_ob HO1.out HL.out).fr (S := fun _ => False) (Fr.of_below HB24.out) (fun x => x)⟩
  have HOWN := Lib.hid hOwn
  clear hG hOwn
  go_loopw [8] (fun i wr => ∃ k : Nat, k ≤ n ∧ i = .int .i64 k ∧ (0 < n → OwnB wr G n) ∧ Fr (fun j => j = G ∧ 0 < n) w4 wr) (fun i _ => n - (intOf i).toNat)
  case atStart => exact ⟨0, Nat.zero_le _, rfl, fun h0 => (HOWN.out h0).2.2.2, Fr.refl _ _⟩
  case round =>
    obtain ⟨k, hk, rfl, hown, hfr⟩ := hrel
    have HFR := Lib.hid hfr
    have HOW := Lib.hid hown
    clear hfr hown
    rcases (by omega : k < n ∨ k = n) with hlt | heq
    · obtain ⟨z, hcell, hfz⟩ := (HOW.out (by omega)).at_ hlt
      obtain ⟨hA, _⟩ := HOWN.out (by omega)
      subst hA
      go_wp2
      go_roundw
      case rel => exact ⟨k + 1, by omega, by go_num, fun h0 => (HOW.out h0).set _ _, HFR.out.setCell (fun _ => ⟨rfl, by omega⟩) _⟩
      case measure => simp [intOf]; omega
    · subst heq
      have hGlt : ∀ j, (j = G ∧ 0 < k) → W.heap.size ≤ j ∧ j < w1.heap.size := fun j hj => by
        obtain ⟨_, g2, g3, _⟩ := HOWN.out hj.2
        rw [hj.1]; exact ⟨g2, g3⟩
      have hB5 := Lib.hid (Fr.belowB HB4.out HFR.out (fun j hj => (hGlt j hj).1) HB4.out.size)
      have hboth : Both wr r w3.heap.size l false := by
        refine ⟨HRF.out wr (HF24.out.trans (HFR.out.mono fun j _ hj => (hGlt j hj).2)), RX.made (HX4.out.fr HFR.out fun g hg hs => ?_) (HK4.out.fr HFR.out fun hs => ?_) (by rw [HL.out]; omega)⟩
        · have := HX4.out.grown_ge g hg
          have := (hGlt g hs).2
          omega
        · have := (hGlt _ hs).2
          omega
      have HBO := Lib.hid hboth
      have hW5 : W.heap.size ≤ wr.heap.size := hB5.out.size
      have hw3 : W.heap.size ≤ w3.heap.size := by omega
      have hrW : W.heap.size ≤ r := by omega
      clear hboth HOW HOWN HFR hGlt HX4 HK4 HF24 HRF HB4 HB24 HO1
      go_wp2
      obtain ⟨X, hX⟩ : ∃ X, X = w3.heap.size := ⟨_, rfl⟩
      rw [← hX] at HBO hw3 ⊢
      clear hX
      go_loopw [9] (fun i ws => ∃ j : Nat, j ≤ m ∧ i = .int .i64 j ∧ (∃ l b, Both ws r X l b) ∧ Below W.heap.size W ws) (fun i _ => m - (intOf i).toNat)
      case atStart => exact ⟨0, Nat.zero_le _, rfl, ⟨_, _, HBO.out⟩, hB5.out⟩
      case round =>
        obtain ⟨j, hj, rfl, hbo, hbs⟩ := hrel
        have HS := Lib.hid hbs
        obtain ⟨l2, b2, hbo⟩ := hbo
        have HB2 := Lib.hid hbo
        clear hbo hbs
        rcases (by omega : m ≤ j ∨ j < m ∧ 60 ≤ j ∨ j < m ∧ j < 60) with g | ⟨g, g2⟩ | ⟨g, g2⟩
        · have e1 : decide (j < m) = false := by rw [decide_eq_false_iff_not]; omega
          go_wp2
          go_ret
          exact ⟨rfl, HS.out⟩
        · have e1 : decide (j < m) = true := by rw [decide_eq_true_iff]; omega
          have e2 : decide ((j : Int) < 60) = false := by rw [decide_eq_false_iff_not]; omega
          go_wp2
          go_ret
          exact ⟨rfl, HS.out⟩
        · obtain ⟨ad, q, z, hB, hlt, hc1, hc2⟩ := (HO.out.below HS.out) j g
          subst hB
          have e1 : decide (j < m) = true := by rw [decide_eq_true_iff]; omega
          have e2 : decide ((j : Int) < 60) = true := by rw [decide_eq_true_iff]; omega
          have hc3 : wr.cell? ⟨(ad.add (j * 2)).block, (ad.add (j * 2)).off + 1, none⟩ = some (.int .i64 z) := by
            rw [← hc2]
            congr 1
            unfold Addr.add
            split <;> simp_all <;> omega
          go_wp2_with fail
          refine (ask_any _ r X l2 b2 q z HB2.out).mono ?_
          rintro e wn ⟨rfl, hbn, hfn⟩
          have HBN := Lib.hid hbn
          have HSN := Lib.hid (Fr.belowB HS.out hfn (fun k hk => by rcases hk with rfl | rfl <;> assumption) HS.out.size)
          clear hbn hfn hc1 hc2 hc3
          go_wp2
          go_roundw
          case rel => exact ⟨j + 1, by omega, by go_num, HBN.out, HSN.out⟩
          case measure => simp [intOf]; omega

theorem octetReads_walk (A : Option Addr) (c : Nat) (l : List UInt8) (B : Option Addr) (m d : Nat) (W : World) (hr : RB W A l) (hc : l.length ≤ c) (hm : c ≤ maxLen) (hz : l.length ≤ 140737488351232) (hm2 : m ≤ maxLen) (ho : Ops W W.heap.size B m) :
    Calls Tryd.prog 9 #[.slice A l.length c, .slice B m d] W fun e w' => e = .returned (.bool true) ∧ Below W.heap.size W w' := by
  rcases (by omega : 5000 < l.length ∨ l.length ≤ 5000) with h1 | h1
  · have d1 : decide (5000 < (l.length : Int)) = true := by rw [decide_eq_true_iff]; omega
    clear ho
    go_enter Tryd.func9, Tryd.ntmps9
    go_wp2_with fail
    refine (lives_any _).mono ?_
    rintro e w1 ⟨rfl, hb⟩
    go_wp2
    go_ret
    exact ⟨rfl, hb⟩
  · exact reads_any A _ c l B m d W rfl h1 hr hm2 ho
end Go.Proofs.YtleancgkincenaaDoor
