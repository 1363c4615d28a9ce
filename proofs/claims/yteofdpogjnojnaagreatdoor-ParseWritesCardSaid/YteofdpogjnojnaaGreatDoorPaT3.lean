/-
  parse: one pair.
-/
import Derived.Test.YteofdpogjnojnaaGreatDoorPaT2
import Derived.Test.YteofdpogjnojnaaGreatDoorGPc
namespace Go.Proofs.YteofdpogjnojnaaGreatDoor
open Go.RowKit Utf Pa
open Go.ChangeMaps (setBlock)
attribute [local go_sem ↓] Go.wp_at_zero Go.wp_at_succ
set_option linter.unusedVariables false
set_option linter.unusedSimpArgs false

/-- a value under a key -/
def MV.wk (v : MV) (key : ByteArray) : MV := .mk key v.k v.n v.s v.lA v.lc v.l v.mA v.mc v.m
theorem VAt.mwk {w : World} {v : MV} (h : VAt w v) (key : ByteArray) : VAt w (v.wk key) := by
  cases h with
  | mk a b c d e f g h i j => exact .mk a b c d e f g h i j
theorem BlkP.wk {P : Nat → Prop} {v : MV} (h : BlkP P v) (key : ByteArray) : BlkP P (v.wk key) := by
  cases h with
  | mk a b c d => exact .mk a b c d
theorem wk_pv (v : MV) (key : ByteArray) : (v.wk key).pv = v.pv := by cases v; simp [MV.wk, MV.pv, MV.k, MV.n, MV.s, MV.l, MV.m]
def kp (v : MV) : ByteArray × PV := (v.key, v.pv)
/-- what stands beside the box and the row while pairs are read -/
structure JX (B BP BS BD M : Nat) (d : Int) (F : ByteArray → Bool) (w : World) : Prop where
  bp : Blk w BP 43 #[.pointer (some ⟨B, 0, none⟩)]
  bs : Blk w BS 80 #[.map (some M)]
  bd : Blk w BD 3 #[.int .i64 d]
  km : KM w M F
section
variable {W w w' w4 w5 w6 : World} {B BV BP BS BD M bs g cap base : Nat} {d : Int} {F : ByteArray → Bool} {S : Nat → Prop} {s : ByteArray} {p' : St} {ml : List MV} {v : MV} {l : List (ByteArray × PV)} {pv : PV} {old : Value} {key : ByteArray}
theorem JX.frS (h : JX B BP BS BD M d F w) (hf : Fr S w w') (hS : ¬ S BP ∧ ¬ S BS ∧ ¬ S BD ∧ ¬ S M) : JX B BP BS BD M d F w' := ⟨h.bp.fr hf hS.1, h.bs.fr hf hS.2.1, h.bd.fr hf hS.2.2.1, h.km.fr hf hS.2.2.2⟩
theorem JX.below (h : JX B BP BS BD M d F w) (hb : Below w.heap.size w w') : JX B BP BS BD M d F w' := ⟨h.bp.below hb h.bp.lt, h.bs.below hb h.bs.lt, h.bd.below hb h.bd.lt, h.km.below hb⟩
theorem JX.fr (h : JX B BP BS BD M d F w) (hf : Fr S w w') (hS : ¬ S BP ∧ ¬ S BS ∧ ¬ S BD ∧ ¬ S M) : JX B BP BS BD M d F w' := h.frS hf hS
/-- what stands while pairs are read -/
structure JM (B BV BP BS BD M bs : Nat) (d : Int) (w : World) (l : List (ByteArray × PV)) : Prop where
  ex : ∃ vl ml, Blk w BV 25 #[.int .i64 6, .int .i64 0, .string ⟨#[]⟩, .slice none 0 0, vl] ∧ ROwn 40 6 MV.pcs bs w vl ml ∧ ml.map kp = l
  jx : JX B BP BS BD M d (hasK l) w
theorem row_ownP (h : ROwn 40 6 MV.pcs base w (.slice (some ⟨g, 0, none⟩) (ml.length + 1) cap) (ml ++ [zMV])) : w.ownsRow base 40 6 (.slice (some ⟨g, 0, none⟩) (ml.length + 1) cap) (ml.length + 1) ((ml ++ [zMV]).flatMap MV.pcs) := by
  have := h.own
  simpa using this
theorem row_zP (h : ROwn 40 6 MV.pcs base w (.slice (some ⟨g, 0, none⟩) (ml.length + 1) cap) (ml ++ [zMV])) (j : Nat) (hj : j < 6) : w.cell? ⟨g, ml.length * 6 + j, none⟩ = zMV.pcs[j]? := by
  rw [(row_ownP h).cellAt _ (by omega)]
  have := csM_at (ml ++ [zMV]) ml.length (by simp) j hj
  rw [this]
  simp
theorem row_formP {w4 : World} {v4 : Value} (h : ROwn 40 6 MV.pcs base w4 v4 (ml ++ [zMV])) : ∃ g cap, v4 = .slice (some ⟨g, 0, none⟩) (ml.length + 1) cap ∧ base ≤ g := by
  obtain ⟨g, cap, e, h1, _⟩ := h.own.form (by simp)
  exact ⟨g, cap, by rw [e]; simp, h1⟩
def Nep (W : World) (B BV BP BS BD M bs base : Nat) : Prop := B < base ∧ base ≤ BV ∧ base ≤ M ∧ B < BP ∧ B < BS ∧ B < BD ∧ BV < bs ∧ M < bs ∧ BP < bs ∧ BS < bs ∧ BD < bs ∧ BP ≠ BV ∧ BD ≠ BV ∧ BS ≠ BV ∧ M ≠ BV ∧ M ≠ BP ∧ M ≠ BD ∧ M ≠ BS ∧ W.heap.size ≤ B
theorem hasK_snoc (l : List (ByteArray × PV)) (key : ByteArray) (x : PV) (t : ByteArray) : hasK (l ++ [(key, x)]) t = (hasK l t || decide (t = key)) := by
  unfold hasK
  rw [List.any_append]
  simp [eq_comm]
theorem JX.congr {G : ByteArray → Bool} (h : JX B BP BS BD M d F w) (e : ∀ t, F t = G t) : JX B BP BS BD M d G w := ⟨h.bp, h.bs, h.bd, h.km.congr e⟩
theorem prs_end (hbv : Blk w5 BV 25 #[.int .i64 6, .int .i64 0, .string ⟨#[]⟩, .slice none 0 0, old]) (hx : JX B BP BS BD M d F w4) (hF : ∀ t, F t = (hasK (ml.map kp) t || decide (t = key))) (hp : PSt W B s w4 p') (hf : Fr (· = g) w4 w5) (hr : ROwn 40 6 MV.pcs bs w5 (.slice (some ⟨g, 0, none⟩) (ml.length + 1) cap) (ml ++ [v.wk key])) (hv : v.pv = pv) (hw : Fr (fun b => b = B ∨ base ≤ b) w w4) (hne : B < base ∧ base ≤ BV ∧ base ≤ M ∧ B < BP ∧ B < BS ∧ B < BD ∧ BV < bs ∧ M < bs ∧ BP < bs ∧ BS < bs ∧ BD < bs ∧ BP ≠ BV ∧ BD ≠ BV ∧ BS ≠ BV ∧ M ≠ BV ∧ M ≠ BP ∧ M ≠ BD ∧ M ≠ BS ∧ W.heap.size ≤ B) (hg : bs ≤ g) :
    OneP W B s base (JM B BV BP BS BD M bs d) (p', ml.map kp ++ [(key, pv)]) w (.returned (.tuple #[])) (w5.setCell ⟨BV, 4, none⟩ (.slice (some ⟨g, 0, none⟩) (ml.length + 1) cap)) := by
  have hs : Fr (· = BV) w5 (w5.setCell ⟨BV, 4, none⟩ (.slice (some ⟨g, 0, none⟩) (ml.length + 1) cap)) := frB
  refine ⟨rfl, (hp.fr hf (by omega) (fun b e => by omega)).fr hs (by omega) (fun b e => by omega), ⟨⟨_, ml ++ [v.wk key], ?_, hr.frS hs (fun k hk e => by have := hr.ge k hk; omega) (fun x hx => (hr.fr x hx).mono (fun b hb e => by omega)), by rw [List.map_append, ← hv, ← wk_pv v key]; rfl⟩, ?_⟩, (hw.trans (hf.mono (fun b _ e => .inr (by omega)))).trans (hs.mono (fun b _ e => .inr (by omega)))⟩
  · have := hbv.set_ 4 (.slice (some ⟨g, 0, none⟩) (ml.length + 1) cap)
    simpa using this
  · exact ((hx.fr hf ⟨by omega, by omega, by omega, by omega⟩).fr hs ⟨by omega, by omega, by omega, by omega⟩).congr (fun t => by rw [hF t, hasK_snoc])
theorem prs_end2 (hbv : Blk w5 BV 25 #[.int .i64 6, .int .i64 0, .string ⟨#[]⟩, .slice none 0 0, .slice (some ⟨g, 0, none⟩) (ml.length + 1) cap]) (hx : JX B BP BS BD M d F w4) (hF : ∀ t, F t = (hasK (ml.map kp) t || decide (t = key))) (hp : PSt W B s w4 p') (hs : Fr (· = BV) w4 w5) (hf : Fr (· = g) w5 w6) (hr : ROwn 40 6 MV.pcs bs w6 (.slice (some ⟨g, 0, none⟩) (ml.length + 1) cap) (ml ++ [v.wk key])) (hv : v.pv = pv) (hw : Fr (fun b => b = B ∨ base ≤ b) w w4) (hne : B < base ∧ base ≤ BV ∧ base ≤ M ∧ B < BP ∧ B < BS ∧ B < BD ∧ BV < bs ∧ M < bs ∧ BP < bs ∧ BS < bs ∧ BD < bs ∧ BP ≠ BV ∧ BD ≠ BV ∧ BS ≠ BV ∧ M ≠ BV ∧ M ≠ BP ∧ M ≠ BD ∧ M ≠ BS ∧ W.heap.size ≤ B) (hg : bs ≤ g) :
    OneP W B s base (JM B BV BP BS BD M bs d) (p', ml.map kp ++ [(key, pv)]) w (.returned (.tuple #[])) w6 := by
  refine ⟨rfl, (hp.fr hs (by omega) (fun b e => by omega)).fr hf (by omega) (fun b e => by omega), ⟨⟨_, ml ++ [v.wk key], hbv.fr hf (by omega), hr, by rw [List.map_append, ← hv, ← wk_pv v key]; rfl⟩, ?_⟩, (hw.trans (hs.mono (fun b _ e => .inr (by omega)))).trans (hf.mono (fun b _ e => .inr (by omega)))⟩
  exact ((hx.fr hs ⟨by omega, by omega, by omega, by omega⟩).fr hf ⟨by omega, by omega, by omega, by omega⟩).congr (fun t => by rw [hF t, hasK_snoc])
end
theorem encU_le (c : Int) : (encU c).length ≤ 4 := by
  unfold encU Lib.encodeRune Lib.encodeRuneZ
  rw [List.length_map]
  repeat' split
  all_goals simp
theorem unqG_size : ∀ (f : Nat) (l : List UInt8) (n : Nat) (acc : List UInt8), (unqG f l n acc).1.length ≤ acc.length + 4 * f
  | 0, l, n, acc => by simp [unqG]
  | f + 1, l, n, acc => by
    unfold unqG
    split
    · simp
    · split
      · simp
      · have := unqG_size f (l.drop (partP l).2.1) (n + (partP l).2.1) (acc ++ encU (partP l).1)
        rw [List.length_append] at this
        have := encU_le (partP l).1
        omega
theorem lit_size (p : St) : p.lit.1.size ≤ 4 * p.r.length := by
  unfold St.lit
  split
  · exact Nat.zero_le _
  · split
    · show ((unq p.r).1.toArray).size ≤ _
      unfold unq
      split
      · have := unqG_size p.r.length (p.r.drop 1) 1 []
        simpa using this
      · simp
    · exact Nat.zero_le _
theorem HSKI {W w : World} {B : Nat} {s : ByteArray} {p : St} (h : PSt W B s w p) : p.skip.i ≤ s.size := by
  have hl : (p.r.takeWhile isBl).length ≤ p.r.length := (List.takeWhile_sublist isBl).length_le
  show p.i + (p.r.takeWhile isBl).length ≤ s.size
  by_cases he : p.e = 0
  · have := h.ok he
    have h2 : p.r.length = s.size - p.i := by rw [this, List.length_drop]; rfl
    have := h.pi
    omega
  · rw [h.no he]
    have := h.pi
    simpa using this
set_option maxRecDepth 100000 in
set_option maxHeartbeats 16000000 in
theorem pairs1_any {W : World} {B : Nat} {s : ByteArray} (d : Nat) (hC : VC W B s d) (hs : s.size ≤ 1000000) (hF : FourOk s) (hT : tabV W) (BV BP BS BD M bs base : Nat) (hne : B < base ∧ base ≤ BV ∧ base ≤ M ∧ B < BP ∧ B < BS ∧ B < BD ∧ BV < bs ∧ M < bs ∧ BP < bs ∧ BS < bs ∧ BD < bs ∧ BP ≠ BV ∧ BD ≠ BV ∧ BS ≠ BV ∧ M ≠ BV ∧ M ≠ BP ∧ M ≠ BD ∧ M ≠ BS ∧ W.heap.size ≤ B) {w : World} {p : St} {l : List (ByteArray × PV)} (hbs : bs ≤ w.heap.size) (hp : PSt W B s w p) (he : p.e = 0) (hl : l.length ≤ p.c) (hj : JM B BV BP BS BD M bs d w l) :
    Calls Tryz.prog 64 #[.pointer (some ⟨BP, 0, none⟩), .pointer (some ⟨BS, 0, none⟩), .pointer (some ⟨BV, 0, none⟩), .pointer (some ⟨BD, 0, none⟩)] w fun e w' => PF (OneP W B s base (JM B BV BP BS BD M bs d) (oneM (valP d) p l) w) e w' := by
  obtain ⟨⟨vl, ml, hbv, hrow, hpl⟩, hjx⟩ := hj
  subst hpl
  rw [List.length_map] at hl
  obtain ⟨vA, vc, rfl, _⟩ := hrow.shape
  obtain ⟨RES, hres⟩ : ∃ RES, RES = oneM (valP d) p (ml.map kp) := ⟨_, rfl⟩
  obtain ⟨KEY, hkey⟩ : ∃ KEY, KEY = p.skip.lit.1 := ⟨_, rfl⟩
  obtain ⟨q2, hq2⟩ : ∃ q2, q2 = p.skip.lit.2 := ⟨_, rfl⟩
  obtain ⟨HK, hhk⟩ : ∃ HK, HK = hasK (ml.map kp) KEY := ⟨_, rfl⟩
  have hks : KEY.size ≤ maxLen := by
    have := lit_size p.skip
    have h2 := (hp.len : p.r.length ≤ s.size)
    have h3 := skip_len p
    rw [hkey]; simp only [maxLen]; omega
  have hpi := hp.pi
  have hkeyP : oneM (valP d) p (ml.map kp) = ((valP d (((if HK = true then q2.fail p.skip.i 53 else q2).skip).need 58)).1, ml.map kp ++ [(KEY, (valP d (((if HK = true then q2.fail p.skip.i 53 else q2).skip).need 58)).2)]) := by
    rw [hhk, hq2, hkey]; rfl
  rw [← hres]
  rw [hkeyP] at hres
  have HRES0 := Lib.hid hres
  have HC := Lib.hid hC
  have HNE := Lib.hid hne
  have HBS0 := Lib.hid hbs
  have HLEN : Hid (ml.length ≤ 1000000000) := Lib.hid (by have := hp.pc.2 he; omega)
  have hml9 : (ml.length : Int) ≤ 4096 := by have := hp.pc.2 he; omega
  have hml0 : (0 : Int) ≤ (ml.length : Int) := by omega
  have HSK := Lib.hid (skip_any hp hs)
  have HLIT : Hid (∀ V, PSt W B s V p.skip → Calls Tryz.prog 39 #[.pointer (some ⟨B, 0, none⟩)] V fun e w' => PF (StpP W B s (.string KEY) q2 V) e w') := Lib.hid (fun V hV => by
    have := literal_any hV hs hF hT
    unfold LitP at this
    rw [← hkey, ← hq2] at this
    exact this)
  have HSKQ : Hid (∀ V q, PSt W B s V q → Calls Tryz.prog 26 #[.pointer (some ⟨B, 0, none⟩)] V fun e w' => PF (StpP W B s (.tuple #[]) q.skip V) e w') := Lib.hid (fun V q hV => skip_any hV hs)
  have HNEED : Hid (∀ V q, PSt W B s V q → Calls Tryz.prog 65 #[.pointer (some ⟨B, 0, none⟩), .string ⟨#[58]⟩] V fun e w' => PF (StpP W B s (.tuple #[]) (q.need 58) V) e w') := Lib.hid (fun V q hq => need_any hq hs 58)
  have HFAIL : Hid (∀ V q, PSt W B s V q → Calls Tryz.prog 19 #[.pointer (some ⟨B, 0, none⟩), .int .i64 (p.skip.i : Int), .int .i64 53] V fun e w' => PF (StpP W B s (.bool false) (q.fail p.skip.i 53) V) e w') := Lib.hid (fun V q hq => fail_any hq p.skip.i 53 (HSKI hp) (by omega))
  have HJX0 := Lib.hid hjx
  have HBV0 := Lib.hid hbv
  have HROW0 := Lib.hid hrow
  have HHK := Lib.hid hhk
  have HKS := Lib.hid hks
  have pb : w.cell? ⟨BP, 0, none⟩ = some (.pointer (some ⟨B, 0, none⟩)) := hjx.bp.cell 0
  clear hC hne hbs hp hrow hbv hl he hjx hres hkey hq2 hhk hks hkeyP hpi hs hF hT
  go_enter Tryz.func64, Tryz.ntmps64
  go_wp2_with fail
  refine HSK.out.mono ?_
  rintro e w1 ⟨rfl, hp1, hf1⟩
  have HP1 := Lib.hid hp1
  have HF1 := Lib.hid hf1
  have HJX1 := Lib.hid (HJX0.out.fr hf1 (by have := HNE.out; omega))
  have pb1 : w1.cell? ⟨BP, 0, none⟩ = some (.pointer (some ⟨B, 0, none⟩)) := HJX1.out.bp.cell 0
  have pi1 : w1.cell? ⟨B, 1, none⟩ = some (.int .i64 p.skip.i) := HP1.out.blk.cell 1
  clear hp1 hf1 pb
  go_wp2_with fail
  refine (HLIT.out w1 HP1.out).mono ?_
  rintro e w2 ⟨rfl, hp2, hf2⟩
  have HP2 := Lib.hid hp2
  have HF2 : Hid (Fr (· = B) w w2) := Lib.hid (HF1.out.trans hf2)
  have HJX2 := Lib.hid (HJX1.out.fr hf2 (by have := HNE.out; omega))
  have pb2 : w2.cell? ⟨BP, 0, none⟩ = some (.pointer (some ⟨B, 0, none⟩)) := HJX2.out.bp.cell 0
  have sb2 : w2.cell? ⟨BS, 0, none⟩ = some (.map (some M)) := HJX2.out.bs.cell 0
  have lk2 := HJX2.out.km.look KEY HKS.out
  rw [← HHK.out] at lk2
  clear hp2 hf2 pb1 pi1
  cases HK with
  | true =>
    have HRES1 : Hid (RES = ((valP d (((q2.fail p.skip.i 53).skip).need 58)).1, ml.map kp ++ [(KEY, (valP d (((q2.fail p.skip.i 53).skip).need 58)).2)])) := Lib.hid (by rw [HRES0.out]; simp only [if_pos])
    go_wp2_with fail
    refine (HFAIL.out w2 q2 HP2.out).mono ?_
    rintro e w3 ⟨rfl, hp3, hf3⟩
    have HP3 := Lib.hid hp3
    have HF3 : Hid (Fr (· = B) w w3) := Lib.hid (HF2.out.trans hf3)
    have HJX3 := Lib.hid (HJX2.out.fr hf3 (by have := HNE.out; omega))
    obtain ⟨q3, hq3⟩ : ∃ q3, q3 = q2.fail p.skip.i 53 := ⟨_, rfl⟩
    rw [← hq3] at HP3 HRES1
    have pb3 : w3.cell? ⟨BP, 0, none⟩ = some (.pointer (some ⟨B, 0, none⟩)) := HJX3.out.bp.cell 0
    have sb3 : w3.cell? ⟨BS, 0, none⟩ = some (.map (some M)) := HJX3.out.bs.cell 0
    clear hp3 hf3 pb2 sb2 lk2 hq3
    obtain ⟨es', ck', pt3, km3⟩ := HJX3.out.km.put KEY HKS.out
    obtain ⟨w4, hw4⟩ : ∃ w4, w4 = setBlock w3 M (.map es' ck') := ⟨_, rfl⟩
    rw [← hw4] at pt3 km3
    have hf4 : Fr (· = M) w3 w4 := by rw [hw4]; exact fr_setBlk _ _ _
    have HF4 : Hid (Fr (· = M) w3 w4) := Lib.hid hf4
    have HJX4 : Hid (JX B BP BS BD M d (fun t => hasK (ml.map kp) t || decide (t = KEY)) w4) := Lib.hid ⟨HJX3.out.bp.fr hf4 (by have := HNE.out; omega), HJX3.out.bs.fr hf4 (by have := HNE.out; omega), HJX3.out.bd.fr hf4 (by have := HNE.out; omega), km3⟩
    have HP4 : Hid (PSt W B s w4 q3) := Lib.hid (HP3.out.fr hf4 (by have := HNE.out; omega) (fun b e => by have := HNE.out; omega))
    have pb4 : w4.cell? ⟨BP, 0, none⟩ = some (.pointer (some ⟨B, 0, none⟩)) := HJX4.out.bp.cell 0
    clear hf4 hw4 km3
    go_wp2_with fail
    refine (HSKQ.out w4 q3 HP4.out).mono ?_
    rintro e w5 ⟨rfl, hp5, hf5⟩
    have HP5 := Lib.hid hp5
    have HF5 := Lib.hid hf5
    have HJX5 := Lib.hid (HJX4.out.fr hf5 (by have := HNE.out; omega))
    have pb5 : w5.cell? ⟨BP, 0, none⟩ = some (.pointer (some ⟨B, 0, none⟩)) := HJX5.out.bp.cell 0
    clear hp5 hf5 pb4 pt3
    go_wp2_with fail
    refine (HNEED.out w5 _ HP5.out).mono ?_
    rintro e w6 ⟨rfl, hp6, hf6⟩
    obtain ⟨q6, hq6⟩ : ∃ q6, q6 = q3.skip.need 58 := ⟨_, rfl⟩
    rw [← hq6] at hp6 HRES1
    have HPS6 := Lib.hid hp6
    have HRES := HRES1
    obtain ⟨F, hFF⟩ : ∃ F, F = (fun t => hasK (ml.map kp) t || decide (t = KEY)) := ⟨_, rfl⟩
    have HFX : Hid (∀ t, F t = (hasK (ml.map kp) t || decide (t = KEY))) := Lib.hid (fun t => by rw [hFF])
    have hjx6 := HJX5.out.fr hf6 (by have := HNE.out; omega)
    rw [← hFF] at hjx6
    have HFB : Hid (Fr (fun b => b = B ∨ b = M) w w6) := Lib.hid ((((HF3.out.mono (fun b _ e => .inl e)).trans (HF4.out.mono (fun b _ e => .inr e))).trans (HF5.out.mono (fun b _ e => .inl e))).trans (hf6.mono (fun b _ e => .inl e)))
    have HFW6 : Hid (Fr (fun b => b = B ∨ base ≤ b) w w6) := Lib.hid (HFB.out.mono (fun b _ e => by have := HNE.out; omega))
    have HBS : Hid (bs ≤ w6.heap.size) := Lib.hid (Nat.le_trans HBS0.out HFB.out.size)
    have HROW : Hid (ROwn 40 6 MV.pcs bs w6 (.slice vA ml.length vc) ml) := Lib.hid (HROW0.out.frS HFB.out (fun g hg e => by have := HROW0.out.ge g hg; have := HNE.out; omega) (fun x hx => (HROW0.out.fr x hx).mono (fun b hb e => by have := HNE.out; omega)))
    have hbv6 := HBV0.out.fr HFB.out (by have := HNE.out; omega)
    have HS0 : Hid ((fun V => Blk V BV 25 #[.int .i64 6, .int .i64 0, .string ⟨#[]⟩, .slice none 0 0, .slice vA ml.length vc] ∧ JX B BP BS BD M d F V) w6.drew) := Lib.hid ⟨hbv6, hjx6.below (Below.refl _ _).drew⟩
    clear hbv6 hp6 hf6 pb5 hq6 hFF hjx6 HRES1
    go_wp2_with fail
    refine wp_region_heldT (S := fun V => Blk V BV 25 #[.int .i64 6, .int .i64 0, .string ⟨#[]⟩, .slice none 0 0, .slice vA ml.length vc] ∧ JX B BP BS BD M d F V) 9 (by kernel_rfl) (HS0.out) (fun hS1 => ?_)
    obtain ⟨WD, hWD⟩ : ∃ WD, WD = w6.drew := ⟨_, rfl⟩
    rw [← hWD] at hS1 ⊢
    have HBD : Hid (Below w6.heap.size w6 WD) := Lib.hid (by rw [hWD]; exact (Below.refl _ _).drew)
    clear hWD
    refine wpAnyT_pure (i := 0) (oi := ⟨some 26, _, _, _, _, _⟩) (v := .pointer (some ⟨BV, 4, none⟩)) rfl (by kernel_rfl) (by kernel_rfl) (by kernel_rfl) (by decide) (fun _ _ _ h => h) (.inl ⟨by kernel_rfl, fun V hS => by go_simp⟩) hS1 ?_
    simp only [Act.put, List.setIfInBounds_toArray, List.set_cons_zero, List.set_cons_succ]
    refine wpAnyT_take (i := 1) (oi := ⟨some 27, _, _, _, _, _⟩) (v := .slice vA ml.length vc) rfl (by kernel_rfl) (by kernel_rfl) (by kernel_rfl) (by kernel_rfl) (by kernel_rfl) (fun _ _ _ h => h) (.inl ⟨by kernel_rfl, fun V hS => by have sc := hS.1.cell 4; simp at sc; go_simp⟩) hS1 ?_
    simp only [Act.put, List.setIfInBounds_toArray, List.set_cons_zero, List.set_cons_succ]
    refine wpAnyT_pure (i := 2) (oi := ⟨some 28, _, _, _, _, _⟩) (v := .string KEY) rfl (by kernel_rfl) (by kernel_rfl) (by kernel_rfl) (by decide) (fun _ _ _ h => h) (.inl ⟨by kernel_rfl, fun V hS => by go_simp⟩) hS1 ?_
    simp only [Act.put, List.setIfInBounds_toArray, List.set_cons_zero, List.set_cons_succ]
    refine wpAnyT_take (i := 3) (oi := ⟨some 29, _, _, _, _, _⟩) (v := .pointer (some ⟨B, 0, none⟩)) rfl (by kernel_rfl) (by kernel_rfl) (by kernel_rfl) (by kernel_rfl) (by kernel_rfl) (fun _ _ _ h => h) (.inl ⟨by kernel_rfl, fun V hS => by have sc := hS.2.bp.cell 0; simp at sc; go_simp⟩) hS1 ?_
    simp only [Act.put, List.setIfInBounds_toArray, List.set_cons_zero, List.set_cons_succ]
    refine wpAnyT_take (i := 4) (oi := ⟨some 30, _, _, _, _, _⟩) (v := .int .i64 d) rfl (by kernel_rfl) (by kernel_rfl) (by kernel_rfl) (by kernel_rfl) (by kernel_rfl) (fun _ _ _ h => h) (.inl ⟨by kernel_rfl, fun V hS => by have sc := hS.2.bd.cell 0; simp at sc; go_simp⟩) hS1 ?_
    simp only [Act.put, List.setIfInBounds_toArray, List.set_cons_zero, List.set_cons_succ]
    refine wpAnyT_pure (i := 7) (oi := ⟨some 33, _, _, _, _, _⟩) (v := .int .i64 (ml.length : Int)) rfl (by kernel_rfl) (by kernel_rfl) (by kernel_rfl) (by decide) (fun _ _ _ h => h) (.inl ⟨by kernel_rfl, fun V hS => by go_simp⟩) hS1 ?_
    simp only [Act.put, List.setIfInBounds_toArray, List.set_cons_zero, List.set_cons_succ]
    refine wpAnyT_ready (rs := [5, 8]) (by kernel_rfl) (by simp) ?_
    refine AllReadyT.cons rfl (fun K' hK => ?_) (AllReadyT.cons rfl (fun K' hK => ?_) AllReadyT.nil)
    · go_simp
      refine (HC.out WD _ (HPS6.out.below HBD.out)).mono ?_
      rintro e w7 ⟨v, rfl, hpv, hvo, hps, hfr⟩
      unfold MV.val
      have HPV := Lib.hid hpv
      have HVO : Hid (VOwn w6.heap.size w7 v) := Lib.hid (vown_le hvo HBD.out.size)
      have HVX : Hid (BlkP (fun b => WD.heap.size ≤ b) v) := Lib.hid hvo.fr
      have HPS := Lib.hid hps
      have HFC : Hid (Fr (· = B) WD w7) := Lib.hid hfr
      clear hpv hvo hps hfr
      refine hK.out _ _ (⟨(hS1).1.fr HFC.out (by have := HNE.out; omega), (hS1).2.fr HFC.out (by have := HNE.out; omega)⟩) (fun hS2 => ?_)
      clear hK K' hS1
      have HFW : Hid (Fr (· = B) w6 w7) := Lib.hid ((Fr.of_below HBD.out).trans HFC.out)
      refine wpAnyT_pure (i := 6) (oi := ⟨some 32, _, _, _, _, _⟩) (v := .agg #[.string KEY, .int .i64 v.k, .int .i64 v.n, .string v.s, .slice v.lA v.l.length v.lc, .slice v.mA v.m.length v.mc]) rfl (by kernel_rfl) (by kernel_rfl) (by kernel_rfl) (by decide) (fun _ _ _ h => h) (.inl ⟨by kernel_rfl, fun V hS => by go_simp⟩) hS2 ?_
      simp only [Act.put, List.setIfInBounds_toArray, List.set_cons_zero, List.set_cons_succ]
      refine wpAnyT_ready (rs := [8]) (by kernel_rfl) (by simp) ?_
      refine AllReadyT.cons rfl (fun K' hK => ?_) AllReadyT.nil
      go_simp
      obtain ⟨w8, hw8⟩ : ∃ w8, w8 = w7.alloc (.cells #[.string ⟨#[]⟩, .int .i64 0, .int .i64 0, .string ⟨#[]⟩, .slice none 0 0, .slice none 0 0] 40) := ⟨_, rfl⟩
      rw [← hw8]
      have hb2 : Below w7.heap.size w7 w8 := by rw [hw8]; exact (Below.refl _ _).alloc (Nat.le_refl _) _
      obtain ⟨Q, hQ⟩ : ∃ Q, Q = w7.heap.size := ⟨_, rfl⟩
      have HQ : Hid (Blk w8 Q 40 #[.string ⟨#[]⟩, .int .i64 0, .int .i64 0, .string ⟨#[]⟩, .slice none 0 0, .slice none 0 0]) := Lib.hid (by rw [hw8, hQ]; exact Blk.new _ _ _)
      rw [← hQ]
      have HQN : Hid (w6.heap.size ≤ Q) := Lib.hid (by rw [hQ]; exact HFW.out.size)
      refine hK.out _ _ (⟨(hS2).1.below hb2 (hS2).1.lt, (hS2).2.below hb2⟩) (fun hS3 => ?_)
      clear hK K' hS2
      have HVO2 : Hid (VOwn w6.heap.size w8 v) := Lib.hid (HVO.out.below hb2)
      have HPS2 := Lib.hid (HPS.out.below hb2)
      have HFW2 : Hid (Fr (· = B) w6 w8) := Lib.hid (HFW.out.below hb2)
      clear hb2 hw8 hQ
      have HVX2 : Hid (BlkP (fun b => (w6.heap.size ≤ b ∧ b < w8.heap.size) ∧ ¬ (Value.slice vA ml.length vc).ownBlock = some b) (v.wk KEY)) := Lib.hid (BlkP.wk ((HVO2.out.fr.and HVO2.out.at_.lt).and (HVO2.out.fr.mono (fun b hb e => by have := HROW.out.ltS b e; omega))) KEY)
      refine wpAnyT_T (by kernel_rfl) rfl (by kernel_rfl) (fun K' hK => ?_)
      have HRW : Hid (ROwn 40 6 MV.pcs bs w8 (.slice vA ml.length vc) ml) := Lib.hid (HROW.out.frS HFW2.out (fun g hg e => by have := (HROW.out.ge g hg); have := HNE.out; omega) (fun x hx => (HROW.out.fr x hx).mono (fun b hb e => by have := HNE.out; omega)))
      have HAV : Hid (BlkP (fun b => ¬ (Value.slice vA ml.length vc).ownBlock = some b) v) := Lib.hid (HVO2.out.fr.mono (fun b hb e => by have := HROW.out.ltS b e; omega))
      refine step_app_row w8 infoPair Tryz.underlying23 rfl (by omega) (by omega) (fun _ => rfl) oneC_pcs rfl (some 35) rfl _ _ rfl bs (.slice vA ml.length vc) ml rfl HRW.out Q rfl zMV HQ.out (zMV_at w8) zMV_blk zMV_blk HLEN.out (Nat.le_trans HBS.out HFW2.out.size) ?_
      intro v4 w9 hrow hg hat
      have HF4 : Hid (Fr (fun b => (Value.slice vA ml.length vc).ownBlock = some b) w8 w9) := Lib.hid (Fr.of_grown hg (fun g e => e))
      obtain ⟨g, cap, rfl, hgb⟩ := row_formP hrow
      have HR4 := Lib.hid hrow
      have HV4 : Hid (VAt w9 (v.wk KEY)) := Lib.hid (VAt.mwk (HVO2.out.at_.fr HF4.out (HAV.out)) KEY)
      have HVG : Hid (BlkP (fun b => ¬ b = g) (v.wk KEY)) := Lib.hid (HVX2.out.mono (fun b hb e => by
        subst e
        rcases hat with q | q
        · have q2 : (Value.slice vA ml.length vc).ownBlock = some b := by rw [← q]; rfl
          exact hb.2 q2
        · injection q with q; exact Nat.ne_of_lt hb.1.2 q))
      have HGB : Hid (bs ≤ g) := Lib.hid hgb
      have HBV4 : Hid (Blk w9 BV 25 #[.int .i64 6, .int .i64 0, .string ⟨#[]⟩, .slice none 0 0, .slice vA ml.length vc]) := Lib.hid ((hS3).1.fr HF4.out (fun e => by have := HRW.out.ge BV e; have := HNE.out; omega))
      have HJX4 := Lib.hid ((hS3).2.fr HF4.out ⟨fun e => by have := HRW.out.ge BP e; have := HNE.out; omega, fun e => by have := HRW.out.ge BS e; have := HNE.out; omega, fun e => by have := HRW.out.ge BD e; have := HNE.out; omega, fun e => by have := HRW.out.ge M e; have := HNE.out; omega⟩)
      have HPS4 := Lib.hid (HPS2.out.fr HF4.out (fun e => by have := HRW.out.ge B e; have := HNE.out; omega) (fun b e => by have := HRW.out.ge b e; have := HNE.out; omega))
      have HFW4 : Hid (Fr (fun b => b = B ∨ base ≤ b) w w9) := Lib.hid (HFW6.out.trans ((HFW2.out.mono (fun b _ e => .inl e)).trans (HF4.out.mono (fun b _ e => .inr (by have := HRW.out.ge b e; have := HNE.out; omega)))))
      clear hg hat hgb hrow
      refine hK.out _ _ ?_
      clear hK K' hS3
      simp only [Act.put, List.setIfInBounds_toArray, List.set_cons_zero, List.set_cons_succ]
      refine wpAnyH_take (i := 10) (oi := ⟨some 36, _, _, _, _, _⟩) (v := .pointer (some ⟨g, ml.length * 6, none⟩)) rfl (by kernel_rfl) (by kernel_rfl) (by kernel_rfl) (fun _ _ _ h => h) (.inl ⟨by kernel_rfl, fun V hS => by go_simp; try (intro hx; exfalso; omega)⟩) trivial ?_
      simp only [Act.put, List.setIfInBounds_toArray, List.set_cons_zero, List.set_cons_succ]
      refine wpAnyH_take (i := 12) (oi := ⟨some 37, _, _, _, _, _⟩) (v := .pointer (some ⟨BV, 4, none⟩)) rfl (by kernel_rfl) (by kernel_rfl) (by kernel_rfl) (fun _ _ _ h => h) (.inl ⟨by kernel_rfl, fun V hS => by go_simp⟩) trivial ?_
      simp only [Act.put, List.setIfInBounds_toArray, List.set_cons_zero, List.set_cons_succ]
      refine wpAnyH_ready (rs := [11, 13]) (by kernel_rfl) (by simp) ?_
      refine AllReadyH.cons rfl (fun K' hK => ?_) (AllReadyH.cons rfl (fun K' hK => ?_) AllReadyH.nil)
      · go_simp
        have x0 : w9.cell? ⟨g, ml.length * 6, none⟩ = some (.string ⟨#[]⟩) := row_zP HR4.out 0 (by omega)
        have y0 : w9.frozen? ⟨g, ml.length * 6, none⟩ = false := (row_ownP HR4.out).frozenAt _
        have x1 : w9.cell? ⟨g, ml.length * 6 + 1, none⟩ = some (.int .i64 0) := row_zP HR4.out 1 (by omega)
        have y1 : w9.frozen? ⟨g, ml.length * 6 + 1, none⟩ = false := (row_ownP HR4.out).frozenAt _
        have x2 : w9.cell? ⟨g, ml.length * 6 + 2, none⟩ = some (.int .i64 0) := row_zP HR4.out 2 (by omega)
        have y2 : w9.frozen? ⟨g, ml.length * 6 + 2, none⟩ = false := (row_ownP HR4.out).frozenAt _
        have x3 : w9.cell? ⟨g, ml.length * 6 + 3, none⟩ = some (.string ⟨#[]⟩) := row_zP HR4.out 3 (by omega)
        have y3 : w9.frozen? ⟨g, ml.length * 6 + 3, none⟩ = false := (row_ownP HR4.out).frozenAt _
        have x4 : w9.cell? ⟨g, ml.length * 6 + 4, none⟩ = some (.slice none 0 0) := row_zP HR4.out 4 (by omega)
        have y4 : w9.frozen? ⟨g, ml.length * 6 + 4, none⟩ = false := (row_ownP HR4.out).frozenAt _
        have x5 : w9.cell? ⟨g, ml.length * 6 + 5, none⟩ = some (.slice none 0 0) := row_zP HR4.out 5 (by omega)
        have y5 : w9.frozen? ⟨g, ml.length * 6 + 5, none⟩ = false := (row_ownP HR4.out).frozenAt _
        go_simp
        clear x0 x1 x2 x3 x4 x5 y0 y1 y2 y3 y4 y5
        obtain ⟨wa, hwa⟩ : ∃ wa, wa = ((((((w9.setCell ⟨g, ml.length * 6, none⟩ (.string KEY)).setCell ⟨g, ml.length * 6 + 1, none⟩ (.int .i64 v.k)).setCell ⟨g, ml.length * 6 + 2, none⟩ (.int .i64 v.n)).setCell ⟨g, ml.length * 6 + 3, none⟩ (.string v.s)).setCell ⟨g, ml.length * 6 + 4, none⟩ (.slice v.lA v.l.length v.lc)).setCell ⟨g, ml.length * 6 + 5, none⟩ (.slice v.mA v.m.length v.mc)) := ⟨_, rfl⟩
        rw [← hwa]
        have HF5 : Hid (Fr (· = g) w9 wa) := Lib.hid (by rw [hwa]; exact fr_put6)
        have HR5 : Hid (ROwn 40 6 MV.pcs bs wa (.slice (some ⟨g, 0, none⟩) (ml.length + 1) cap) (ml ++ [v.wk KEY])) := Lib.hid (HR4.out.put rfl HV4.out (HVX2.out.mono (fun b hb => Nat.le_trans HBS.out hb.1.1)) HVG.out (by rw [hwa]; exact own_put6 (x := v.wk KEY) (row_ownP HR4.out) rfl) HF5.out)
        refine hK.out _ _ trivial (fun _ => ?_)
        clear hK K' hwa
        have bv := HBV4.out.fr HF5.out (fun e => by have := HGB.out; have := HNE.out; omega)
        have b3 : wa.cell? ⟨BV, 4, none⟩ = some (.slice vA ml.length vc) := by have := bv.cell 4; simpa using this
        have f3 : wa.frozen? ⟨BV, 4, none⟩ = false := bv.frozen 4
        have HBV5 := Lib.hid bv
        clear bv
        refine wpAnyH_ready (rs := [13]) (by kernel_rfl) (by simp) ?_
        refine AllReadyH.cons rfl (fun K' hK => ?_) AllReadyH.nil
        go_simp
        refine hK.out _ _ trivial (fun _ => ?_)
        clear hK K' b3 f3
        refine wpAnyH_done (by kernel_rfl) ?_ _
        go_wp2
        go_end0
        rw [HRES.out]
        exact prs_end (g := g) HBV5.out HJX4.out HFX.out HPS4.out HF5.out HR5.out HPV.out HFW4.out HNE.out HGB.out
      · have b3 : w9.cell? ⟨BV, 4, none⟩ = some (.slice vA ml.length vc) := by have := HBV4.out.cell 4; simpa using this
        have f3 : w9.frozen? ⟨BV, 4, none⟩ = false := HBV4.out.frozen 4
        go_simp
        obtain ⟨wa, hwa⟩ : ∃ wa, wa = w9.setCell ⟨BV, 4, none⟩ (.slice (some ⟨g, 0, none⟩) (ml.length + 1) cap) := ⟨_, rfl⟩
        rw [← hwa]
        have HF5 : Hid (Fr (· = BV) w9 wa) := Lib.hid (by rw [hwa]; exact frB)
        have HBV5 : Hid (Blk wa BV 25 #[.int .i64 6, .int .i64 0, .string ⟨#[]⟩, .slice none 0 0, .slice (some ⟨g, 0, none⟩) (ml.length + 1) cap]) := Lib.hid (by rw [hwa]; have := HBV4.out.set_ 4 (.slice (some ⟨g, 0, none⟩) (ml.length + 1) cap); simpa using this)
        have HR5 : Hid (ROwn 40 6 MV.pcs bs wa (.slice (some ⟨g, 0, none⟩) (ml.length + 1) cap) (ml ++ [zMV])) := Lib.hid (HR4.out.frS HF5.out (fun k hk e => by have := HR4.out.ge k hk; have := HNE.out; omega) (fun x hx => (HR4.out.fr x hx).mono (fun b hb e => by have := HNE.out; omega)))
        have HV5 : Hid (VAt wa (v.wk KEY)) := Lib.hid (HV4.out.fr HF5.out (HVX2.out.mono (fun b hb e => by have := HNE.out; have := HBS.out; have := hb.1.1; omega)))
        refine hK.out _ _ trivial (fun _ => ?_)
        clear hK K' b3 f3 hwa
        refine wpAnyH_ready (rs := [11]) (by kernel_rfl) (by simp) ?_
        refine AllReadyH.cons rfl (fun K' hK => ?_) AllReadyH.nil
        have x0 : wa.cell? ⟨g, ml.length * 6, none⟩ = some (.string ⟨#[]⟩) := row_zP HR5.out 0 (by omega)
        have y0 : wa.frozen? ⟨g, ml.length * 6, none⟩ = false := (row_ownP HR5.out).frozenAt _
        have x1 : wa.cell? ⟨g, ml.length * 6 + 1, none⟩ = some (.int .i64 0) := row_zP HR5.out 1 (by omega)
        have y1 : wa.frozen? ⟨g, ml.length * 6 + 1, none⟩ = false := (row_ownP HR5.out).frozenAt _
        have x2 : wa.cell? ⟨g, ml.length * 6 + 2, none⟩ = some (.int .i64 0) := row_zP HR5.out 2 (by omega)
        have y2 : wa.frozen? ⟨g, ml.length * 6 + 2, none⟩ = false := (row_ownP HR5.out).frozenAt _
        have x3 : wa.cell? ⟨g, ml.length * 6 + 3, none⟩ = some (.string ⟨#[]⟩) := row_zP HR5.out 3 (by omega)
        have y3 : wa.frozen? ⟨g, ml.length * 6 + 3, none⟩ = false := (row_ownP HR5.out).frozenAt _
        have x4 : wa.cell? ⟨g, ml.length * 6 + 4, none⟩ = some (.slice none 0 0) := row_zP HR5.out 4 (by omega)
        have y4 : wa.frozen? ⟨g, ml.length * 6 + 4, none⟩ = false := (row_ownP HR5.out).frozenAt _
        have x5 : wa.cell? ⟨g, ml.length * 6 + 5, none⟩ = some (.slice none 0 0) := row_zP HR5.out 5 (by omega)
        have y5 : wa.frozen? ⟨g, ml.length * 6 + 5, none⟩ = false := (row_ownP HR5.out).frozenAt _
        go_simp
        clear x0 x1 x2 x3 x4 x5 y0 y1 y2 y3 y4 y5
        obtain ⟨wb, hwb⟩ : ∃ wb, wb = ((((((wa.setCell ⟨g, ml.length * 6, none⟩ (.string KEY)).setCell ⟨g, ml.length * 6 + 1, none⟩ (.int .i64 v.k)).setCell ⟨g, ml.length * 6 + 2, none⟩ (.int .i64 v.n)).setCell ⟨g, ml.length * 6 + 3, none⟩ (.string v.s)).setCell ⟨g, ml.length * 6 + 4, none⟩ (.slice v.lA v.l.length v.lc)).setCell ⟨g, ml.length * 6 + 5, none⟩ (.slice v.mA v.m.length v.mc)) := ⟨_, rfl⟩
        rw [← hwb]
        have HF6 : Hid (Fr (· = g) wa wb) := Lib.hid (by rw [hwb]; exact fr_put6)
        have HR6 : Hid (ROwn 40 6 MV.pcs bs wb (.slice (some ⟨g, 0, none⟩) (ml.length + 1) cap) (ml ++ [v.wk KEY])) := Lib.hid (HR5.out.put rfl HV5.out (HVX2.out.mono (fun b hb => Nat.le_trans HBS.out hb.1.1)) HVG.out (by rw [hwb]; exact own_put6 (x := v.wk KEY) (row_ownP HR5.out) rfl) HF6.out)
        refine hK.out _ _ trivial (fun _ => ?_)
        clear hK K' hwb
        refine wpAnyH_done (by kernel_rfl) ?_ _
        go_wp2
        go_end0
        rw [HRES.out]
        exact prs_end2 (g := g) HBV5.out HJX4.out HFX.out HPS4.out HF5.out HF6.out HR6.out HPV.out HFW4.out HNE.out HGB.out
    · go_simp
      obtain ⟨w7, hw7⟩ : ∃ w7, w7 = WD.alloc (.cells #[.string ⟨#[]⟩, .int .i64 0, .int .i64 0, .string ⟨#[]⟩, .slice none 0 0, .slice none 0 0] 40) := ⟨_, rfl⟩
      rw [← hw7]
      have hb1 : Below WD.heap.size WD w7 := by rw [hw7]; exact (Below.refl _ _).alloc (Nat.le_refl _) _
      obtain ⟨Q, hQ⟩ : ∃ Q, Q = WD.heap.size := ⟨_, rfl⟩
      have HQ1 : Hid (Blk w7 Q 40 #[.string ⟨#[]⟩, .int .i64 0, .int .i64 0, .string ⟨#[]⟩, .slice none 0 0, .slice none 0 0]) := Lib.hid (by rw [hw7, hQ]; exact Blk.new _ _ _)
      rw [← hQ]
      have HQN : Hid (w6.heap.size ≤ Q) := Lib.hid (by rw [hQ]; exact HBD.out.size)
      refine hK.out _ _ (⟨(hS1).1.below hb1 (hS1).1.lt, (hS1).2.below hb1⟩) (fun hS2 => ?_)
      clear hK K' hS1
      have HB1 : Hid (Below w6.heap.size w6 w7) := Lib.hid (HBD.out.trans (hb1.mono HBD.out.size))
      clear hb1 hw7 hQ
      refine wpAnyT_ready (rs := [5]) (by kernel_rfl) (by simp) ?_
      refine AllReadyT.cons rfl (fun K' hK => ?_) AllReadyT.nil
      go_simp
      refine (HC.out w7 _ (HPS6.out.below HB1.out)).mono ?_
      rintro e w8 ⟨v, rfl, hpv, hvo, hps, hfr⟩
      unfold MV.val
      have HPV := Lib.hid hpv
      have HVO : Hid (VOwn w6.heap.size w8 v) := Lib.hid (vown_le hvo HB1.out.size)
      have HVX : Hid (BlkP (fun b => w7.heap.size ≤ b) v) := Lib.hid hvo.fr
      have HPS := Lib.hid hps
      have HFC : Hid (Fr (· = B) w7 w8) := Lib.hid hfr
      clear hpv hvo hps hfr
      refine hK.out _ _ (⟨(hS2).1.fr HFC.out (by have := HNE.out; omega), (hS2).2.fr HFC.out (by have := HNE.out; omega)⟩) (fun hS3 => ?_)
      clear hK K' hS2
      have HVO2 := HVO
      have HPS2 := HPS
      have HFW2 : Hid (Fr (· = B) w6 w8) := Lib.hid ((Fr.of_below HB1.out).trans HFC.out)
      have HQ : Hid (Blk w8 Q 40 #[.string ⟨#[]⟩, .int .i64 0, .int .i64 0, .string ⟨#[]⟩, .slice none 0 0, .slice none 0 0]) := Lib.hid (HQ1.out.fr HFC.out (by have := HNE.out; have := HQN.out; have := HBS.out; omega))
      refine wpAnyT_pure (i := 6) (oi := ⟨some 32, _, _, _, _, _⟩) (v := .agg #[.string KEY, .int .i64 v.k, .int .i64 v.n, .string v.s, .slice v.lA v.l.length v.lc, .slice v.mA v.m.length v.mc]) rfl (by kernel_rfl) (by kernel_rfl) (by kernel_rfl) (by decide) (fun _ _ _ h => h) (.inl ⟨by kernel_rfl, fun V hS => by go_simp⟩) hS3 ?_
      simp only [Act.put, List.setIfInBounds_toArray, List.set_cons_zero, List.set_cons_succ]
      have HVX2 : Hid (BlkP (fun b => (w6.heap.size ≤ b ∧ b < w8.heap.size) ∧ ¬ (Value.slice vA ml.length vc).ownBlock = some b) (v.wk KEY)) := Lib.hid (BlkP.wk ((HVO2.out.fr.and HVO2.out.at_.lt).and (HVO2.out.fr.mono (fun b hb e => by have := HROW.out.ltS b e; omega))) KEY)
      refine wpAnyT_T (by kernel_rfl) rfl (by kernel_rfl) (fun K' hK => ?_)
      have HRW : Hid (ROwn 40 6 MV.pcs bs w8 (.slice vA ml.length vc) ml) := Lib.hid (HROW.out.frS HFW2.out (fun g hg e => by have := (HROW.out.ge g hg); have := HNE.out; omega) (fun x hx => (HROW.out.fr x hx).mono (fun b hb e => by have := HNE.out; omega)))
      have HAV : Hid (BlkP (fun b => ¬ (Value.slice vA ml.length vc).ownBlock = some b) v) := Lib.hid (HVO2.out.fr.mono (fun b hb e => by have := HROW.out.ltS b e; omega))
      refine step_app_row w8 infoPair Tryz.underlying23 rfl (by omega) (by omega) (fun _ => rfl) oneC_pcs rfl (some 35) rfl _ _ rfl bs (.slice vA ml.length vc) ml rfl HRW.out Q rfl zMV HQ.out (zMV_at w8) zMV_blk zMV_blk HLEN.out (Nat.le_trans HBS.out HFW2.out.size) ?_
      intro v4 w9 hrow hg hat
      have HF4 : Hid (Fr (fun b => (Value.slice vA ml.length vc).ownBlock = some b) w8 w9) := Lib.hid (Fr.of_grown hg (fun g e => e))
      obtain ⟨g, cap, rfl, hgb⟩ := row_formP hrow
      have HR4 := Lib.hid hrow
      have HV4 : Hid (VAt w9 (v.wk KEY)) := Lib.hid (VAt.mwk (HVO2.out.at_.fr HF4.out (HAV.out)) KEY)
      have HVG : Hid (BlkP (fun b => ¬ b = g) (v.wk KEY)) := Lib.hid (HVX2.out.mono (fun b hb e => by
        subst e
        rcases hat with q | q
        · have q2 : (Value.slice vA ml.length vc).ownBlock = some b := by rw [← q]; rfl
          exact hb.2 q2
        · injection q with q; exact Nat.ne_of_lt hb.1.2 q))
      have HGB : Hid (bs ≤ g) := Lib.hid hgb
      have HBV4 : Hid (Blk w9 BV 25 #[.int .i64 6, .int .i64 0, .string ⟨#[]⟩, .slice none 0 0, .slice vA ml.length vc]) := Lib.hid ((hS3).1.fr HF4.out (fun e => by have := HRW.out.ge BV e; have := HNE.out; omega))
      have HJX4 := Lib.hid ((hS3).2.fr HF4.out ⟨fun e => by have := HRW.out.ge BP e; have := HNE.out; omega, fun e => by have := HRW.out.ge BS e; have := HNE.out; omega, fun e => by have := HRW.out.ge BD e; have := HNE.out; omega, fun e => by have := HRW.out.ge M e; have := HNE.out; omega⟩)
      have HPS4 := Lib.hid (HPS2.out.fr HF4.out (fun e => by have := HRW.out.ge B e; have := HNE.out; omega) (fun b e => by have := HRW.out.ge b e; have := HNE.out; omega))
      have HFW4 : Hid (Fr (fun b => b = B ∨ base ≤ b) w w9) := Lib.hid (HFW6.out.trans ((HFW2.out.mono (fun b _ e => .inl e)).trans (HF4.out.mono (fun b _ e => .inr (by have := HRW.out.ge b e; have := HNE.out; omega)))))
      clear hg hat hgb hrow
      refine hK.out _ _ ?_
      clear hK K' hS3
      simp only [Act.put, List.setIfInBounds_toArray, List.set_cons_zero, List.set_cons_succ]
      refine wpAnyH_take (i := 10) (oi := ⟨some 36, _, _, _, _, _⟩) (v := .pointer (some ⟨g, ml.length * 6, none⟩)) rfl (by kernel_rfl) (by kernel_rfl) (by kernel_rfl) (fun _ _ _ h => h) (.inl ⟨by kernel_rfl, fun V hS => by go_simp; try (intro hx; exfalso; omega)⟩) trivial ?_
      simp only [Act.put, List.setIfInBounds_toArray, List.set_cons_zero, List.set_cons_succ]
      refine wpAnyH_take (i := 12) (oi := ⟨some 37, _, _, _, _, _⟩) (v := .pointer (some ⟨BV, 4, none⟩)) rfl (by kernel_rfl) (by kernel_rfl) (by kernel_rfl) (fun _ _ _ h => h) (.inl ⟨by kernel_rfl, fun V hS => by go_simp⟩) trivial ?_
      simp only [Act.put, List.setIfInBounds_toArray, List.set_cons_zero, List.set_cons_succ]
      refine wpAnyH_ready (rs := [11, 13]) (by kernel_rfl) (by simp) ?_
      refine AllReadyH.cons rfl (fun K' hK => ?_) (AllReadyH.cons rfl (fun K' hK => ?_) AllReadyH.nil)
      · go_simp
        have x0 : w9.cell? ⟨g, ml.length * 6, none⟩ = some (.string ⟨#[]⟩) := row_zP HR4.out 0 (by omega)
        have y0 : w9.frozen? ⟨g, ml.length * 6, none⟩ = false := (row_ownP HR4.out).frozenAt _
        have x1 : w9.cell? ⟨g, ml.length * 6 + 1, none⟩ = some (.int .i64 0) := row_zP HR4.out 1 (by omega)
        have y1 : w9.frozen? ⟨g, ml.length * 6 + 1, none⟩ = false := (row_ownP HR4.out).frozenAt _
        have x2 : w9.cell? ⟨g, ml.length * 6 + 2, none⟩ = some (.int .i64 0) := row_zP HR4.out 2 (by omega)
        have y2 : w9.frozen? ⟨g, ml.length * 6 + 2, none⟩ = false := (row_ownP HR4.out).frozenAt _
        have x3 : w9.cell? ⟨g, ml.length * 6 + 3, none⟩ = some (.string ⟨#[]⟩) := row_zP HR4.out 3 (by omega)
        have y3 : w9.frozen? ⟨g, ml.length * 6 + 3, none⟩ = false := (row_ownP HR4.out).frozenAt _
        have x4 : w9.cell? ⟨g, ml.length * 6 + 4, none⟩ = some (.slice none 0 0) := row_zP HR4.out 4 (by omega)
        have y4 : w9.frozen? ⟨g, ml.length * 6 + 4, none⟩ = false := (row_ownP HR4.out).frozenAt _
        have x5 : w9.cell? ⟨g, ml.length * 6 + 5, none⟩ = some (.slice none 0 0) := row_zP HR4.out 5 (by omega)
        have y5 : w9.frozen? ⟨g, ml.length * 6 + 5, none⟩ = false := (row_ownP HR4.out).frozenAt _
        go_simp
        clear x0 x1 x2 x3 x4 x5 y0 y1 y2 y3 y4 y5
        obtain ⟨wa, hwa⟩ : ∃ wa, wa = ((((((w9.setCell ⟨g, ml.length * 6, none⟩ (.string KEY)).setCell ⟨g, ml.length * 6 + 1, none⟩ (.int .i64 v.k)).setCell ⟨g, ml.length * 6 + 2, none⟩ (.int .i64 v.n)).setCell ⟨g, ml.length * 6 + 3, none⟩ (.string v.s)).setCell ⟨g, ml.length * 6 + 4, none⟩ (.slice v.lA v.l.length v.lc)).setCell ⟨g, ml.length * 6 + 5, none⟩ (.slice v.mA v.m.length v.mc)) := ⟨_, rfl⟩
        rw [← hwa]
        have HF5 : Hid (Fr (· = g) w9 wa) := Lib.hid (by rw [hwa]; exact fr_put6)
        have HR5 : Hid (ROwn 40 6 MV.pcs bs wa (.slice (some ⟨g, 0, none⟩) (ml.length + 1) cap) (ml ++ [v.wk KEY])) := Lib.hid (HR4.out.put rfl HV4.out (HVX2.out.mono (fun b hb => Nat.le_trans HBS.out hb.1.1)) HVG.out (by rw [hwa]; exact own_put6 (x := v.wk KEY) (row_ownP HR4.out) rfl) HF5.out)
        refine hK.out _ _ trivial (fun _ => ?_)
        clear hK K' hwa
        have bv := HBV4.out.fr HF5.out (fun e => by have := HGB.out; have := HNE.out; omega)
        have b3 : wa.cell? ⟨BV, 4, none⟩ = some (.slice vA ml.length vc) := by have := bv.cell 4; simpa using this
        have f3 : wa.frozen? ⟨BV, 4, none⟩ = false := bv.frozen 4
        have HBV5 := Lib.hid bv
        clear bv
        refine wpAnyH_ready (rs := [13]) (by kernel_rfl) (by simp) ?_
        refine AllReadyH.cons rfl (fun K' hK => ?_) AllReadyH.nil
        go_simp
        refine hK.out _ _ trivial (fun _ => ?_)
        clear hK K' b3 f3
        refine wpAnyH_done (by kernel_rfl) ?_ _
        go_wp2
        go_end0
        rw [HRES.out]
        exact prs_end (g := g) HBV5.out HJX4.out HFX.out HPS4.out HF5.out HR5.out HPV.out HFW4.out HNE.out HGB.out
      · have b3 : w9.cell? ⟨BV, 4, none⟩ = some (.slice vA ml.length vc) := by have := HBV4.out.cell 4; simpa using this
        have f3 : w9.frozen? ⟨BV, 4, none⟩ = false := HBV4.out.frozen 4
        go_simp
        obtain ⟨wa, hwa⟩ : ∃ wa, wa = w9.setCell ⟨BV, 4, none⟩ (.slice (some ⟨g, 0, none⟩) (ml.length + 1) cap) := ⟨_, rfl⟩
        rw [← hwa]
        have HF5 : Hid (Fr (· = BV) w9 wa) := Lib.hid (by rw [hwa]; exact frB)
        have HBV5 : Hid (Blk wa BV 25 #[.int .i64 6, .int .i64 0, .string ⟨#[]⟩, .slice none 0 0, .slice (some ⟨g, 0, none⟩) (ml.length + 1) cap]) := Lib.hid (by rw [hwa]; have := HBV4.out.set_ 4 (.slice (some ⟨g, 0, none⟩) (ml.length + 1) cap); simpa using this)
        have HR5 : Hid (ROwn 40 6 MV.pcs bs wa (.slice (some ⟨g, 0, none⟩) (ml.length + 1) cap) (ml ++ [zMV])) := Lib.hid (HR4.out.frS HF5.out (fun k hk e => by have := HR4.out.ge k hk; have := HNE.out; omega) (fun x hx => (HR4.out.fr x hx).mono (fun b hb e => by have := HNE.out; omega)))
        have HV5 : Hid (VAt wa (v.wk KEY)) := Lib.hid (HV4.out.fr HF5.out (HVX2.out.mono (fun b hb e => by have := HNE.out; have := HBS.out; have := hb.1.1; omega)))
        refine hK.out _ _ trivial (fun _ => ?_)
        clear hK K' b3 f3 hwa
        refine wpAnyH_ready (rs := [11]) (by kernel_rfl) (by simp) ?_
        refine AllReadyH.cons rfl (fun K' hK => ?_) AllReadyH.nil
        have x0 : wa.cell? ⟨g, ml.length * 6, none⟩ = some (.string ⟨#[]⟩) := row_zP HR5.out 0 (by omega)
        have y0 : wa.frozen? ⟨g, ml.length * 6, none⟩ = false := (row_ownP HR5.out).frozenAt _
        have x1 : wa.cell? ⟨g, ml.length * 6 + 1, none⟩ = some (.int .i64 0) := row_zP HR5.out 1 (by omega)
        have y1 : wa.frozen? ⟨g, ml.length * 6 + 1, none⟩ = false := (row_ownP HR5.out).frozenAt _
        have x2 : wa.cell? ⟨g, ml.length * 6 + 2, none⟩ = some (.int .i64 0) := row_zP HR5.out 2 (by omega)
        have y2 : wa.frozen? ⟨g, ml.length * 6 + 2, none⟩ = false := (row_ownP HR5.out).frozenAt _
        have x3 : wa.cell? ⟨g, ml.length * 6 + 3, none⟩ = some (.string ⟨#[]⟩) := row_zP HR5.out 3 (by omega)
        have y3 : wa.frozen? ⟨g, ml.length * 6 + 3, none⟩ = false := (row_ownP HR5.out).frozenAt _
        have x4 : wa.cell? ⟨g, ml.length * 6 + 4, none⟩ = some (.slice none 0 0) := row_zP HR5.out 4 (by omega)
        have y4 : wa.frozen? ⟨g, ml.length * 6 + 4, none⟩ = false := (row_ownP HR5.out).frozenAt _
        have x5 : wa.cell? ⟨g, ml.length * 6 + 5, none⟩ = some (.slice none 0 0) := row_zP HR5.out 5 (by omega)
        have y5 : wa.frozen? ⟨g, ml.length * 6 + 5, none⟩ = false := (row_ownP HR5.out).frozenAt _
        go_simp
        clear x0 x1 x2 x3 x4 x5 y0 y1 y2 y3 y4 y5
        obtain ⟨wb, hwb⟩ : ∃ wb, wb = ((((((wa.setCell ⟨g, ml.length * 6, none⟩ (.string KEY)).setCell ⟨g, ml.length * 6 + 1, none⟩ (.int .i64 v.k)).setCell ⟨g, ml.length * 6 + 2, none⟩ (.int .i64 v.n)).setCell ⟨g, ml.length * 6 + 3, none⟩ (.string v.s)).setCell ⟨g, ml.length * 6 + 4, none⟩ (.slice v.lA v.l.length v.lc)).setCell ⟨g, ml.length * 6 + 5, none⟩ (.slice v.mA v.m.length v.mc)) := ⟨_, rfl⟩
        rw [← hwb]
        have HF6 : Hid (Fr (· = g) wa wb) := Lib.hid (by rw [hwb]; exact fr_put6)
        have HR6 : Hid (ROwn 40 6 MV.pcs bs wb (.slice (some ⟨g, 0, none⟩) (ml.length + 1) cap) (ml ++ [v.wk KEY])) := Lib.hid (HR5.out.put rfl HV5.out (HVX2.out.mono (fun b hb => Nat.le_trans HBS.out hb.1.1)) HVG.out (by rw [hwb]; exact own_put6 (x := v.wk KEY) (row_ownP HR5.out) rfl) HF6.out)
        refine hK.out _ _ trivial (fun _ => ?_)
        clear hK K' hwb
        refine wpAnyH_done (by kernel_rfl) ?_ _
        go_wp2
        go_end0
        rw [HRES.out]
        exact prs_end2 (g := g) HBV5.out HJX4.out HFX.out HPS4.out HF5.out HF6.out HR6.out HPV.out HFW4.out HNE.out HGB.out
  | false =>
    have HRES1 : Hid (RES = ((valP d ((q2.skip).need 58)).1, ml.map kp ++ [(KEY, (valP d ((q2.skip).need 58)).2)])) := Lib.hid (by rw [HRES0.out]; simp)
    obtain ⟨q3, hq3⟩ : ∃ q3, q3 = q2 := ⟨_, rfl⟩
    rw [← hq3] at HRES1
    obtain ⟨w3, hw3⟩ : ∃ w3, w3 = w2 := ⟨_, rfl⟩
    subst hw3
    have HP3 : Hid (PSt W B s w3 q3) := Lib.hid (by rw [hq3]; exact HP2.out)
    have HF3 := HF2
    have HJX3 := HJX2
    have pb3 := pb2
    have sb3 := sb2
    clear hq3
    obtain ⟨es', ck', pt3, km3⟩ := HJX3.out.km.put KEY HKS.out
    obtain ⟨w4, hw4⟩ : ∃ w4, w4 = setBlock w3 M (.map es' ck') := ⟨_, rfl⟩
    rw [← hw4] at pt3 km3
    have hf4 : Fr (· = M) w3 w4 := by rw [hw4]; exact fr_setBlk _ _ _
    have HF4 : Hid (Fr (· = M) w3 w4) := Lib.hid hf4
    have HJX4 : Hid (JX B BP BS BD M d (fun t => hasK (ml.map kp) t || decide (t = KEY)) w4) := Lib.hid ⟨HJX3.out.bp.fr hf4 (by have := HNE.out; omega), HJX3.out.bs.fr hf4 (by have := HNE.out; omega), HJX3.out.bd.fr hf4 (by have := HNE.out; omega), km3⟩
    have HP4 : Hid (PSt W B s w4 q3) := Lib.hid (HP3.out.fr hf4 (by have := HNE.out; omega) (fun b e => by have := HNE.out; omega))
    have pb4 : w4.cell? ⟨BP, 0, none⟩ = some (.pointer (some ⟨B, 0, none⟩)) := HJX4.out.bp.cell 0
    clear hf4 hw4 km3
    go_wp2_with fail
    refine (HSKQ.out w4 q3 HP4.out).mono ?_
    rintro e w5 ⟨rfl, hp5, hf5⟩
    have HP5 := Lib.hid hp5
    have HF5 := Lib.hid hf5
    have HJX5 := Lib.hid (HJX4.out.fr hf5 (by have := HNE.out; omega))
    have pb5 : w5.cell? ⟨BP, 0, none⟩ = some (.pointer (some ⟨B, 0, none⟩)) := HJX5.out.bp.cell 0
    clear hp5 hf5 pb4 pt3
    go_wp2_with fail
    refine (HNEED.out w5 _ HP5.out).mono ?_
    rintro e w6 ⟨rfl, hp6, hf6⟩
    obtain ⟨q6, hq6⟩ : ∃ q6, q6 = q3.skip.need 58 := ⟨_, rfl⟩
    rw [← hq6] at hp6 HRES1
    have HPS6 := Lib.hid hp6
    have HRES := HRES1
    obtain ⟨F, hFF⟩ : ∃ F, F = (fun t => hasK (ml.map kp) t || decide (t = KEY)) := ⟨_, rfl⟩
    have HFX : Hid (∀ t, F t = (hasK (ml.map kp) t || decide (t = KEY))) := Lib.hid (fun t => by rw [hFF])
    have hjx6 := HJX5.out.fr hf6 (by have := HNE.out; omega)
    rw [← hFF] at hjx6
    have HFB : Hid (Fr (fun b => b = B ∨ b = M) w w6) := Lib.hid ((((HF3.out.mono (fun b _ e => .inl e)).trans (HF4.out.mono (fun b _ e => .inr e))).trans (HF5.out.mono (fun b _ e => .inl e))).trans (hf6.mono (fun b _ e => .inl e)))
    have HFW6 : Hid (Fr (fun b => b = B ∨ base ≤ b) w w6) := Lib.hid (HFB.out.mono (fun b _ e => by have := HNE.out; omega))
    have HBS : Hid (bs ≤ w6.heap.size) := Lib.hid (Nat.le_trans HBS0.out HFB.out.size)
    have HROW : Hid (ROwn 40 6 MV.pcs bs w6 (.slice vA ml.length vc) ml) := Lib.hid (HROW0.out.frS HFB.out (fun g hg e => by have := HROW0.out.ge g hg; have := HNE.out; omega) (fun x hx => (HROW0.out.fr x hx).mono (fun b hb e => by have := HNE.out; omega)))
    have hbv6 := HBV0.out.fr HFB.out (by have := HNE.out; omega)
    have HS0 : Hid ((fun V => Blk V BV 25 #[.int .i64 6, .int .i64 0, .string ⟨#[]⟩, .slice none 0 0, .slice vA ml.length vc] ∧ JX B BP BS BD M d F V) w6.drew) := Lib.hid ⟨hbv6, hjx6.below (Below.refl _ _).drew⟩
    clear hbv6 hp6 hf6 pb5 hq6 hFF hjx6 HRES1
    go_wp2_with fail
    refine wp_region_heldT (S := fun V => Blk V BV 25 #[.int .i64 6, .int .i64 0, .string ⟨#[]⟩, .slice none 0 0, .slice vA ml.length vc] ∧ JX B BP BS BD M d F V) 9 (by kernel_rfl) (HS0.out) (fun hS1 => ?_)
    obtain ⟨WD, hWD⟩ : ∃ WD, WD = w6.drew := ⟨_, rfl⟩
    rw [← hWD] at hS1 ⊢
    have HBD : Hid (Below w6.heap.size w6 WD) := Lib.hid (by rw [hWD]; exact (Below.refl _ _).drew)
    clear hWD
    refine wpAnyT_pure (i := 0) (oi := ⟨some 26, _, _, _, _, _⟩) (v := .pointer (some ⟨BV, 4, none⟩)) rfl (by kernel_rfl) (by kernel_rfl) (by kernel_rfl) (by decide) (fun _ _ _ h => h) (.inl ⟨by kernel_rfl, fun V hS => by go_simp⟩) hS1 ?_
    simp only [Act.put, List.setIfInBounds_toArray, List.set_cons_zero, List.set_cons_succ]
    refine wpAnyT_take (i := 1) (oi := ⟨some 27, _, _, _, _, _⟩) (v := .slice vA ml.length vc) rfl (by kernel_rfl) (by kernel_rfl) (by kernel_rfl) (by kernel_rfl) (by kernel_rfl) (fun _ _ _ h => h) (.inl ⟨by kernel_rfl, fun V hS => by have sc := hS.1.cell 4; simp at sc; go_simp⟩) hS1 ?_
    simp only [Act.put, List.setIfInBounds_toArray, List.set_cons_zero, List.set_cons_succ]
    refine wpAnyT_pure (i := 2) (oi := ⟨some 28, _, _, _, _, _⟩) (v := .string KEY) rfl (by kernel_rfl) (by kernel_rfl) (by kernel_rfl) (by decide) (fun _ _ _ h => h) (.inl ⟨by kernel_rfl, fun V hS => by go_simp⟩) hS1 ?_
    simp only [Act.put, List.setIfInBounds_toArray, List.set_cons_zero, List.set_cons_succ]
    refine wpAnyT_take (i := 3) (oi := ⟨some 29, _, _, _, _, _⟩) (v := .pointer (some ⟨B, 0, none⟩)) rfl (by kernel_rfl) (by kernel_rfl) (by kernel_rfl) (by kernel_rfl) (by kernel_rfl) (fun _ _ _ h => h) (.inl ⟨by kernel_rfl, fun V hS => by have sc := hS.2.bp.cell 0; simp at sc; go_simp⟩) hS1 ?_
    simp only [Act.put, List.setIfInBounds_toArray, List.set_cons_zero, List.set_cons_succ]
    refine wpAnyT_take (i := 4) (oi := ⟨some 30, _, _, _, _, _⟩) (v := .int .i64 d) rfl (by kernel_rfl) (by kernel_rfl) (by kernel_rfl) (by kernel_rfl) (by kernel_rfl) (fun _ _ _ h => h) (.inl ⟨by kernel_rfl, fun V hS => by have sc := hS.2.bd.cell 0; simp at sc; go_simp⟩) hS1 ?_
    simp only [Act.put, List.setIfInBounds_toArray, List.set_cons_zero, List.set_cons_succ]
    refine wpAnyT_pure (i := 7) (oi := ⟨some 33, _, _, _, _, _⟩) (v := .int .i64 (ml.length : Int)) rfl (by kernel_rfl) (by kernel_rfl) (by kernel_rfl) (by decide) (fun _ _ _ h => h) (.inl ⟨by kernel_rfl, fun V hS => by go_simp⟩) hS1 ?_
    simp only [Act.put, List.setIfInBounds_toArray, List.set_cons_zero, List.set_cons_succ]
    refine wpAnyT_ready (rs := [5, 8]) (by kernel_rfl) (by simp) ?_
    refine AllReadyT.cons rfl (fun K' hK => ?_) (AllReadyT.cons rfl (fun K' hK => ?_) AllReadyT.nil)
    · go_simp
      refine (HC.out WD _ (HPS6.out.below HBD.out)).mono ?_
      rintro e w7 ⟨v, rfl, hpv, hvo, hps, hfr⟩
      unfold MV.val
      have HPV := Lib.hid hpv
      have HVO : Hid (VOwn w6.heap.size w7 v) := Lib.hid (vown_le hvo HBD.out.size)
      have HVX : Hid (BlkP (fun b => WD.heap.size ≤ b) v) := Lib.hid hvo.fr
      have HPS := Lib.hid hps
      have HFC : Hid (Fr (· = B) WD w7) := Lib.hid hfr
      clear hpv hvo hps hfr
      refine hK.out _ _ (⟨(hS1).1.fr HFC.out (by have := HNE.out; omega), (hS1).2.fr HFC.out (by have := HNE.out; omega)⟩) (fun hS2 => ?_)
      clear hK K' hS1
      have HFW : Hid (Fr (· = B) w6 w7) := Lib.hid ((Fr.of_below HBD.out).trans HFC.out)
      refine wpAnyT_pure (i := 6) (oi := ⟨some 32, _, _, _, _, _⟩) (v := .agg #[.string KEY, .int .i64 v.k, .int .i64 v.n, .string v.s, .slice v.lA v.l.length v.lc, .slice v.mA v.m.length v.mc]) rfl (by kernel_rfl) (by kernel_rfl) (by kernel_rfl) (by decide) (fun _ _ _ h => h) (.inl ⟨by kernel_rfl, fun V hS => by go_simp⟩) hS2 ?_
      simp only [Act.put, List.setIfInBounds_toArray, List.set_cons_zero, List.set_cons_succ]
      refine wpAnyT_ready (rs := [8]) (by kernel_rfl) (by simp) ?_
      refine AllReadyT.cons rfl (fun K' hK => ?_) AllReadyT.nil
      go_simp
      obtain ⟨w8, hw8⟩ : ∃ w8, w8 = w7.alloc (.cells #[.string ⟨#[]⟩, .int .i64 0, .int .i64 0, .string ⟨#[]⟩, .slice none 0 0, .slice none 0 0] 40) := ⟨_, rfl⟩
      rw [← hw8]
      have hb2 : Below w7.heap.size w7 w8 := by rw [hw8]; exact (Below.refl _ _).alloc (Nat.le_refl _) _
      obtain ⟨Q, hQ⟩ : ∃ Q, Q = w7.heap.size := ⟨_, rfl⟩
      have HQ : Hid (Blk w8 Q 40 #[.string ⟨#[]⟩, .int .i64 0, .int .i64 0, .string ⟨#[]⟩, .slice none 0 0, .slice none 0 0]) := Lib.hid (by rw [hw8, hQ]; exact Blk.new _ _ _)
      rw [← hQ]
      have HQN : Hid (w6.heap.size ≤ Q) := Lib.hid (by rw [hQ]; exact HFW.out.size)
      refine hK.out _ _ (⟨(hS2).1.below hb2 (hS2).1.lt, (hS2).2.below hb2⟩) (fun hS3 => ?_)
      clear hK K' hS2
      have HVO2 : Hid (VOwn w6.heap.size w8 v) := Lib.hid (HVO.out.below hb2)
      have HPS2 := Lib.hid (HPS.out.below hb2)
      have HFW2 : Hid (Fr (· = B) w6 w8) := Lib.hid (HFW.out.below hb2)
      clear hb2 hw8 hQ
      have HVX2 : Hid (BlkP (fun b => (w6.heap.size ≤ b ∧ b < w8.heap.size) ∧ ¬ (Value.slice vA ml.length vc).ownBlock = some b) (v.wk KEY)) := Lib.hid (BlkP.wk ((HVO2.out.fr.and HVO2.out.at_.lt).and (HVO2.out.fr.mono (fun b hb e => by have := HROW.out.ltS b e; omega))) KEY)
      refine wpAnyT_T (by kernel_rfl) rfl (by kernel_rfl) (fun K' hK => ?_)
      have HRW : Hid (ROwn 40 6 MV.pcs bs w8 (.slice vA ml.length vc) ml) := Lib.hid (HROW.out.frS HFW2.out (fun g hg e => by have := (HROW.out.ge g hg); have := HNE.out; omega) (fun x hx => (HROW.out.fr x hx).mono (fun b hb e => by have := HNE.out; omega)))
      have HAV : Hid (BlkP (fun b => ¬ (Value.slice vA ml.length vc).ownBlock = some b) v) := Lib.hid (HVO2.out.fr.mono (fun b hb e => by have := HROW.out.ltS b e; omega))
      refine step_app_row w8 infoPair Tryz.underlying23 rfl (by omega) (by omega) (fun _ => rfl) oneC_pcs rfl (some 35) rfl _ _ rfl bs (.slice vA ml.length vc) ml rfl HRW.out Q rfl zMV HQ.out (zMV_at w8) zMV_blk zMV_blk HLEN.out (Nat.le_trans HBS.out HFW2.out.size) ?_
      intro v4 w9 hrow hg hat
      have HF4 : Hid (Fr (fun b => (Value.slice vA ml.length vc).ownBlock = some b) w8 w9) := Lib.hid (Fr.of_grown hg (fun g e => e))
      obtain ⟨g, cap, rfl, hgb⟩ := row_formP hrow
      have HR4 := Lib.hid hrow
      have HV4 : Hid (VAt w9 (v.wk KEY)) := Lib.hid (VAt.mwk (HVO2.out.at_.fr HF4.out (HAV.out)) KEY)
      have HVG : Hid (BlkP (fun b => ¬ b = g) (v.wk KEY)) := Lib.hid (HVX2.out.mono (fun b hb e => by
        subst e
        rcases hat with q | q
        · have q2 : (Value.slice vA ml.length vc).ownBlock = some b := by rw [← q]; rfl
          exact hb.2 q2
        · injection q with q; exact Nat.ne_of_lt hb.1.2 q))
      have HGB : Hid (bs ≤ g) := Lib.hid hgb
      have HBV4 : Hid (Blk w9 BV 25 #[.int .i64 6, .int .i64 0, .string ⟨#[]⟩, .slice none 0 0, .slice vA ml.length vc]) := Lib.hid ((hS3).1.fr HF4.out (fun e => by have := HRW.out.ge BV e; have := HNE.out; omega))
      have HJX4 := Lib.hid ((hS3).2.fr HF4.out ⟨fun e => by have := HRW.out.ge BP e; have := HNE.out; omega, fun e => by have := HRW.out.ge BS e; have := HNE.out; omega, fun e => by have := HRW.out.ge BD e; have := HNE.out; omega, fun e => by have := HRW.out.ge M e; have := HNE.out; omega⟩)
      have HPS4 := Lib.hid (HPS2.out.fr HF4.out (fun e => by have := HRW.out.ge B e; have := HNE.out; omega) (fun b e => by have := HRW.out.ge b e; have := HNE.out; omega))
      have HFW4 : Hid (Fr (fun b => b = B ∨ base ≤ b) w w9) := Lib.hid (HFW6.out.trans ((HFW2.out.mono (fun b _ e => .inl e)).trans (HF4.out.mono (fun b _ e => .inr (by have := HRW.out.ge b e; have := HNE.out; omega)))))
      clear hg hat hgb hrow
      refine hK.out _ _ ?_
      clear hK K' hS3
      simp only [Act.put, List.setIfInBounds_toArray, List.set_cons_zero, List.set_cons_succ]
      refine wpAnyH_take (i := 10) (oi := ⟨some 36, _, _, _, _, _⟩) (v := .pointer (some ⟨g, ml.length * 6, none⟩)) rfl (by kernel_rfl) (by kernel_rfl) (by kernel_rfl) (fun _ _ _ h => h) (.inl ⟨by kernel_rfl, fun V hS => by go_simp; try (intro hx; exfalso; omega)⟩) trivial ?_
      simp only [Act.put, List.setIfInBounds_toArray, List.set_cons_zero, List.set_cons_succ]
      refine wpAnyH_take (i := 12) (oi := ⟨some 37, _, _, _, _, _⟩) (v := .pointer (some ⟨BV, 4, none⟩)) rfl (by kernel_rfl) (by kernel_rfl) (by kernel_rfl) (fun _ _ _ h => h) (.inl ⟨by kernel_rfl, fun V hS => by go_simp⟩) trivial ?_
      simp only [Act.put, List.setIfInBounds_toArray, List.set_cons_zero, List.set_cons_succ]
      refine wpAnyH_ready (rs := [11, 13]) (by kernel_rfl) (by simp) ?_
      refine AllReadyH.cons rfl (fun K' hK => ?_) (AllReadyH.cons rfl (fun K' hK => ?_) AllReadyH.nil)
      · go_simp
        have x0 : w9.cell? ⟨g, ml.length * 6, none⟩ = some (.string ⟨#[]⟩) := row_zP HR4.out 0 (by omega)
        have y0 : w9.frozen? ⟨g, ml.length * 6, none⟩ = false := (row_ownP HR4.out).frozenAt _
        have x1 : w9.cell? ⟨g, ml.length * 6 + 1, none⟩ = some (.int .i64 0) := row_zP HR4.out 1 (by omega)
        have y1 : w9.frozen? ⟨g, ml.length * 6 + 1, none⟩ = false := (row_ownP HR4.out).frozenAt _
        have x2 : w9.cell? ⟨g, ml.length * 6 + 2, none⟩ = some (.int .i64 0) := row_zP HR4.out 2 (by omega)
        have y2 : w9.frozen? ⟨g, ml.length * 6 + 2, none⟩ = false := (row_ownP HR4.out).frozenAt _
        have x3 : w9.cell? ⟨g, ml.length * 6 + 3, none⟩ = some (.string ⟨#[]⟩) := row_zP HR4.out 3 (by omega)
        have y3 : w9.frozen? ⟨g, ml.length * 6 + 3, none⟩ = false := (row_ownP HR4.out).frozenAt _
        have x4 : w9.cell? ⟨g, ml.length * 6 + 4, none⟩ = some (.slice none 0 0) := row_zP HR4.out 4 (by omega)
        have y4 : w9.frozen? ⟨g, ml.length * 6 + 4, none⟩ = false := (row_ownP HR4.out).frozenAt _
        have x5 : w9.cell? ⟨g, ml.length * 6 + 5, none⟩ = some (.slice none 0 0) := row_zP HR4.out 5 (by omega)
        have y5 : w9.frozen? ⟨g, ml.length * 6 + 5, none⟩ = false := (row_ownP HR4.out).frozenAt _
        go_simp
        clear x0 x1 x2 x3 x4 x5 y0 y1 y2 y3 y4 y5
        obtain ⟨wa, hwa⟩ : ∃ wa, wa = ((((((w9.setCell ⟨g, ml.length * 6, none⟩ (.string KEY)).setCell ⟨g, ml.length * 6 + 1, none⟩ (.int .i64 v.k)).setCell ⟨g, ml.length * 6 + 2, none⟩ (.int .i64 v.n)).setCell ⟨g, ml.length * 6 + 3, none⟩ (.string v.s)).setCell ⟨g, ml.length * 6 + 4, none⟩ (.slice v.lA v.l.length v.lc)).setCell ⟨g, ml.length * 6 + 5, none⟩ (.slice v.mA v.m.length v.mc)) := ⟨_, rfl⟩
        rw [← hwa]
        have HF5 : Hid (Fr (· = g) w9 wa) := Lib.hid (by rw [hwa]; exact fr_put6)
        have HR5 : Hid (ROwn 40 6 MV.pcs bs wa (.slice (some ⟨g, 0, none⟩) (ml.length + 1) cap) (ml ++ [v.wk KEY])) := Lib.hid (HR4.out.put rfl HV4.out (HVX2.out.mono (fun b hb => Nat.le_trans HBS.out hb.1.1)) HVG.out (by rw [hwa]; exact own_put6 (x := v.wk KEY) (row_ownP HR4.out) rfl) HF5.out)
        refine hK.out _ _ trivial (fun _ => ?_)
        clear hK K' hwa
        have bv := HBV4.out.fr HF5.out (fun e => by have := HGB.out; have := HNE.out; omega)
        have b3 : wa.cell? ⟨BV, 4, none⟩ = some (.slice vA ml.length vc) := by have := bv.cell 4; simpa using this
        have f3 : wa.frozen? ⟨BV, 4, none⟩ = false := bv.frozen 4
        have HBV5 := Lib.hid bv
        clear bv
        refine wpAnyH_ready (rs := [13]) (by kernel_rfl) (by simp) ?_
        refine AllReadyH.cons rfl (fun K' hK => ?_) AllReadyH.nil
        go_simp
        refine hK.out _ _ trivial (fun _ => ?_)
        clear hK K' b3 f3
        refine wpAnyH_done (by kernel_rfl) ?_ _
        go_wp2
        go_end0
        rw [HRES.out]
        exact prs_end (g := g) HBV5.out HJX4.out HFX.out HPS4.out HF5.out HR5.out HPV.out HFW4.out HNE.out HGB.out
      · have b3 : w9.cell? ⟨BV, 4, none⟩ = some (.slice vA ml.length vc) := by have := HBV4.out.cell 4; simpa using this
        have f3 : w9.frozen? ⟨BV, 4, none⟩ = false := HBV4.out.frozen 4
        go_simp
        obtain ⟨wa, hwa⟩ : ∃ wa, wa = w9.setCell ⟨BV, 4, none⟩ (.slice (some ⟨g, 0, none⟩) (ml.length + 1) cap) := ⟨_, rfl⟩
        rw [← hwa]
        have HF5 : Hid (Fr (· = BV) w9 wa) := Lib.hid (by rw [hwa]; exact frB)
        have HBV5 : Hid (Blk wa BV 25 #[.int .i64 6, .int .i64 0, .string ⟨#[]⟩, .slice none 0 0, .slice (some ⟨g, 0, none⟩) (ml.length + 1) cap]) := Lib.hid (by rw [hwa]; have := HBV4.out.set_ 4 (.slice (some ⟨g, 0, none⟩) (ml.length + 1) cap); simpa using this)
        have HR5 : Hid (ROwn 40 6 MV.pcs bs wa (.slice (some ⟨g, 0, none⟩) (ml.length + 1) cap) (ml ++ [zMV])) := Lib.hid (HR4.out.frS HF5.out (fun k hk e => by have := HR4.out.ge k hk; have := HNE.out; omega) (fun x hx => (HR4.out.fr x hx).mono (fun b hb e => by have := HNE.out; omega)))
        have HV5 : Hid (VAt wa (v.wk KEY)) := Lib.hid (HV4.out.fr HF5.out (HVX2.out.mono (fun b hb e => by have := HNE.out; have := HBS.out; have := hb.1.1; omega)))
        refine hK.out _ _ trivial (fun _ => ?_)
        clear hK K' b3 f3 hwa
        refine wpAnyH_ready (rs := [11]) (by kernel_rfl) (by simp) ?_
        refine AllReadyH.cons rfl (fun K' hK => ?_) AllReadyH.nil
        have x0 : wa.cell? ⟨g, ml.length * 6, none⟩ = some (.string ⟨#[]⟩) := row_zP HR5.out 0 (by omega)
        have y0 : wa.frozen? ⟨g, ml.length * 6, none⟩ = false := (row_ownP HR5.out).frozenAt _
        have x1 : wa.cell? ⟨g, ml.length * 6 + 1, none⟩ = some (.int .i64 0) := row_zP HR5.out 1 (by omega)
        have y1 : wa.frozen? ⟨g, ml.length * 6 + 1, none⟩ = false := (row_ownP HR5.out).frozenAt _
        have x2 : wa.cell? ⟨g, ml.length * 6 + 2, none⟩ = some (.int .i64 0) := row_zP HR5.out 2 (by omega)
        have y2 : wa.frozen? ⟨g, ml.length * 6 + 2, none⟩ = false := (row_ownP HR5.out).frozenAt _
        have x3 : wa.cell? ⟨g, ml.length * 6 + 3, none⟩ = some (.string ⟨#[]⟩) := row_zP HR5.out 3 (by omega)
        have y3 : wa.frozen? ⟨g, ml.length * 6 + 3, none⟩ = false := (row_ownP HR5.out).frozenAt _
        have x4 : wa.cell? ⟨g, ml.length * 6 + 4, none⟩ = some (.slice none 0 0) := row_zP HR5.out 4 (by omega)
        have y4 : wa.frozen? ⟨g, ml.length * 6 + 4, none⟩ = false := (row_ownP HR5.out).frozenAt _
        have x5 : wa.cell? ⟨g, ml.length * 6 + 5, none⟩ = some (.slice none 0 0) := row_zP HR5.out 5 (by omega)
        have y5 : wa.frozen? ⟨g, ml.length * 6 + 5, none⟩ = false := (row_ownP HR5.out).frozenAt _
        go_simp
        clear x0 x1 x2 x3 x4 x5 y0 y1 y2 y3 y4 y5
        obtain ⟨wb, hwb⟩ : ∃ wb, wb = ((((((wa.setCell ⟨g, ml.length * 6, none⟩ (.string KEY)).setCell ⟨g, ml.length * 6 + 1, none⟩ (.int .i64 v.k)).setCell ⟨g, ml.length * 6 + 2, none⟩ (.int .i64 v.n)).setCell ⟨g, ml.length * 6 + 3, none⟩ (.string v.s)).setCell ⟨g, ml.length * 6 + 4, none⟩ (.slice v.lA v.l.length v.lc)).setCell ⟨g, ml.length * 6 + 5, none⟩ (.slice v.mA v.m.length v.mc)) := ⟨_, rfl⟩
        rw [← hwb]
        have HF6 : Hid (Fr (· = g) wa wb) := Lib.hid (by rw [hwb]; exact fr_put6)
        have HR6 : Hid (ROwn 40 6 MV.pcs bs wb (.slice (some ⟨g, 0, none⟩) (ml.length + 1) cap) (ml ++ [v.wk KEY])) := Lib.hid (HR5.out.put rfl HV5.out (HVX2.out.mono (fun b hb => Nat.le_trans HBS.out hb.1.1)) HVG.out (by rw [hwb]; exact own_put6 (x := v.wk KEY) (row_ownP HR5.out) rfl) HF6.out)
        refine hK.out _ _ trivial (fun _ => ?_)
        clear hK K' hwb
        refine wpAnyH_done (by kernel_rfl) ?_ _
        go_wp2
        go_end0
        rw [HRES.out]
        exact prs_end2 (g := g) HBV5.out HJX4.out HFX.out HPS4.out HF5.out HF6.out HR6.out HPV.out HFW4.out HNE.out HGB.out
    · go_simp
      obtain ⟨w7, hw7⟩ : ∃ w7, w7 = WD.alloc (.cells #[.string ⟨#[]⟩, .int .i64 0, .int .i64 0, .string ⟨#[]⟩, .slice none 0 0, .slice none 0 0] 40) := ⟨_, rfl⟩
      rw [← hw7]
      have hb1 : Below WD.heap.size WD w7 := by rw [hw7]; exact (Below.refl _ _).alloc (Nat.le_refl _) _
      obtain ⟨Q, hQ⟩ : ∃ Q, Q = WD.heap.size := ⟨_, rfl⟩
      have HQ1 : Hid (Blk w7 Q 40 #[.string ⟨#[]⟩, .int .i64 0, .int .i64 0, .string ⟨#[]⟩, .slice none 0 0, .slice none 0 0]) := Lib.hid (by rw [hw7, hQ]; exact Blk.new _ _ _)
      rw [← hQ]
      have HQN : Hid (w6.heap.size ≤ Q) := Lib.hid (by rw [hQ]; exact HBD.out.size)
      refine hK.out _ _ (⟨(hS1).1.below hb1 (hS1).1.lt, (hS1).2.below hb1⟩) (fun hS2 => ?_)
      clear hK K' hS1
      have HB1 : Hid (Below w6.heap.size w6 w7) := Lib.hid (HBD.out.trans (hb1.mono HBD.out.size))
      clear hb1 hw7 hQ
      refine wpAnyT_ready (rs := [5]) (by kernel_rfl) (by simp) ?_
      refine AllReadyT.cons rfl (fun K' hK => ?_) AllReadyT.nil
      go_simp
      refine (HC.out w7 _ (HPS6.out.below HB1.out)).mono ?_
      rintro e w8 ⟨v, rfl, hpv, hvo, hps, hfr⟩
      unfold MV.val
      have HPV := Lib.hid hpv
      have HVO : Hid (VOwn w6.heap.size w8 v) := Lib.hid (vown_le hvo HB1.out.size)
      have HVX : Hid (BlkP (fun b => w7.heap.size ≤ b) v) := Lib.hid hvo.fr
      have HPS := Lib.hid hps
      have HFC : Hid (Fr (· = B) w7 w8) := Lib.hid hfr
      clear hpv hvo hps hfr
      refine hK.out _ _ (⟨(hS2).1.fr HFC.out (by have := HNE.out; omega), (hS2).2.fr HFC.out (by have := HNE.out; omega)⟩) (fun hS3 => ?_)
      clear hK K' hS2
      have HVO2 := HVO
      have HPS2 := HPS
      have HFW2 : Hid (Fr (· = B) w6 w8) := Lib.hid ((Fr.of_below HB1.out).trans HFC.out)
      have HQ : Hid (Blk w8 Q 40 #[.string ⟨#[]⟩, .int .i64 0, .int .i64 0, .string ⟨#[]⟩, .slice none 0 0, .slice none 0 0]) := Lib.hid (HQ1.out.fr HFC.out (by have := HNE.out; have := HQN.out; have := HBS.out; omega))
      refine wpAnyT_pure (i := 6) (oi := ⟨some 32, _, _, _, _, _⟩) (v := .agg #[.string KEY, .int .i64 v.k, .int .i64 v.n, .string v.s, .slice v.lA v.l.length v.lc, .slice v.mA v.m.length v.mc]) rfl (by kernel_rfl) (by kernel_rfl) (by kernel_rfl) (by decide) (fun _ _ _ h => h) (.inl ⟨by kernel_rfl, fun V hS => by go_simp⟩) hS3 ?_
      simp only [Act.put, List.setIfInBounds_toArray, List.set_cons_zero, List.set_cons_succ]
      have HVX2 : Hid (BlkP (fun b => (w6.heap.size ≤ b ∧ b < w8.heap.size) ∧ ¬ (Value.slice vA ml.length vc).ownBlock = some b) (v.wk KEY)) := Lib.hid (BlkP.wk ((HVO2.out.fr.and HVO2.out.at_.lt).and (HVO2.out.fr.mono (fun b hb e => by have := HROW.out.ltS b e; omega))) KEY)
      refine wpAnyT_T (by kernel_rfl) rfl (by kernel_rfl) (fun K' hK => ?_)
      have HRW : Hid (ROwn 40 6 MV.pcs bs w8 (.slice vA ml.length vc) ml) := Lib.hid (HROW.out.frS HFW2.out (fun g hg e => by have := (HROW.out.ge g hg); have := HNE.out; omega) (fun x hx => (HROW.out.fr x hx).mono (fun b hb e => by have := HNE.out; omega)))
      have HAV : Hid (BlkP (fun b => ¬ (Value.slice vA ml.length vc).ownBlock = some b) v) := Lib.hid (HVO2.out.fr.mono (fun b hb e => by have := HROW.out.ltS b e; omega))
      refine step_app_row w8 infoPair Tryz.underlying23 rfl (by omega) (by omega) (fun _ => rfl) oneC_pcs rfl (some 35) rfl _ _ rfl bs (.slice vA ml.length vc) ml rfl HRW.out Q rfl zMV HQ.out (zMV_at w8) zMV_blk zMV_blk HLEN.out (Nat.le_trans HBS.out HFW2.out.size) ?_
      intro v4 w9 hrow hg hat
      have HF4 : Hid (Fr (fun b => (Value.slice vA ml.length vc).ownBlock = some b) w8 w9) := Lib.hid (Fr.of_grown hg (fun g e => e))
      obtain ⟨g, cap, rfl, hgb⟩ := row_formP hrow
      have HR4 := Lib.hid hrow
      have HV4 : Hid (VAt w9 (v.wk KEY)) := Lib.hid (VAt.mwk (HVO2.out.at_.fr HF4.out (HAV.out)) KEY)
      have HVG : Hid (BlkP (fun b => ¬ b = g) (v.wk KEY)) := Lib.hid (HVX2.out.mono (fun b hb e => by
        subst e
        rcases hat with q | q
        · have q2 : (Value.slice vA ml.length vc).ownBlock = some b := by rw [← q]; rfl
          exact hb.2 q2
        · injection q with q; exact Nat.ne_of_lt hb.1.2 q))
      have HGB : Hid (bs ≤ g) := Lib.hid hgb
      have HBV4 : Hid (Blk w9 BV 25 #[.int .i64 6, .int .i64 0, .string ⟨#[]⟩, .slice none 0 0, .slice vA ml.length vc]) := Lib.hid ((hS3).1.fr HF4.out (fun e => by have := HRW.out.ge BV e; have := HNE.out; omega))
      have HJX4 := Lib.hid ((hS3).2.fr HF4.out ⟨fun e => by have := HRW.out.ge BP e; have := HNE.out; omega, fun e => by have := HRW.out.ge BS e; have := HNE.out; omega, fun e => by have := HRW.out.ge BD e; have := HNE.out; omega, fun e => by have := HRW.out.ge M e; have := HNE.out; omega⟩)
      have HPS4 := Lib.hid (HPS2.out.fr HF4.out (fun e => by have := HRW.out.ge B e; have := HNE.out; omega) (fun b e => by have := HRW.out.ge b e; have := HNE.out; omega))
      have HFW4 : Hid (Fr (fun b => b = B ∨ base ≤ b) w w9) := Lib.hid (HFW6.out.trans ((HFW2.out.mono (fun b _ e => .inl e)).trans (HF4.out.mono (fun b _ e => .inr (by have := HRW.out.ge b e; have := HNE.out; omega)))))
      clear hg hat hgb hrow
      refine hK.out _ _ ?_
      clear hK K' hS3
      simp only [Act.put, List.setIfInBounds_toArray, List.set_cons_zero, List.set_cons_succ]
      refine wpAnyH_take (i := 10) (oi := ⟨some 36, _, _, _, _, _⟩) (v := .pointer (some ⟨g, ml.length * 6, none⟩)) rfl (by kernel_rfl) (by kernel_rfl) (by kernel_rfl) (fun _ _ _ h => h) (.inl ⟨by kernel_rfl, fun V hS => by go_simp; try (intro hx; exfalso; omega)⟩) trivial ?_
      simp only [Act.put, List.setIfInBounds_toArray, List.set_cons_zero, List.set_cons_succ]
      refine wpAnyH_take (i := 12) (oi := ⟨some 37, _, _, _, _, _⟩) (v := .pointer (some ⟨BV, 4, none⟩)) rfl (by kernel_rfl) (by kernel_rfl) (by kernel_rfl) (fun _ _ _ h => h) (.inl ⟨by kernel_rfl, fun V hS => by go_simp⟩) trivial ?_
      simp only [Act.put, List.setIfInBounds_toArray, List.set_cons_zero, List.set_cons_succ]
      refine wpAnyH_ready (rs := [11, 13]) (by kernel_rfl) (by simp) ?_
      refine AllReadyH.cons rfl (fun K' hK => ?_) (AllReadyH.cons rfl (fun K' hK => ?_) AllReadyH.nil)
      · go_simp
        have x0 : w9.cell? ⟨g, ml.length * 6, none⟩ = some (.string ⟨#[]⟩) := row_zP HR4.out 0 (by omega)
        have y0 : w9.frozen? ⟨g, ml.length * 6, none⟩ = false := (row_ownP HR4.out).frozenAt _
        have x1 : w9.cell? ⟨g, ml.length * 6 + 1, none⟩ = some (.int .i64 0) := row_zP HR4.out 1 (by omega)
        have y1 : w9.frozen? ⟨g, ml.length * 6 + 1, none⟩ = false := (row_ownP HR4.out).frozenAt _
        have x2 : w9.cell? ⟨g, ml.length * 6 + 2, none⟩ = some (.int .i64 0) := row_zP HR4.out 2 (by omega)
        have y2 : w9.frozen? ⟨g, ml.length * 6 + 2, none⟩ = false := (row_ownP HR4.out).frozenAt _
        have x3 : w9.cell? ⟨g, ml.length * 6 + 3, none⟩ = some (.string ⟨#[]⟩) := row_zP HR4.out 3 (by omega)
        have y3 : w9.frozen? ⟨g, ml.length * 6 + 3, none⟩ = false := (row_ownP HR4.out).frozenAt _
        have x4 : w9.cell? ⟨g, ml.length * 6 + 4, none⟩ = some (.slice none 0 0) := row_zP HR4.out 4 (by omega)
        have y4 : w9.frozen? ⟨g, ml.length * 6 + 4, none⟩ = false := (row_ownP HR4.out).frozenAt _
        have x5 : w9.cell? ⟨g, ml.length * 6 + 5, none⟩ = some (.slice none 0 0) := row_zP HR4.out 5 (by omega)
        have y5 : w9.frozen? ⟨g, ml.length * 6 + 5, none⟩ = false := (row_ownP HR4.out).frozenAt _
        go_simp
        clear x0 x1 x2 x3 x4 x5 y0 y1 y2 y3 y4 y5
        obtain ⟨wa, hwa⟩ : ∃ wa, wa = ((((((w9.setCell ⟨g, ml.length * 6, none⟩ (.string KEY)).setCell ⟨g, ml.length * 6 + 1, none⟩ (.int .i64 v.k)).setCell ⟨g, ml.length * 6 + 2, none⟩ (.int .i64 v.n)).setCell ⟨g, ml.length * 6 + 3, none⟩ (.string v.s)).setCell ⟨g, ml.length * 6 + 4, none⟩ (.slice v.lA v.l.length v.lc)).setCell ⟨g, ml.length * 6 + 5, none⟩ (.slice v.mA v.m.length v.mc)) := ⟨_, rfl⟩
        rw [← hwa]
        have HF5 : Hid (Fr (· = g) w9 wa) := Lib.hid (by rw [hwa]; exact fr_put6)
        have HR5 : Hid (ROwn 40 6 MV.pcs bs wa (.slice (some ⟨g, 0, none⟩) (ml.length + 1) cap) (ml ++ [v.wk KEY])) := Lib.hid (HR4.out.put rfl HV4.out (HVX2.out.mono (fun b hb => Nat.le_trans HBS.out hb.1.1)) HVG.out (by rw [hwa]; exact own_put6 (x := v.wk KEY) (row_ownP HR4.out) rfl) HF5.out)
        refine hK.out _ _ trivial (fun _ => ?_)
        clear hK K' hwa
        have bv := HBV4.out.fr HF5.out (fun e => by have := HGB.out; have := HNE.out; omega)
        have b3 : wa.cell? ⟨BV, 4, none⟩ = some (.slice vA ml.length vc) := by have := bv.cell 4; simpa using this
        have f3 : wa.frozen? ⟨BV, 4, none⟩ = false := bv.frozen 4
        have HBV5 := Lib.hid bv
        clear bv
        refine wpAnyH_ready (rs := [13]) (by kernel_rfl) (by simp) ?_
        refine AllReadyH.cons rfl (fun K' hK => ?_) AllReadyH.nil
        go_simp
        refine hK.out _ _ trivial (fun _ => ?_)
        clear hK K' b3 f3
        refine wpAnyH_done (by kernel_rfl) ?_ _
        go_wp2
        go_end0
        rw [HRES.out]
        exact prs_end (g := g) HBV5.out HJX4.out HFX.out HPS4.out HF5.out HR5.out HPV.out HFW4.out HNE.out HGB.out
      · have b3 : w9.cell? ⟨BV, 4, none⟩ = some (.slice vA ml.length vc) := by have := HBV4.out.cell 4; simpa using this
        have f3 : w9.frozen? ⟨BV, 4, none⟩ = false := HBV4.out.frozen 4
        go_simp
        obtain ⟨wa, hwa⟩ : ∃ wa, wa = w9.setCell ⟨BV, 4, none⟩ (.slice (some ⟨g, 0, none⟩) (ml.length + 1) cap) := ⟨_, rfl⟩
        rw [← hwa]
        have HF5 : Hid (Fr (· = BV) w9 wa) := Lib.hid (by rw [hwa]; exact frB)
        have HBV5 : Hid (Blk wa BV 25 #[.int .i64 6, .int .i64 0, .string ⟨#[]⟩, .slice none 0 0, .slice (some ⟨g, 0, none⟩) (ml.length + 1) cap]) := Lib.hid (by rw [hwa]; have := HBV4.out.set_ 4 (.slice (some ⟨g, 0, none⟩) (ml.length + 1) cap); simpa using this)
        have HR5 : Hid (ROwn 40 6 MV.pcs bs wa (.slice (some ⟨g, 0, none⟩) (ml.length + 1) cap) (ml ++ [zMV])) := Lib.hid (HR4.out.frS HF5.out (fun k hk e => by have := HR4.out.ge k hk; have := HNE.out; omega) (fun x hx => (HR4.out.fr x hx).mono (fun b hb e => by have := HNE.out; omega)))
        have HV5 : Hid (VAt wa (v.wk KEY)) := Lib.hid (HV4.out.fr HF5.out (HVX2.out.mono (fun b hb e => by have := HNE.out; have := HBS.out; have := hb.1.1; omega)))
        refine hK.out _ _ trivial (fun _ => ?_)
        clear hK K' b3 f3 hwa
        refine wpAnyH_ready (rs := [11]) (by kernel_rfl) (by simp) ?_
        refine AllReadyH.cons rfl (fun K' hK => ?_) AllReadyH.nil
        have x0 : wa.cell? ⟨g, ml.length * 6, none⟩ = some (.string ⟨#[]⟩) := row_zP HR5.out 0 (by omega)
        have y0 : wa.frozen? ⟨g, ml.length * 6, none⟩ = false := (row_ownP HR5.out).frozenAt _
        have x1 : wa.cell? ⟨g, ml.length * 6 + 1, none⟩ = some (.int .i64 0) := row_zP HR5.out 1 (by omega)
        have y1 : wa.frozen? ⟨g, ml.length * 6 + 1, none⟩ = false := (row_ownP HR5.out).frozenAt _
        have x2 : wa.cell? ⟨g, ml.length * 6 + 2, none⟩ = some (.int .i64 0) := row_zP HR5.out 2 (by omega)
        have y2 : wa.frozen? ⟨g, ml.length * 6 + 2, none⟩ = false := (row_ownP HR5.out).frozenAt _
        have x3 : wa.cell? ⟨g, ml.length * 6 + 3, none⟩ = some (.string ⟨#[]⟩) := row_zP HR5.out 3 (by omega)
        have y3 : wa.frozen? ⟨g, ml.length * 6 + 3, none⟩ = false := (row_ownP HR5.out).frozenAt _
        have x4 : wa.cell? ⟨g, ml.length * 6 + 4, none⟩ = some (.slice none 0 0) := row_zP HR5.out 4 (by omega)
        have y4 : wa.frozen? ⟨g, ml.length * 6 + 4, none⟩ = false := (row_ownP HR5.out).frozenAt _
        have x5 : wa.cell? ⟨g, ml.length * 6 + 5, none⟩ = some (.slice none 0 0) := row_zP HR5.out 5 (by omega)
        have y5 : wa.frozen? ⟨g, ml.length * 6 + 5, none⟩ = false := (row_ownP HR5.out).frozenAt _
        go_simp
        clear x0 x1 x2 x3 x4 x5 y0 y1 y2 y3 y4 y5
        obtain ⟨wb, hwb⟩ : ∃ wb, wb = ((((((wa.setCell ⟨g, ml.length * 6, none⟩ (.string KEY)).setCell ⟨g, ml.length * 6 + 1, none⟩ (.int .i64 v.k)).setCell ⟨g, ml.length * 6 + 2, none⟩ (.int .i64 v.n)).setCell ⟨g, ml.length * 6 + 3, none⟩ (.string v.s)).setCell ⟨g, ml.length * 6 + 4, none⟩ (.slice v.lA v.l.length v.lc)).setCell ⟨g, ml.length * 6 + 5, none⟩ (.slice v.mA v.m.length v.mc)) := ⟨_, rfl⟩
        rw [← hwb]
        have HF6 : Hid (Fr (· = g) wa wb) := Lib.hid (by rw [hwb]; exact fr_put6)
        have HR6 : Hid (ROwn 40 6 MV.pcs bs wb (.slice (some ⟨g, 0, none⟩) (ml.length + 1) cap) (ml ++ [v.wk KEY])) := Lib.hid (HR5.out.put rfl HV5.out (HVX2.out.mono (fun b hb => Nat.le_trans HBS.out hb.1.1)) HVG.out (by rw [hwb]; exact own_put6 (x := v.wk KEY) (row_ownP HR5.out) rfl) HF6.out)
        refine hK.out _ _ trivial (fun _ => ?_)
        clear hK K' hwb
        refine wpAnyH_done (by kernel_rfl) ?_ _
        go_wp2
        go_end0
        rw [HRES.out]
        exact prs_end2 (g := g) HBV5.out HJX4.out HFX.out HPS4.out HF5.out HF6.out HR6.out HPV.out HFW4.out HNE.out HGB.out
end Go.Proofs.YteofdpogjnojnaaGreatDoor
