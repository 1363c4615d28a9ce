/-
  record: what a commit does, step by step.
-/
import Derived.Test.YtcndkkagnobpmaaDoorRec5
import Derived.Deep.RegionHeld3
namespace Go.Proofs.YtcndkkagnobpmaaDoor
open Go.RowKit
attribute [local go_sem ↓] Go.wp_at_zero Go.wp_at_succ
set_option linter.unusedVariables false

theorem dsync_any {d s M n : Nat} {K : Dk} (w : World) (h : DiskAt w d s M n K) (ho : K.off = false) : Calls Tryd.prog 18 #[.pointer (some ⟨d, 0, none⟩)] w fun e w' => e = .returned (.int .i64 (offE K.syncK)) ∧ (∃ n', n' ≤ n ∧ (K.syncK.off = false → n' = 0) ∧ DiskAt w' d s M n' K.syncK) ∧ Fr (DS d s M) w w' := by
  have he : offE K.syncK = if K.go.off then 210 else 0 := by unfold offE; rw [syncK_off]
  cases hg : K.go.off with
  | true =>
    have e2 : K.syncK = K.go := by unfold Dk.syncK; rw [hg]; rfl
    rw [he, hg, e2]
    refine (sync_off w h ho hg).mono ?_
    rintro e w' ⟨rfl, h1, h2⟩
    exact ⟨rfl, ⟨n, Nat.le_refl _, (fun h => by rw [hg] at h; cases h), h1⟩, h2⟩
  | false =>
    have e2 : K.syncK = K.sync := by unfold Dk.syncK; rw [hg]; rfl
    rw [he, hg, e2]
    refine (sync_on w h ho hg).mono ?_
    rintro e w' ⟨rfl, h1, h2⟩
    exact ⟨rfl, ⟨0, Nat.zero_le _, fun _ => rfl, h1⟩, h2⟩
theorem DiskAt.tab {w : World} {d s M n : Nat} {K : Dk} (h : DiskAt w d s M n K) (hK : TabK w) : ¬ DS d s M (0 : Nat) := by
  obtain ⟨ty, fr, hk⟩ := hK
  have hc : w.cell? ⟨(0 : Nat), 0, none⟩ = kV[0]? := cell_of_row w _ 0 kV ty fr hk
  have h0 : ∃ x, kV[0]? = some (.int .u32 x) := ⟨_, kV_at 0 (by omega)⟩
  obtain ⟨x, h0⟩ := h0
  rw [h0] at hc
  rintro (e | e | e)
  · obtain ⟨cap, hb, _⟩ := h.blk
    subst e
    rw [hb.cell 0] at hc
    cases hc
  · obtain ⟨cs, hb, hcs, _⟩ := h.row
    obtain ⟨v, hv, A, c, rfl, _⟩ := hcs 0 h.few.1
    subst e
    rw [hb.cell 0, hv] at hc
    cases hc
  · obtain ⟨f, hm, _⟩ := h.map
    subst e
    rw [hm.noCell 0] at hc
    cases hc
theorem DiskAt.tabFr {w w' : World} {d s M n : Nat} {K : Dk} (h : DiskAt w d s M n K) (hK : TabK w) (hf : Fr (DS d s M) w w') : TabK w' := hK.fr hf (h.tab hK)
/-- what a commit needs in memory -/
structure ComAt (B0 d s M : Nat) (r first half num : Nat) (t : Value) (B2 B3 B5 B6 g a N n c : Nat) (A : Option Addr) (T : List UInt8) (q nn : Nat) (K : Dk) (w : World) : Prop where
  disk : DiskAt w d s M nn K
  tab : TabK w
  rec_ : Blk w r 55 (recV d first half t num false)
  b2 : Blk w B2 23 #[.pointer (some ⟨r, 0, none⟩)]
  b3 : Blk w B3 22 #[.slice A n c]
  b5 : Blk w B5 3 #[.int .i64 (N : Int)]
  b6 : Blk w B6 3 #[.int .i64 (a : Int)]
  gl : Blk w g 37 #[.func (.func 31) #[] #[.pointer (some ⟨B2, 0, none⟩), .pointer (some ⟨B6, 0, none⟩), .pointer (some ⟨B3, 0, none⟩)], .func (.func 18) #[.pointer (some ⟨d, 0, none⟩)] #[], .func (.func 33) #[] #[.pointer (some ⟨B2, 0, none⟩), .pointer (some ⟨B6, 0, none⟩), .pointer (some ⟨B5, 0, none⟩), .pointer (some ⟨B3, 0, none⟩)], .func (.func 18) #[.pointer (some ⟨d, 0, none⟩)] #[]]
  txt : RB w A T
  len : T.length = n
  few : n ≤ 35184372088832
  cap : n ≤ c ∧ c ≤ 9223372036854775807
  inn : a + 1 + chunksN T ≤ K.sure.length
  nnb : nn + 20000 * q < 1000000
  num : N < 9223372036854775808
  low : d < B0 ∧ s < B0 ∧ M < B0
  hi : B0 ≤ B2 ∧ B0 ≤ B3 ∧ B0 ≤ B5 ∧ B0 ≤ B6 ∧ B0 ≤ g
  tt : ∀ x : Int, t ≠ .int .u8 x
theorem ComAt.notDS {B0 d s M : Nat} {r first half num : Nat} {t : Value} {B2 B3 B5 B6 g a N n c : Nat} {A : Option Addr} {T : List UInt8} {q nn : Nat} {K : Dk} {w : World} (h : ComAt B0 d s M r first half num t B2 B3 B5 B6 g a N n c A T q nn K w) {k : Nat} (hk : B0 ≤ k) : ¬ DS d s M k := by
  have := h.low
  rintro (rfl | rfl | rfl) <;> omega
theorem ComAt.recDS {B0 d s M : Nat} {r first half num : Nat} {t : Value} {B2 B3 B5 B6 g a N n c : Nat} {A : Option Addr} {T : List UInt8} {q nn : Nat} {K : Dk} {w : World} (h : ComAt B0 d s M r first half num t B2 B3 B5 B6 g a N n c A T q nn K w) : ¬ DS d s M r := by
  rintro (e | e | e)
  · obtain ⟨cap, hb, _⟩ := h.disk.blk
    exact h.rec_.ne_ hb (by decide) e
  · obtain ⟨cs, hb, _⟩ := h.disk.row
    exact h.rec_.ne_ hb (by decide) e
  · obtain ⟨f, hm, _⟩ := h.disk.map
    exact hm.not_blk h.rec_ e
theorem ComAt.next {B0 d s M : Nat} {r first half num : Nat} {t : Value} {B2 B3 B5 B6 g a N n c : Nat} {A : Option Addr} {T : List UInt8} {q nn : Nat} {K : Dk} {w : World} (h : ComAt B0 d s M r first half num t B2 B3 B5 B6 g a N n c A T q nn K w) {q' nn' : Nat} {K' : Dk} {w' : World} (hf : Fr (DS d s M) w w') (hd : DiskAt w' d s M nn' K') (hl : K'.sure.length = K.sure.length) (hq : nn' + 20000 * q' < 1000000) : ComAt B0 d s M r first half num t B2 B3 B5 B6 g a N n c A T q' nn' K' w' := by
  have hno : ∀ k, DS d s M k → k < w.heap.size → NoBy w k := fun k hk _ => h.disk.noBy k hk
  exact ⟨hd, h.disk.tabFr h.tab hf, h.rec_.fr hf h.recDS, h.b2.fr hf (h.notDS h.hi.1), h.b3.fr hf (h.notDS h.hi.2.1), h.b5.fr hf (h.notDS h.hi.2.2.1), h.b6.fr hf (h.notDS h.hi.2.2.2.1), h.gl.fr hf (h.notDS h.hi.2.2.2.2), h.txt.fr2 hf hno, h.len, h.few, h.cap, by rw [hl]; exact h.inn, hq, h.num, h.low, h.hi, h.tt⟩
set_option maxRecDepth 100000 in
set_option maxHeartbeats 1000000 in
theorem commit1_any {B0 d s M : Nat} {r first half num : Nat} {t : Value} {B2 B3 B5 B6 g a N n c : Nat} {A : Option Addr} {T : List UInt8} {q nn : Nat} {K : Dk} (w : World) (h : ComAt B0 d s M r first half num t B2 B3 B5 B6 g a N n c A T (q + 1) nn K w) (ho : K.off = false) :
    Calls Tryd.prog 31 #[.pointer (some ⟨B2, 0, none⟩), .pointer (some ⟨B6, 0, none⟩), .pointer (some ⟨B3, 0, none⟩)] w fun e w' => e = .returned (.int .i64 (offE (bodyK K a T (chunksN T)))) ∧ (∃ n', ComAt B0 d s M r first half num t B2 B3 B5 B6 g a N n c A T q n' (bodyK K a T (chunksN T)) w') ∧ Fr (DS d s M) w w' := by
  have hcn : chunksN T ≤ 16384 := by
    have := h.inn
    have := h.disk.few.2
    omega
  have HB := Lib.hid (body_any a n c A T w h.disk h.rec_ ho h.txt h.len h.few h.cap.1 h.cap.2 h.inn (by have := h.nnb; omega))
  have c2 := h.b2.cell 0
  have c6 := h.b6.cell 0
  have c3 := h.b3.cell 0
  simp only [List.getElem?_toArray, List.getElem?_cons_zero] at c2 c6 c3
  have HC := Lib.hid h
  have HCN := Lib.hid hcn
  clear h ho hcn
  go_enter Tryd.func31, Tryd.ntmps31
  go_wp2_with fail
  refine HB.out.mono ?_
  rintro e w1 ⟨rfl, ⟨n', h1, h2⟩, h3⟩
  have HE := Lib.hid (HC.out.next (q' := q) h3 h2 (body_len _ _ _ _) (by have := HC.out.nnb; have := HCN.out; omega))
  have HF := Lib.hid h3
  clear h1 h2 h3
  go_wp2
  go_ret
  exact ⟨rfl, ⟨n', HE.out⟩, HF.out⟩
set_option maxRecDepth 100000 in
set_option maxHeartbeats 2000000 in
theorem commit2_any {B0 d s M : Nat} {r first half num : Nat} {t : Value} {B2 B3 B5 B6 g a N n c : Nat} {A : Option Addr} {T : List UInt8} {q nn : Nat} {K : Dk} (w : World) (h : ComAt B0 d s M r first half num t B2 B3 B5 B6 g a N n c A T (q + 1) nn K w) (ho : K.off = false) :
    Calls Tryd.prog 33 #[.pointer (some ⟨B2, 0, none⟩), .pointer (some ⟨B6, 0, none⟩), .pointer (some ⟨B5, 0, none⟩), .pointer (some ⟨B3, 0, none⟩)] w fun e w' => e = .returned (.int .i64 (offE (K.write a (hdL N T)))) ∧ (∃ n', ComAt B0 d s M r first half num t B2 B3 B5 B6 g a N n c A T q n' (K.write a (hdL N T)) w') ∧ Fr (DS d s M) w w' := by
  have HH := Lib.hid (head_any N A n c T w.drew (TabK.below h.tab ⟨rfl, rfl, rfl, Nat.le_refl _, fun _ _ => rfl⟩) h.num h.txt.drew' h.len h.few h.cap.1 h.cap.2)
  have c0 := h.rec_.cell 0
  have c2 := h.b2.cell 0
  have c6 := h.b6.cell 0
  have c5 := h.b5.cell 0
  have c3 := h.b3.cell 0
  simp only [recV, List.getElem?_toArray, List.getElem?_cons_zero] at c0 c2 c6 c5 c3
  have HC := Lib.hid h
  have HO := Lib.hid ho
  have HCC : Hid (∀ V V', Below w.drew.heap.size w.drew V → Fr (DS d s M) V V' → V'.cell? ⟨B2, 0, none⟩ = some (.pointer (some ⟨r, 0, none⟩)) ∧ V'.cell? ⟨r, 0, none⟩ = some (.pointer (some ⟨d, 0, none⟩)) ∧ V'.cell? ⟨B6, 0, none⟩ = some (.int .i64 (a : Int)) ∧ V'.cell? ⟨B5, 0, none⟩ = some (.int .i64 (N : Int)) ∧ V'.cell? ⟨B3, 0, none⟩ = some (.slice A n c)) := by
    refine Lib.hid (fun V V' hb hf => ?_)
    have e2 := ((h.b2.drew.below hb h.b2.lt).fr hf (h.notDS h.hi.1)).cell 0
    have e3 := ((h.b3.drew.below hb h.b3.lt).fr hf (h.notDS h.hi.2.1)).cell 0
    have e5 := ((h.b5.drew.below hb h.b5.lt).fr hf (h.notDS h.hi.2.2.1)).cell 0
    have e6 := ((h.b6.drew.below hb h.b6.lt).fr hf (h.notDS h.hi.2.2.2.1)).cell 0
    have e0 := ((h.rec_.drew.below hb h.rec_.lt).fr hf h.recDS).cell 0
    exact ⟨e2, e0, e6, e5, e3⟩
  clear h ho
  go_enter Tryd.func33, Tryd.ntmps33
  go_wp2
  go_region_held3 (fun V => V.cell? ⟨B2, 0, none⟩ = some (.pointer (some ⟨r, 0, none⟩)) ∧ V.cell? ⟨r, 0, none⟩ = some (.pointer (some ⟨d, 0, none⟩)) ∧ V.cell? ⟨B6, 0, none⟩ = some (.int .i64 (a : Int)) ∧ V.cell? ⟨B5, 0, none⟩ = some (.int .i64 (N : Int)) ∧ V.cell? ⟨B3, 0, none⟩ = some (.slice A n c))
    (first | exact ⟨c2, c0, c6, c5, c3⟩ | exact hc1 | exact hc2)
    (first
      | (go_at_call 34; refine HH.out.mono ?_; rintro e w1 ⟨v, rfl, hv, hb⟩; obtain ⟨A9, c9, rfl, k1, k2, k3, _⟩ := hv.shape_n (hdL_len _ _); have hc1 := HCC.out w1 w1 hb (Fr.refl _ _); have HWR := Lib.hid (dwrite_any a A9 c9 (hdL N T) w1 (HC.out.disk.drew.below hb) HO.out (by have := HC.out.inn; omega) (by have := HC.out.nnb; omega) k3 (hdL_len _ _) k1 (by unfold maxLen at k2; omega)); have HB1 := Lib.hid hb; clear k3 hv hb)
      | (go_at_call 17; refine HWR.out.mono ?_; rintro e w2 ⟨rfl, hd2, hf2⟩; have hc2 := HCC.out w1 w2 HB1.out hf2; have HD2 := Lib.hid hd2; have HF2 := Lib.hid hf2; clear hd2 hf2))
  have HF : Hid (Fr (DS d s M) w w2) := Lib.hid ((((Fr.refl (DS d s M) w).drew).below HB1.out).trans HF2.out)
  have HE := Lib.hid (HC.out.next (q' := q) HF.out HD2.out (write_len _ _ _) (by have := HC.out.nnb; omega))
  clear hc1 hc2
  go_wp2
  go_ret
  exact ⟨rfl, ⟨_, HE.out⟩, HF.out⟩
/-- the disk behind so many steps -/
def stageK (K : Dk) (a N : Nat) (T : List UInt8) : Nat → Dk
  | 0 => K
  | 1 => bodyK K a T (chunksN T)
  | 2 => (bodyK K a T (chunksN T)).syncK
  | 3 => (bodyK K a T (chunksN T)).syncK.write a (hdL N T)
  | _ => ((bodyK K a T (chunksN T)).syncK.write a (hdL N T)).syncK
theorem commitK_of (K : Dk) (a N : Nat) (T : List UInt8) (k : Nat) (hk : k < 4) (hon : ∀ i, i ≤ k → 1 ≤ i → (stageK K a N T i).off = false) (hoff : (stageK K a N T (k + 1)).off = true ∨ k = 3) : commitK K a N T = stageK K a N T (k + 1) := by
  rcases (by omega : k = 0 ∨ k = 1 ∨ k = 2 ∨ k = 3) with rfl | rfl | rfl | rfl
  · have h1 : (bodyK K a T (chunksN T)).off = true := by rcases hoff with h | h; exact h; omega
    simp only [commitK, ifOn, h1, if_true, stageK]
  · have h1 : (bodyK K a T (chunksN T)).off = false := hon 1 (by omega) (by omega)
    have h2 : (bodyK K a T (chunksN T)).syncK.off = true := by rcases hoff with h | h; exact h; omega
    simp only [commitK, ifOn, h1, h2, if_true, Bool.false_eq_true, if_false, stageK]
  · have h1 : (bodyK K a T (chunksN T)).off = false := hon 1 (by omega) (by omega)
    have h2 : (bodyK K a T (chunksN T)).syncK.off = false := hon 2 (by omega) (by omega)
    have h3 : ((bodyK K a T (chunksN T)).syncK.write a (hdL N T)).off = true := by rcases hoff with h | h; exact h; omega
    simp only [commitK, ifOn, h1, h2, h3, if_true, Bool.false_eq_true, if_false, stageK]
  · have h1 : (bodyK K a T (chunksN T)).off = false := hon 1 (by omega) (by omega)
    have h2 : (bodyK K a T (chunksN T)).syncK.off = false := hon 2 (by omega) (by omega)
    have h3 : ((bodyK K a T (chunksN T)).syncK.write a (hdL N T)).off = false := hon 3 (by omega) (by omega)
    simp only [commitK, ifOn, h1, h2, h3, Bool.false_eq_true, if_false, stageK]
/-- what is behind the steps -/
def StepsPost (d s M r first half num : Nat) (t : Value) (w : World) (Kc : Dk) (w' : World) : Prop :=
  (∃ n', (Kc.off = false → n' = 0) ∧ DiskAt w' d s M n' Kc) ∧ Blk w' r 55 (recV d first half t num Kc.off) ∧ Fr (fun k => DS d s M k ∨ k = r) w w'
theorem ComAt.recNoBy {B0 d s M : Nat} {r first half num : Nat} {t : Value} {B2 B3 B5 B6 g a N n c : Nat} {A : Option Addr} {T : List UInt8} {q nn : Nat} {K : Dk} {w : World} (h : ComAt B0 d s M r first half num t B2 B3 B5 B6 g a N n c A T q nn K w) : NoBy w r := by
  refine NoBy.of_blk h.rec_ (fun k x => ?_)
  unfold recV
  rcases (by omega : k = 0 ∨ k = 1 ∨ k = 2 ∨ k = 3 ∨ k = 4 ∨ k = 5 ∨ 6 ≤ k) with rfl | rfl | rfl | rfl | rfl | rfl | hk
  case inr.inr.inr.inl =>
    intro e
    simp only [List.getElem?_toArray, List.getElem?_cons_succ, List.getElem?_cons_zero] at e
    injection e with e
    exact h.tt x e
  all_goals first | (intro h; cases h) | (rw [Array.getElem?_eq_none (by simpa using hk)]; intro h; cases h)
theorem ComAt.ends {B0 d s M : Nat} {r first half num : Nat} {t : Value} {B2 B3 B5 B6 g a N n c : Nat} {A : Option Addr} {T : List UInt8} {q nn : Nat} {K : Dk} {w0 w : World} (h : ComAt B0 d s M r first half num t B2 B3 B5 B6 g a N n c A T q nn K w) (hf : Fr (DS d s M) w0 w) (hoff : K.off = true) :
    StepsPost d s M r first half num t w0 K (w.setCell ⟨r, 5, none⟩ (.bool true)) := by
  have hf2 : Fr (· = r) w (w.setCell ⟨r, 5, none⟩ (.bool true)) := fr_cell _
  have hb : Blk (w.setCell ⟨r, 5, none⟩ (.bool true)) r 55 (recV d first half t num true) := h.rec_.set_ 5 _
  refine ⟨⟨nn, fun e => (by rw [hoff] at e; cases e), h.disk.fr hf2 (fun k hk e => h.recDS (e ▸ hk)) (fun g e _ => e ▸ h.recNoBy)⟩, by rw [hoff]; exact hb, (hf.mono (fun k _ e => .inl e)).trans (hf2.mono (fun k _ e => .inr e))⟩
set_option maxRecDepth 100000 in
set_option maxHeartbeats 4000000 in
theorem steps_any {B0 d s M : Nat} {r first half num : Nat} {t : Value} {B2 B3 B5 B6 g a N n c : Nat} {A : Option Addr} {T : List UInt8} {nn : Nat} {K : Dk} (w : World) (h : ComAt B0 d s M r first half num t B2 B3 B5 B6 g a N n c A T 4 nn K w) (ho : K.off = false) :
    Calls Tryd.prog 35 #[.pointer (some ⟨r, 0, none⟩), .slice (some ⟨g, 0, none⟩) 4 4] w fun e w' => e = .returned (.int .i64 (offE (commitK K a N T))) ∧ StepsPost d s M r first half num t w (commitK K a N T) w' := by
  have HC := Lib.hid h
  have HO := Lib.hid ho
  clear h ho
  go_enter Tryd.func35, Tryd.ntmps35
  go_wp2
  have H0 : Hid (∀ i, i ≤ 0 → (stageK K a N T i).off = false) := Lib.hid (fun i hi => by
    have : i = 0 := by omega
    subst this
    exact HO.out)
  go_loopw [10] (fun i wr => ∃ k : Nat, k ≤ 4 ∧ i = .int .i64 (k : Int) ∧ (∃ n', Hid (ComAt B0 d s M r first half num t B2 B3 B5 B6 g a N n c A T (4 - k) n' (stageK K a N T k) wr) ∧ (k = 4 → n' = 0)) ∧ Hid (Fr (DS d s M) w wr) ∧ Hid (∀ i, i ≤ k → (stageK K a N T i).off = false)) (fun i _ => 4 - (intOf i).toNat)
  case atStart => exact ⟨0, by omega, rfl, ⟨nn, HC, by omega⟩, Lib.hid (Fr.refl _ _), H0⟩
  case round =>
    obtain ⟨k, hk, rfl, ⟨n', HK, hn4⟩, HF, HON⟩ := hrel
    have c5 := HK.out.rec_.cell 5
    have f5 := HK.out.rec_.frozen 5
    simp only [recV, List.getElem?_toArray, List.getElem?_cons_succ, List.getElem?_cons_zero] at c5
    have g0 := HK.out.gl.cell 0
    have g1 := HK.out.gl.cell 1
    have g2 := HK.out.gl.cell 2
    have g3 := HK.out.gl.cell 3
    simp only [List.getElem?_toArray, List.getElem?_cons_succ, List.getElem?_cons_zero] at g0 g1 g2 g3
    rcases (by omega : k = 0 ∨ k = 1 ∨ k = 2 ∨ k = 3 ∨ k = 4) with rfl | rfl | rfl | rfl | rfl
    · have HS : Hid (Calls Tryd.prog 31 #[.pointer (some ⟨B2, 0, none⟩), .pointer (some ⟨B6, 0, none⟩), .pointer (some ⟨B3, 0, none⟩)] wr fun e w' => e = .returned (.int .i64 (offE (stageK K a N T 1))) ∧ (∃ n', ComAt B0 d s M r first half num t B2 B3 B5 B6 g a N n c A T 3 n' (stageK K a N T 1) w' ∧ ((stageK K a N T 1).off = false → 1 = 4 → n' = 0)) ∧ Fr (DS d s M) wr w') := by
        refine Lib.hid ((commit1_any (q := 3) wr HK.out (HON.out 0 (by omega))).mono ?_)
        rintro e w' ⟨rfl, ⟨n', h1⟩, h2⟩
        exact ⟨rfl, ⟨n', h1, fun _ h => by omega⟩, h2⟩
      clear H0
      go_wp2_with fail
      refine HS.out.mono ?_
      rintro e w1 ⟨rfl, ⟨n1, h1, h2⟩, h3⟩
      have HC1 := Lib.hid h1
      have HN1 := Lib.hid h2
      have HF1 := Lib.hid (HF.out.trans h3)
      have d5 := HC1.out.rec_.cell 5
      have e5 := HC1.out.rec_.frozen 5
      simp only [recV, List.getElem?_toArray, List.getElem?_cons_succ, List.getElem?_cons_zero] at d5
      clear h1 h2 h3 HS hn4
      cases hoff : (stageK K a N T 1).off with
      | true =>
        have HE : offE (stageK K a N T 1) = 210 := by unfold offE; rw [hoff]; rfl
        have HCK : Hid (commitK K a N T = stageK K a N T 1) := Lib.hid (commitK_of K a N T 0 (by omega) (fun i hi _ => HON.out i hi) (.inl hoff))
        have HEN := Lib.hid (HC1.out.ends HF1.out hoff)
        have HEO : Hid (offE (commitK K a N T) = 210) := by show _ = _; rw [HCK.out, HE]
        rw [HE]
        clear hoff HE
        go_wp2
        go_ret
        exact ⟨by rw [HEO.out]; rfl, by rw [HCK.out]; exact HEN.out⟩
      | false =>
        have HE : offE (stageK K a N T 1) = 0 := by unfold offE; rw [hoff]; rfl
        have HON1 : Hid (∀ i, i ≤ 1 → (stageK K a N T i).off = false) := Lib.hid (fun i hi => by
          rcases (by omega : i ≤ 0 ∨ i = 1) with h | h
          · exact HON.out i h
          · rw [h]; exact hoff)
        have HN2 : 1 = 4 → n1 = 0 := HN1.out hoff
        have HN3 := Lib.hid HN2
        rw [HE]
        clear hoff HE HN2
        go_wp2
        go_roundw
        case rel => exact ⟨1, by omega, by go_num, ⟨n1, HC1, HN3.out⟩, HF1, HON1⟩
        case measure => simp [intOf]
    · have HS : Hid (Calls Tryd.prog 18 #[.pointer (some ⟨d, 0, none⟩)] wr fun e w' => e = .returned (.int .i64 (offE (stageK K a N T 2))) ∧ (∃ n', ComAt B0 d s M r first half num t B2 B3 B5 B6 g a N n c A T 2 n' (stageK K a N T 2) w' ∧ ((stageK K a N T 2).off = false → 2 = 4 → n' = 0)) ∧ Fr (DS d s M) wr w') := by
        refine Lib.hid ((dsync_any wr HK.out.disk (HON.out 1 (by omega))).mono ?_)
        rintro e w' ⟨rfl, ⟨n2, h0, _, h1⟩, h2⟩
        exact ⟨rfl, ⟨n2, HK.out.next (q' := 2) h2 h1 (syncK_len _) (by have := HK.out.nnb; omega), fun _ h => by omega⟩, h2⟩
      clear H0
      go_wp2_with fail
      refine HS.out.mono ?_
      rintro e w1 ⟨rfl, ⟨n1, h1, h2⟩, h3⟩
      have HC1 := Lib.hid h1
      have HN1 := Lib.hid h2
      have HF1 := Lib.hid (HF.out.trans h3)
      have d5 := HC1.out.rec_.cell 5
      have e5 := HC1.out.rec_.frozen 5
      simp only [recV, List.getElem?_toArray, List.getElem?_cons_succ, List.getElem?_cons_zero] at d5
      clear h1 h2 h3 HS hn4
      cases hoff : (stageK K a N T 2).off with
      | true =>
        have HE : offE (stageK K a N T 2) = 210 := by unfold offE; rw [hoff]; rfl
        have HCK : Hid (commitK K a N T = stageK K a N T 2) := Lib.hid (commitK_of K a N T 1 (by omega) (fun i hi _ => HON.out i hi) (.inl hoff))
        have HEN := Lib.hid (HC1.out.ends HF1.out hoff)
        have HEO : Hid (offE (commitK K a N T) = 210) := by show _ = _; rw [HCK.out, HE]
        rw [HE]
        clear hoff HE
        go_wp2
        go_ret
        exact ⟨by rw [HEO.out]; rfl, by rw [HCK.out]; exact HEN.out⟩
      | false =>
        have HE : offE (stageK K a N T 2) = 0 := by unfold offE; rw [hoff]; rfl
        have HON1 : Hid (∀ i, i ≤ 2 → (stageK K a N T i).off = false) := Lib.hid (fun i hi => by
          rcases (by omega : i ≤ 1 ∨ i = 2) with h | h
          · exact HON.out i h
          · rw [h]; exact hoff)
        have HN2 : 2 = 4 → n1 = 0 := HN1.out hoff
        have HN3 := Lib.hid HN2
        rw [HE]
        clear hoff HE HN2
        go_wp2
        go_roundw
        case rel => exact ⟨2, by omega, by go_num, ⟨n1, HC1, HN3.out⟩, HF1, HON1⟩
        case measure => simp [intOf]
    · have HS : Hid (Calls Tryd.prog 33 #[.pointer (some ⟨B2, 0, none⟩), .pointer (some ⟨B6, 0, none⟩), .pointer (some ⟨B5, 0, none⟩), .pointer (some ⟨B3, 0, none⟩)] wr fun e w' => e = .returned (.int .i64 (offE (stageK K a N T 3))) ∧ (∃ n', ComAt B0 d s M r first half num t B2 B3 B5 B6 g a N n c A T 1 n' (stageK K a N T 3) w' ∧ ((stageK K a N T 3).off = false → 3 = 4 → n' = 0)) ∧ Fr (DS d s M) wr w') := by
        refine Lib.hid ((commit2_any (q := 1) wr HK.out (HON.out 2 (by omega))).mono ?_)
        rintro e w' ⟨rfl, ⟨n', h1⟩, h2⟩
        exact ⟨rfl, ⟨n', h1, fun _ h => by omega⟩, h2⟩
      clear H0
      go_wp2_with fail
      refine HS.out.mono ?_
      rintro e w1 ⟨rfl, ⟨n1, h1, h2⟩, h3⟩
      have HC1 := Lib.hid h1
      have HN1 := Lib.hid h2
      have HF1 := Lib.hid (HF.out.trans h3)
      have d5 := HC1.out.rec_.cell 5
      have e5 := HC1.out.rec_.frozen 5
      simp only [recV, List.getElem?_toArray, List.getElem?_cons_succ, List.getElem?_cons_zero] at d5
      clear h1 h2 h3 HS hn4
      cases hoff : (stageK K a N T 3).off with
      | true =>
        have HE : offE (stageK K a N T 3) = 210 := by unfold offE; rw [hoff]; rfl
        have HCK : Hid (commitK K a N T = stageK K a N T 3) := Lib.hid (commitK_of K a N T 2 (by omega) (fun i hi _ => HON.out i hi) (.inl hoff))
        have HEN := Lib.hid (HC1.out.ends HF1.out hoff)
        have HEO : Hid (offE (commitK K a N T) = 210) := by show _ = _; rw [HCK.out, HE]
        rw [HE]
        clear hoff HE
        go_wp2
        go_ret
        exact ⟨by rw [HEO.out]; rfl, by rw [HCK.out]; exact HEN.out⟩
      | false =>
        have HE : offE (stageK K a N T 3) = 0 := by unfold offE; rw [hoff]; rfl
        have HON1 : Hid (∀ i, i ≤ 3 → (stageK K a N T i).off = false) := Lib.hid (fun i hi => by
          rcases (by omega : i ≤ 2 ∨ i = 3) with h | h
          · exact HON.out i h
          · rw [h]; exact hoff)
        have HN2 : 3 = 4 → n1 = 0 := HN1.out hoff
        have HN3 := Lib.hid HN2
        rw [HE]
        clear hoff HE HN2
        go_wp2
        go_roundw
        case rel => exact ⟨3, by omega, by go_num, ⟨n1, HC1, HN3.out⟩, HF1, HON1⟩
        case measure => simp [intOf]
    · have HS : Hid (Calls Tryd.prog 18 #[.pointer (some ⟨d, 0, none⟩)] wr fun e w' => e = .returned (.int .i64 (offE (stageK K a N T 4))) ∧ (∃ n', ComAt B0 d s M r first half num t B2 B3 B5 B6 g a N n c A T 0 n' (stageK K a N T 4) w' ∧ ((stageK K a N T 4).off = false → 4 = 4 → n' = 0)) ∧ Fr (DS d s M) wr w') := by
        refine Lib.hid ((dsync_any wr HK.out.disk (HON.out 3 (by omega))).mono ?_)
        rintro e w' ⟨rfl, ⟨n2, h0, h9, h1⟩, h2⟩
        exact ⟨rfl, ⟨n2, HK.out.next (q' := 0) h2 h1 (syncK_len _) (by have := HK.out.nnb; omega), fun h _ => h9 h⟩, h2⟩
      clear H0
      go_wp2_with fail
      refine HS.out.mono ?_
      rintro e w1 ⟨rfl, ⟨n1, h1, h2⟩, h3⟩
      have HC1 := Lib.hid h1
      have HN1 := Lib.hid h2
      have HF1 := Lib.hid (HF.out.trans h3)
      have d5 := HC1.out.rec_.cell 5
      have e5 := HC1.out.rec_.frozen 5
      simp only [recV, List.getElem?_toArray, List.getElem?_cons_succ, List.getElem?_cons_zero] at d5
      clear h1 h2 h3 HS hn4
      cases hoff : (stageK K a N T 4).off with
      | true =>
        have HE : offE (stageK K a N T 4) = 210 := by unfold offE; rw [hoff]; rfl
        have HCK : Hid (commitK K a N T = stageK K a N T 4) := Lib.hid (commitK_of K a N T 3 (by omega) (fun i hi _ => HON.out i hi) (.inl hoff))
        have HEN := Lib.hid (HC1.out.ends HF1.out hoff)
        have HEO : Hid (offE (commitK K a N T) = 210) := by show _ = _; rw [HCK.out, HE]
        rw [HE]
        clear hoff HE
        go_wp2
        go_ret
        exact ⟨by rw [HEO.out]; rfl, by rw [HCK.out]; exact HEN.out⟩
      | false =>
        have HE : offE (stageK K a N T 4) = 0 := by unfold offE; rw [hoff]; rfl
        have HON1 : Hid (∀ i, i ≤ 4 → (stageK K a N T i).off = false) := Lib.hid (fun i hi => by
          rcases (by omega : i ≤ 3 ∨ i = 4) with h | h
          · exact HON.out i h
          · rw [h]; exact hoff)
        have HN3 : Hid (n1 = 0) := Lib.hid (HN1.out hoff trivial)
        rw [HE]
        clear hoff HE
        go_wp2
        go_roundw
        case rel => exact ⟨4, by omega, by go_num, ⟨n1, HC1, fun _ => HN3.out⟩, HF1, HON1⟩
        case measure => simp [intOf]
    · have HCK : Hid (commitK K a N T = stageK K a N T 4) := Lib.hid (commitK_of K a N T 3 (by omega) (fun i hi _ => HON.out i (by omega)) (.inr rfl))
      have hoff := HON.out 4 (by omega)
      have hn0 := hn4 rfl
      have HEO : Hid (offE (commitK K a N T) = 0) := by show _ = _; rw [HCK.out]; unfold offE; rw [hoff]; rfl
      have HEN : Hid (StepsPost d s M r first half num t w (stageK K a N T 4) wr) := Lib.hid ⟨⟨n', fun _ => hn0, HK.out.disk⟩, by rw [hoff]; exact HK.out.rec_, HF.out.mono (fun k _ e => .inl e)⟩
      clear hoff hn0 hn4 H0
      go_wp2
      go_ret
      exact ⟨by rw [HEO.out]; rfl, by rw [HCK.out]; exact HEN.out⟩
end Go.Proofs.YtcndkkagnobpmaaDoor
