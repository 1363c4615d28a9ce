/-
  store.code: files.
-/
import Derived.Test.YtgpcinfhcamgpaaGreatDoorStE1
namespace Go.Proofs.YtgpcinfhcamgpaaGreatDoor
open Go.RowKit
attribute [local go_sem ↓] Go.wp_at_zero Go.wp_at_succ
set_option linter.unusedVariables false
set_option linter.unusedSimpArgs false

def preF (l0 : List UInt8) (n : Nat) (fs : List FV) (k : Nat) : List UInt8 := l0 ++ (beBytes n 2 ++ ((fiL fs).take k).flatMap fiB)
theorem preF_step {l0 : List UInt8} {n : Nat} {fs : List FV} {k : Nat} (hk : k < fs.length) : preF l0 n fs (k + 1) = (preF l0 n fs k ++ textBytes fs[k].nm.data.toList) ++ textBytes fs[k].b := by
  unfold preF
  rw [List.take_succ_eq_append_getElem (by rw [fiL_len]; exact hk), List.flatMap_append, fiL_at hk]
  simp [fiB, List.append_assoc]
theorem preF_all {l0 : List UInt8} {n : Nat} {fs : List FV} (hn : fs.length = n) : preF l0 n fs n = l0 ++ fisB (fiL fs) := by
  unfold preF fisB
  rw [fiL_len, hn, List.take_of_length_le (by rw [fiL_len, hn]; exact Nat.le_refl _)]
theorem preF_len {l0 : List UInt8} {n : Nat} {fs : List FV} (hn : fs.length = n) (k : Nat) : (preF l0 n fs k).length ≤ (l0 ++ fisB (fiL fs)).length := by
  unfold preF fisB
  rw [fiL_len, hn]
  have : (fiL fs).flatMap fiB = ((fiL fs).take k).flatMap fiB ++ ((fiL fs).drop k).flatMap fiB := by rw [← List.flatMap_append, List.take_append_drop]
  rw [this]
  simp only [List.length_append]
  omega
theorem CB.len {w : World} {base g : Nat} {l : List UInt8} (h : CB w base g l) : ∃ A n c, n = l.length ∧ Blk w g 63 #[.slice A n c] ∧ OB w base (.slice A n c) l ∧ base ≤ g ∧ RB w A l ∧ n ≤ c ∧ c ≤ maxLen := by
  obtain ⟨v, h1, h2, h3⟩ := h
  obtain ⟨A, c, rfl, h4, h5, h6, _⟩ := h2.shape
  exact ⟨A, _, c, rfl, h1, h2, h3, h6, h4, h5⟩
set_option maxRecDepth 100000 in
set_option maxHeartbeats 2000000 in
theorem cfiles_any (base g : Nat) (l0 : List UInt8) (A : Option Addr) (n c : Nat) (fs : List FV) (w : World) (h : CB w base g l0) (hb : base ≤ w.heap.size) (hF : ∀ V, Below base w V → Fls V A fs) (hn : fs.length = n) (hn2 : n ≤ 65535)
    (hs : ∀ f ∈ fs, f.nm.size ≤ 1048576 ∧ f.b.length ≤ 1048576) (hl : (l0 ++ fisB (fiL fs)).length ≤ 140737488000000) :
    Calls Tryz.prog 36 #[.pointer (some ⟨g, 0, none⟩), .slice A n c] w fun e w' => e = .returned (.tuple #[]) ∧ CB w' base g (l0 ++ fisB (fiL fs)) ∧ Below base w w' ∧ KeptC w w' := by
  have HP := Lib.hid (put_ok n 2 w (by omega) (by omega) (fun _ => by show n / 65536 = 0; omega))
  have H := Lib.hid h
  have HFF := Lib.hid hF
  have HN := Lib.hid hn
  have HS := Lib.hid hs
  have HL := Lib.hid hl
  have HL0 : l0.length + 2 ≤ 140737488000000 := by
    have := hl
    simp only [List.length_append, fisB, beBytes_length] at this
    omega
  have HTL : Hid ((beBytes n 2).length = 2) := Lib.hid (beBytes_length n 2)
  clear h hF hn hs hl
  go_enter Tryz.func36, Tryz.ntmps36
  go_wp2_with fail
  refine HP.out.mono ?_
  rintro e w1 ⟨v1, rfl, hv1, hb1⟩
  obtain ⟨A1, c1, rfl, h11, h12, h13, _⟩ := hv1.shape_n HTL.out
  obtain ⟨v, hB, hO, hg⟩ := H.out.below hb1
  have c0 := hB.cell 0
  have f0 := hB.frozen 0
  have HB := Lib.hid hB
  have HO := Lib.hid hO
  have HR := Lib.hid h13
  have HB1 := Lib.hid hb1
  have hbw1 : base ≤ w1.heap.size := Nat.le_trans hb hb1.size
  have hvg : v.ownBlock ≠ some g := own_blk_ne hO hB (by decide)
  have HVG := Lib.hid hvg
  clear hB hO h13 hb1 hv1 hvg
  go_wp2_with (at_builtin; refine app_code _ rfl _ _ rfl base _ l0 rfl HO.out A1 2 c1 (beBytes n 2) rfl HTL.out HR.out (by omega) hbw1 ?_; intro v2 w2 ho2 hg2; obtain ⟨A2, c22, rfl, _, _, _, _⟩ := ho2.shape_n (n := l0.length + 2) (by rw [List.length_append, HTL.out]); have hB2 : Blk w2 g 63 #[v] := HB.out.grown hg2 (fun e => HVG.out e.symm); have c2 := hB2.cell 0; have f2 := hB2.frozen 0; have HB2 := Lib.hid hB2; have HO2 := Lib.hid ho2; have HG2 := Lib.hid hg2; clear hB2 ho2 hg2 c0 f0)
  have HC3 : Hid (CB (w2.setCell ⟨g, 0, none⟩ (.slice A2 (l0.length + 2) c22)) base g (preF l0 n fs 0)) := Lib.hid (by
    refine ⟨_, HB2.out.set_ 0 _, ?_, hg⟩
    have e : preF l0 n fs 0 = l0 ++ beBytes n 2 := by simp [preF]
    rw [e]
    refine HO2.out.fr (S := (· = g)) (fr_cell _) (fun k hk e => ?_)
    subst e
    exact own_blk_ne HO2.out HB2.out (by decide) hk)
  have HBB : Hid (Below base w (w2.setCell ⟨g, 0, none⟩ (.slice A2 (l0.length + 2) c22))) := Lib.hid ((((HB1.out.mono hb).grown HG2.out hbw1 (fun k hk => HO.out.grown_ge k hk))).setCell hg _)
  have HKB : Hid (KeptC w (w2.setCell ⟨g, 0, none⟩ (.slice A2 (l0.length + 2) c22))) := Lib.hid (by
    intro k t cs h1 h2 hk
    have k1 := hk.below HB1.out hk.lt
    have k2 : Blk w2 k t cs := k1.grown HG2.out (fun e => own_blk_ne HO.out k1 (fun e => h2 e.symm) e.symm)
    exact k2.far (by exact k2.ne_ HB2.out h1) _)
  have hsz : base ≤ (w2.setCell ⟨g, 0, none⟩ (.slice A2 (l0.length + 2) c22)).heap.size := Nat.le_trans hb HBB.out.size
  clear c2 f2
  generalize w2.setCell ⟨g, 0, none⟩ (.slice A2 (l0.length + 2) c22) = w3 at HC3 HBB HKB hsz ⊢
  go_loopw [23] (fun i wr => ∃ k : Nat, k ≤ n ∧ i = .int .i64 (k : Int) ∧ Hid (CB wr base g (preF l0 n fs k)) ∧ Hid (Below base w wr) ∧ Hid (KeptC w wr)) (fun i _ => n - (intOf i).toNat)
  case atStart => exact ⟨0, Nat.zero_le _, rfl, HC3, HBB, HKB⟩
  case round =>
    obtain ⟨k, hk, rfl, HK, HBK, HKP⟩ := hrel
    rcases (by omega : k < n ∨ k = n) with hlt | heq
    · have q0 : decide ((k : Int) < (n : Int)) = true := by rw [decide_eq_true_iff]; omega
      have q0' : decide (k < n) = true := by rw [decide_eq_true_iff]; omega
      have hkl : k < fs.length := by rw [HN.out]; exact hlt
      obtain ⟨b, o, hA, hbl, d0, d1, hrb, hbc, hbm⟩ := (HFF.out wr HBK.out).at_ hkl
      subst hA
      have hst := preF_step (l0 := l0) (n := n) hkl
      have hlen := preF_len (l0 := l0) HN.out (k + 1)
      rw [hst] at hlen
      have hss := HS.out _ (List.getElem_mem hkl)
      obtain ⟨x, hx⟩ : ∃ x, x = fs[k] := ⟨_, rfl⟩
      rw [← hx] at d0 d1 hrb hbc hbm hst hlen hss
      obtain ⟨nb, hnb⟩ : ∃ nb, nb = x.b.length := ⟨_, rfl⟩
      rw [← hnb] at d1 hbc hss
      have hsl : x.nm.data.toList.length = x.nm.size := by cases x.nm; simp [ByteArray.size]
      simp only [List.length_append, textBytes_length, hsl, ← hnb] at hlen
      have HLL := HL.out
      simp only [List.length_append] at HLL
      have HST := Lib.hid hst
      have HNB := Lib.hid hnb
      have HRB := Lib.hid hrb
      have hki : (k : Int) < (n : Int) := by omega
      have hk0 : (0 : Int) ≤ (k : Int) := by omega
      have hbsz : base ≤ wr.heap.size := Nat.le_trans hb HBK.out.size
      have HW1 : Hid (Below wr.heap.size wr (wr.alloc (.cells #[.string x.nm, .slice x.A nb x.c] 55))) := Lib.hid ((Below.refl _ _).alloc (Nat.le_refl _) _)
      have HBF : Hid (Blk (wr.alloc (.cells #[.string x.nm, .slice x.A nb x.c] 55)) wr.heap.size 55 #[.string x.nm, .slice x.A nb x.c]) := Lib.hid (Blk.new _ _ _)
      have HT1 := Lib.hid (ctext_any base g (preF l0 n fs k) x.nm _ (HK.out.below HW1.out) (Nat.le_trans hbsz HW1.out.size) hss.1 (by omega))
      have HX := Lib.hid hx
      have hsl' : x.nm.data.toList.length = x.nm.size := hsl
      clear hx hnb hrb hst hsl
      go_wp2_with fail
      refine HT1.out.mono ?_
      rintro e w5 ⟨rfl, hc5, hb5, hk5⟩
      have HB5 : Hid (Below base w w5) := Lib.hid (HBK.out.trans ((HW1.out.mono hbsz).trans hb5))
      have hbx := hk5 _ _ _ (by decide) (by decide) HBF.out
      have g1 := hbx.cell 1
      have hrb5 := ((HFF.out w5 HB5.out).2 _ (List.getElem_mem hkl)).1
      have RS : (convert 22 9 (.slice x.A nb x.c)).run Tryz.prog w5 = .ok (.string ⟨x.b.toArray⟩) w5 := by
        rw [HX.out] at HNB ⊢
        exact run_string hrb5 nb _ HNB.out.symm
      have HT2 := Lib.hid (ctext_any base g (preF l0 n fs k ++ textBytes x.nm.data.toList) ⟨x.b.toArray⟩ w5 hc5 (Nat.le_trans hbsz (Nat.le_trans HW1.out.size hb5.size)) (by show x.b.toArray.size ≤ _; rw [List.size_toArray, ← HNB.out]; exact hss.2) (by
        rw [List.length_append, textBytes_length, hsl']
        show _ + x.b.toArray.size ≤ _
        rw [List.size_toArray, ← HNB.out]
        omega))
      have HK5 := Lib.hid hk5
      clear hc5 hb5 hk5 hbx hrb5
      go_wp2_with fail
      refine HT2.out.mono ?_
      rintro e w6 ⟨rfl, hc6, hb6, hk6⟩
      have HB6 : Hid (Below base w w6) := Lib.hid (HB5.out.trans hb6)
      have HC6 : Hid (CB w6 base g (preF l0 n fs (k + 1))) := Lib.hid (by rw [HST.out]; exact hc6)
      have HK6 : Hid (KeptC w w6) := Lib.hid ((HKP.out.trans (KeptC.of_below HW1.out)).trans (HK5.out.trans hk6))
      clear hc6 hb6 hk6 RS g1 d0 d1
      go_wp2
      go_roundw
      case rel => exact ⟨k + 1, by omega, by go_num, HC6, HB6, HK6⟩
      case measure => simp [intOf]; omega
    · have q0 : decide ((k : Int) < (n : Int)) = false := by rw [decide_eq_false_iff_not]; omega
      have q0' : decide (k < n) = false := by rw [decide_eq_false_iff_not]; omega
      have HC9 : Hid (CB wr base g (l0 ++ fisB (fiL fs))) := Lib.hid (by rw [← preF_all HN.out]; have := HK.out; rw [heq] at this; exact this)
      clear heq
      go_wp2
      go_end0
      exact ⟨rfl, HC9.out, HBK.out, HKP.out⟩
end Go.Proofs.YtgpcinfhcamgpaaGreatDoor
