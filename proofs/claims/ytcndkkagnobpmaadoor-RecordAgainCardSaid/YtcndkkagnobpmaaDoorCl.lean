/-
  slices.Clone, Grow, Concat at []byte.
-/
import Derived.Test.YtcndkkagnobpmaaDoorAppend
import Derived.WalkSmall
import Derived.Lib.AppendZeros
namespace Go.Proofs.YtcndkkagnobpmaaDoor
open Go.RowKit
set_option linter.unusedVariables false

theorem emptyRow (w : World) (B : Nat) (hB : B ≤ w.heap.size) : (w.alloc (.cells #[] 5)).ownsRow B 5 1 (.slice (some ⟨w.heap.size, 0, none⟩) 0 0) 0 [] :=
  ⟨rfl, .inr ⟨w.heap.size, 0, #[], rfl, hB, heap_alloc_new w _, Nat.le_refl _, by simp [maxLen], rfl, rfl⟩⟩

set_option maxRecDepth 100000 in
set_option maxHeartbeats 400000 in
theorem clone_any (A : Option Addr) (c : Nat) (l : List UInt8) (w : World) (hn : l.length ≤ 140737488355328) (hr : RB w A l) :
    Calls Tryd.prog 30 #[.slice A l.length c] w fun e w' => ∃ v, e = .returned v ∧ OB w' w.heap.size v l ∧ Below w.heap.size w w' := by
  have hne := fun W => Lib.run_eql_slice_nil (P := Tryd.prog) W 22 5 A l.length c 0 0 Tryd.underlying22
  rcases A with _ | ad
  · have hl : l = [] := by
      rcases Nat.eq_zero_or_pos l.length with h0 | h0
      · exact List.eq_nil_of_length_eq_zero h0
      · obtain ⟨ad, h, _⟩ := hr.2 h0; cases h
    subst hl
    simp only [List.length_nil] at hne
    go_enter Tryd.func30, Tryd.ntmps30
    go_wp2
    go_ret
    exact ⟨_, rfl, OB.nil _ _, Below.refl _ _⟩
  · obtain ⟨i0, hi0, hz0, hz1, hz2⟩ := info_parts infoByte
    have hr1 : Reads (w.alloc (.cells #[] 5)) w.heap.size 1 (some ad) l.length (Lib.byteCells l) := Reads.alloc hr (Nat.le_refl _) _
    have hown := emptyRow w w.heap.size (Nat.le_refl _)
    go_enter Tryd.func30, Tryd.ntmps30
    go_wp2_with (at_builtin; refine wpList_append_any _ rfl _ _ _ rfl w.heap.size 5 i0 _ 1 1 Tryd.underlying22 hi0 hz0 hz1 hz2 rfl (by omega) _ 0 [] rfl hown w.heap.size (some ad) l.length c _ rfl hr1 (oneCell_bytes l) (by simp only [maxLen]; omega) (by omega) (by simp) ?_; intro v1 w1 hown1 hg1 hat1)
    go_ret
    refine ⟨v1, rfl, by simpa [OB] using hown1, ?_⟩
    exact ((Below.refl _ _).alloc (Nat.le_refl _) _).grown hg1 (by simp) (by intro k hk; cases hk; exact Nat.le_refl _)
theorem clone_n (A : Option Addr) (n c : Nat) (l : List UInt8) (w : World) (hl : l.length = n) (hn : n ≤ 140737488355328) (hr : RB w A l) :
    Calls Tryd.prog 30 #[.slice A n c] w fun e w' => ∃ v, e = .returned v ∧ OB w' w.heap.size v l ∧ Below w.heap.size w w' := by
  subst hl; exact clone_any A c l w hn hr

set_option maxRecDepth 100000 in
set_option maxHeartbeats 400000 in
theorem grow_any (n : Nat) (w : World) (hn : n ≤ 140737488355328) :
    Calls Tryd.prog 66 #[.slice none 0 0, .int .i64 (n : Int)] w fun e w' => ∃ v, e = .returned v ∧ OB w' w.heap.size v [] ∧ Below w.heap.size w w' := by
  rcases Nat.eq_zero_or_pos n with h0 | h0
  · subst h0
    go_enter Tryd.func66, Tryd.ntmps66
    go_wp2
    go_ret
    exact ⟨_, rfl, OB.nil _ _, Below.refl _ _⟩
  · obtain ⟨i0, hi0, hz0, hz1, hz2⟩ := info_parts infoByte
    have hi0' := hi0
    have hsz : 0 < i0.size := by omega
    have hrun := Lib.run_append_nil_zeros (P := Tryd.prog) w 22 3 22 5 i0 (.int .u8 0) .i64 .i64 Tryd.underlying22 Tryd.underlying3 hi0 hz0 n h0 (by omega) (by omega) (by rw [hz2]; omega)
    obtain ⟨cap, hcap⟩ : ∃ c, c = grownCap w n 0 5 := ⟨_, rfl⟩
    have hge := grownCap_ge w n 0 5
    have hle := grownCap_le_maxLen w n 0 5 (by unfold maxLen; omega)
    rw [← hcap] at hrun hge hle
    obtain ⟨C, hC⟩ : ∃ C, C = Builtin.zeroCells (Value.int .u8 0).cells n ++ Builtin.zeroCells (Value.int .u8 0).cells (cap - n) := ⟨_, rfl⟩
    rw [← hC] at hrun
    have hCs : C.size = cap := by
      rw [hC, Array.size_append, size_zeroCells, size_zeroCells]
      have : (Value.int .u8 0).cells.size = 1 := rfl
      rw [this]; omega
    have HR := Lib.hid hrun
    have hown : OB (w.drew.alloc (.cells C 5)) w.heap.size (.slice (some ⟨w.heap.size, 0, none⟩) 0 cap) [] :=
      ⟨rfl, .inr ⟨w.heap.size, cap, C, rfl, Nat.le_refl _, heap_alloc_new w.drew _, Nat.zero_le _, hle, by rw [hCs, Nat.mul_one], by simp [Lib.byteCells]⟩⟩
    have HO := Lib.hid hown
    have hnn : decide ((n : Int) < 0) = false := by rw [decide_eq_false_iff_not]; omega
    have hn0 : decide ((0 : Int) < (n : Int)) = true := by rw [decide_eq_true_iff]; omega
    have hcap2 : decide ((0 : Int) ≤ (cap : Int)) = true := by rw [decide_eq_true_iff]; omega
    clear hrun hown hcap hC hCs hi0 hi0' hz0 hz1 hz2 hsz
    unfold maxLen at hle
    go_enter Tryd.func66, Tryd.ntmps66
    go_wp2_with (at_builtin; refine Lib.wpList_append_run _ rfl _ _ _ _ rfl _ _ rfl rfl _ _ HR.out ?_)
    go_ret
    exact ⟨_, rfl, HO.out, ((below_drewN (Below.refl _ _) 1).alloc (Nat.le_refl _) _)⟩

/-- parts of bytes: an address, a capacity, the bytes -/
structure Pt where
  A : Option Addr
  c : Nat
  l : List UInt8
def Pt.v (p : Pt) : Value := .slice p.A p.l.length p.c
def catP (ps : List Pt) : List UInt8 := ps.flatMap (·.l)
/-- a row of slices of bytes -/
def Pts (w : World) (A : Option Addr) (ps : List Pt) : Prop := Reads w w.heap.size 1 A ps.length (ps.map Pt.v) ∧ ∀ p ∈ ps, RB w p.A p.l
theorem Pts.below {w w' : World} {A : Option Addr} {ps : List Pt} (h : Pts w A ps) (hb : Below w.heap.size w w') : Pts w' A ps := ⟨(Reads.below h.1 hb).more hb.size, fun p hp => (h.2 p hp).below hb⟩
theorem Pts.at_ {w : World} {A : Option Addr} {ps : List Pt} (h : Pts w A ps) {k : Nat} (hk : k < ps.length) : ∃ ad, A = some ad ∧ ad.block < w.heap.size ∧ w.cell? (ad.add k) = some (.slice ps[k].A ps[k].l.length ps[k].c) ∧ RB w ps[k].A ps[k].l := by
  obtain ⟨ad, u, e, hb, hx, hc⟩ := Reads.at_ h.1 hk
  refine ⟨ad, e, hb, ?_, h.2 _ (List.getElem_mem hk)⟩
  rw [hc]
  simp [hk] at hx
  rw [← hx]; rfl
theorem Pts.of_block {w : World} {g : Nat} {t : TypeId} {ps : List Pt} (h : Blk w g t (ps.map Pt.v).toArray) (hp : ∀ p ∈ ps, RB w p.A p.l) : Pts w (some ⟨g, 0, none⟩) ps := by
  refine ⟨⟨by simp, fun hn => ⟨_, rfl, h.lt, fun j u hu => ?_⟩⟩, hp⟩
  rw [Addr.add_lit, Nat.zero_add, h.cell j]
  simpa using hu
theorem catP_take (ps : List Pt) (k : Nat) (hk : k < ps.length) : catP (ps.take (k + 1)) = catP (ps.take k) ++ ps[k].l := by
  unfold catP
  rw [List.take_succ_eq_append_getElem hk, List.flatMap_append]; simp
theorem catP_le (ps : List Pt) (k : Nat) : (catP (ps.take k)).length ≤ (catP ps).length := by
  have : catP ps = catP (ps.take k) ++ catP (ps.drop k) := by
    unfold catP
    rw [← List.flatMap_append, List.take_append_drop]
  rw [this, List.length_append]; omega

theorem below_grown' {w w1 w' : World} {B : Nat} {v : Value} (hb : Below B w w1) (hg : w1.grownBy w' v.ownBlock) (hB : B ≤ w1.heap.size) (hv : ∀ k, v.ownBlock = some k → B ≤ k) : Below B w w' := hb.grown hg hB hv
set_option maxRecDepth 100000 in
set_option maxHeartbeats 2000000 in
theorem concat_any (A : Option Addr) (n c : Nat) (ps : List Pt) (w : World) (hps : Pts w A ps) (hn : ps.length = n) (hnb : n ≤ 9223372036854775807) (hz : (catP ps).length ≤ 140737488355328) :
    Calls Tryd.prog 38 #[.slice A n c] w fun e w' => ∃ v, e = .returned v ∧ OB w' w.heap.size v (catP ps) ∧ Below w.heap.size w w' := by
  have HN := Lib.hid hn
  have HZ := Lib.hid hz
  clear hn hz
  go_enter Tryd.func38, Tryd.ntmps38
  go_wp2
  go_loop [3, 11] (fun s i => ∃ k : Nat, k ≤ n ∧ i = .int .i64 k ∧ s = .int .i64 ((catP (ps.take k)).length : Int)) (fun _ i => n - (intOf i).toNat)
  case atStart => exact ⟨0, Nat.zero_le _, rfl, rfl⟩
  case round =>
    obtain ⟨k, hk, rfl, rfl⟩ := hrel
    rcases (by omega : k < n ∨ k = n) with hlt | heq
    · have hkl : k < ps.length := by rw [HN.out]; exact hlt
      obtain ⟨ad, rfl, hb, hc, _⟩ := hps.at_ hkl
      have hs := catP_take ps k hkl
      have hb1 := catP_le ps k
      have hb2 := catP_le ps (k + 1)
      have hz := HZ.out
      have HS : Hid ((catP (ps.take (k + 1))).length = (catP (ps.take k)).length + ps[k].l.length) := by show _ = _; rw [hs, List.length_append]
      obtain ⟨a, ha⟩ : ∃ a, a = (catP (ps.take k)).length := ⟨_, rfl⟩
      obtain ⟨b, hbb⟩ : ∃ a, a = ps[k].l.length := ⟨_, rfl⟩
      have HAB : Hid (a + b = (catP (ps.take (k + 1))).length) := by show _ = _; rw [ha, hbb, HS.out]
      have hab : a + b ≤ 140737488355328 := by rw [HAB.out]; omega
      rw [← ha]
      rw [← hbb] at hc
      have hki : decide ((k : Int) < (n : Int)) = true := by rw [decide_eq_true_iff]; omega
      have hnn : decide ((a : Int) + (b : Int) < 0) = false := by rw [decide_eq_false_iff_not]; omega
      clear hs hb1 hb2 hz HS ha hbb hps
      go_wp2
      go_round
      case rel => exact ⟨k + 1, by omega, by go_num, by rw [← HAB.out]; go_num⟩
      case measure => simp [intOf]; omega
    · subst heq
      have hki : decide ((k : Int) < (k : Int)) = false := by rw [decide_eq_false_iff_not]; omega
      have hall : Hid (catP (ps.take k) = catP ps) := by show _ = _; rw [List.take_of_length_le (by rw [HN.out]; omega)]
      have hlen : (catP (ps.take k)).length ≤ 140737488355328 := by rw [hall.out]; exact HZ.out
      obtain ⟨a, ha⟩ : ∃ a, a = (catP (ps.take k)).length := ⟨_, rfl⟩
      rw [← ha] at hlen ⊢
      have HP := Lib.hid hps
      clear ha hps
      go_wp2_with fail
      refine (grow_any a w hlen).mono ?_
      rintro e w1 ⟨v, rfl, hv, hb1⟩
      have HV := Lib.hid hv
      have HB := Lib.hid hb1
      clear hv hb1
      go_wp2
      go_loopw [6, 27] (fun v i wr => ∃ j : Nat, j ≤ k ∧ i = .int .i64 j ∧ Hid (OB wr w.heap.size v (catP (ps.take j))) ∧ Hid (Below w.heap.size w wr)) (fun _ i _ => k - (intOf i).toNat)
      case atStart => exact ⟨0, Nat.zero_le _, rfl, HV, HB⟩
      case round =>
        obtain ⟨j, hj, rfl, HV, HB⟩ := hrel
        rcases (by omega : j < k ∨ j = k) with hjl | heq
        · have hjk : j < ps.length := by rw [HN.out]; exact hjl
          obtain ⟨ad, rfl, hb, hc, hr⟩ := (HP.out.below HB.out).at_ hjk
          have HS := Lib.hid (catP_take ps j hjk)
          have hji : decide ((j : Int) < (k : Int)) = true := by rw [decide_eq_true_iff]; omega
          have hlen : (catP (ps.take j)).length + ps[j].l.length ≤ 140737488355328 := by
            have h1 := catP_le ps (j + 1)
            rw [HS.out, List.length_append] at h1
            have := HZ.out
            omega
          have HR := Lib.hid hr
          have HGE := Lib.hid HV.out.grown_ge
          obtain ⟨L, hL⟩ : ∃ L, L = ps[j].l.length := ⟨_, rfl⟩
          have HL := Lib.hid hL
          rw [← hL] at hc hlen
          have hbase := HB.out.size
          clear hr hb hL HP
          go_wp2_with (at_builtin; refine app_bytes _ rfl _ _ rfl w.heap.size _ _ rfl HV.out _ _ _ _ rfl HL.out.symm HR.out hlen hbase ?_; intro v' w' hown hg _)
          have HN2 := Lib.hid hown
          have HB2 := Lib.hid (below_grown' HB.out hg hbase HGE.out)
          clear hown hg
          rw [← HS.out] at HN2
          go_wp2
          go_roundw
          case rel => exact ⟨j + 1, by omega, by go_num, HN2, HB2⟩
          case measure => simp [intOf]; omega
        · subst heq
          have hji : decide ((j : Int) < (j : Int)) = false := by rw [decide_eq_false_iff_not]; omega
          rw [hall.out] at HV
          go_wp2
          go_ret
          exact ⟨_, rfl, HV.out, HB.out⟩
end Go.Proofs.YtcndkkagnobpmaaDoor
