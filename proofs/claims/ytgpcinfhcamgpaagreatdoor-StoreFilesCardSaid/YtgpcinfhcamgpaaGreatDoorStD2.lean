/-
  store.readFiles: what it returns.
-/
import Derived.Test.YtgpcinfhcamgpaaGreatDoorStD1
namespace Go.Proofs.YtgpcinfhcamgpaaGreatDoor
open Go.RowKit
attribute [local go_sem ↓] Go.wp_at_zero Go.wp_at_succ
set_option linter.unusedVariables false
set_option linter.unusedSimpArgs false

/-- what a reading loop has done: a list that is owned, the reader's state -/
structure RdI (rd : World → Nat → List UInt8 → Bool → Prop) (w : World) (r : Nat) (k : Nat) (s : RdS) (fs : List FV) (v : Value) (wr : World) : Prop where
  own : OFl 0 wr w.heap.size v fs
  eq : fiL fs = s.1
  rd : rd wr r s.2.1 s.2.2
  fr : Fr (· = r) w wr
  len : fs.length = k
  left : s.2.1.length ≤ 100000
  names : ∀ f ∈ fs, f.nm.size ≤ 100000
  emp : s.2.2 = true → s.2.1 = []
theorem int2_C (w : World) (r : Nat) (l : List UInt8) (bad : Bool) (h : RD w r l bad) :
    Calls Tryz.prog 74 #[.pointer (some ⟨r, 0, none⟩), .int .i64 2] w fun e w' => e = .returned (.int .i64 (if l.length < 2 then 0 else beVal (l.take 2) : Nat)) ∧ RD w' r (if l.length < 2 then [] else l.drop 2) (decide (l.length < 2)) ∧ Fr (· = r) w w' := by
  by_cases h4 : l.length < 2
  · rw [if_pos h4, if_pos h4, decide_eq_true h4]
    exact int_no w r l bad 2 h (by omega)
  · have hb : bad = false := by
      cases bad with
      | false => rfl
      | true => rw [h.empty rfl] at h4; simp at h4
    subst hb
    rw [if_neg h4, if_neg h4, decide_eq_false h4]
    exact int_ok w r l 2 h (by omega) (by omega) (by omega)
def rdN (l : List UInt8) : Nat := if l.length < 2 then 0 else beVal (l.take 2)
def rdL (l : List UInt8) : List UInt8 := if l.length < 2 then [] else l.drop 2
theorem rdFiles_eq (l : List UInt8) : rdFs (rdN l) ([], rdL l, decide (l.length < 2)) = rdFiles l := by
  unfold rdFiles rdN rdL
  by_cases h : l.length < 2
  · rw [if_pos h, if_pos h, if_pos h, decide_eq_true h]; rfl
  · rw [if_neg h, if_neg h, if_neg h, decide_eq_false h]
theorem rdN_lt (l : List UInt8) : rdN l < 65536 := by
  unfold rdN
  split
  · omega
  · have h1 := beVal_lt (l.take 2)
    have h2 : 256 ^ (l.take 2).length ≤ 256 ^ 2 := Nat.pow_le_pow_right (by omega) (by rw [List.length_take]; omega)
    omega
/-- what the whole reading says -/
def RdPost (rd : World → Nat → List UInt8 → Bool → Prop) (w : World) (r : Nat) (t : RdS) (e : Ending) (w' : World) : Prop :=
  ∃ v fs, e = .returned v ∧ OFl 0 w' w.heap.size v fs ∧ (t.2.2 = false → fiL fs = t.1) ∧ rd w' r t.2.1 t.2.2 ∧ Fr (· = r) w w' ∧ fs.length ≤ 65536 ∧ ∀ f ∈ fs, f.nm.size ≤ 100000
set_option maxRecDepth 100000 in
set_option maxHeartbeats 4000000 in
theorem readFiles_any (w : World) (r : Nat) (l : List UInt8) (bad : Bool) (h : RD w r l bad) (hl : l.length ≤ 100000) :
    Calls Tryz.prog 40 #[.pointer (some ⟨r, 0, none⟩)] w fun e w' => RdPost RD w r (rdFiles l) e w' := by
  have HI := Lib.hid (int2_C w r l bad h)
  have hrlt : r < w.heap.size := by obtain ⟨_, _, hb, _⟩ := h; exact hb.lt
  obtain ⟨t, ht⟩ : ∃ t, t = rdFiles l := ⟨_, rfl⟩
  rw [← ht]
  have HT : Hid (rdFs (rdN l) ([], rdL l, decide (l.length < 2)) = t) := by show _ = _; rw [ht, rdFiles_eq]
  have HLE : Hid ((rdL l).length ≤ 100000) := Lib.hid (by
    unfold rdL
    split
    · simp
    · rw [List.length_drop]; omega)
  have HEM : Hid (decide (l.length < 2) = true → rdL l = []) := Lib.hid (fun e => by
    have := of_decide_eq_true e
    unfold rdL
    rw [if_pos this])
  change Hid (Calls Tryz.prog 74 #[.pointer (some ⟨r, 0, none⟩), .int .i64 2] w fun e w' => e = .returned (.int .i64 (rdN l : Nat)) ∧ RD w' r (rdL l) (decide (l.length < 2)) ∧ Fr (· = r) w w') at HI
  have hn := rdN_lt l
  obtain ⟨n, hnn⟩ : ∃ n, n = rdN l := ⟨_, rfl⟩
  rw [← hnn] at HI HT hn
  obtain ⟨b0, hb0⟩ : ∃ b, b = decide (l.length < 2) := ⟨_, rfl⟩
  obtain ⟨l0, hl0⟩ : ∃ b, b = rdL l := ⟨_, rfl⟩
  rw [← hb0, ← hl0] at HI HT HEM
  rw [← hl0] at HLE
  clear ht hnn hb0 hl0 h
  go_enter Tryz.func40, Tryz.ntmps40
  go_wp2_with fail
  refine HI.out.mono ?_
  rintro e w1 ⟨rfl, hr1, hf1⟩
  have HS : Hid (RdI RD w r 0 ([], l0, b0) [] (.slice none 0 0) w1) := Lib.hid ⟨OFl.nil _ _ _, rfl, hr1, hf1, rfl, HLE.out, (fun f hf => by cases hf), HEM.out⟩
  clear hr1 hf1
  go_wp2
  go_loopw [3, 7] (fun v i wr => ∃ (k : Nat) (s : RdS) (fs : List FV), k ≤ n ∧ i = .int .i64 (k : Int) ∧ Hid (rdFs (n - k) s = t) ∧ Hid (RdI RD w r k s fs v wr)) (fun _ i _ => n - (intOf i).toNat)
  case atStart => exact ⟨0, _, _, Nat.zero_le _, rfl, Lib.hid HT.out, HS⟩
  case round =>
    obtain ⟨k, s, fs, hk, rfl, HK, HI⟩ := hrel
    clear HS
    rcases (by omega : k < n ∨ k = n) with hlt | heq
    · have q0 : decide ((k : Int) < (n : Int)) = true := by rw [decide_eq_true_iff]; omega
      have q0' : decide (k < n) = true := by rw [decide_eq_true_iff]; omega
      have HBD := Lib.hid (bad_any wr r s.2.1 s.2.2 HI.out.rd)
      cases hs : s.2.2 with
      | true =>
        rw [hs] at HBD
        have HE : Hid (RdPost RD w r t (.returned (.slice none 0 0)) wr) := Lib.hid (by
          have h1 := HK.out
          rw [rdFs_bad _ _ hs] at h1
          subst h1
          exact ⟨_, [], rfl, OFl.nil _ _ _, (fun e => by rw [hs] at e; cases e), HI.out.rd, HI.out.fr, by simp, fun f hf => by cases hf⟩)
        clear hs
        go_wp2_with fail
        refine HBD.out.mono ?_
        rintro e w' ⟨rfl, rfl⟩
        go_wp2
        go_ret
        exact HE.out
      | false =>
        rw [hs] at HBD
        have HT1 := rtextC wr r s.2.1 s.2.2 HI.out.rd
        have HT2 := fun w2 h => rtextC w2 r (rdT s.2.1).2.1 (rdT s.2.1).2.2 h
        have HST : Hid (rdFs (n - (k + 1)) (stepF s) = t) := Lib.hid (by
          have h1 := HK.out
          rw [show n - k = (n - (k + 1)) + 1 from by omega, rdFs_step _ _ hs] at h1
          exact h1)
        have hz1 : (rdT s.2.1).1.length ≤ 100000 := Nat.le_trans (rdT_size _) HI.out.left
        have hz2 : (rdT (rdT s.2.1).2.1).1.length ≤ 1048576 := rdT_most _
        have HZ3 : Hid ((rdT (rdT s.2.1).2.1).2.1.length ≤ 100000) := Lib.hid (Nat.le_trans (rdT_left _) (Nat.le_trans (rdT_left _) HI.out.left))
        have HE4 : Hid ((rdT (rdT s.2.1).2.1).2.2 = true → (rdT (rdT s.2.1).2.1).2.1 = []) := Lib.hid (rdT_empty _)
        have HSF : Hid (stepF s = (s.1 ++ [⟨⟨(rdT s.2.1).1.toArray⟩, (rdT (rdT s.2.1).2.1).1⟩], (rdT (rdT s.2.1).2.1).2.1, (rdT (rdT s.2.1).2.1).2.2)) := Lib.hid rfl
        obtain ⟨t1, ht1⟩ : ∃ z, z = (rdT s.2.1).1 := ⟨_, rfl⟩
        obtain ⟨t2, ht2⟩ : ∃ z, z = (rdT (rdT s.2.1).2.1).1 := ⟨_, rfl⟩
        obtain ⟨l2, hl2⟩ : ∃ z, z = (rdT (rdT s.2.1).2.1).2.1 := ⟨_, rfl⟩
        obtain ⟨b2, hb2⟩ : ∃ z, z = (rdT (rdT s.2.1).2.1).2.2 := ⟨_, rfl⟩
        rw [← ht2, ← hl2, ← hb2] at HT2
        rw [← ht1] at HT1 hz1
        rw [← ht2] at hz2
        rw [← hl2] at HZ3
        rw [← hl2, ← hb2] at HE4
        rw [← ht1, ← ht2, ← hl2, ← hb2] at HSF
        have HT11 := Lib.hid HT1
        have HT22 := Lib.hid HT2
        have HRW : Hid (∃ cs, Blk wr r 111 cs) := Lib.hid (by obtain ⟨_, _, hb, _⟩ := HI.out.rd; exact ⟨_, hb⟩)
        clear hs HT1 HT2 ht1 ht2 hl2 hb2
        go_wp2_with fail
        refine HBD.out.mono ?_
        rintro e w' ⟨rfl, rfl⟩
        go_wp2_with fail
        refine HT11.out.mono ?_
        rintro e w2 ⟨rfl, hr2, hf2⟩
        have HR2 := Lib.hid hr2
        have HF2 := Lib.hid hf2
        clear hr2 hf2
        go_wp2_with fail
        refine (HT22.out _ HR2.out).mono ?_
        rintro e w3 ⟨rfl, hr3, hf3⟩
        obtain ⟨n2, hn2⟩ : ∃ z, z = t2.length := ⟨_, rfl⟩
        obtain ⟨cap, w4, hconv, hc1, hc2, hbody, hbel, hsz⟩ := conv_body t2 w3 (by unfold maxLen; omega)
        rw [← hn2] at hconv hc1 hz2
        have HN2 := Lib.hid hn2
        have HF3 : Hid (Fr (· = r) wr w3) := Lib.hid (HF2.out.trans hf3)
        have HO3 : Hid (OFl 0 w3 w.heap.size u3 fs) := Lib.hid (HI.out.own.fr HF3.out (fun g hg e => by
          obtain ⟨cs, hcs⟩ := HRW.out
          subst e
          exact own_blk_ne HI.out.own.1 hcs (by decide) hg) (fun g e => ⟨Nat.zero_le _, fun cs fr e2 => by
          obtain ⟨cs', hcs⟩ := HRW.out
          subst e
          rw [hcs] at e2
          injection e2 with e2
          injection e2 with _ e3 _
          exact absurd e3 (by decide)⟩))
        have HR3 := Lib.hid hr3
        have HO4 := Lib.hid (HO3.out.below hbel)
        have HR4 := Lib.hid (HR3.out.below hbel)
        have HF4 : Hid (Fr (· = r) w w4) := Lib.hid ((HI.out.fr.trans HF3.out).below hbel)
        have HFV : Hid (FVok w4 0 ⟨⟨t1.toArray⟩, some ⟨w3.heap.size, 0, none⟩, cap, t2⟩) := Lib.hid ⟨hbody 0, by show t2.length ≤ cap; rw [← HN2.out]; exact hc1, hc2⟩
        have HSZ4 : Hid (w.heap.size ≤ w4.heap.size) := Lib.hid HF4.out.size
        have hfl : fs.length ≤ 1000000 := by rw [HI.out.len]; omega
        clear hr3 hf3 hbody hbel hn2 hsz hc1 hc2
        go_wp2_with (at_builtin; refine app_file w4 rfl _ _ rfl 0 w.heap.size (Nat.zero_le _) u3 fs rfl HO4.out ⟨⟨t1.toArray⟩, some ⟨w3.heap.size, 0, none⟩, cap, t2⟩ n2 HN2.out HFV.out rfl hfl HSZ4.out ?_; intro v5 w5 ho5 hg5; have HO5 := Lib.hid ho5; have HG5 := Lib.hid hg5; clear ho5 hg5)
        have HA4 : Hid (Below w4.heap.size w4 (w4.alloc (.cells #[.string ⟨t1.toArray⟩, .slice (some ⟨w3.heap.size, 0, none⟩) n2 cap] 55))) := Lib.hid ((Below.refl _ _).alloc (Nat.le_refl _) _)
        have HO4A := Lib.hid (HO4.out.below HA4.out)
        have HFG : Hid (Fr (fun k => u3.ownBlock = some k) (w4.alloc (.cells #[.string ⟨t1.toArray⟩, .slice (some ⟨w3.heap.size, 0, none⟩) n2 cap] 55)) w5) := Lib.hid (Fr.of_grown HG5.out (fun k e => e))
        have HFW : Hid (Fr (· = r) w w5) := Lib.hid ((HF4.out.below HA4.out).trans_new HFG.out (fun j hj e => by
          have := HO4A.out.ge j e
          omega))
        have HR5 : Hid (RD w5 r l2 b2) := Lib.hid ((HR4.out.below HA4.out).fr HFG.out (fun e => by
          have := HO4A.out.ge r e
          omega) (fun k cs e hb => HO4A.out.row k e _ _ hb))
        have HN5 : Hid (RdI RD w r (k + 1) (stepF s) (fs ++ [⟨⟨t1.toArray⟩, some ⟨w3.heap.size, 0, none⟩, cap, t2⟩]) v5 w5) := Lib.hid (by
          rw [HSF.out]
          refine ⟨HO5.out, by simp [fiL, FV.fi, ← HI.out.eq], HR5.out, HFW.out, by simp [HI.out.len], HZ3.out, fun f hf => ?_, HE4.out⟩
          rcases List.mem_append.1 hf with hf | hf
          · exact HI.out.names f hf
          · rw [List.mem_singleton] at hf
            subst hf
            show t1.toArray.size ≤ _
            rw [List.size_toArray]
            exact hz1)
        clear HG5 HFG HO4A HA4
        go_roundw
        case rel => exact ⟨k + 1, stepF s, _, by omega, by go_num, HST, HN5⟩
        case measure => simp [intOf]; omega
    · have q0 : decide ((k : Int) < (n : Int)) = false := by rw [decide_eq_false_iff_not]; omega
      have q0' : decide (k < n) = false := by rw [decide_eq_false_iff_not]; omega
      have HE : Hid (RdPost RD w r t (.returned u3) wr) := Lib.hid (by
        have h1 := HK.out
        rw [heq, Nat.sub_self, rdFs] at h1
        subst h1
        exact ⟨u3, fs, rfl, HI.out.own, fun _ => HI.out.eq, HI.out.rd, HI.out.fr, by rw [HI.out.len]; omega, HI.out.names⟩)
      clear heq
      go_wp2
      go_ret
      exact HE.out
end Go.Proofs.YtgpcinfhcamgpaaGreatDoor
