/-
  store.Commit: what becomes of the disk, the record and the store.
-/
import Derived.Test.YtgpcinfhcamgpaaGreatDoorStO3
namespace Go.Proofs.YtgpcinfhcamgpaaGreatDoor
open Go.RowKit Glob
attribute [local go_sem ↓] Go.wp_at_zero Go.wp_at_succ
set_option linter.unusedVariables false
set_option linter.unusedSimpArgs false

theorem storeV_noBy (r : Nat) (x : SV) (k : Nat) (b : Int) : (storeV r x)[k]? ≠ some (.int .u8 b) := by
  unfold storeV
  rcases (by omega : k = 0 ∨ k = 1 ∨ k = 2 ∨ k = 3 ∨ k = 4 ∨ k = 5 ∨ 6 ≤ k) with rfl | rfl | rfl | rfl | rfl | rfl | h
  all_goals first | (intro h; cases h) | (rw [Array.getElem?_eq_none (by simpa using h)]; intro h; cases h)
theorem DiskAt.noBF {w : World} {d s M n : Nat} {K : Dk} (h : DiskAt w d s M n K) : ∀ g, DS d s M g → NoBF w g := by
  rintro g (rfl | rfl | rfl)
  · obtain ⟨cap, hb, _⟩ := h.blk
    exact NoBF.of_blk hb (by decide) (by decide)
  · obtain ⟨cs, hb, _⟩ := h.row
    exact NoBF.of_blk hb (by decide) (by decide)
  · obtain ⟨f, hm, _⟩ := h.map
    obtain ⟨D, ⟨es, clock, hmb, _⟩, _⟩ := hm
    exact fun cs fr => ⟨by rw [hmb]; exact fun e => (by injection e with e; cases e), by rw [hmb]; exact fun e => (by injection e with e; cases e)⟩
theorem DiskAt.notT {w : World} {d s M n : Nat} {K : Dk} (h : DiskAt w d s M n K) {p : Nat} {t : TypeId} {cs : Array Value} (hp : Blk w p t cs) (h1 : t ≠ 94) (h2 : t ≠ 22) : ¬ DS d s M p := by
  rintro (rfl | rfl | rfl)
  · obtain ⟨cap, hb, _⟩ := h.blk
    exact hp.ne_ hb h1 rfl
  · obtain ⟨cs, hb, _⟩ := h.row
    exact hp.ne_ hb h2 rfl
  · obtain ⟨f, hm, _⟩ := h.map
    obtain ⟨D, ⟨es, clock, hmb, _⟩, _⟩ := hm
    unfold Blk at hp
    rw [hmb] at hp
    injection hp with hp
    cases hp
theorem RecAt.blk {w : World} {r d first half N : Nat} {T : List UInt8} {dead : Bool} (h : RecAt w r d first half N T dead) : ∃ cs, Blk w r 119 cs := by
  obtain ⟨_, _, hb, _⟩ := h
  exact ⟨_, hb⟩
theorem RecAt.noBF {w : World} {r d first half N : Nat} {T : List UInt8} {dead : Bool} (h : RecAt w r d first half N T dead) : NoBF w r := by
  obtain ⟨_, hb⟩ := h.blk
  exact NoBF.of_blk hb (by decide) (by decide)
set_option maxHeartbeats 1000000 in
theorem scommit_no (p : Nat) (x : SV) (w : World) (h : SAt w x) (hm : SM x) (hT : Tab w) (hq : mayS fnameL pathL x.sta = false) : Calls Tryz.prog 20 #[.pointer (some ⟨p, 0, none⟩), x.v] w fun e w' => e = .returned (.int .i64 1) ∧ Below w.heap.size w w' := by
  have HE := Lib.hid (fun V (hV : Below w.heap.size w V) => encode_no x V (h.below hV) hm (hT.below hV) hq)
  obtain ⟨a0, n0, c0, a1, n1, c1, a2, n2, c2, a3, n3, c3, a4, n4, c4, hsv, -⟩ := x.five
  rw [hsv] at HE ⊢
  clear hsv h hm hT hq
  have HA : Hid (Below w.heap.size w (w.alloc (.cells #[.slice a0 n0 c0, .slice a1 n1 c1, .slice a2 n2 c2, .slice a3 n3 c3, .slice a4 n4 c4] 25))) := Lib.hid ((Below.refl _ _).alloc (Nat.le_refl _) _)
  go_enter Tryz.func20, Tryz.ntmps20
  go_wp2_with fail
  refine (HE.out _ HA.out).mono ?_
  rintro e w1 ⟨rfl, hb1⟩
  have HB1 := Lib.hid (HA.out.trans (hb1.mono HA.out.size))
  clear hb1
  go_wp2
  go_ret
  exact ⟨rfl, HB1.out⟩
set_option maxRecDepth 100000 in
set_option maxHeartbeats 8000000 in
theorem scommit_full {d s M p r half N : Nat} {T0 : List UInt8} {K : Dk} {x0 : SV} (x : SV) (w : World) (htab : TabK w) (hT : Tab w) (hSA : StoreAt w p r x0) (hR : RecAt w r d 0 half N T0 false) (hX : ∀ V, Fr (fun k => DS d s M k ∨ k = r) w V → SAt V x) (hm : SM x) (hq : mayS fnameL pathL x.sta = true)
    (h2 : 2 ≤ half) (hhb : half ≤ 1000) (hN : N < 255) (hl : 64 * (half - 1) < (stB x.sta).length) (hl2 : (stB x.sta).length ≤ 140737488000000) :
    Calls Tryz.prog 20 #[.pointer (some ⟨p, 0, none⟩), x.v] w fun e w' => e = .returned (.int .i64 2) ∧ Below w.heap.size w w' := by
  have HE := Lib.hid (fun V (hV : Below w.heap.size w V) => encode_yes x V (hX V (Fr.of_below hV)) hm (hT.below hV) hq hl2)
  have HRM := Lib.hid (fun V (hV : Below w.heap.size w V) => sroom_any V (hSA.below hV) (hR.below hV) (by omega) (by omega))
  obtain ⟨L, hL⟩ : ∃ L, L = stB x.sta := ⟨_, rfl⟩
  obtain ⟨n, hn⟩ : ∃ n, n = L.length := ⟨_, rfl⟩
  rw [← hL, ← hn] at hl hl2
  rw [← hL] at HE
  have HN := Lib.hid hn.symm
  obtain ⟨a0, n0, c0, a1, n1, c1, a2, n2, c2, a3, n3, c3, a4, n4, c4, hsv, -⟩ := x.five
  rw [hsv] at HE ⊢
  clear hsv hX hm hT hq hL hn hSA hR htab
  have HA : Hid (Below w.heap.size w (w.alloc (.cells #[.slice a0 n0 c0, .slice a1 n1 c1, .slice a2 n2 c2, .slice a3 n3 c3, .slice a4 n4 c4] 25))) := Lib.hid ((Below.refl _ _).alloc (Nat.le_refl _) _)
  have q1 : decide (64 * ((half : Int) - 1) < (n : Int)) = true := by rw [decide_eq_true_iff]; omega
  go_enter Tryz.func20, Tryz.ntmps20
  go_wp2_with fail
  refine (HE.out _ HA.out).mono ?_
  rintro e w1 ⟨v, rfl, hv, hb1⟩
  obtain ⟨A1, k1, rfl, _, _, hr1, _⟩ := hv.shape_n HN.out
  have HB1 := Lib.hid (HA.out.trans (hb1.mono HA.out.size))
  clear hb1 hv hr1
  go_wp2_with fail
  refine (HRM.out _ HB1.out).mono ?_
  rintro e w' ⟨rfl, hww⟩
  rw [hww]
  clear hww
  go_wp2
  go_ret
  exact ⟨rfl, HB1.out⟩
theorem noby6 (r : Nat) (u0 : Option Addr) (v0 t0 : Nat) (u1 : Option Addr) (v1 t1 : Nat) (u2 : Option Addr) (v2 t2 : Nat) (u3 : Option Addr) (v3 t3 : Nat) (u4 : Option Addr) (v4 t4 : Nat) (k : Nat) (x : Int) : (#[.pointer (some ⟨r, 0, none⟩), .slice u0 v0 t0, .slice u1 v1 t1, .slice u2 v2 t2, .slice u3 v3 t3, .slice u4 v4 t4] : Array Value)[k]? ≠ some (.int .u8 x) := by
  rcases (by omega : k = 0 ∨ k = 1 ∨ k = 2 ∨ k = 3 ∨ k = 4 ∨ k = 5 ∨ 6 ≤ k) with rfl | rfl | rfl | rfl | rfl | rfl | h
  all_goals first | (intro h; cases h) | (rw [Array.getElem?_eq_none (by simpa using h)]; intro h; cases h)
theorem Tab.frT {S : Nat → Prop} {w w' : World} (h : Tab w) (hf : Fr S w w') (h1 : ∀ k, S k → k < w.heap.size) (h2 : ¬ S 2) : Tab w' := by
  obtain ⟨h0, m, hm⟩ := h
  exact ⟨Nat.lt_of_lt_of_le h0 hf.size, m, by rw [hf.cell (p := ⟨2, 0, none⟩) h0 h2]; exact hm⟩
def SDPost (d s M p r half N : Nat) (x : SV) (K : Dk) (w : World) (e : Ending) (w' : World) : Prop :=
  e = .returned (.int .i64 0) ∧ (∃ K', RecD w' d s M 0 half (N + 1) (stB x.sta) K' ∧ K'.sure.length = K.sure.length) ∧ RecAt w' r d 0 half (N + 1) (stB x.sta) false ∧ Fr (fun k => DS d s M k ∨ k = r ∨ k = p) w w' ∧ ∃ y, StoreAt w' p r y ∧ y.sta = x.sta
set_option maxRecDepth 100000 in
set_option maxHeartbeats 8000000 in
theorem scommit_dg {d s M p r half N : Nat} {T0 : List UInt8} {K : Dk} {x0 : SV} (x : SV) (w : World) (h : RecD w d s M 0 half N T0 K) (hG : ¬ (DS d s M 2 ∨ 2 = r)) (htab : TabK w) (hT : Tab w) (hSA : StoreAt w p r x0) (hR : RecAt w r d 0 half N T0 false) (hX : ∀ V, Fr (fun k => DS d s M k ∨ k = r) w V → SAt V x) (hm : SM x) (hq : mayS fnameL pathL x.sta = true)
    (h2 : 2 ≤ half) (hhb : half ≤ 1000) (hN : N < 255) (hl : (stB x.sta).length ≤ 64 * (half - 1) ∧ (stB x.sta).length ≤ 100000) :
    Calls Tryz.prog 20 #[.pointer (some ⟨p, 0, none⟩), x.v] w fun e w' => SDPost d s M p r half N x K w e w' := by
  have HE := Lib.hid (fun V (hV : Below w.heap.size w V) => encode_yes x V (hX V (Fr.of_below hV)) hm (hT.below hV) hq (by omega))
  have HRM := Lib.hid (fun V (hV : Below w.heap.size w V) => sroom_any V (hSA.below hV) (hR.below hV) (by omega) (by omega))
  have HXX := Lib.hid hX
  have HSMX := Lib.hid hm
  have HMY := Lib.hid hq
  have HTT := Lib.hid hT
  have HTB := Lib.hid htab
  have HS0 := Lib.hid hSA
  have HR0 := Lib.hid hR
  have HDK := Lib.hid (And.intro h hG)
  have HLL := Lib.hid hl
  have hDSl : ∀ k, DS d s M k ∨ k = r → k < w.heap.size := fun k e => by
    obtain ⟨l1, l2, l3⟩ := h.disk.lt
    obtain ⟨_, hbr⟩ := hR.blk
    rcases e with (rfl | rfl | rfl) | rfl
    · exact l1
    · exact l2
    · exact l3
    · exact hbr.lt
  have HLT := Lib.hid hDSl
  obtain ⟨L, hL⟩ : ∃ L, L = stB x.sta := ⟨_, rfl⟩
  obtain ⟨n, hn⟩ : ∃ n, n = L.length := ⟨_, rfl⟩
  rw [← hL, ← hn] at hl
  rw [← hL] at HE
  have HN := Lib.hid hn.symm
  have HLQ := Lib.hid hL
  have HCL := Lib.hid (fun V (hV : SAt V x) (h2 : Tab V) => sclone_any x V hV HSMX.out h2 HMY.out (by rw [← HLQ.out, HN.out]; omega))
  unfold ClonePost at HCL
  obtain ⟨a0, n0, c0, a1, n1, c1, a2, n2, c2, a3, n3, c3, a4, n4, c4, hsv, -⟩ := x.five
  rw [hsv] at HE HCL ⊢
  clear hsv hX hm hT hq hL hn hSA hR htab hDSl h
  have HA : Hid (Below w.heap.size w (w.alloc (.cells #[.slice a0 n0 c0, .slice a1 n1 c1, .slice a2 n2 c2, .slice a3 n3 c3, .slice a4 n4 c4] 25))) := Lib.hid ((Below.refl _ _).alloc (Nat.le_refl _) _)
  have HBX : Hid (Blk (w.alloc (.cells #[.slice a0 n0 c0, .slice a1 n1 c1, .slice a2 n2 c2, .slice a3 n3 c3, .slice a4 n4 c4] 25)) w.heap.size 25 #[.slice a0 n0 c0, .slice a1 n1 c1, .slice a2 n2 c2, .slice a3 n3 c3, .slice a4 n4 c4]) := Lib.hid (Blk.new _ _ _)
  have q1 : decide (64 * ((half : Int) - 1) < (n : Int)) = false := by rw [decide_eq_false_iff_not]; omega
  go_enter Tryz.func20, Tryz.ntmps20
  go_wp2_with fail
  refine (HE.out _ HA.out).mono ?_
  rintro e w1 ⟨v, rfl, hv, hb1⟩
  obtain ⟨A1, k1, rfl, hk1, hk2, hr1, _⟩ := hv.shape_n HN.out
  have HB1 : Hid (Below w.heap.size w w1) := Lib.hid (HA.out.trans (hb1.mono HA.out.size))
  have HBX1 := Lib.hid (HBX.out.below hb1 HBX.out.lt)
  have hk3 : k1 ≤ 9223372036854775807 := by unfold maxLen at hk2; omega
  have HRC := Lib.hid (rcommit_dg A1 n k1 L w1 (HDK.out.1.below HB1.out) (TabK.below HTB.out HB1.out) (HR0.out.below HB1.out) hr1 HN.out hk1 hk3 (by omega) hN)
  have p0 := (HS0.out.below HB1.out).blk.cell 0
  simp only [storeV, List.getElem?_toArray, List.getElem?_cons_zero] at p0
  clear hb1 hv hr1 hk2 HBX
  go_wp2_with fail
  refine (HRM.out _ HB1.out).mono ?_
  rintro e w' ⟨rfl, hww⟩
  rw [hww]
  clear hww
  go_wp2_with fail
  refine HRC.out.mono ?_
  rintro e w2 ⟨rfl, ⟨K8, hD8, hlen8⟩, hR8, hf2⟩
  have HDA1 := Lib.hid ((HDK.out.1.below HB1.out).disk)
  have HFW : Hid (Fr (fun k => DS d s M k ∨ k = r) w w2) := Lib.hid ((Fr.of_below HB1.out).trans hf2)
  have HBX2 := Lib.hid (HBX1.out.fr hf2 (fun e => by have := HLT.out _ e; omega))
  have HNB1 : Hid (∀ k, (DS d s M k ∨ k = r) → NoBF w1 k) := Lib.hid (fun k e => e.elim (HDA1.out.noBF k) (fun e => by subst e; exact (HR0.out.below HB1.out).noBF))
  have HP2 : Hid (Blk w2 p 89 (storeV r x0)) := Lib.hid ((HS0.out.below HB1.out).blk.fr hf2 (fun e => e.elim (fun e => HDA1.out.notT (HS0.out.below HB1.out).blk (by decide) (by decide) e) (fun e => by obtain ⟨_, hb⟩ := (HR0.out.below HB1.out).blk; exact (HS0.out.below HB1.out).blk.ne_ hb (by decide) e)))
  have HT2 : Hid (Tab w2) := Lib.hid (HTT.out.frT HFW.out (fun k e => HLT.out k e) (HDK.out.2))
  have HD8 := Lib.hid hD8
  have HLE8 := Lib.hid hlen8
  have HR8 := Lib.hid hR8
  clear hD8 hf2 hlen8 hR8
  have b0' := HBX2.out.cell 0
  have b1' := HBX2.out.cell 1
  have b2' := HBX2.out.cell 2
  have b3' := HBX2.out.cell 3
  have b4' := HBX2.out.cell 4
  simp only [List.getElem?_toArray, List.getElem?_cons_zero, List.getElem?_cons_succ] at b0' b1' b2' b3' b4'
  have HCC := Lib.hid (HCL.out w2 (HXX.out w2 HFW.out) HT2.out)
  clear p0
  go_wp2_with fail
  refine HCC.out.mono ?_
  rintro e w3 ⟨y, rfl, hy, hty, hsm, hb3⟩
  have HP3 := Lib.hid (HP2.out.below hb3 HP2.out.lt)
  have HY := Lib.hid hy
  have HTY := Lib.hid hty
  have HSM := Lib.hid hsm
  have HB3 := Lib.hid hb3
  obtain ⟨b0, m0, d0, b1, m1, d1, b2, m2, d2, b3, m3, d3, b4, m4, d4, hyv, hys⟩ := storeV_five r y
  have HYS := Lib.hid hys
  rw [hyv]
  clear hy hty hsm hb3 hyv hys b0' b1' b2' b3' b4'
  obtain ⟨u0, v0, t0, u1, v1, t1, u2, v2, t2, u3, v3, t3, u4, v4, t4, -, hx0⟩ := storeV_five r x0
  rw [hx0] at HP3
  have q1' := HP3.out.cell 1
  have q2 := HP3.out.cell 2
  have q3 := HP3.out.cell 3
  have q4 := HP3.out.cell 4
  have q5 := HP3.out.cell 5
  have z1 := HP3.out.frozen 1
  have z2 := HP3.out.frozen 2
  have z3 := HP3.out.frozen 3
  have z4 := HP3.out.frozen 4
  have z5 := HP3.out.frozen 5
  simp only [List.getElem?_toArray, List.getElem?_cons_zero, List.getElem?_cons_succ] at q1' q2 q3 q4 q5
  clear hx0
  go_wp2
  have HF : Hid (Blk (((((w3.setCell ⟨p, 1, none⟩ (.slice b0 m0 d0)).setCell ⟨p, 2, none⟩ (.slice b1 m1 d1)).setCell ⟨p, 3, none⟩ (.slice b2 m2 d2)).setCell ⟨p, 4, none⟩ (.slice b3 m3 d3)).setCell ⟨p, 5, none⟩ (.slice b4 m4 d4)) p 89 (storeV r y)) := Lib.hid (by rw [HYS.out]; exact (((((HP3.out.set_ 1 (.slice b0 m0 d0)).set_ 2 (.slice b1 m1 d1)).set_ 3 (.slice b2 m2 d2)).set_ 4 (.slice b3 m3 d3)).set_ 5 (.slice b4 m4 d4)))
  have HFR : Hid (Fr (· = p) w3 (((((w3.setCell ⟨p, 1, none⟩ (.slice b0 m0 d0)).setCell ⟨p, 2, none⟩ (.slice b1 m1 d1)).setCell ⟨p, 3, none⟩ (.slice b2 m2 d2)).setCell ⟨p, 4, none⟩ (.slice b3 m3 d3)).setCell ⟨p, 5, none⟩ (.slice b4 m4 d4))) := Lib.hid ((((((Fr.refl (· = p) w3).setCell (p := ⟨p, 1, none⟩) (fun _ => rfl) (.slice b0 m0 d0)).setCell (p := ⟨p, 2, none⟩) (fun _ => rfl) (.slice b1 m1 d1)).setCell (p := ⟨p, 3, none⟩) (fun _ => rfl) (.slice b2 m2 d2)).setCell (p := ⟨p, 4, none⟩) (fun _ => rfl) (.slice b3 m3 d3)).setCell (p := ⟨p, 5, none⟩) (fun _ => rfl) (.slice b4 m4 d4))
  generalize (((((w3.setCell ⟨p, 1, none⟩ (.slice b0 m0 d0)).setCell ⟨p, 2, none⟩ (.slice b1 m1 d1)).setCell ⟨p, 3, none⟩ (.slice b2 m2 d2)).setCell ⟨p, 4, none⟩ (.slice b3 m3 d3)).setCell ⟨p, 5, none⟩ (.slice b4 m4 d4)) = Wf at HF HFR ⊢
  have HTF : Hid (STy Wf y) := Lib.hid (HTY.out.fr HFR.out (fun g e => by subst e; exact NoBF.of_blk HP3.out (by decide) (by decide)))
  have HSF : Hid (StoreAt Wf p r y) := Lib.hid ⟨HF.out, HTF.out, HSM.out, by rw [HY.out]; exact HMY.out, by rw [HY.out]; exact HLL.out.2⟩
  have HFA : Hid (Fr (fun k => DS d s M k ∨ k = r ∨ k = p) w Wf) := Lib.hid (((HFW.out.mono (T := fun k => DS d s M k ∨ k = r ∨ k = p) (fun k _ e => e.imp id .inl)).below HB3.out).trans_new HFR.out (fun j _ e => .inr (.inr e)))
  have HNP : Hid (∀ g, g = p → g < w3.heap.size → NoBy w3 g) := Lib.hid (fun g e _ => by subst e; exact NoBy.of_blk HP3.out (by have := storeV_noBy r x0; exact noby6 _ _ _ _ _ _ _ _ _ _ _ _ _ _ _ _))
  have HRET : Hid (SDPost d s M p r half N x K w (.returned (.int .i64 0)) Wf) := Lib.hid (by
    have hpn : ∀ k, DS d s M k → ¬ k = p := fun k hk e => by subst e; exact HD8.out.disk.notT HP2.out (by decide) (by decide) hk
    unfold SDPost
    rw [← HLQ.out]
    exact ⟨rfl, ⟨K8, (HD8.out.below HB3.out).fr HFR.out hpn HNP.out, HLE8.out⟩, (HR8.out.below HB3.out).fr HFR.out (fun e => by obtain ⟨_, hb⟩ := HR8.out.blk; exact hb.ne_ HP2.out (by decide) e) HNP.out, HFA.out, y, HSF.out, HY.out⟩)
  go_ret
  exact HRET.out
end Go.Proofs.YtgpcinfhcamgpaaGreatDoor
