/-
  value: the walker goes down.
-/
import Derived.Test.YteodigdcdhceiaaDoorVaQ2
namespace Go.Proofs.YteodigdcdhceiaaDoor
open Go.RowKit
attribute [local go_sem ↓] Go.wp_at_zero Go.wp_at_succ
set_option linter.unusedVariables false
set_option linter.unusedSimpArgs false

def WkA (w : World) (g d c : Nat) (wr : Bool) : Prop := Blk w g 52 #[.int .i64 (d : Int), .int .i64 (c : Int), .bool wr]
def DnP (g d c : Nat) (wr : Bool) (w : World) (e : Ending) (w' : World) : Prop := e = .returned (.tuple #[]) ∧ WkA w' g d c wr ∧ Fr (· = g) w w'
theorem three_cells {w : World} {b : Nat} {t : TypeId} {v0 v1 v2 : Value} (h : Blk w b t #[v0, v1, v2]) : w.cell? ⟨b, 0, none⟩ = some v0 ∧ w.cell? ⟨b, 1, none⟩ = some v1 ∧ w.cell? ⟨b, 2, none⟩ = some v2 :=
  ⟨h.cell 0, h.cell 1, h.cell 2⟩
theorem WkA.fr {w w' : World} {S : Nat → Prop} {g d c : Nat} {wr : Bool} (h : WkA w g d c wr) (hf : Fr S w w') (hs : ¬ S g) : WkA w' g d c wr := Blk.fr h hf hs
theorem WkA.al {w : World} {g d c : Nat} {wr : Bool} (h : WkA w g d c wr) (o : Obj) : WkA (w.alloc o) g d c wr := Blk.alloc h o
set_option maxRecDepth 100000 in
set_option maxHeartbeats 2000000 in
theorem down_one {w0 : World} {v : MV} (hv : VAt w0 v) (ht : tabU w0) (ih : ∀ x ∈ v.l ++ v.m, ∀ (g d c dp : Nat) (wr : Bool) (w : World), w0.heap.size ≤ g → Below w0.heap.size w0 w → WkA w g d c wr → OkP x.pv → 1 ≤ dp → d ≤ 1000000 → dp + x.dep ≤ 1000000 → c + x.cnt ≤ 1000000 →
      Calls Tryd.prog 47 #[.pointer (some ⟨g, 0, none⟩), x.val, .int .i64 (dp : Int)] w fun e w' => PF (DnP g (max d (dp + x.dep - 1)) (c + x.cnt) (wr || !x.pv.right) w) e w') (g d c dp : Nat) (wr : Bool) (w : World) (hg : w0.heap.size ≤ g) (hb : Below w0.heap.size w0 w) (hk : WkA w g d c wr) (hok : OkP v.pv) (hdp : 1 ≤ dp) (hd : d ≤ 1000000) (hdd : dp + v.dep ≤ 1000000) (hcc : c + v.cnt ≤ 1000000) :
      Calls Tryd.prog 47 #[.pointer (some ⟨g, 0, none⟩), v.val, .int .i64 (dp : Int)] w fun e w' => PF (DnP g (max d (dp + v.dep - 1)) (c + v.cnt) (wr || !v.pv.right) w) e w' := by
  have hce := cnt_eq v
  have hde := dep_eq v
  rw [cntL_app] at hce
  rw [depL_app] at hde
  have HRE := Lib.hid (right_eq v)
  have hgl : g < w.heap.size := Blk.lt hk
  have HBZ : Hid (∀ V, Fr (· = g) w V → Below w0.heap.size w0 V) := Lib.hid (fun V hf => Fr.below_trans hb hf hb.size (fun k e => by rw [e]; exact hg))
  have HPL := Lib.hid (fun V (hf : Fr (· = g) w V) => plain_any hv hok V (HBZ.out V hf) (ht.below (HBZ.out V hf)))
  have hokl := hok.l
  have hokm := hok.m
  have hle := hok.len
  obtain ⟨C, hC⟩ : ∃ C, C = c + v.cnt := ⟨_, rfl⟩
  obtain ⟨D, hD⟩ : ∃ D, D = max d (dp + v.dep - 1) := ⟨_, rfl⟩
  obtain ⟨R, hR⟩ : ∃ R, R = v.pv.right := ⟨_, rfl⟩
  rw [← hC] at hcc ⊢
  rw [← hD, ← hR]
  rw [← hR] at HRE
  have HCE : Hid (C = c + (MV.cntL v.l + MV.cntL v.m + 1)) := Lib.hid (by rw [hC, hce])
  have HDE : Hid (D = max (max d dp) (dp + max (MV.depL v.l) (MV.depL v.m))) := Lib.hid (by rw [hD, hde]; omega)
  have HDD : Hid (dp + max (MV.depL v.l) (MV.depL v.m) + 1 ≤ 1000000) := Lib.hid (by rw [hde] at hdd; omega)
  clear hce hde hC hD hR hdd
  obtain ⟨key, k, n, s, lA, lc, l, mA, mc, m⟩ := v
  unfold MV.val at HPL ⊢
  simp only [MV.k, MV.n, MV.s, MV.lA, MV.lc, MV.l, MV.mA, MV.mc, MV.m] at hokl hokm hle ih HPL HRE HCE HDE HDD ⊢
  obtain ⟨P, hP⟩ : ∃ P, P = (ownF k n s l.length m.length && keysB (m.map MV.key)) := ⟨_, rfl⟩
  rw [← hP] at HPL
  have HRP : Hid (R = (P && (PV.rightL (MV.pvL l) && PV.rightL (MV.pvL m)))) := Lib.hid (by rw [HRE.out, hP, Bool.and_assoc])
  have hk1 : WkA (w.alloc (.cells #[.int .i64 k, .int .i64 n, .string s, .slice lA l.length lc, .slice mA m.length mc] 25)) g d c wr := Blk.alloc hk _
  obtain ⟨a0, a1, a2⟩ := three_cells hk1
  have f1 := hk1.frozen 1
  obtain ⟨U1, hU1⟩ : ∃ U, U = w.setCell ⟨g, 1, none⟩ (.int .i64 ((c : Int) + 1)) := ⟨_, rfl⟩
  have hk2 : Blk U1 g 52 #[.int .i64 (d : Int), .int .i64 ((c : Int) + 1), .bool wr] := by rw [hU1]; exact Blk.set_ hk 1 _
  obtain ⟨a3, a4, a5⟩ := three_cells (Blk.alloc hk2 (.cells #[.int .i64 k, .int .i64 n, .string s, .slice lA l.length lc, .slice mA m.length mc] 25))
  have f0 := (Blk.alloc hk2 (.cells #[.int .i64 k, .int .i64 n, .string s, .slice lA l.length lc, .slice mA m.length mc] 25)).frozen 0
  obtain ⟨U2, hU2⟩ : ∃ U, U = U1.setCell ⟨g, 0, none⟩ (.int .i64 (max (d : Int) (dp : Int))) := ⟨_, rfl⟩
  have hk3 : Blk U2 g 52 #[.int .i64 (max (d : Int) (dp : Int)), .int .i64 ((c : Int) + 1), .bool wr] := by rw [hU2]; exact Blk.set_ hk2 0 _
  obtain ⟨a6, a7, a8⟩ := three_cells (Blk.alloc hk3 (.cells #[.int .i64 k, .int .i64 n, .string s, .slice lA l.length lc, .slice mA m.length mc] 25))
  have f2 := (Blk.alloc hk3 (.cells #[.int .i64 k, .int .i64 n, .string s, .slice lA l.length lc, .slice mA m.length mc] 25)).frozen 2
  have hsz : U2.heap.size = w.heap.size := by rw [hU2, hU1]; simp [World.setCell]
  have hbx : Blk (U2.alloc (.cells #[.int .i64 k, .int .i64 n, .string s, .slice lA l.length lc, .slice mA m.length mc] 25)) w.heap.size 25 #[.int .i64 k, .int .i64 n, .string s, .slice lA l.length lc, .slice mA m.length mc] := by rw [← hsz]; exact Blk.new _ _ _
  obtain ⟨b0, b1, b2, b3, b4⟩ := five_cells hbx
  have HFU : Hid (Fr (· = g) w U2) := Lib.hid (by rw [hU2, hU1]; exact ((Fr.refl (· = g) w).setCell (p := ⟨g, 1, none⟩) (fun _ => rfl) _).setCell (p := ⟨g, 0, none⟩) (fun _ => rfl) _)
  have HK3 := Lib.hid hk3
  have HBX := Lib.hid hbx
  have HSZ := Lib.hid hsz
  have HV := Lib.hid hv
  have HIH := Lib.hid ih
  have HOL := Lib.hid hokl
  have HOM := Lib.hid hokm
  have HLE := Lib.hid hle
  have HG := Lib.hid hg
  have HGL := Lib.hid hgl
  have HDN := Lib.hid hd
  have HDP := Lib.hid hdp
  have HMX : Hid (max (d : Int) (dp : Int) = ((max d dp : Nat) : Int)) := Lib.hid (by omega)
  have hgx : g ≠ w.heap.size := by omega
  have hcb : c + 1 ≤ 1000000 := by have := HCE.out; omega
  have hdb : dp ≤ 999999 := by have := HDD.out; omega
  have HCC := Lib.hid hcc
  have hU3 := hU2
  rw [hU1] at hU3 hk2 a3 a4 a5 f0
  rw [hU3] at a6 a7 a8 f2 b0 b1 b2 b3 b4
  have HU3 := Lib.hid hU3
  have e1 : decide ((d : Int) ≤ (dp : Int)) = decide (d ≤ dp) := by simp
  clear hv ih hok hg hk hk1 hk2 hk3 hb ht hcc hokl hokm hle hU1 hU2 hU3 hbx hsz e1 hP HRE
  cases wr with
  | true =>
    go_enter Tryd.func47, Tryd.ntmps47
    go_wp2
    obtain ⟨V3, hV3⟩ : ∃ V, V = (U2.setCell ⟨g, 2, none⟩ (.bool true)).alloc (.cells #[.int .i64 k, .int .i64 n, .string s, .slice lA l.length lc, .slice mA m.length mc] 25) := ⟨_, rfl⟩
    have HK4 : Hid (WkA V3 g (max d dp) (c + 1) true) := Lib.hid (by rw [hV3]; have h := (Blk.set_ HK3.out 2 (.bool true)).alloc (.cells #[.int .i64 k, .int .i64 n, .string s, .slice lA l.length lc, .slice mA m.length mc] 25); rw [HMX.out] at h; exact h)
    have HF3 : Hid (Fr (· = g) w V3) := Lib.hid (by rw [hV3]; exact (HFU.out.setCell (p := ⟨g, 2, none⟩) (fun _ => rfl) _).alloc _)
    have HBX3 : Hid (Blk V3 w.heap.size 25 #[.int .i64 k, .int .i64 n, .string s, .slice lA l.length lc, .slice mA m.length mc]) := Lib.hid (by rw [hV3, ← HSZ.out]; have h := Blk.new (U2.setCell ⟨g, 2, none⟩ (.bool true)) 25 #[.int .i64 k, .int .i64 n, .string s, .slice lA l.length lc, .slice mA m.length mc]; simpa [World.setCell] using h)
    rw [HU3.out] at hV3
    rw [← hV3]
    clear hV3 a0 a1 a2 a3 a4 a5 a6 a7 a8 b0 b1 b2 b3 b4 f0 f1 f2 HFU HK3 HBX HU3
    go_loopw [7, 41] (fun y z wr => ∃ (i : Nat) (z0 : Value), y = z0 ∧ z = .int .i64 (i : Int) ∧ i ≤ l.length ∧ Hid (WkA wr g (max (max d dp) (dp + MV.depL (l.take i))) (c + 1 + MV.cntL (l.take i)) (true || !PV.rightL (MV.pvL (l.take i)))) ∧ Hid (Fr (· = g) V3 wr)) (fun _ z _ => l.length - (intOf z).toNat)
    case atStart => exact ⟨0, _, rfl, rfl, Nat.zero_le _, Lib.hid (by simpa [MV.depL, MV.cntL, MV.pvL, PV.rightL] using HK4.out), Lib.hid (Fr.refl _ _)⟩
    case round =>
      obtain ⟨i, z0, rfl, rfl, hi, HK, HFW⟩ := hrel
      rcases (by omega : i < l.length ∨ i = l.length) with hlt | heq
      · have q0 : decide ((i : Int) < (l.length : Int)) = true := by rw [decide_eq_true_iff]; omega
        have q0' : decide (i < l.length) = true := by rw [decide_eq_true_iff]; omega
        have HFA : Hid (Fr (· = g) w wr) := Lib.hid (HF3.out.trans_new HFW.out (fun j _ h => h))
        obtain ⟨b, o, hA, hbl, hc⟩ := (HV.out.bel (HBZ.out wr HFA.out)).la (i := i) hlt
        change lA = _ at hA
        change ∀ j, j < 5 → wr.cell? _ = (l[i]'hlt).cs[j]? at hc
        obtain ⟨x, hx⟩ : ∃ x, x = l[i]'hlt := ⟨_, rfl⟩
        rw [← hx] at hc
        have d0 : wr.cell? ⟨b, o + i * 5, none⟩ = some (.int .i64 x.k) := hc 0 (by omega)
        have d1 : wr.cell? ⟨b, o + i * 5 + 1, none⟩ = some (.int .i64 x.n) := hc 1 (by omega)
        have d2 : wr.cell? ⟨b, o + i * 5 + 2, none⟩ = some (.string x.s) := hc 2 (by omega)
        have d3 : wr.cell? ⟨b, o + i * 5 + 3, none⟩ = some (.slice x.lA x.l.length x.lc) := hc 3 (by omega)
        have d4 : wr.cell? ⟨b, o + i * 5 + 4, none⟩ = some (.slice x.mA x.m.length x.mc) := hc 4 (by omega)
        have hxm : x ∈ l := by rw [hx]; exact List.getElem_mem hlt
        have hsn := depL_snoc l i hlt
        have hsc := cntL_snoc l i hlt
        have hsr := rightL_next l i hlt
        have htk := depL_take_le l (i + 1)
        have htc := cntL_take_le l (i + 1)
        rw [← hx] at hsn hsc hsr
        have hxd : dp + 1 + x.dep ≤ 1000000 := by have h1 := HDD.out; omega
        have hxc : (c + 1 + MV.cntL (l.take i)) + x.cnt ≤ 1000000 := by have h1 := HCC.out; have h2 := HCE.out; omega
        have hdx : (max (max d dp) (dp + MV.depL (l.take i))) ≤ 1000000 := by have h1 := HDD.out; have h2 := HDN.out; have h3 := depL_take_le l i; omega
        have HNB : Hid (WkA (wr.alloc (.cells #[.int .i64 x.k, .int .i64 x.n, .string x.s, .slice x.lA x.l.length x.lc, .slice x.mA x.m.length x.mc] 25)) g (max (max d dp) (dp + MV.depL (l.take i))) (c + 1 + MV.cntL (l.take i)) (true || !PV.rightL (MV.pvL (l.take i)))) := Lib.hid (HK.out.al _)
        have hnx : Blk (wr.alloc (.cells #[.int .i64 x.k, .int .i64 x.n, .string x.s, .slice x.lA x.l.length x.lc, .slice x.mA x.m.length x.mc] 25)) wr.heap.size 25 #[.int .i64 x.k, .int .i64 x.n, .string x.s, .slice x.lA x.l.length x.lc, .slice x.mA x.m.length x.mc] := Blk.new _ _ _
        have x0 : (wr.alloc (.cells #[.int .i64 x.k, .int .i64 x.n, .string x.s, .slice x.lA x.l.length x.lc, .slice x.mA x.m.length x.mc] 25)).cell? ⟨wr.heap.size, 0, none⟩ = some (.int .i64 x.k) := hnx.cell 0
        have x1 : (wr.alloc (.cells #[.int .i64 x.k, .int .i64 x.n, .string x.s, .slice x.lA x.l.length x.lc, .slice x.mA x.m.length x.mc] 25)).cell? ⟨wr.heap.size, 1, none⟩ = some (.int .i64 x.n) := hnx.cell 1
        have x2 : (wr.alloc (.cells #[.int .i64 x.k, .int .i64 x.n, .string x.s, .slice x.lA x.l.length x.lc, .slice x.mA x.m.length x.mc] 25)).cell? ⟨wr.heap.size, 2, none⟩ = some (.string x.s) := hnx.cell 2
        have x3 : (wr.alloc (.cells #[.int .i64 x.k, .int .i64 x.n, .string x.s, .slice x.lA x.l.length x.lc, .slice x.mA x.m.length x.mc] 25)).cell? ⟨wr.heap.size, 3, none⟩ = some (.slice x.lA x.l.length x.lc) := hnx.cell 3
        have x4 : (wr.alloc (.cells #[.int .i64 x.k, .int .i64 x.n, .string x.s, .slice x.lA x.l.length x.lc, .slice x.mA x.m.length x.mc] 25)).cell? ⟨wr.heap.size, 4, none⟩ = some (.slice x.mA x.m.length x.mc) := hnx.cell 4
        have HCL := HIH.out x (List.mem_append_left _ hxm) g (max (max d dp) (dp + MV.depL (l.take i))) (c + 1 + MV.cntL (l.take i)) (dp + 1) (true || !PV.rightL (MV.pvL (l.take i))) (wr.alloc (.cells #[.int .i64 x.k, .int .i64 x.n, .string x.s, .slice x.lA x.l.length x.lc, .slice x.mA x.m.length x.mc] 25)) HG.out (HBZ.out _ (HFA.out.alloc _)) HNB.out (HOL.out x hxm) (by omega) hdx hxd hxc
        unfold MV.val at HCL
        rw [show ((dp + 1 : Nat) : Int) = (dp : Int) + 1 from by omega] at HCL
        have HCL := Lib.hid HCL
        have HDX : Hid (max (max (max d dp) (dp + MV.depL (l.take i))) (dp + 1 + x.dep - 1) = max (max d dp) (dp + MV.depL (l.take (i + 1)))) := Lib.hid (by rw [hsn]; omega)
        have HCX : Hid ((c + 1 + MV.cntL (l.take i)) + x.cnt = c + 1 + MV.cntL (l.take (i + 1))) := Lib.hid (by rw [hsc]; omega)
        have HRX : Hid (((true || !PV.rightL (MV.pvL (l.take i))) || !x.pv.right) = (true || !PV.rightL (MV.pvL (l.take (i + 1))))) := Lib.hid (by rw [hsr]; cases PV.rightL (MV.pvL (l.take i)) <;> cases x.pv.right <;> simp)
        have HFN := Lib.hid (HFW.out.alloc (.cells #[.int .i64 x.k, .int .i64 x.n, .string x.s, .slice x.lA x.l.length x.lc, .slice x.mA x.m.length x.mc] 25))
        have hii : (i : Int) < (l.length : Int) := by omega
        have hi0 : (0 : Int) ≤ (i : Int) := by omega
        have hlm : l.length ≤ 3001 := by have := HLE.out; omega

        clear hc hx hbl hxm hsn hsc hsr htk htc hxd hxc hdx HNB hnx
        subst hA
        go_wp2_with fail
        refine HCL.out.mono ?_
        rintro e w2 ⟨rfl, hk2, hf2⟩
        have HK2 : Hid (WkA w2 g (max (max d dp) (dp + MV.depL (l.take (i + 1)))) (c + 1 + MV.cntL (l.take (i + 1))) (true || !PV.rightL (MV.pvL (l.take (i + 1))))) := Lib.hid (by rw [HDX.out, HCX.out, HRX.out] at hk2; exact hk2)
        have HF2 : Hid (Fr (· = g) V3 w2) := Lib.hid (HFN.out.trans_new hf2 (fun j _ h => h))
        clear hk2 hf2 d0 d1 d2 d3 d4 x0 x1 x2 x3 x4
        go_wp2
        go_roundw
        case rel => exact ⟨i + 1, _, rfl, by go_num, by omega, HK2, HF2⟩
        case measure => simp [intOf]; omega
      · have q0 : decide ((i : Int) < (l.length : Int)) = false := by rw [decide_eq_false_iff_not]; omega
        have q0' : decide (i < l.length) = false := by rw [decide_eq_false_iff_not]; omega
        have HKE : Hid (WkA wr g (max (max d dp) (dp + MV.depL l)) (c + 1 + MV.cntL l) (true || !PV.rightL (MV.pvL l))) := Lib.hid (by have := HK.out; rwa [heq, List.take_length] at this)
        have HBW : Hid (Blk wr w.heap.size 25 #[.int .i64 k, .int .i64 n, .string s, .slice lA l.length lc, .slice mA m.length mc]) := Lib.hid (HBX3.out.fr HFW.out (fun e => by have := HGL.out; omega))
        have HFE : Hid (Fr (· = g) w wr) := Lib.hid (HF3.out.trans_new HFW.out (fun j _ h => h))
        clear heq
        obtain ⟨c0, c1, c2, c3, c4⟩ := five_cells HBW.out
        go_wp2
        obtain ⟨V4, hV4⟩ : ∃ V, V = wr := ⟨_, rfl⟩
        have HK5 : Hid (WkA V4 g (max (max d dp) (dp + MV.depL l)) (c + 1 + MV.cntL l) (true || !PV.rightL (MV.pvL l))) := by rw [hV4]; exact HKE
        have HF4 : Hid (Fr (· = g) w V4) := by rw [hV4]; exact HFE
        have HBX4 : Hid (Blk V4 w.heap.size 25 #[.int .i64 k, .int .i64 n, .string s, .slice lA l.length lc, .slice mA m.length mc]) := by rw [hV4]; exact HBW
        rw [← hV4]
        clear c0 c1 c2 c3 c4 hV4 HKE HFE HBW HK HFW
        go_loopw [9, 54] (fun y z wr => ∃ (i : Nat) (z0 : Value), y = z0 ∧ z = .int .i64 (i : Int) ∧ i ≤ m.length ∧ Hid (WkA wr g (max (max (max d dp) (dp + MV.depL l)) (dp + MV.depL (m.take i))) (c + 1 + MV.cntL l + MV.cntL (m.take i)) ((true || !PV.rightL (MV.pvL l)) || !PV.rightL (MV.pvL (m.take i)))) ∧ Hid (Fr (· = g) V4 wr)) (fun _ z _ => m.length - (intOf z).toNat)
        case atStart => exact ⟨0, _, rfl, rfl, Nat.zero_le _, Lib.hid (by simpa [MV.depL, MV.cntL, MV.pvL, PV.rightL] using HK5.out), Lib.hid (Fr.refl _ _)⟩
        case round =>
          obtain ⟨i, z0, rfl, rfl, hi, HK, HFW⟩ := hrel
          rcases (by omega : i < m.length ∨ i = m.length) with hlt | heq
          · have q0 : decide ((i : Int) < (m.length : Int)) = true := by rw [decide_eq_true_iff]; omega
            have q0' : decide (i < m.length) = true := by rw [decide_eq_true_iff]; omega
            have HFA : Hid (Fr (· = g) w wr) := Lib.hid (HF4.out.trans_new HFW.out (fun j _ h => h))
            obtain ⟨b, o, hA, hbl, hc⟩ := (HV.out.bel (HBZ.out wr HFA.out)).ma (i := i) hlt
            change mA = _ at hA
            change ∀ j, j < 6 → wr.cell? _ = (m[i]'hlt).pcs[j]? at hc
            obtain ⟨x, hx⟩ : ∃ x, x = m[i]'hlt := ⟨_, rfl⟩
            rw [← hx] at hc
            have d0 : wr.cell? ⟨b, o + i * 6, none⟩ = some (.string x.key) := hc 0 (by omega)
            have d1 : wr.cell? ⟨b, o + i * 6 + 1, none⟩ = some (.int .i64 x.k) := hc 1 (by omega)
            have d2 : wr.cell? ⟨b, o + i * 6 + 2, none⟩ = some (.int .i64 x.n) := hc 2 (by omega)
            have d3 : wr.cell? ⟨b, o + i * 6 + 3, none⟩ = some (.string x.s) := hc 3 (by omega)
            have d4 : wr.cell? ⟨b, o + i * 6 + 4, none⟩ = some (.slice x.lA x.l.length x.lc) := hc 4 (by omega)
            have d5 : wr.cell? ⟨b, o + i * 6 + 5, none⟩ = some (.slice x.mA x.m.length x.mc) := hc 5 (by omega)
            have hxm : x ∈ m := by rw [hx]; exact List.getElem_mem hlt
            have hsn := depL_snoc m i hlt
            have hsc := cntL_snoc m i hlt
            have hsr := rightL_next m i hlt
            have htk := depL_take_le m (i + 1)
            have htc := cntL_take_le m (i + 1)
            rw [← hx] at hsn hsc hsr
            have hxd : dp + 1 + x.dep ≤ 1000000 := by have h1 := HDD.out; omega
            have hxc : (c + 1 + MV.cntL l + MV.cntL (m.take i)) + x.cnt ≤ 1000000 := by have h1 := HCC.out; have h2 := HCE.out; omega
            have hdx : (max (max (max d dp) (dp + MV.depL l)) (dp + MV.depL (m.take i))) ≤ 1000000 := by have h1 := HDD.out; have h2 := HDN.out; have h3 := depL_take_le m i; omega
            have HNB : Hid (WkA (wr.alloc (.cells #[.string x.key, .int .i64 x.k, .int .i64 x.n, .string x.s, .slice x.lA x.l.length x.lc, .slice x.mA x.m.length x.mc] 33)) g (max (max (max d dp) (dp + MV.depL l)) (dp + MV.depL (m.take i))) (c + 1 + MV.cntL l + MV.cntL (m.take i)) ((true || !PV.rightL (MV.pvL l)) || !PV.rightL (MV.pvL (m.take i)))) := Lib.hid (HK.out.al _)
            have hnx : Blk (wr.alloc (.cells #[.string x.key, .int .i64 x.k, .int .i64 x.n, .string x.s, .slice x.lA x.l.length x.lc, .slice x.mA x.m.length x.mc] 33)) wr.heap.size 33 #[.string x.key, .int .i64 x.k, .int .i64 x.n, .string x.s, .slice x.lA x.l.length x.lc, .slice x.mA x.m.length x.mc] := Blk.new _ _ _
            have x0 : (wr.alloc (.cells #[.string x.key, .int .i64 x.k, .int .i64 x.n, .string x.s, .slice x.lA x.l.length x.lc, .slice x.mA x.m.length x.mc] 33)).cell? ⟨wr.heap.size, 0, none⟩ = some (.string x.key) := hnx.cell 0
            have x1 : (wr.alloc (.cells #[.string x.key, .int .i64 x.k, .int .i64 x.n, .string x.s, .slice x.lA x.l.length x.lc, .slice x.mA x.m.length x.mc] 33)).cell? ⟨wr.heap.size, 1, none⟩ = some (.int .i64 x.k) := hnx.cell 1
            have x2 : (wr.alloc (.cells #[.string x.key, .int .i64 x.k, .int .i64 x.n, .string x.s, .slice x.lA x.l.length x.lc, .slice x.mA x.m.length x.mc] 33)).cell? ⟨wr.heap.size, 2, none⟩ = some (.int .i64 x.n) := hnx.cell 2
            have x3 : (wr.alloc (.cells #[.string x.key, .int .i64 x.k, .int .i64 x.n, .string x.s, .slice x.lA x.l.length x.lc, .slice x.mA x.m.length x.mc] 33)).cell? ⟨wr.heap.size, 3, none⟩ = some (.string x.s) := hnx.cell 3
            have x4 : (wr.alloc (.cells #[.string x.key, .int .i64 x.k, .int .i64 x.n, .string x.s, .slice x.lA x.l.length x.lc, .slice x.mA x.m.length x.mc] 33)).cell? ⟨wr.heap.size, 4, none⟩ = some (.slice x.lA x.l.length x.lc) := hnx.cell 4
            have x5 : (wr.alloc (.cells #[.string x.key, .int .i64 x.k, .int .i64 x.n, .string x.s, .slice x.lA x.l.length x.lc, .slice x.mA x.m.length x.mc] 33)).cell? ⟨wr.heap.size, 5, none⟩ = some (.slice x.mA x.m.length x.mc) := hnx.cell 5
            have HCL := HIH.out x (List.mem_append_right _ hxm) g (max (max (max d dp) (dp + MV.depL l)) (dp + MV.depL (m.take i))) (c + 1 + MV.cntL l + MV.cntL (m.take i)) (dp + 1) ((true || !PV.rightL (MV.pvL l)) || !PV.rightL (MV.pvL (m.take i))) (wr.alloc (.cells #[.string x.key, .int .i64 x.k, .int .i64 x.n, .string x.s, .slice x.lA x.l.length x.lc, .slice x.mA x.m.length x.mc] 33)) HG.out (HBZ.out _ (HFA.out.alloc _)) HNB.out (HOM.out x hxm) (by omega) hdx hxd hxc
            unfold MV.val at HCL
            rw [show ((dp + 1 : Nat) : Int) = (dp : Int) + 1 from by omega] at HCL
            have HCL := Lib.hid HCL
            have HDX : Hid (max (max (max (max d dp) (dp + MV.depL l)) (dp + MV.depL (m.take i))) (dp + 1 + x.dep - 1) = max (max (max d dp) (dp + MV.depL l)) (dp + MV.depL (m.take (i + 1)))) := Lib.hid (by rw [hsn]; omega)
            have HCX : Hid ((c + 1 + MV.cntL l + MV.cntL (m.take i)) + x.cnt = c + 1 + MV.cntL l + MV.cntL (m.take (i + 1))) := Lib.hid (by rw [hsc]; omega)
            have HRX : Hid ((((true || !PV.rightL (MV.pvL l)) || !PV.rightL (MV.pvL (m.take i))) || !x.pv.right) = ((true || !PV.rightL (MV.pvL l)) || !PV.rightL (MV.pvL (m.take (i + 1))))) := Lib.hid (by rw [hsr]; cases PV.rightL (MV.pvL (m.take i)) <;> cases x.pv.right <;> simp)
            have HFN := Lib.hid (HFW.out.alloc (.cells #[.string x.key, .int .i64 x.k, .int .i64 x.n, .string x.s, .slice x.lA x.l.length x.lc, .slice x.mA x.m.length x.mc] 33))
            have hii : (i : Int) < (m.length : Int) := by omega
            have hi0 : (0 : Int) ≤ (i : Int) := by omega
            have hlm : m.length ≤ 3001 := by have := HLE.out; omega

            clear hc hx hbl hxm hsn hsc hsr htk htc hxd hxc hdx HNB hnx
            subst hA
            go_wp2_with fail
            refine HCL.out.mono ?_
            rintro e w2 ⟨rfl, hk2, hf2⟩
            have HK2 : Hid (WkA w2 g (max (max (max d dp) (dp + MV.depL l)) (dp + MV.depL (m.take (i + 1)))) (c + 1 + MV.cntL l + MV.cntL (m.take (i + 1))) ((true || !PV.rightL (MV.pvL l)) || !PV.rightL (MV.pvL (m.take (i + 1))))) := Lib.hid (by rw [HDX.out, HCX.out, HRX.out] at hk2; exact hk2)
            have HF2 : Hid (Fr (· = g) V4 w2) := Lib.hid (HFN.out.trans_new hf2 (fun j _ h => h))
            clear hk2 hf2 d0 d1 d2 d3 d4 d5 x0 x1 x2 x3 x4 x5
            go_wp2
            go_roundw
            case rel => exact ⟨i + 1, _, rfl, by go_num, by omega, HK2, HF2⟩
            case measure => simp [intOf]; omega
          · have q0 : decide ((i : Int) < (m.length : Int)) = false := by rw [decide_eq_false_iff_not]; omega
            have q0' : decide (i < m.length) = false := by rw [decide_eq_false_iff_not]; omega
            have HKE : Hid (WkA wr g (max (max (max d dp) (dp + MV.depL l)) (dp + MV.depL m)) (c + 1 + MV.cntL l + MV.cntL m) ((true || !PV.rightL (MV.pvL l)) || !PV.rightL (MV.pvL m))) := Lib.hid (by have := HK.out; rwa [heq, List.take_length] at this)
            have HBW : Hid (Blk wr w.heap.size 25 #[.int .i64 k, .int .i64 n, .string s, .slice lA l.length lc, .slice mA m.length mc]) := Lib.hid (HBX4.out.fr HFW.out (fun e => by have := HGL.out; omega))
            have HFE : Hid (Fr (· = g) w wr) := Lib.hid (HF4.out.trans_new HFW.out (fun j _ h => h))
            clear heq
            have HEQ1 : Hid (max (max (max d dp) (dp + MV.depL l)) (dp + MV.depL m) = D) := Lib.hid (by rw [HDE.out]; omega)
            have HEQ2 : Hid (c + 1 + MV.cntL l + MV.cntL m = C) := Lib.hid (by rw [HCE.out]; omega)
            have HEQ3 : Hid (((true || !PV.rightL (MV.pvL l)) || !PV.rightL (MV.pvL m)) = (true || !R)) := Lib.hid (by simp)
            go_wp2
            go_end0
            exact ⟨rfl, by rw [← HEQ1.out, ← HEQ2.out, ← HEQ3.out]; exact HKE.out, HFE.out⟩
  | false =>
    go_enter Tryd.func47, Tryd.ntmps47
    go_wp2_with fail
    rw [← HU3.out]
    refine (HPL.out _ (HFU.out.alloc _)).mono ?_
    rintro e w1 ⟨rfl, hb1⟩
    have hk4 := (HK3.out.alloc (.cells #[.int .i64 k, .int .i64 n, .string s, .slice lA l.length lc, .slice mA m.length mc] 25)).below hb1 (by have := HGL.out; have := HSZ.out; simp; omega)
    have hbx4 := HBX.out.below hb1 HBX.out.lt
    have hf4 : Fr (· = g) w w1 := (HFU.out.alloc (.cells #[.int .i64 k, .int .i64 n, .string s, .slice lA l.length lc, .slice mA m.length mc] 25)).below hb1
    obtain ⟨r0, r1, r2⟩ := three_cells hk4
    have g2 := hk4.frozen 2
    have hs4 := hbx4.far (p := ⟨g, 2, none⟩) (fun e => hgx e.symm) (.bool (!P))
    obtain ⟨s0, s1, s2, s3, s4⟩ := five_cells hs4
    obtain ⟨V3, hV3⟩ : ∃ V, V = w1.setCell ⟨g, 2, none⟩ (.bool (!P)) := ⟨_, rfl⟩
    have HK4 : Hid (WkA V3 g (max d dp) (c + 1) (!P)) := Lib.hid (by rw [hV3]; have h := Blk.set_ hk4 2 (.bool (!P)); rw [HMX.out] at h; exact h)
    have HF3 : Hid (Fr (· = g) w V3) := Lib.hid (by rw [hV3]; exact hf4.setCell (p := ⟨g, 2, none⟩) (fun _ => rfl) _)
    have HBX3 : Hid (Blk V3 w.heap.size 25 #[.int .i64 k, .int .i64 n, .string s, .slice lA l.length lc, .slice mA m.length mc]) := Lib.hid (by rw [hV3]; exact hs4)
    clear a0 a1 a2 a3 a4 a5 a6 a7 a8 b0 b1 b2 b3 b4 f0 f1 f2 HFU HK3 HBX HU3 hk4 hbx4 hf4 hs4 hb1
    go_wp2
    rw [← hV3]
    clear hV3 r0 r1 r2 g2 s0 s1 s2 s3 s4
    go_loopw [7, 41] (fun y z wr => ∃ (i : Nat) (z0 : Value), y = z0 ∧ z = .int .i64 (i : Int) ∧ i ≤ l.length ∧ Hid (WkA wr g (max (max d dp) (dp + MV.depL (l.take i))) (c + 1 + MV.cntL (l.take i)) (!P || !PV.rightL (MV.pvL (l.take i)))) ∧ Hid (Fr (· = g) V3 wr)) (fun _ z _ => l.length - (intOf z).toNat)
    case atStart => exact ⟨0, _, rfl, rfl, Nat.zero_le _, Lib.hid (by simpa [MV.depL, MV.cntL, MV.pvL, PV.rightL] using HK4.out), Lib.hid (Fr.refl _ _)⟩
    case round =>
      obtain ⟨i, z0, rfl, rfl, hi, HK, HFW⟩ := hrel
      rcases (by omega : i < l.length ∨ i = l.length) with hlt | heq
      · have q0 : decide ((i : Int) < (l.length : Int)) = true := by rw [decide_eq_true_iff]; omega
        have q0' : decide (i < l.length) = true := by rw [decide_eq_true_iff]; omega
        have HFA : Hid (Fr (· = g) w wr) := Lib.hid (HF3.out.trans_new HFW.out (fun j _ h => h))
        obtain ⟨b, o, hA, hbl, hc⟩ := (HV.out.bel (HBZ.out wr HFA.out)).la (i := i) hlt
        change lA = _ at hA
        change ∀ j, j < 5 → wr.cell? _ = (l[i]'hlt).cs[j]? at hc
        obtain ⟨x, hx⟩ : ∃ x, x = l[i]'hlt := ⟨_, rfl⟩
        rw [← hx] at hc
        have d0 : wr.cell? ⟨b, o + i * 5, none⟩ = some (.int .i64 x.k) := hc 0 (by omega)
        have d1 : wr.cell? ⟨b, o + i * 5 + 1, none⟩ = some (.int .i64 x.n) := hc 1 (by omega)
        have d2 : wr.cell? ⟨b, o + i * 5 + 2, none⟩ = some (.string x.s) := hc 2 (by omega)
        have d3 : wr.cell? ⟨b, o + i * 5 + 3, none⟩ = some (.slice x.lA x.l.length x.lc) := hc 3 (by omega)
        have d4 : wr.cell? ⟨b, o + i * 5 + 4, none⟩ = some (.slice x.mA x.m.length x.mc) := hc 4 (by omega)
        have hxm : x ∈ l := by rw [hx]; exact List.getElem_mem hlt
        have hsn := depL_snoc l i hlt
        have hsc := cntL_snoc l i hlt
        have hsr := rightL_next l i hlt
        have htk := depL_take_le l (i + 1)
        have htc := cntL_take_le l (i + 1)
        rw [← hx] at hsn hsc hsr
        have hxd : dp + 1 + x.dep ≤ 1000000 := by have h1 := HDD.out; omega
        have hxc : (c + 1 + MV.cntL (l.take i)) + x.cnt ≤ 1000000 := by have h1 := HCC.out; have h2 := HCE.out; omega
        have hdx : (max (max d dp) (dp + MV.depL (l.take i))) ≤ 1000000 := by have h1 := HDD.out; have h2 := HDN.out; have h3 := depL_take_le l i; omega
        have HNB : Hid (WkA (wr.alloc (.cells #[.int .i64 x.k, .int .i64 x.n, .string x.s, .slice x.lA x.l.length x.lc, .slice x.mA x.m.length x.mc] 25)) g (max (max d dp) (dp + MV.depL (l.take i))) (c + 1 + MV.cntL (l.take i)) (!P || !PV.rightL (MV.pvL (l.take i)))) := Lib.hid (HK.out.al _)
        have hnx : Blk (wr.alloc (.cells #[.int .i64 x.k, .int .i64 x.n, .string x.s, .slice x.lA x.l.length x.lc, .slice x.mA x.m.length x.mc] 25)) wr.heap.size 25 #[.int .i64 x.k, .int .i64 x.n, .string x.s, .slice x.lA x.l.length x.lc, .slice x.mA x.m.length x.mc] := Blk.new _ _ _
        have x0 : (wr.alloc (.cells #[.int .i64 x.k, .int .i64 x.n, .string x.s, .slice x.lA x.l.length x.lc, .slice x.mA x.m.length x.mc] 25)).cell? ⟨wr.heap.size, 0, none⟩ = some (.int .i64 x.k) := hnx.cell 0
        have x1 : (wr.alloc (.cells #[.int .i64 x.k, .int .i64 x.n, .string x.s, .slice x.lA x.l.length x.lc, .slice x.mA x.m.length x.mc] 25)).cell? ⟨wr.heap.size, 1, none⟩ = some (.int .i64 x.n) := hnx.cell 1
        have x2 : (wr.alloc (.cells #[.int .i64 x.k, .int .i64 x.n, .string x.s, .slice x.lA x.l.length x.lc, .slice x.mA x.m.length x.mc] 25)).cell? ⟨wr.heap.size, 2, none⟩ = some (.string x.s) := hnx.cell 2
        have x3 : (wr.alloc (.cells #[.int .i64 x.k, .int .i64 x.n, .string x.s, .slice x.lA x.l.length x.lc, .slice x.mA x.m.length x.mc] 25)).cell? ⟨wr.heap.size, 3, none⟩ = some (.slice x.lA x.l.length x.lc) := hnx.cell 3
        have x4 : (wr.alloc (.cells #[.int .i64 x.k, .int .i64 x.n, .string x.s, .slice x.lA x.l.length x.lc, .slice x.mA x.m.length x.mc] 25)).cell? ⟨wr.heap.size, 4, none⟩ = some (.slice x.mA x.m.length x.mc) := hnx.cell 4
        have HCL := HIH.out x (List.mem_append_left _ hxm) g (max (max d dp) (dp + MV.depL (l.take i))) (c + 1 + MV.cntL (l.take i)) (dp + 1) (!P || !PV.rightL (MV.pvL (l.take i))) (wr.alloc (.cells #[.int .i64 x.k, .int .i64 x.n, .string x.s, .slice x.lA x.l.length x.lc, .slice x.mA x.m.length x.mc] 25)) HG.out (HBZ.out _ (HFA.out.alloc _)) HNB.out (HOL.out x hxm) (by omega) hdx hxd hxc
        unfold MV.val at HCL
        rw [show ((dp + 1 : Nat) : Int) = (dp : Int) + 1 from by omega] at HCL
        have HCL := Lib.hid HCL
        have HDX : Hid (max (max (max d dp) (dp + MV.depL (l.take i))) (dp + 1 + x.dep - 1) = max (max d dp) (dp + MV.depL (l.take (i + 1)))) := Lib.hid (by rw [hsn]; omega)
        have HCX : Hid ((c + 1 + MV.cntL (l.take i)) + x.cnt = c + 1 + MV.cntL (l.take (i + 1))) := Lib.hid (by rw [hsc]; omega)
        have HRX : Hid (((!P || !PV.rightL (MV.pvL (l.take i))) || !x.pv.right) = (!P || !PV.rightL (MV.pvL (l.take (i + 1))))) := Lib.hid (by rw [hsr]; cases PV.rightL (MV.pvL (l.take i)) <;> cases x.pv.right <;> simp)
        have HFN := Lib.hid (HFW.out.alloc (.cells #[.int .i64 x.k, .int .i64 x.n, .string x.s, .slice x.lA x.l.length x.lc, .slice x.mA x.m.length x.mc] 25))
        have hii : (i : Int) < (l.length : Int) := by omega
        have hi0 : (0 : Int) ≤ (i : Int) := by omega
        have hlm : l.length ≤ 3001 := by have := HLE.out; omega

        clear hc hx hbl hxm hsn hsc hsr htk htc hxd hxc hdx HNB hnx
        subst hA
        go_wp2_with fail
        refine HCL.out.mono ?_
        rintro e w2 ⟨rfl, hk2, hf2⟩
        have HK2 : Hid (WkA w2 g (max (max d dp) (dp + MV.depL (l.take (i + 1)))) (c + 1 + MV.cntL (l.take (i + 1))) (!P || !PV.rightL (MV.pvL (l.take (i + 1))))) := Lib.hid (by rw [HDX.out, HCX.out, HRX.out] at hk2; exact hk2)
        have HF2 : Hid (Fr (· = g) V3 w2) := Lib.hid (HFN.out.trans_new hf2 (fun j _ h => h))
        clear hk2 hf2 d0 d1 d2 d3 d4 x0 x1 x2 x3 x4
        go_wp2
        go_roundw
        case rel => exact ⟨i + 1, _, rfl, by go_num, by omega, HK2, HF2⟩
        case measure => simp [intOf]; omega
      · have q0 : decide ((i : Int) < (l.length : Int)) = false := by rw [decide_eq_false_iff_not]; omega
        have q0' : decide (i < l.length) = false := by rw [decide_eq_false_iff_not]; omega
        have HKE : Hid (WkA wr g (max (max d dp) (dp + MV.depL l)) (c + 1 + MV.cntL l) (!P || !PV.rightL (MV.pvL l))) := Lib.hid (by have := HK.out; rwa [heq, List.take_length] at this)
        have HBW : Hid (Blk wr w.heap.size 25 #[.int .i64 k, .int .i64 n, .string s, .slice lA l.length lc, .slice mA m.length mc]) := Lib.hid (HBX3.out.fr HFW.out (fun e => by have := HGL.out; omega))
        have HFE : Hid (Fr (· = g) w wr) := Lib.hid (HF3.out.trans_new HFW.out (fun j _ h => h))
        clear heq
        obtain ⟨c0, c1, c2, c3, c4⟩ := five_cells HBW.out
        go_wp2
        obtain ⟨V4, hV4⟩ : ∃ V, V = wr := ⟨_, rfl⟩
        have HK5 : Hid (WkA V4 g (max (max d dp) (dp + MV.depL l)) (c + 1 + MV.cntL l) (!P || !PV.rightL (MV.pvL l))) := by rw [hV4]; exact HKE
        have HF4 : Hid (Fr (· = g) w V4) := by rw [hV4]; exact HFE
        have HBX4 : Hid (Blk V4 w.heap.size 25 #[.int .i64 k, .int .i64 n, .string s, .slice lA l.length lc, .slice mA m.length mc]) := by rw [hV4]; exact HBW
        rw [← hV4]
        clear c0 c1 c2 c3 c4 hV4 HKE HFE HBW HK HFW
        go_loopw [9, 54] (fun y z wr => ∃ (i : Nat) (z0 : Value), y = z0 ∧ z = .int .i64 (i : Int) ∧ i ≤ m.length ∧ Hid (WkA wr g (max (max (max d dp) (dp + MV.depL l)) (dp + MV.depL (m.take i))) (c + 1 + MV.cntL l + MV.cntL (m.take i)) ((!P || !PV.rightL (MV.pvL l)) || !PV.rightL (MV.pvL (m.take i)))) ∧ Hid (Fr (· = g) V4 wr)) (fun _ z _ => m.length - (intOf z).toNat)
        case atStart => exact ⟨0, _, rfl, rfl, Nat.zero_le _, Lib.hid (by simpa [MV.depL, MV.cntL, MV.pvL, PV.rightL] using HK5.out), Lib.hid (Fr.refl _ _)⟩
        case round =>
          obtain ⟨i, z0, rfl, rfl, hi, HK, HFW⟩ := hrel
          rcases (by omega : i < m.length ∨ i = m.length) with hlt | heq
          · have q0 : decide ((i : Int) < (m.length : Int)) = true := by rw [decide_eq_true_iff]; omega
            have q0' : decide (i < m.length) = true := by rw [decide_eq_true_iff]; omega
            have HFA : Hid (Fr (· = g) w wr) := Lib.hid (HF4.out.trans_new HFW.out (fun j _ h => h))
            obtain ⟨b, o, hA, hbl, hc⟩ := (HV.out.bel (HBZ.out wr HFA.out)).ma (i := i) hlt
            change mA = _ at hA
            change ∀ j, j < 6 → wr.cell? _ = (m[i]'hlt).pcs[j]? at hc
            obtain ⟨x, hx⟩ : ∃ x, x = m[i]'hlt := ⟨_, rfl⟩
            rw [← hx] at hc
            have d0 : wr.cell? ⟨b, o + i * 6, none⟩ = some (.string x.key) := hc 0 (by omega)
            have d1 : wr.cell? ⟨b, o + i * 6 + 1, none⟩ = some (.int .i64 x.k) := hc 1 (by omega)
            have d2 : wr.cell? ⟨b, o + i * 6 + 2, none⟩ = some (.int .i64 x.n) := hc 2 (by omega)
            have d3 : wr.cell? ⟨b, o + i * 6 + 3, none⟩ = some (.string x.s) := hc 3 (by omega)
            have d4 : wr.cell? ⟨b, o + i * 6 + 4, none⟩ = some (.slice x.lA x.l.length x.lc) := hc 4 (by omega)
            have d5 : wr.cell? ⟨b, o + i * 6 + 5, none⟩ = some (.slice x.mA x.m.length x.mc) := hc 5 (by omega)
            have hxm : x ∈ m := by rw [hx]; exact List.getElem_mem hlt
            have hsn := depL_snoc m i hlt
            have hsc := cntL_snoc m i hlt
            have hsr := rightL_next m i hlt
            have htk := depL_take_le m (i + 1)
            have htc := cntL_take_le m (i + 1)
            rw [← hx] at hsn hsc hsr
            have hxd : dp + 1 + x.dep ≤ 1000000 := by have h1 := HDD.out; omega
            have hxc : (c + 1 + MV.cntL l + MV.cntL (m.take i)) + x.cnt ≤ 1000000 := by have h1 := HCC.out; have h2 := HCE.out; omega
            have hdx : (max (max (max d dp) (dp + MV.depL l)) (dp + MV.depL (m.take i))) ≤ 1000000 := by have h1 := HDD.out; have h2 := HDN.out; have h3 := depL_take_le m i; omega
            have HNB : Hid (WkA (wr.alloc (.cells #[.string x.key, .int .i64 x.k, .int .i64 x.n, .string x.s, .slice x.lA x.l.length x.lc, .slice x.mA x.m.length x.mc] 33)) g (max (max (max d dp) (dp + MV.depL l)) (dp + MV.depL (m.take i))) (c + 1 + MV.cntL l + MV.cntL (m.take i)) ((!P || !PV.rightL (MV.pvL l)) || !PV.rightL (MV.pvL (m.take i)))) := Lib.hid (HK.out.al _)
            have hnx : Blk (wr.alloc (.cells #[.string x.key, .int .i64 x.k, .int .i64 x.n, .string x.s, .slice x.lA x.l.length x.lc, .slice x.mA x.m.length x.mc] 33)) wr.heap.size 33 #[.string x.key, .int .i64 x.k, .int .i64 x.n, .string x.s, .slice x.lA x.l.length x.lc, .slice x.mA x.m.length x.mc] := Blk.new _ _ _
            have x0 : (wr.alloc (.cells #[.string x.key, .int .i64 x.k, .int .i64 x.n, .string x.s, .slice x.lA x.l.length x.lc, .slice x.mA x.m.length x.mc] 33)).cell? ⟨wr.heap.size, 0, none⟩ = some (.string x.key) := hnx.cell 0
            have x1 : (wr.alloc (.cells #[.string x.key, .int .i64 x.k, .int .i64 x.n, .string x.s, .slice x.lA x.l.length x.lc, .slice x.mA x.m.length x.mc] 33)).cell? ⟨wr.heap.size, 1, none⟩ = some (.int .i64 x.k) := hnx.cell 1
            have x2 : (wr.alloc (.cells #[.string x.key, .int .i64 x.k, .int .i64 x.n, .string x.s, .slice x.lA x.l.length x.lc, .slice x.mA x.m.length x.mc] 33)).cell? ⟨wr.heap.size, 2, none⟩ = some (.int .i64 x.n) := hnx.cell 2
            have x3 : (wr.alloc (.cells #[.string x.key, .int .i64 x.k, .int .i64 x.n, .string x.s, .slice x.lA x.l.length x.lc, .slice x.mA x.m.length x.mc] 33)).cell? ⟨wr.heap.size, 3, none⟩ = some (.string x.s) := hnx.cell 3
            have x4 : (wr.alloc (.cells #[.string x.key, .int .i64 x.k, .int .i64 x.n, .string x.s, .slice x.lA x.l.length x.lc, .slice x.mA x.m.length x.mc] 33)).cell? ⟨wr.heap.size, 4, none⟩ = some (.slice x.lA x.l.length x.lc) := hnx.cell 4
            have x5 : (wr.alloc (.cells #[.string x.key, .int .i64 x.k, .int .i64 x.n, .string x.s, .slice x.lA x.l.length x.lc, .slice x.mA x.m.length x.mc] 33)).cell? ⟨wr.heap.size, 5, none⟩ = some (.slice x.mA x.m.length x.mc) := hnx.cell 5
            have HCL := HIH.out x (List.mem_append_right _ hxm) g (max (max (max d dp) (dp + MV.depL l)) (dp + MV.depL (m.take i))) (c + 1 + MV.cntL l + MV.cntL (m.take i)) (dp + 1) ((!P || !PV.rightL (MV.pvL l)) || !PV.rightL (MV.pvL (m.take i))) (wr.alloc (.cells #[.string x.key, .int .i64 x.k, .int .i64 x.n, .string x.s, .slice x.lA x.l.length x.lc, .slice x.mA x.m.length x.mc] 33)) HG.out (HBZ.out _ (HFA.out.alloc _)) HNB.out (HOM.out x hxm) (by omega) hdx hxd hxc
            unfold MV.val at HCL
            rw [show ((dp + 1 : Nat) : Int) = (dp : Int) + 1 from by omega] at HCL
            have HCL := Lib.hid HCL
            have HDX : Hid (max (max (max (max d dp) (dp + MV.depL l)) (dp + MV.depL (m.take i))) (dp + 1 + x.dep - 1) = max (max (max d dp) (dp + MV.depL l)) (dp + MV.depL (m.take (i + 1)))) := Lib.hid (by rw [hsn]; omega)
            have HCX : Hid ((c + 1 + MV.cntL l + MV.cntL (m.take i)) + x.cnt = c + 1 + MV.cntL l + MV.cntL (m.take (i + 1))) := Lib.hid (by rw [hsc]; omega)
            have HRX : Hid ((((!P || !PV.rightL (MV.pvL l)) || !PV.rightL (MV.pvL (m.take i))) || !x.pv.right) = ((!P || !PV.rightL (MV.pvL l)) || !PV.rightL (MV.pvL (m.take (i + 1))))) := Lib.hid (by rw [hsr]; cases PV.rightL (MV.pvL (m.take i)) <;> cases x.pv.right <;> simp)
            have HFN := Lib.hid (HFW.out.alloc (.cells #[.string x.key, .int .i64 x.k, .int .i64 x.n, .string x.s, .slice x.lA x.l.length x.lc, .slice x.mA x.m.length x.mc] 33))
            have hii : (i : Int) < (m.length : Int) := by omega
            have hi0 : (0 : Int) ≤ (i : Int) := by omega
            have hlm : m.length ≤ 3001 := by have := HLE.out; omega

            clear hc hx hbl hxm hsn hsc hsr htk htc hxd hxc hdx HNB hnx
            subst hA
            go_wp2_with fail
            refine HCL.out.mono ?_
            rintro e w2 ⟨rfl, hk2, hf2⟩
            have HK2 : Hid (WkA w2 g (max (max (max d dp) (dp + MV.depL l)) (dp + MV.depL (m.take (i + 1)))) (c + 1 + MV.cntL l + MV.cntL (m.take (i + 1))) ((!P || !PV.rightL (MV.pvL l)) || !PV.rightL (MV.pvL (m.take (i + 1))))) := Lib.hid (by rw [HDX.out, HCX.out, HRX.out] at hk2; exact hk2)
            have HF2 : Hid (Fr (· = g) V4 w2) := Lib.hid (HFN.out.trans_new hf2 (fun j _ h => h))
            clear hk2 hf2 d0 d1 d2 d3 d4 d5 x0 x1 x2 x3 x4 x5
            go_wp2
            go_roundw
            case rel => exact ⟨i + 1, _, rfl, by go_num, by omega, HK2, HF2⟩
            case measure => simp [intOf]; omega
          · have q0 : decide ((i : Int) < (m.length : Int)) = false := by rw [decide_eq_false_iff_not]; omega
            have q0' : decide (i < m.length) = false := by rw [decide_eq_false_iff_not]; omega
            have HKE : Hid (WkA wr g (max (max (max d dp) (dp + MV.depL l)) (dp + MV.depL m)) (c + 1 + MV.cntL l + MV.cntL m) ((!P || !PV.rightL (MV.pvL l)) || !PV.rightL (MV.pvL m))) := Lib.hid (by have := HK.out; rwa [heq, List.take_length] at this)
            have HBW : Hid (Blk wr w.heap.size 25 #[.int .i64 k, .int .i64 n, .string s, .slice lA l.length lc, .slice mA m.length mc]) := Lib.hid (HBX4.out.fr HFW.out (fun e => by have := HGL.out; omega))
            have HFE : Hid (Fr (· = g) w wr) := Lib.hid (HF4.out.trans_new HFW.out (fun j _ h => h))
            clear heq
            have HEQ1 : Hid (max (max (max d dp) (dp + MV.depL l)) (dp + MV.depL m) = D) := Lib.hid (by rw [HDE.out]; omega)
            have HEQ2 : Hid (c + 1 + MV.cntL l + MV.cntL m = C) := Lib.hid (by rw [HCE.out]; omega)
            have HEQ3 : Hid (((!P || !PV.rightL (MV.pvL l)) || !PV.rightL (MV.pvL m)) = (false || !R)) := Lib.hid (by rw [HRP.out]; cases P <;> cases PV.rightL (MV.pvL l) <;> cases PV.rightL (MV.pvL m) <;> rfl)
            go_wp2
            go_end0
            exact ⟨rfl, by rw [← HEQ1.out, ← HEQ2.out, ← HEQ3.out]; exact HKE.out, HFE.out⟩
theorem down_any {w0 : World} {v : MV} (h : VAt w0 v) (ht : tabU w0) : ∀ (g d c dp : Nat) (wr : Bool) (w : World), w0.heap.size ≤ g → Below w0.heap.size w0 w → WkA w g d c wr → OkP v.pv → 1 ≤ dp → d ≤ 1000000 → dp + v.dep ≤ 1000000 → c + v.cnt ≤ 1000000 →
    Calls Tryd.prog 47 #[.pointer (some ⟨g, 0, none⟩), v.val, .int .i64 (dp : Int)] w fun e w' => PF (DnP g (max d (dp + v.dep - 1)) (c + v.cnt) (wr || !v.pv.right) w) e w' := by
  induction h with
  | mk a b c d e f g h i j ih1 ih2 => exact fun g' d' c' dp wr w => down_one (.mk a b c d e f g h i j) ht (fun x hx => (List.mem_append.1 hx).elim (ih1 x) (ih2 x)) g' d' c' dp wr w
end Go.Proofs.YteodigdcdhceiaaDoor
