/-
  parse: Parse.
-/
import Derived.Test.YteofdpogjnojnaaGreatDoorPaT6
import Derived.Test.YteofdpogjnojnaaGreatDoorRunStr
namespace Go.Proofs.YteofdpogjnojnaaGreatDoor
open Go.RowKit Utf Pa
attribute [local go_sem ↓] Go.wp_at_zero Go.wp_at_succ
set_option linter.unusedVariables false
set_option linter.unusedSimpArgs false

/-- what Parse answers -/
def ParP (l : List UInt8) (w : World) (e : Ending) (w' : World) : Prop := ∃ v : MV, e = .returned (.tuple #[v.val, .int .i64 (parseP l).2.1, .int .i64 (parseP l).2.2]) ∧ v.pv = (parseP l).1 ∧ VOwn w.heap.size w' v ∧ Below w.heap.size w w' ∧ (parseP l).2.1 ≤ l.length
theorem par_ss {V : World} {n : Nat} {s : ByteArray} {a b c : Int} (h1 : Blk V (n + 1) 45 #[.string s, .int .i64 a, .int .i64 b, .int .i64 c]) (h2 : Blk V n 25 #[.int .i64 0, .int .i64 0, .string ⟨#[]⟩, .slice none 0 0, .slice none 0 0]) :
    Blk (((((V.setCell ⟨n, 0, none⟩ (.int .i64 0)).setCell ⟨n, 1, none⟩ (.int .i64 0)).setCell ⟨n, 2, none⟩ (.string ⟨#[]⟩)).setCell ⟨n, 3, none⟩ (.slice none 0 0)).setCell ⟨n, 4, none⟩ (.slice none 0 0)) (n + 1) 45 #[.string s, .int .i64 a, .int .i64 b, .int .i64 c] ∧
    Blk (((((V.setCell ⟨n, 0, none⟩ (.int .i64 0)).setCell ⟨n, 1, none⟩ (.int .i64 0)).setCell ⟨n, 2, none⟩ (.string ⟨#[]⟩)).setCell ⟨n, 3, none⟩ (.slice none 0 0)).setCell ⟨n, 4, none⟩ (.slice none 0 0)) n 25 #[.int .i64 0, .int .i64 0, .string ⟨#[]⟩, .slice none 0 0, .slice none 0 0] := by
  refine ⟨h1.fr fr_put5 (by omega), ?_⟩
  have := ((((h2.set_ 0 (.int .i64 0)).set_ 1 (.int .i64 0)).set_ 2 (.string ⟨#[]⟩)).set_ 3 (.slice none 0 0)).set_ 4 (.slice none 0 0)
  simpa using this
theorem par_end {l : List UInt8} {w w1 w2 : World} {v : MV} {n : Nat} {er : Int} {z : PV × Nat × Int} (hz : z = (v.pv, n, er)) (hv : VOwn (w.heap.size + 1) w1 v) (hf : Fr (· = w.heap.size) w1 w2) (hb : Below w.heap.size w w1) (hl : parseP l = z) (hn : n ≤ l.length) : ParP l w (.returned (.tuple #[v.val, .int .i64 n, .int .i64 er])) w2 := by
  subst hz
  unfold ParP
  rw [hl]
  exact ⟨v, rfl, rfl, vown_le (hv.frB hf (fun b e => by omega)) (by omega), Fr.below_trans hb hf hb.size (fun b e => by omega), hn⟩
set_option maxRecDepth 100000 in
set_option maxHeartbeats 16000000 in
theorem parse_any {w : World} (A : Option Addr) (c : Nat) (l : List UInt8) (hr : RB w A l) (hc : l.length ≤ c) (hm : c ≤ maxLen) (hF : l.length ≤ 262144 → FourOk ⟨l.toArray⟩) (hT : tabV w) :
    Calls Tryz.prog 8 #[.slice A l.length c] w fun e w' => PF (ParP l w) e w' := by
  obtain ⟨W0, hW0⟩ : ∃ W0, W0 = w.alloc (.cells #[.int .i64 0, .int .i64 0, .string ⟨#[]⟩, .slice none 0 0, .slice none 0 0] 25) := ⟨_, rfl⟩
  have hb0 : Below w.heap.size w W0 := by rw [hW0]; exact (Below.refl _ _).alloc (Nat.le_refl _) _
  have hs0 : W0.heap.size = w.heap.size + 1 := by rw [hW0]; exact alSz _ _
  have hk0 : Blk W0 w.heap.size 25 #[.int .i64 0, .int .i64 0, .string ⟨#[]⟩, .slice none 0 0, .slice none 0 0] := by rw [hW0]; exact Blk.new _ _ _
  have HB0 := Lib.hid hb0
  have HK0 := Lib.hid hk0
  have HW0 := Lib.hid hW0
  by_cases hl : 262144 < l.length
  · have hgt : decide ((l.length : Int) > 262144) = true := decide_eq_true (by omega)
    have HL : Hid (parseP l = (pv0, 0, 3)) := Lib.hid (by unfold parseP; rw [if_pos hl])
    clear hr hc hm hF hT hl hb0 hs0 hk0 hW0
    go_enter Tryz.func8, Tryz.ntmps8
    go_wp2_with fail
    rw [← HW0.out]
    have HFK := HK0
    have k0 := HFK.out.cell 0
    have k1 := HFK.out.cell 1
    have k2 := HFK.out.cell 2
    have k3 := HFK.out.cell 3
    have k4 := HFK.out.cell 4
    simp at k0 k1 k2 k3 k4
    refine bodyPost_ret (v := .tuple #[(fl 0 0 ⟨#[]⟩).val, .int .i64 0, .int .i64 3]) (by rw [fl_val]; simp [results, Tryz.results8, go_sem, k0, k1, k2, k3, k4]) rfl ?_
    exact par_end (n := 0) rfl (fl_own _ W0 rfl rfl) (Fr.refl _ _) HB0.out HL.out (Nat.zero_le _)
  · have hgt : decide ((l.length : Int) > 262144) = false := decide_eq_false (by omega)
    obtain ⟨s, hsd⟩ : ∃ s : ByteArray, s = ⟨l.toArray⟩ := ⟨_, rfl⟩
    have hsl : s.data.toList = l := by rw [hsd]
    have hsz : s.size = l.length := by rw [← hsl]; rfl
    have hrs := run_string (hr.below hb0) l.length c rfl
    rw [← hsd, hW0] at hrs
    obtain ⟨W1, hW1⟩ : ∃ W1, W1 = W0.alloc (.cells #[.string s, .int .i64 0, .int .i64 0, .int .i64 0] 45) := ⟨_, rfl⟩
    have hb1 : Below W0.heap.size W0 W1 := by rw [hW1]; exact (Below.refl _ _).alloc (Nat.le_refl _) _
    have hk1 : Blk W1 (w.heap.size + 1) 45 #[.string s, .int .i64 0, .int .i64 0, .int .i64 0] := by rw [hW1, ← hs0]; exact Blk.new _ _ _
    have hps : PSt w (w.heap.size + 1) s W1 ⟨0, l, 0, 0⟩ := ⟨hk1, fun z => absurd rfl z, fun _ => by rw [hsl]; rfl, Nat.zero_le _, ⟨by show 0 ≤ 4097; omega, fun _ => by show 0 ≤ 4096; omega⟩, ⟨by show (0 : Int) ≤ 0; omega, by show (0 : Int) ≤ 1000; omega⟩, hb0.trans (hb1.mono hb0.size), by omega⟩
    have hval := value_any (W := w) (B := w.heap.size + 1) (s := s) (by omega) (by rw [hsd]; exact hF (by omega)) hT 12 (by omega) W1 _ hps
    obtain ⟨z, hz⟩ : ∃ z, z = valP 12 ⟨0, l, 0, 0⟩ := ⟨_, rfl⟩
    rw [← hz] at hval
    have hpp : parseP l = (let q := if z.1.r ≠ [] then z.1.fail z.1.i 50 else z.1; if q.e ≠ 0 then (pv0, q.i, q.e) else (z.2, l.length, 0)) := by
      unfold parseP
      rw [if_neg hl, ← hz]
    have HV := Lib.hid hval
    have HK1 := Lib.hid (hk0.below hb1 hk0.lt)
    have HW1 := Lib.hid hW1
    have HB1 : Hid (Below w.heap.size w W1) := Lib.hid (hb0.trans (hb1.mono hb0.size))
    have HSS0 : Hid (s.size = l.length ∧ W0.heap.size = w.heap.size + 1 ∧ W1.heap.size = w.heap.size + 2) := Lib.hid ⟨hsz, hs0, by rw [hW1, alSz, hs0]⟩
    have HPP := Lib.hid hpp
    have HSL : Hid (s.size ≤ 1000000) := Lib.hid (by omega)
    have hl0 : (0 : Int) ≤ (l.length : Int) ∧ (l.length : Int) ≤ 262144 := by omega
    have HRS : Hid (∀ V q, PSt w (w.heap.size + 1) s V q → Calls Tryz.prog 18 #[.pointer (some ⟨w.heap.size + 1, 0, none⟩)] V fun e w' => PF (RstP q V) e w') := Lib.hid (fun V q hV => rest_any hV HSL.out)
    have HFAIL : Hid (∀ V q, PSt w (w.heap.size + 1) s V q → Calls Tryz.prog 19 #[.pointer (some ⟨w.heap.size + 1, 0, none⟩), .int .i64 (q.i : Int), .int .i64 50] V fun e w' => PF (StpP w (w.heap.size + 1) s (.bool false) (q.fail q.i 50) V) e w') := Lib.hid (fun V q hV => fail_any hV q.i 50 hV.pi (by omega))
    clear hr hc hm hF hT hl hb0 hs0 hk0 hW0 hsd hsl hsz hW1 hb1 hk1 hps hval hz hpp
    go_enter Tryz.func8, Tryz.ntmps8
    go_wp2_with fail
    rw [← HW0.out, ← HW1.out]
    refine HV.out.mono ?_
    rintro e w2 ⟨v, rfl, hpv, hvo, hp2, hf2⟩
    unfold MV.val
    have HPV := Lib.hid hpv
    have HK2 := Lib.hid (HK1.out.fr hf2 (by omega))
    have HB2 : Hid (Below w.heap.size w w2) := Lib.hid (Fr.below_trans HB1.out hf2 HB1.out.size (fun b e => by omega))
    have hvo2 := vown_le hvo (base' := w.heap.size + 2) (by have := HSS0.out; omega)
    have HVO2 := Lib.hid hvo2
    clear hvo2
    have HP2 := Lib.hid hp2
    have HS2 : Hid (w.heap.size + 2 ≤ w2.heap.size) := Lib.hid (by have := hf2.size; have := HSS0.out; omega)
    clear hpv hvo hp2 hf2
    obtain ⟨X, hX⟩ : ∃ X, X = w2.heap.size := ⟨_, rfl⟩
    obtain ⟨w3, hw3⟩ : ∃ w3, w3 = w2.alloc (.cells #[.int .i64 v.k, .int .i64 v.n, .string v.s, .slice v.lA v.l.length v.lc, .slice v.mA v.m.length v.mc] 25) := ⟨_, rfl⟩
    have hb3 : Below w2.heap.size w2 w3 := by rw [hw3]; exact (Below.refl _ _).alloc (Nat.le_refl _) _
    have HX3 : Hid (Blk w3 X 25 #[.int .i64 v.k, .int .i64 v.n, .string v.s, .slice v.lA v.l.length v.lc, .slice v.mA v.m.length v.mc]) := Lib.hid (by rw [hw3, hX]; exact Blk.new _ _ _)
    have HVO3 := Lib.hid (HVO2.out.below hb3)
    have HP3 := Lib.hid (HP2.out.below hb3)
    have HK3 := Lib.hid (HK2.out.below hb3 HK2.out.lt)
    have HB3 : Hid (Below w.heap.size w w3) := Lib.hid (HB2.out.trans (hb3.mono HB2.out.size))
    have HXN : Hid (w.heap.size + 2 ≤ X) := Lib.hid (by rw [hX]; exact HS2.out)
    have HW3 := Lib.hid hw3
    have HX := Lib.hid hX
    clear hb3 hw3 hX
    go_wp2_with fail
    rw [← HW3.out, ← HX.out]
    refine (HRS.out w3 _ HP3.out).mono ?_
    rintro e w4 ⟨rfl, hb4⟩
    have HP4 := Lib.hid (HP3.out.below hb4)
    have HX4 := Lib.hid (HX3.out.below hb4 HX3.out.lt)
    have HVO4 := Lib.hid (HVO3.out.below hb4)
    have HK4 := Lib.hid (HK3.out.below hb4 HK3.out.lt)
    have HB4 : Hid (Below w.heap.size w w4) := Lib.hid (HB3.out.trans (hb4.mono HB3.out.size))
    clear hb4
    by_cases hrn : z.1.r = []
    · have hne : (rs z.1).toList.isEmpty = true := by rw [ByteArray.toList_eq, rs_list, hrn]; rfl
      have HPQ : Hid (parseP l = (let q := z.1; if q.e ≠ 0 then (pv0, q.i, q.e) else (z.2, l.length, 0))) := Lib.hid (by rw [HPP.out]; simp [hrn])
      obtain ⟨q, hq⟩ : ∃ q, q = z.1 := ⟨_, rfl⟩
      obtain ⟨wq, hwq⟩ : ∃ wq, wq = w4 := ⟨_, rfl⟩
      subst hwq
      rw [← hq] at HPQ
      have HPx : Hid (PSt w (w.heap.size + 1) s wq q) := Lib.hid (by rw [hq]; exact HP4.out)
      have HKx := HK4
      have HXx := HX4
      have HVx := HVO4
      have HBx := HB4
      clear hrn hq
      have ce : wq.cell? ⟨w.heap.size + 1, 3, none⟩ = some (.int .i64 q.e) := HPx.out.blk.cell 3
      by_cases he : q.e = 0
      · have q0 : (q.e != 0) = false := by rw [he]; rfl
        have HR : Hid (parseP l = (z.2, l.length, 0)) := Lib.hid (by rw [HPQ.out]; simp [he])
        have x0 : wq.cell? ⟨X, 0, none⟩ = some (.int .i64 v.k) := HXx.out.cell 0
        have x1 : wq.cell? ⟨X, 1, none⟩ = some (.int .i64 v.n) := HXx.out.cell 1
        have x2 : wq.cell? ⟨X, 2, none⟩ = some (.string v.s) := HXx.out.cell 2
        have x3 : wq.cell? ⟨X, 3, none⟩ = some (.slice v.lA v.l.length v.lc) := HXx.out.cell 3
        have x4 : wq.cell? ⟨X, 4, none⟩ = some (.slice v.mA v.m.length v.mc) := HXx.out.cell 4
        have y0 : wq.cell? ⟨w.heap.size, 0, none⟩ = some (.int .i64 0) := HKx.out.cell 0
        have z0 : wq.frozen? ⟨w.heap.size, 0, none⟩ = false := HKx.out.frozen 0
        have y1 : wq.cell? ⟨w.heap.size, 1, none⟩ = some (.int .i64 0) := HKx.out.cell 1
        have z1 : wq.frozen? ⟨w.heap.size, 1, none⟩ = false := HKx.out.frozen 1
        have y2 : wq.cell? ⟨w.heap.size, 2, none⟩ = some (.string ⟨#[]⟩) := HKx.out.cell 2
        have z2 : wq.frozen? ⟨w.heap.size, 2, none⟩ = false := HKx.out.frozen 2
        have y3 : wq.cell? ⟨w.heap.size, 3, none⟩ = some (.slice none 0 0) := HKx.out.cell 3
        have z3 : wq.frozen? ⟨w.heap.size, 3, none⟩ = false := HKx.out.frozen 3
        have y4 : wq.cell? ⟨w.heap.size, 4, none⟩ = some (.slice none 0 0) := HKx.out.cell 4
        have z4 : wq.frozen? ⟨w.heap.size, 4, none⟩ = false := HKx.out.frozen 4
        have HFK := Lib.hid (((((HKx.out.set_ 0 (.int .i64 v.k)).set_ 1 (.int .i64 v.n)).set_ 2 (.string v.s)).set_ 3 (.slice v.lA v.l.length v.lc)).set_ 4 (.slice v.mA v.m.length v.mc))
        go_wp2
        have k0 := HFK.out.cell 0
        have k1 := HFK.out.cell 1
        have k2 := HFK.out.cell 2
        have k3 := HFK.out.cell 3
        have k4 := HFK.out.cell 4
        simp at k0 k1 k2 k3 k4
        refine bodyPost_ret (v := .tuple #[v.val, .int .i64 (l.length : Int), .int .i64 0]) (by unfold MV.val; simp [results, Tryz.results8, go_sem, k0, k1, k2, k3, k4]) rfl ?_
        exact par_end (n := l.length) (by rw [HPV.out]) (vown_le HVx.out (by omega)) fr_put5 HBx.out HR.out (Nat.le_refl _)
      · have q0 : (q.e != 0) = true := by rw [bne_iff_ne]; exact he
        have HR : Hid (parseP l = (pv0, q.i, q.e)) := Lib.hid (by rw [HPQ.out]; simp [he])
        have HS0 : Hid ((fun V => Blk V (w.heap.size + 1) 45 #[.string s, .int .i64 q.i, .int .i64 q.c, .int .i64 q.e] ∧ Blk V w.heap.size 25 #[.int .i64 0, .int .i64 0, .string ⟨#[]⟩, .slice none 0 0, .slice none 0 0]) wq.drew) := Lib.hid ⟨HPx.out.blk, HKx.out⟩
        go_wp2_with fail
        refine wp_region_held_drew (S := fun V => Blk V (w.heap.size + 1) 45 #[.string s, .int .i64 q.i, .int .i64 q.c, .int .i64 q.e] ∧ Blk V w.heap.size 25 #[.int .i64 0, .int .i64 0, .string ⟨#[]⟩, .slice none 0 0, .slice none 0 0]) (by kernel_rfl) (HS0.out) (fun hS1 => ?_)
        obtain ⟨WD, hWD⟩ : ∃ WD, WD = wq.drew := ⟨_, rfl⟩
        rw [← hWD] at hS1 ⊢
        have HBD : Hid (Below wq.heap.size wq WD) := Lib.hid (by rw [hWD]; exact (Below.refl _ _).drew)
        have HSB := Lib.hid hS1
        have HSS : Hid ((fun V => Blk V (w.heap.size + 1) 45 #[.string s, .int .i64 q.i, .int .i64 q.c, .int .i64 q.e] ∧ Blk V w.heap.size 25 #[.int .i64 0, .int .i64 0, .string ⟨#[]⟩, .slice none 0 0, .slice none 0 0]) ((((((WD.setCell ⟨w.heap.size, 0, none⟩ (.int .i64 0)).setCell ⟨w.heap.size, 1, none⟩ (.int .i64 0)).setCell ⟨w.heap.size, 2, none⟩ (.string ⟨#[]⟩)).setCell ⟨w.heap.size, 3, none⟩ (.slice none 0 0)).setCell ⟨w.heap.size, 4, none⟩ (.slice none 0 0)))) := Lib.hid (par_ss hS1.1 hS1.2)
        clear hWD
        refine wpAnyH_take (i := 0) (oi := ⟨some 31, _, _, _, _, _⟩) (v := .agg #[.int .i64 0, .int .i64 0, .string ⟨#[]⟩, .slice none 0 0, .slice none 0 0]) rfl (by kernel_rfl) (by kernel_rfl) (by kernel_rfl) (fun _ _ _ h => h) (.inl ⟨by kernel_rfl, fun V hS => by go_simp⟩) hS1 ?_
        simp only [Act.put, List.setIfInBounds_toArray, List.set_cons_zero, List.set_cons_succ]
        refine wpAnyH_take (i := 1) (oi := ⟨some 32, _, _, _, _, _⟩) (v := .pointer (some ⟨w.heap.size + 1, 0, none⟩)) rfl (by kernel_rfl) (by kernel_rfl) (by kernel_rfl) (fun _ _ _ h => h) (.inl ⟨by kernel_rfl, fun V hS => by go_simp⟩) hS1 ?_
        simp only [Act.put, List.setIfInBounds_toArray, List.set_cons_zero, List.set_cons_succ]
        refine wpAnyH_take (i := 2) (oi := ⟨some 33, _, _, _, _, _⟩) (v := .pointer (some ⟨w.heap.size + 1, 0, none⟩)) rfl (by kernel_rfl) (by kernel_rfl) (by kernel_rfl) (fun _ _ _ h => h) (.inl ⟨by kernel_rfl, fun V hS => by go_simp⟩) hS1 ?_
        simp only [Act.put, List.setIfInBounds_toArray, List.set_cons_zero, List.set_cons_succ]
        refine wpAnyH_take (i := 3) (oi := ⟨some 34, _, _, _, _, _⟩) (v := .pointer (some ⟨w.heap.size + 1, 1, none⟩)) rfl (by kernel_rfl) (by kernel_rfl) (by kernel_rfl) (fun _ _ _ h => h) (.inl ⟨by kernel_rfl, fun V hS => by go_simp⟩) hS1 ?_
        simp only [Act.put, List.setIfInBounds_toArray, List.set_cons_zero, List.set_cons_succ]
        refine wpAnyH_take (i := 4) (oi := ⟨some 35, _, _, _, _, _⟩) (v := .int .i64 q.i) rfl (by kernel_rfl) (by kernel_rfl) (by kernel_rfl) (fun _ _ _ h => h) (.inl ⟨by kernel_rfl, fun V hS => by have sc := hS.1.cell 1; simp at sc; go_simp⟩) hS1 ?_
        simp only [Act.put, List.setIfInBounds_toArray, List.set_cons_zero, List.set_cons_succ]
        refine wpAnyH_take (i := 5) (oi := ⟨some 36, _, _, _, _, _⟩) (v := .pointer (some ⟨w.heap.size + 1, 0, none⟩)) rfl (by kernel_rfl) (by kernel_rfl) (by kernel_rfl) (fun _ _ _ h => h) (.inl ⟨by kernel_rfl, fun V hS => by go_simp⟩) hS1 ?_
        simp only [Act.put, List.setIfInBounds_toArray, List.set_cons_zero, List.set_cons_succ]
        refine wpAnyH_take (i := 6) (oi := ⟨some 37, _, _, _, _, _⟩) (v := .pointer (some ⟨w.heap.size + 1, 0, none⟩)) rfl (by kernel_rfl) (by kernel_rfl) (by kernel_rfl) (fun _ _ _ h => h) (.inl ⟨by kernel_rfl, fun V hS => by go_simp⟩) hS1 ?_
        simp only [Act.put, List.setIfInBounds_toArray, List.set_cons_zero, List.set_cons_succ]
        refine wpAnyH_take (i := 7) (oi := ⟨some 38, _, _, _, _, _⟩) (v := .pointer (some ⟨w.heap.size + 1, 3, none⟩)) rfl (by kernel_rfl) (by kernel_rfl) (by kernel_rfl) (fun _ _ _ h => h) (.inl ⟨by kernel_rfl, fun V hS => by go_simp⟩) hS1 ?_
        simp only [Act.put, List.setIfInBounds_toArray, List.set_cons_zero, List.set_cons_succ]
        refine wpAnyH_take (i := 8) (oi := ⟨some 39, _, _, _, _, _⟩) (v := .int .i64 q.e) rfl (by kernel_rfl) (by kernel_rfl) (by kernel_rfl) (fun _ _ _ h => h) (.inl ⟨by kernel_rfl, fun V hS => by have sc := hS.1.cell 3; simp at sc; go_simp⟩) hS1 ?_
        simp only [Act.put, List.setIfInBounds_toArray, List.set_cons_zero, List.set_cons_succ]
        refine wpAnyH_ready (rs := [9]) (by kernel_rfl) (by simp) ?_
        refine AllReadyH.cons rfl (fun K' hK => ?_) AllReadyH.nil
        have s0 := (HSB.out).2
        have y0 : WD.cell? ⟨w.heap.size, 0, none⟩ = some (.int .i64 0) := s0.cell 0
        have z0 : WD.frozen? ⟨w.heap.size, 0, none⟩ = false := s0.frozen 0
        have y1 : WD.cell? ⟨w.heap.size, 1, none⟩ = some (.int .i64 0) := s0.cell 1
        have z1 : WD.frozen? ⟨w.heap.size, 1, none⟩ = false := s0.frozen 1
        have y2 : WD.cell? ⟨w.heap.size, 2, none⟩ = some (.string ⟨#[]⟩) := s0.cell 2
        have z2 : WD.frozen? ⟨w.heap.size, 2, none⟩ = false := s0.frozen 2
        have y3 : WD.cell? ⟨w.heap.size, 3, none⟩ = some (.slice none 0 0) := s0.cell 3
        have z3 : WD.frozen? ⟨w.heap.size, 3, none⟩ = false := s0.frozen 3
        have y4 : WD.cell? ⟨w.heap.size, 4, none⟩ = some (.slice none 0 0) := s0.cell 4
        have z4 : WD.frozen? ⟨w.heap.size, 4, none⟩ = false := s0.frozen 4
        clear s0
        go_simp
        clear y0 y1 y2 y3 y4 z0 z1 z2 z3 z4
        refine hK.out _ _ (HSS.out) (fun hS2 => ?_)
        clear hK K' hS1
        refine wpAnyH_take (i := 10) (oi := ⟨some 3, _, _, _, _, _⟩) (v := .int .i64 q.i) rfl (by kernel_rfl) (by kernel_rfl) (by kernel_rfl) (fun _ _ _ h => h) (.inl ⟨by kernel_rfl, fun V hS => by go_simp⟩) hS2 ?_
        simp only [Act.put, List.setIfInBounds_toArray, List.set_cons_zero, List.set_cons_succ]
        refine wpAnyH_take (i := 11) (oi := ⟨some 4, _, _, _, _, _⟩) (v := .int .i64 q.e) rfl (by kernel_rfl) (by kernel_rfl) (by kernel_rfl) (fun _ _ _ h => h) (.inl ⟨by kernel_rfl, fun V hS => by go_simp⟩) hS2 ?_
        simp only [Act.put, List.setIfInBounds_toArray, List.set_cons_zero, List.set_cons_succ]
        refine wpAnyH_done (by kernel_rfl) ?_ _
        have HFK := Lib.hid (HSS.out.2)
        go_wp2
        have k0 := HFK.out.cell 0
        have k1 := HFK.out.cell 1
        have k2 := HFK.out.cell 2
        have k3 := HFK.out.cell 3
        have k4 := HFK.out.cell 4
        simp at k0 k1 k2 k3 k4
        refine bodyPost_ret (v := .tuple #[(fl 0 0 ⟨#[]⟩).val, .int .i64 (q.i : Int), .int .i64 q.e]) (by rw [fl_val]; simp [results, Tryz.results8, go_sem, k0, k1, k2, k3, k4]) rfl ?_
        exact par_end (n := q.i) rfl (fl_own _ WD rfl rfl) fr_put5 (HBx.out.trans (HBD.out.mono HBx.out.size)) HR.out (by have := HPx.out.pi; have := HSS0.out; omega)
    · have hne : (rs z.1).toList.isEmpty = false := by
        rw [ByteArray.toList_eq, rs_list]
        cases hx : z.1.r with
        | nil => exact absurd hx hrn
        | cons a b => rfl
      have HPQ : Hid (parseP l = (let q := z.1.fail z.1.i 50; if q.e ≠ 0 then (pv0, q.i, q.e) else (z.2, l.length, 0))) := Lib.hid (by rw [HPP.out]; simp [hrn])
      have ci : w4.cell? ⟨w.heap.size + 1, 1, none⟩ = some (.int .i64 z.1.i) := HP4.out.blk.cell 1
      clear hrn
      go_wp2_with fail
      refine (HFAIL.out w4 z.1 HP4.out).mono ?_
      rintro e wq ⟨rfl, hpq, hfq⟩
      have HPx0 := Lib.hid hpq
      have HKx := Lib.hid (HK4.out.fr hfq (by omega))
      have HXx := Lib.hid (HX4.out.fr hfq (by have := HXN.out; omega))
      have HVx := Lib.hid (HVO4.out.frB hfq (fun b e => by omega))
      have HBx : Hid (Below w.heap.size w wq) := Lib.hid (Fr.below_trans HB4.out hfq HB4.out.size (fun b e => by omega))
      obtain ⟨q, hq⟩ : ∃ q, q = z.1.fail z.1.i 50 := ⟨_, rfl⟩
      have HPx : Hid (PSt w (w.heap.size + 1) s wq q) := Lib.hid (by rw [hq]; exact HPx0.out)
      rw [← hq] at HPQ
      clear hpq hfq hq ci
      have ce : wq.cell? ⟨w.heap.size + 1, 3, none⟩ = some (.int .i64 q.e) := HPx.out.blk.cell 3
      by_cases he : q.e = 0
      · have q0 : (q.e != 0) = false := by rw [he]; rfl
        have HR : Hid (parseP l = (z.2, l.length, 0)) := Lib.hid (by rw [HPQ.out]; simp [he])
        have x0 : wq.cell? ⟨X, 0, none⟩ = some (.int .i64 v.k) := HXx.out.cell 0
        have x1 : wq.cell? ⟨X, 1, none⟩ = some (.int .i64 v.n) := HXx.out.cell 1
        have x2 : wq.cell? ⟨X, 2, none⟩ = some (.string v.s) := HXx.out.cell 2
        have x3 : wq.cell? ⟨X, 3, none⟩ = some (.slice v.lA v.l.length v.lc) := HXx.out.cell 3
        have x4 : wq.cell? ⟨X, 4, none⟩ = some (.slice v.mA v.m.length v.mc) := HXx.out.cell 4
        have y0 : wq.cell? ⟨w.heap.size, 0, none⟩ = some (.int .i64 0) := HKx.out.cell 0
        have z0 : wq.frozen? ⟨w.heap.size, 0, none⟩ = false := HKx.out.frozen 0
        have y1 : wq.cell? ⟨w.heap.size, 1, none⟩ = some (.int .i64 0) := HKx.out.cell 1
        have z1 : wq.frozen? ⟨w.heap.size, 1, none⟩ = false := HKx.out.frozen 1
        have y2 : wq.cell? ⟨w.heap.size, 2, none⟩ = some (.string ⟨#[]⟩) := HKx.out.cell 2
        have z2 : wq.frozen? ⟨w.heap.size, 2, none⟩ = false := HKx.out.frozen 2
        have y3 : wq.cell? ⟨w.heap.size, 3, none⟩ = some (.slice none 0 0) := HKx.out.cell 3
        have z3 : wq.frozen? ⟨w.heap.size, 3, none⟩ = false := HKx.out.frozen 3
        have y4 : wq.cell? ⟨w.heap.size, 4, none⟩ = some (.slice none 0 0) := HKx.out.cell 4
        have z4 : wq.frozen? ⟨w.heap.size, 4, none⟩ = false := HKx.out.frozen 4
        have HFK := Lib.hid (((((HKx.out.set_ 0 (.int .i64 v.k)).set_ 1 (.int .i64 v.n)).set_ 2 (.string v.s)).set_ 3 (.slice v.lA v.l.length v.lc)).set_ 4 (.slice v.mA v.m.length v.mc))
        go_wp2
        have k0 := HFK.out.cell 0
        have k1 := HFK.out.cell 1
        have k2 := HFK.out.cell 2
        have k3 := HFK.out.cell 3
        have k4 := HFK.out.cell 4
        simp at k0 k1 k2 k3 k4
        refine bodyPost_ret (v := .tuple #[v.val, .int .i64 (l.length : Int), .int .i64 0]) (by unfold MV.val; simp [results, Tryz.results8, go_sem, k0, k1, k2, k3, k4]) rfl ?_
        exact par_end (n := l.length) (by rw [HPV.out]) (vown_le HVx.out (by omega)) fr_put5 HBx.out HR.out (Nat.le_refl _)
      · have q0 : (q.e != 0) = true := by rw [bne_iff_ne]; exact he
        have HR : Hid (parseP l = (pv0, q.i, q.e)) := Lib.hid (by rw [HPQ.out]; simp [he])
        have HS0 : Hid ((fun V => Blk V (w.heap.size + 1) 45 #[.string s, .int .i64 q.i, .int .i64 q.c, .int .i64 q.e] ∧ Blk V w.heap.size 25 #[.int .i64 0, .int .i64 0, .string ⟨#[]⟩, .slice none 0 0, .slice none 0 0]) wq.drew) := Lib.hid ⟨HPx.out.blk, HKx.out⟩
        go_wp2_with fail
        refine wp_region_held_drew (S := fun V => Blk V (w.heap.size + 1) 45 #[.string s, .int .i64 q.i, .int .i64 q.c, .int .i64 q.e] ∧ Blk V w.heap.size 25 #[.int .i64 0, .int .i64 0, .string ⟨#[]⟩, .slice none 0 0, .slice none 0 0]) (by kernel_rfl) (HS0.out) (fun hS1 => ?_)
        obtain ⟨WD, hWD⟩ : ∃ WD, WD = wq.drew := ⟨_, rfl⟩
        rw [← hWD] at hS1 ⊢
        have HBD : Hid (Below wq.heap.size wq WD) := Lib.hid (by rw [hWD]; exact (Below.refl _ _).drew)
        have HSB := Lib.hid hS1
        have HSS : Hid ((fun V => Blk V (w.heap.size + 1) 45 #[.string s, .int .i64 q.i, .int .i64 q.c, .int .i64 q.e] ∧ Blk V w.heap.size 25 #[.int .i64 0, .int .i64 0, .string ⟨#[]⟩, .slice none 0 0, .slice none 0 0]) ((((((WD.setCell ⟨w.heap.size, 0, none⟩ (.int .i64 0)).setCell ⟨w.heap.size, 1, none⟩ (.int .i64 0)).setCell ⟨w.heap.size, 2, none⟩ (.string ⟨#[]⟩)).setCell ⟨w.heap.size, 3, none⟩ (.slice none 0 0)).setCell ⟨w.heap.size, 4, none⟩ (.slice none 0 0)))) := Lib.hid (par_ss hS1.1 hS1.2)
        clear hWD
        refine wpAnyH_take (i := 0) (oi := ⟨some 31, _, _, _, _, _⟩) (v := .agg #[.int .i64 0, .int .i64 0, .string ⟨#[]⟩, .slice none 0 0, .slice none 0 0]) rfl (by kernel_rfl) (by kernel_rfl) (by kernel_rfl) (fun _ _ _ h => h) (.inl ⟨by kernel_rfl, fun V hS => by go_simp⟩) hS1 ?_
        simp only [Act.put, List.setIfInBounds_toArray, List.set_cons_zero, List.set_cons_succ]
        refine wpAnyH_take (i := 1) (oi := ⟨some 32, _, _, _, _, _⟩) (v := .pointer (some ⟨w.heap.size + 1, 0, none⟩)) rfl (by kernel_rfl) (by kernel_rfl) (by kernel_rfl) (fun _ _ _ h => h) (.inl ⟨by kernel_rfl, fun V hS => by go_simp⟩) hS1 ?_
        simp only [Act.put, List.setIfInBounds_toArray, List.set_cons_zero, List.set_cons_succ]
        refine wpAnyH_take (i := 2) (oi := ⟨some 33, _, _, _, _, _⟩) (v := .pointer (some ⟨w.heap.size + 1, 0, none⟩)) rfl (by kernel_rfl) (by kernel_rfl) (by kernel_rfl) (fun _ _ _ h => h) (.inl ⟨by kernel_rfl, fun V hS => by go_simp⟩) hS1 ?_
        simp only [Act.put, List.setIfInBounds_toArray, List.set_cons_zero, List.set_cons_succ]
        refine wpAnyH_take (i := 3) (oi := ⟨some 34, _, _, _, _, _⟩) (v := .pointer (some ⟨w.heap.size + 1, 1, none⟩)) rfl (by kernel_rfl) (by kernel_rfl) (by kernel_rfl) (fun _ _ _ h => h) (.inl ⟨by kernel_rfl, fun V hS => by go_simp⟩) hS1 ?_
        simp only [Act.put, List.setIfInBounds_toArray, List.set_cons_zero, List.set_cons_succ]
        refine wpAnyH_take (i := 4) (oi := ⟨some 35, _, _, _, _, _⟩) (v := .int .i64 q.i) rfl (by kernel_rfl) (by kernel_rfl) (by kernel_rfl) (fun _ _ _ h => h) (.inl ⟨by kernel_rfl, fun V hS => by have sc := hS.1.cell 1; simp at sc; go_simp⟩) hS1 ?_
        simp only [Act.put, List.setIfInBounds_toArray, List.set_cons_zero, List.set_cons_succ]
        refine wpAnyH_take (i := 5) (oi := ⟨some 36, _, _, _, _, _⟩) (v := .pointer (some ⟨w.heap.size + 1, 0, none⟩)) rfl (by kernel_rfl) (by kernel_rfl) (by kernel_rfl) (fun _ _ _ h => h) (.inl ⟨by kernel_rfl, fun V hS => by go_simp⟩) hS1 ?_
        simp only [Act.put, List.setIfInBounds_toArray, List.set_cons_zero, List.set_cons_succ]
        refine wpAnyH_take (i := 6) (oi := ⟨some 37, _, _, _, _, _⟩) (v := .pointer (some ⟨w.heap.size + 1, 0, none⟩)) rfl (by kernel_rfl) (by kernel_rfl) (by kernel_rfl) (fun _ _ _ h => h) (.inl ⟨by kernel_rfl, fun V hS => by go_simp⟩) hS1 ?_
        simp only [Act.put, List.setIfInBounds_toArray, List.set_cons_zero, List.set_cons_succ]
        refine wpAnyH_take (i := 7) (oi := ⟨some 38, _, _, _, _, _⟩) (v := .pointer (some ⟨w.heap.size + 1, 3, none⟩)) rfl (by kernel_rfl) (by kernel_rfl) (by kernel_rfl) (fun _ _ _ h => h) (.inl ⟨by kernel_rfl, fun V hS => by go_simp⟩) hS1 ?_
        simp only [Act.put, List.setIfInBounds_toArray, List.set_cons_zero, List.set_cons_succ]
        refine wpAnyH_take (i := 8) (oi := ⟨some 39, _, _, _, _, _⟩) (v := .int .i64 q.e) rfl (by kernel_rfl) (by kernel_rfl) (by kernel_rfl) (fun _ _ _ h => h) (.inl ⟨by kernel_rfl, fun V hS => by have sc := hS.1.cell 3; simp at sc; go_simp⟩) hS1 ?_
        simp only [Act.put, List.setIfInBounds_toArray, List.set_cons_zero, List.set_cons_succ]
        refine wpAnyH_ready (rs := [9]) (by kernel_rfl) (by simp) ?_
        refine AllReadyH.cons rfl (fun K' hK => ?_) AllReadyH.nil
        have s0 := (HSB.out).2
        have y0 : WD.cell? ⟨w.heap.size, 0, none⟩ = some (.int .i64 0) := s0.cell 0
        have z0 : WD.frozen? ⟨w.heap.size, 0, none⟩ = false := s0.frozen 0
        have y1 : WD.cell? ⟨w.heap.size, 1, none⟩ = some (.int .i64 0) := s0.cell 1
        have z1 : WD.frozen? ⟨w.heap.size, 1, none⟩ = false := s0.frozen 1
        have y2 : WD.cell? ⟨w.heap.size, 2, none⟩ = some (.string ⟨#[]⟩) := s0.cell 2
        have z2 : WD.frozen? ⟨w.heap.size, 2, none⟩ = false := s0.frozen 2
        have y3 : WD.cell? ⟨w.heap.size, 3, none⟩ = some (.slice none 0 0) := s0.cell 3
        have z3 : WD.frozen? ⟨w.heap.size, 3, none⟩ = false := s0.frozen 3
        have y4 : WD.cell? ⟨w.heap.size, 4, none⟩ = some (.slice none 0 0) := s0.cell 4
        have z4 : WD.frozen? ⟨w.heap.size, 4, none⟩ = false := s0.frozen 4
        clear s0
        go_simp
        clear y0 y1 y2 y3 y4 z0 z1 z2 z3 z4
        refine hK.out _ _ (HSS.out) (fun hS2 => ?_)
        clear hK K' hS1
        refine wpAnyH_take (i := 10) (oi := ⟨some 3, _, _, _, _, _⟩) (v := .int .i64 q.i) rfl (by kernel_rfl) (by kernel_rfl) (by kernel_rfl) (fun _ _ _ h => h) (.inl ⟨by kernel_rfl, fun V hS => by go_simp⟩) hS2 ?_
        simp only [Act.put, List.setIfInBounds_toArray, List.set_cons_zero, List.set_cons_succ]
        refine wpAnyH_take (i := 11) (oi := ⟨some 4, _, _, _, _, _⟩) (v := .int .i64 q.e) rfl (by kernel_rfl) (by kernel_rfl) (by kernel_rfl) (fun _ _ _ h => h) (.inl ⟨by kernel_rfl, fun V hS => by go_simp⟩) hS2 ?_
        simp only [Act.put, List.setIfInBounds_toArray, List.set_cons_zero, List.set_cons_succ]
        refine wpAnyH_done (by kernel_rfl) ?_ _
        have HFK := Lib.hid (HSS.out.2)
        go_wp2
        have k0 := HFK.out.cell 0
        have k1 := HFK.out.cell 1
        have k2 := HFK.out.cell 2
        have k3 := HFK.out.cell 3
        have k4 := HFK.out.cell 4
        simp at k0 k1 k2 k3 k4
        refine bodyPost_ret (v := .tuple #[(fl 0 0 ⟨#[]⟩).val, .int .i64 (q.i : Int), .int .i64 q.e]) (by rw [fl_val]; simp [results, Tryz.results8, go_sem, k0, k1, k2, k3, k4]) rfl ?_
        exact par_end (n := q.i) rfl (fl_own _ WD rfl rfl) fr_put5 (HBx.out.trans (HBD.out.mono HBx.out.size)) HR.out (by have := HPx.out.pi; have := HSS0.out; omega)
end Go.Proofs.YteofdpogjnojnaaGreatDoor
