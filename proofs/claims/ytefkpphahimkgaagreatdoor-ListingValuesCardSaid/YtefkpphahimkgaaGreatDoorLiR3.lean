/-
 role.ReadHead of a listing's value.
-/
import Derived.Test.YtefkpphahimkgaaGreatDoorTk
import Derived.Test.YtefkpphahimkgaaGreatDoorLiR2
namespace Go.Proofs.YtefkpphahimkgaaGreatDoor
open Go.RowKit
attribute [local go_sem ↓] Go.wp_at_zero Go.wp_at_succ
set_option linter.unusedVariables false
set_option linter.unusedSimpArgs false
theorem look_ty (kd : ByteArray) (n : Int) (tx : ByteArray) (l : List ME) : (valP kd n tx l).look tyK = some (txV kd) := rfl
theorem look_sp (kd : ByteArray) (n : Int) (tx : ByteArray) (l : List ME) : (valP kd n tx l).look spK = some (txV spT) := rfl
theorem look_ve (kd : ByteArray) (n : Int) (tx : ByteArray) (l : List ME) : (valP kd n tx l).look veK = some (inV n) := rfl
theorem look_ex (kd : ByteArray) (n : Int) (tx : ByteArray) (l : List ME) : (valP kd n tx l).look exK = some (txV tx) := rfl
theorem look_me (kd : ByteArray) (n : Int) (tx : ByteArray) (l : List ME) : (valP kd n tx l).look meK = some (metaL l) := rfl
theorem cnt_val {kd : ByteArray} {n : Int} {tx : ByteArray} {l : List ME} (h : l.length ≤ 64) : (valP kd n tx l).cnt ≤ 3000 := by
 have := cnt_meta l
 simp only [valP, mpV, PV.cnt, PV.cntL, txV, inV]
 omega
def RhP (n e : Int) (b : Bool) (w : World) (r : Ending) (w' : World) : Prop := r = .returned (if b then .tuple #[.int .i64 n, .int .i64 e, .int .i64 0] else .tuple #[.int .i64 0, .int .i64 0, .int .i64 130]) ∧ Below w.heap.size w w'
set_option maxRecDepth 100000 in
set_option maxHeartbeats 8000000 in
theorem readHead_any {v : MV} {w : World} (ht : tabM w) (h : VAt w v) (kd kind : ByteArray) (n e : Int) (tx : ByteArray) (l : List ME) (hpv : v.pv = valP kd n tx l) (hl : l.length ≤ 64) (hkd : kd.size ≤ 64) (h1 : 1 ≤ n) (h2 : n ≤ 1099511627776) (hd : DT e tx) :
  Calls Tryz.prog 41 #[v.val, .string kind] w fun r w' => PF (RhP n e (decide (kd = kind)) w) r w' := by
 obtain ⟨W1, hW1⟩ : ∃ W1, W1 = w.alloc (.cells #[.int .i64 v.k, .int .i64 v.n, .string v.s, .slice v.lA v.l.length v.lc, .slice v.mA v.m.length v.mc] 30) := ⟨_, rfl⟩
 have hb1 : Below w.heap.size w W1 := by rw [hW1]; exact below_new _ _
 have hx1 : Blk W1 w.heap.size 30 #[.int .i64 v.k, .int .i64 v.n, .string v.s, .slice v.lA v.l.length v.lc, .slice v.mA v.m.length v.mc] := by rw [hW1]; exact Blk.new _ _ _
 obtain ⟨t0, t1, t2, t3, t4⟩ := five_cells hx1
 have hk : (v.k != 6) = false := by rw [← pv_kd, hpv]; rfl
 have hfit : FitV v := fit_cnt (by rw [hpv]; exact cnt_val hl)
 have hof := fof_any (h.bel hb1)
 unfold MV.val at hof
 have HOF := Ld hof
 have HW1 := Ld hW1
 have HT1 := Ld (ht.below hb1)
 have HB1 := Ld hb1
 have HKK := Ld hk
 have HFI := Ld hfit
 have HPV := Ld hpv
 have HN := Ld (And.intro h1 h2)
 have HKD := Ld hkd
 have HD := Ld hd
 clear hW1 hb1 hx1 hk hfit hof ht h hpv hl hkd h1 h2 hd
 obtain ⟨c, hc⟩ : ∃ c, c = decide (kd = kind) := ⟨_, rfl⟩
 rw [← hc]
 have HC := Ld hc
 clear hc
 unfold MV.val
 go_enter Tryz.func41, Tryz.ntmps41
 go_upto_region 1 with (fail)
 rw [← HW1.out]
 go_wp2_with fail
 refine HOF.out.mono ?_
 rintro r w2 ⟨F, rfl, hF, hfa, hb2⟩
 rw [HKK.out] at hfa
 have HFA := Ld hfa
 have HB2 := Ld (HB1.out.trans (hb2.mono HB1.out.size))
 have HT2 := Ld (HT1.out.below hb2)
 clear hb2 hfa hF t0 t1 t2 t3 t4
 go_wp2_with fail
 refine (ftext_any HFA.out HFI.out tyK kd 64 (by rw [HPV.out]; exact look_ty ..) (by have := HKD.out; omega)).mono ?_
 rintro r w3 ⟨rfl, hb3⟩
 have HFA3 := Ld (HFA.out.bel hb3)
 have HB3 := Ld (HB2.out.trans (hb3.mono HB2.out.size))
 have HT3 := Ld (HT2.out.below hb3)
 clear hb3
 go_wp2_with fail
 refine (ftext_any HFA3.out HFI.out spK spT 64 (by rw [HPV.out]; exact look_sp ..) (by decide)).mono ?_
 rintro r w4 ⟨rfl, hb4⟩
 have HFA4 := Ld (HFA3.out.bel hb4)
 have HB4 := Ld (HB3.out.trans (hb4.mono HB3.out.size))
 have HT4 := Ld (HT3.out.below hb4)
 clear hb4
 go_wp2_with fail
 refine (fint_any HFA4.out HFI.out veK n 1 1099511627776 (by rw [HPV.out]; exact look_ve ..) HN.out.1 HN.out.2).mono ?_
 rintro r w5 ⟨rfl, hb5⟩
 have HFA5 := Ld (HFA4.out.bel hb5)
 have HB5 := Ld (HB4.out.trans (hb5.mono HB4.out.size))
 have HT5 := Ld (HT4.out.below hb5)
 clear hb5
 go_wp2_with fail
 refine (ftext_any HFA5.out HFI.out exK tx 64 (by rw [HPV.out]; exact look_ex ..) (by rw [HD.out.size]; decide)).mono ?_
 rintro r w6 ⟨rfl, hb6⟩
 have HFA6 := Ld (HFA5.out.bel hb6)
 have HB6 := Ld (HB5.out.trans (hb6.mono HB5.out.size))
 have HT6 := Ld (HT5.out.below hb6)
 clear hb6
 go_wp2_with fail
 refine (HD.out.parse w6).mono ?_
 rintro r w7 ⟨rfl, hb7⟩
 have HFA7 := Ld (HFA6.out.bel hb7)
 have HB7 := Ld (HB6.out.trans (hb7.mono HB6.out.size))
 have HT7 := Ld (HT6.out.below hb7)
 clear hb7
 go_wp2_with fail
 refine (fdone_any HFA7.out).mono ?_
 rintro r w8 ⟨rfl, hb8⟩
 have HB8 := Ld (HB7.out.trans (hb8.mono HB7.out.size))
 have HT8 := Ld (HT7.out.below hb8)
 clear hb8
 by_cases hkk : kd = kind
 ·have HI : Hid (c = true) := Ld (by rw [HC.out]; exact decide_eq_true hkk)
  have d1 : (kd.toList == kind.toList) = true := by rw [hkk]; exact beq_self_eq_true _
  have d2 : (kd.toList != kind.toList) = false := by rw [bne, d1]; rfl
  have d3 : decide (kd.toList = kind.toList) = true := by rw [hkk]; exact decide_eq_true rfl
  have d4 : kd.toList = kind.toList := by rw [hkk]
  clear hkk
  go_wp2_with fail
  refine (understood_any HT8.out).mono ?_
  rintro r w9 ⟨rfl, hb9⟩
  have HB9 := Ld (HB8.out.trans (hb9.mono HB8.out.size))
  clear hb9
  go_wp2
  refine bodyPost_ret (v := .tuple #[.int .i64 n, .int .i64 e, .int .i64 0]) (by simp [results, Tryz.results41, go_sem]) rfl ?_
  exact ⟨by rw [HI.out]; rfl, HB9.out⟩
 ·have HI : Hid (c = false) := Ld (by rw [HC.out]; exact decide_eq_false hkk)
  have d4 : ¬ kd.toList = kind.toList := fun e => hkk (toList_injV e)
  have d1 : (kd.toList == kind.toList) = false := beq_eq_false_iff_ne.2 d4
  have d2 : (kd.toList != kind.toList) = true := by rw [bne, d1]; rfl
  have d3 : decide (kd.toList = kind.toList) = false := decide_eq_false d4
  clear hkk
  go_wp2
  refine bodyPost_ret (v := .tuple #[.int .i64 0, .int .i64 0, .int .i64 130]) (by simp [results, Tryz.results41, go_sem]) rfl ?_
  exact ⟨by rw [HI.out]; rfl, HB8.out⟩
end Go.Proofs.YtefkpphahimkgaaGreatDoor
