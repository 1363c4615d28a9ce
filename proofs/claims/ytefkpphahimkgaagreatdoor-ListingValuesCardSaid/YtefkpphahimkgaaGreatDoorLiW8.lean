/-
 listing.May.
-/
import Derived.Test.YtefkpphahimkgaaGreatDoorTk
import Derived.Test.YtefkpphahimkgaaGreatDoorLiV2
import Derived.Test.YtefkpphahimkgaaGreatDoorLiW3
import Derived.Test.YtefkpphahimkgaaGreatDoorLiW5
namespace Go.Proofs.YtefkpphahimkgaaGreatDoor
open Go.RowKit
attribute [local go_sem ↓] Go.wp_at_zero Go.wp_at_succ
set_option linter.unusedVariables false
set_option linter.unusedSimpArgs false
theorem may_head {kind : ByteArray} {v e : Int} {l : List ME} (h : headOk kind v e = false) : mayL kind v e l = false := by
 by_cases h1 : kind = tsN
 ·refine may_v (fun hb => ?_)
  unfold headOk mayB at h
  rw [decide_eq_true (show 0 ≤ e ∧ e ≤ 253402300799 from ⟨hb.2.2.1, hb.2.2.2⟩), decide_eq_true hb.1, decide_eq_true hb.2.1, h1] at h
  revert h
  decide
 ·by_cases h2 : kind = ssN
  ·refine may_v (fun hb => ?_)
   unfold headOk mayB at h
   rw [decide_eq_true (show 0 ≤ e ∧ e ≤ 253402300799 from ⟨hb.2.2.1, hb.2.2.2⟩), decide_eq_true hb.1, decide_eq_true hb.2.1, h2] at h
   revert h
   decide
  ·exact may_k h1 h2
theorem may_ris {kind : ByteArray} {v e : Int} {l : List ME} (h : risB l = false) : mayL kind v e l = false := by
 unfold mayL
 rw [h]
 simp
theorem head_bd {kind : ByteArray} {v e : Int} (h : headOk kind v e = true) : 1 ≤ v ∧ v ≤ 1099511627776 ∧ 0 ≤ e ∧ e ≤ 253402300799 := by
 unfold headOk mayB at h
 simp only [Bool.and_eq_true, decide_eq_true_eq] at h
 exact ⟨h.2.1, h.2.2.1, h.1.1, h.1.2⟩
theorem head_k {w : World} (kind : ByteArray) (v e0 : Int) (ht : tabU w) (hp : tabP w) : Calls Tryz.prog 29 #[.string kind, .int .i64 v, .int .i64 e0] w fun r w' => ∃ x : MV, r = .returned (.agg #[.int .i64 x.k, .int .i64 x.n, .string x.s, .slice x.lA x.l.length x.lc, .slice x.mA x.m.length x.mc]) ∧ x.k = (if headOk kind v e0 then 6 else 0) ∧ Below w.heap.size w w' := by
 have hk : ∀ x : MV, x.pv = .mk x.k x.n x.s (MV.pvL x.l) (x.m.map MV.key) (MV.pvL x.m) := fun x => by cases x; rfl
 cases h : headOk kind v e0 with
 | false =>
  refine (headValue_no kind v e0 ht hp h).mono ?_
  rintro r w' ⟨x, rfl, hpv, hvo, hb⟩
  rw [hk x] at hpv
  injection hpv with h1
  exact ⟨x, rfl, by rw [h1]; rfl, hb⟩
 | true =>
  obtain ⟨tx, hd⟩ := DT.ex (e := e0) (by
   unfold headOk at h
   simp only [Bool.and_eq_true] at h
   exact h.1)
  refine (headValue_yes kind v e0 tx ht hp hd h).mono ?_
  rintro r w' ⟨x, rfl, hpv, hvo, hb⟩
  rw [hk x] at hpv
  injection hpv with h1
  exact ⟨x, rfl, by rw [h1]; rfl, hb⟩
set_option maxRecDepth 100000 in
set_option maxHeartbeats 8000000 in
theorem may_any15 {w : World} (ht : tabU w) (hp : tabP w) (kind : ByteArray) (v e0 : Int) {A : Option Addr} {c : Nat} {l : List ME} (h : MAt w A c l) :
  Calls Tryz.prog 10 #[.string kind, .agg #[.int .i64 v, .int .i64 e0, .slice A l.length c]] w fun e w' => PFb (BoP (mayL kind v e0 l) w) e w' := by
 obtain ⟨r, hr⟩ : ∃ r, r = mayL kind v e0 l := ⟨_, rfl⟩
 rw [← hr]
 have HR := Ld hr
 obtain ⟨n, hn⟩ : ∃ n, n = l.length := ⟨_, rfl⟩
 have hbig : n ≤ 9223372036854775807 := by have h1 := h.cap; have h2 := h.mx; unfold maxLen at h2; omega
 obtain ⟨W1, hW1⟩ : ∃ W1, W1 = w.alloc (.cells #[.int .i64 v, .int .i64 e0, .slice A n c] 24) := ⟨_, rfl⟩
 have hb1 : Below w.heap.size w W1 := by rw [hW1]; exact (Below.refl _ _).alloc (Nat.le_refl _) _
 have hk1 : Blk W1 w.heap.size 24 #[.int .i64 v, .int .i64 e0, .slice A n c] := by rw [hW1]; exact Blk.new _ _ _
 have hhd := head_k kind v e0 (ht.below hb1) (hp.below hb1)
 have hri := fun V (hV : Below w.heap.size w V) => rising_any (h.bel hV)
 rw [← hn] at hri ⊢
 have HHD := Ld hhd
 have HRI := Ld hri
 have HF := Ld h
 have HN : Hid (l.length = n) := Ld hn.symm
 have HB1 := Ld hb1
 have HK1 := Ld hk1
 have HW1 := Ld hW1
 have RF : ∀ (v0 v1 v2 v3 v4 : Value) W, (Instr.field 30 (.agg #[v0, v1, v2, v3, v4]) 0).run Tryz.prog W = .ok v0 W := fun v0 v1 v2 v3 v4 W => rfl
 clear hr hn hW1 hb1 hk1 hhd hri h ht hp
 go_enter Tryz.func10, Tryz.ntmps10
 go_wp2_with fail
 rw [← HW1.out]
 refine HHD.out.mono ?_
 rintro e w2 ⟨x, rfl, hxk, hb2⟩
 have HB2 : Hid (Below w.heap.size w w2) := Ld (HB1.out.trans (hb2.mono HB1.out.size))
 have HK2 := Ld (HK1.out.below hb2 HK1.out.lt)
 clear hb2
 cases hh : headOk kind v e0 with
 | false =>
  rw [hh] at hxk
  have q1 : (x.k == 0) = true := by rw [hxk]; rfl
  have HI : Hid (r = false) := Ld (by rw [HR.out]; exact may_head hh)
  clear hxk hh
  go_wp2
  go_ret
  exact ⟨by rw [HI.out]; rfl, HB2.out⟩
 | true =>
  rw [hh] at hxk
  have q1 : (x.k == 0) = false := by rw [hxk]; rfl
  have HBD := Ld (head_bd hh)
  clear hxk hh
  have b2 := HK2.out.cell 2
  simp only [gz] at b2
  cases hri : risB l with
  | false =>
   have HI : Hid (r = false) := Ld (by rw [HR.out]; exact may_ris hri)
   rw [hri] at HRI
   clear hri
   go_wp2_with fail
   refine (HRI.out _ HB2.out).mono ?_
   rintro e w3 ⟨rfl, hb3⟩
   go_wp2
   go_ret
   exact ⟨by rw [HI.out]; rfl, HB2.out.trans (hb3.mono HB2.out.size)⟩
  | true =>
   have HM : Hid (r = ((decide (kind = tsN) && (decide (n = 1) && l.all (fun m => decide (m.name = ssJ)))) || (decide (kind = ssN) && (l.any (fun m => decide (m.name = tgJ)) && l.all (fun m => sufJ m.name))))) := Ld (by
    rw [HR.out, may_of HBD.out.1 HBD.out.2.1 HBD.out.2.2.1 HBD.out.2.2.2, hri, HN.out]
    rfl)
   rw [hri] at HRI
   clear hri
   go_wp2_with fail
   refine (HRI.out _ HB2.out).mono ?_
   rintro e w3 ⟨rfl, hb3⟩
   have HB3 : Hid (Below w.heap.size w w3) := Ld (HB2.out.trans (hb3.mono HB2.out.size))
   have hk3 := HK2.out.below hb3 HK2.out.lt
   have b0 := hk3.cell 0
   have b1 := hk3.cell 1
   have b3 := hk3.cell 2
   simp only [gz] at b0 b1 b3
   have HK3 := Ld hk3
   clear hb3 hk3 b2
   by_cases hts : kind = tsN
   ·have kp : kind.toList = [116, 105, 109, 101, 115, 116, 97, 109, 112] := by rw [hts, tsN, ByteArray.toList_eq]
    have HM2 : Hid (r = (decide (n = 1) && l.all (fun m => decide (m.name = ssJ)))) := Ld (by
     rw [HM.out, decide_eq_true hts, decide_eq_false (show ¬ kind = ssN from fun e => ts_ne_ss (hts.symm.trans e))]
     simp)
    clear hts
    by_cases hn1 : n = 1
    ·have u1 : ((n : Int) == 1) = true := by rw [hn1]; rfl
     have u2 : (n == 1) = true := by rw [hn1]; rfl
     have HL1 : Hid (l.length = 1) := Ld (by rw [HN.out]; exact hn1)
     have hl1 : 0 < l.length := by rw [HN.out]; omega
     obtain ⟨b, o, hA, hb, c0, -, -, -⟩ := (HF.out.bel HB3.out).four hl1
     subst hA
     obtain ⟨y, hy⟩ : ∃ y, y = l[0] := ⟨_, rfl⟩
     rw [← hy, Nat.zero_mul, Nat.add_zero] at c0
     have g8 := nm_beq y.name ⟨#[115, 110, 97, 112, 115, 104, 111, 116, 46, 106, 115, 111, 110]⟩
     have HE2 : Hid (r = decide (y.name = ⟨#[115, 110, 97, 112, 115, 104, 111, 116, 46, 106, 115, 111, 110]⟩)) := Ld (by
      rw [HM2.out, hn1]
      have : l = [y] := by
       match hq : l, HL1.out with
       | [z], _ => rw [hy]; rfl
      rw [this]
      simp only [List.all_cons, List.all_nil, Bool.and_true, decide_true, Bool.true_and]
      rfl)
     obtain ⟨g, hg⟩ : ∃ g, g = decide (y.name = ⟨#[115, 110, 97, 112, 115, 104, 111, 116, 46, 106, 115, 111, 110]⟩) := ⟨_, rfl⟩
     rw [← hg] at g8 HE2
     rw [show ({ data := #[115, 110, 97, 112, 115, 104, 111, 116, 46, 106, 115, 111, 110] } : ByteArray).toList = [115, 110, 97, 112, 115, 104, 111, 116, 46, 106, 115, 111, 110] by rw [ByteArray.toList_eq]] at g8
     have g7 : decide (y.name.toList = [115, 110, 97, 112, 115, 104, 111, 116, 46, 106, 115, 111, 110]) = g := by rw [← g8]; exact (leq_dec _ _).symm
     have hn0 : (0 : Int) < (n : Int) := by omega
     clear hg hy hn1 hb
     go_wp2
     go_ret
     exact ⟨by rw [HE2.out]; rfl, HB3.out⟩
    ·have u1 : ((n : Int) == 1) = false := by rw [beq_eq_false_iff_ne]; omega
     have u2 : (n == 1) = false := by rw [beq_eq_false_iff_ne]; omega
     have HE2 : Hid (r = false) := Ld (by rw [HM2.out, decide_eq_false hn1]; rfl)
     clear hn1
     go_wp2
     go_ret
     exact ⟨by rw [HE2.out]; rfl, HB3.out⟩
   ·by_cases hss : kind = ssN
    ·have kp : kind.toList = [115, 110, 97, 112, 115, 104, 111, 116] := by rw [hss, ssN, ByteArray.toList_eq]
     have HM2 : Hid (r = (l.any (fun m => decide (m.name = tgJ)) && l.all (fun m => sufJ m.name))) := Ld (by
      rw [HM.out, decide_eq_false hts, decide_eq_true hss]
      simp)
     have hfi := find_any v e0 (HF.out.bel HB3.out) tgJ
     rw [HN.out] at hfi
     have HFI := Ld hfi
     clear hts hss hfi
     go_wp2_with fail
     refine HFI.out.mono ?_
     rintro e w4 ⟨y, bf, rfl, hb4, hfy⟩
     unfold ME.val
     have hb5 : Below w4.heap.size w4 (w4.alloc (.cells #[.string y.name, .int .i64 y.ver, .int .i64 y.len, .string y.hash] 44)) := (Below.refl _ _).alloc (Nat.le_refl _) _
     have hb45 : Below w3.heap.size w3 (w4.alloc (.cells #[.string y.name, .int .i64 y.ver, .int .i64 y.len, .string y.hash] 44)) := hb4.trans (hb5.mono hb4.size)
     have HB5 := Ld (HB3.out.trans (hb45.mono HB3.out.size))
     have hk5 := HK3.out.below hb45 HK3.out.lt
     have hany : bf = l.any (fun m => decide (m.name = tgJ)) := by
      rcases hfy with ⟨rfl, -, hfn⟩ | ⟨rfl, hfs⟩
      ·symm
       rw [← Bool.not_eq_true, List.any_eq_true]
       rintro ⟨z, hz, hzn⟩
       have := List.find?_eq_none.1 hfn z hz
       exact this hzn
      ·symm
       rw [List.any_eq_true]
       have h9 := hfs
       unfold findL at h9
       have h8 := List.find?_some (p := fun m : ME => decide (m.name = tgJ)) h9
       exact ⟨y, List.mem_of_find?_eq_some h9, h8⟩
     have hct := containsE_any 32 #[] (fun _ _ => by kernel_rfl) A n c l (w4.alloc (.cells #[.string y.name, .int .i64 y.ver, .int .i64 y.len, .string y.hash] 44)) (fun m => !sufJ m.name) (HF.out.bel HB5.out) HN.out (fun k hk V hV => by
      have := may1_any l[k] V (HF.out.sz _ (List.getElem_mem hk)).1
      simpa using this)
     have hall : (l.any fun m => !sufJ m.name) = !l.all (fun m => sufJ m.name) := by rw [List.not_all_eq_any_not]
     rw [hall] at hct
     rw [← hany] at HM2
     clear hany hall hfy hb4 hb5 hb45
     cases bf with
     | false =>
      have HE2 : Hid (r = false) := Ld (by rw [HM2.out]; rfl)
      clear hct hk5
      go_wp2
      go_ret
      exact ⟨by rw [HE2.out]; rfl, HB5.out⟩
     | true =>
      have HE2 : Hid (r = l.all (fun m => sufJ m.name)) := Ld (by rw [HM2.out]; rfl)
      obtain ⟨al, hal⟩ : ∃ al, al = l.all (fun m => sufJ m.name) := ⟨_, rfl⟩
      rw [← hal] at hct HE2
      have HCT := Ld hct
      have y2 := hk5.cell 2
      simp only [gz] at y2
      clear hct hk5 hal
      go_wp2_with fail
      refine HCT.out.mono ?_
      rintro e w6 ⟨rfl, hb6⟩
      cases al with
      | false =>
       go_wp2
       go_ret
       exact ⟨by rw [HE2.out]; rfl, HB5.out.trans (hb6.mono HB5.out.size)⟩
      | true =>
       go_wp2
       go_ret
       exact ⟨by rw [HE2.out]; rfl, HB5.out.trans (hb6.mono HB5.out.size)⟩
    ·have HE2 : Hid (r = false) := Ld (by rw [HM.out, decide_eq_false hts, decide_eq_false hss]; rfl)
     have k1 : ¬ kind.toList = [116, 105, 109, 101, 115, 116, 97, 109, 112] := fun e => hts (toList_injV (e.trans (by rw [tsN, ByteArray.toList_eq])))
     have k2 : ¬ kind.toList = [115, 110, 97, 112, 115, 104, 111, 116] := fun e => hss (toList_injV (e.trans (by rw [ssN, ByteArray.toList_eq])))
     have k3 : (kind.toList == [116, 105, 109, 101, 115, 116, 97, 109, 112]) = false := beq_eq_false_iff_ne.2 k1
     have k4 : (kind.toList == [115, 110, 97, 112, 115, 104, 111, 116]) = false := beq_eq_false_iff_ne.2 k2
     have k5 : decide (kind.toList = [116, 105, 109, 101, 115, 116, 97, 109, 112]) = false := decide_eq_false k1
     have k6 : decide (kind.toList = [115, 110, 97, 112, 115, 104, 111, 116]) = false := decide_eq_false k2
     clear hts hss
     go_wp2
     go_ret
     exact ⟨by rw [HE2.out]; rfl, HB3.out⟩
end Go.Proofs.YtefkpphahimkgaaGreatDoor
