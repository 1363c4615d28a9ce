/-
 role.Fields.
-/
import Derived.Test.YtefkpphahimkgaaGreatDoorTk
import Derived.Test.YtefkpphahimkgaaGreatDoorLiV4
import Derived.Test.YtefkpphahimkgaaGreatDoorGG
namespace Go.Proofs.YtefkpphahimkgaaGreatDoor
open Go.RowKit
attribute [local go_sem ↓] Go.wp_at_zero Go.wp_at_succ
set_option linter.unusedVariables false
set_option linter.unusedSimpArgs false
def lookL : List ByteArray → List PV → ByteArray → Option PV
 | k :: ks, p :: ps, key => if k = key then some p else lookL ks ps key
 | _, _, _ => none
def PV.look (p : PV) (key : ByteArray) : Option PV := match p with | .mk k _ _ _ ks ps => if k = 6 then lookL ks ps key else none
theorem look_map : ∀ (m : List MV) (key : ByteArray), lookL (m.map MV.key) (MV.pvL m) key = (m.find? (fun x : MV => decide (x.key = key))).map MV.pv
 | [], _ => rfl
 | v :: r, key => by
  rw [List.map_cons, MV.pvL, lookL, look_map r key, List.find?_cons]
  by_cases h : v.key = key
  ·rw [if_pos h, decide_eq_true h]; rfl
  ·rw [if_neg h, decide_eq_false h]
theorem look_at {v : MV} {key : ByteArray} : (atV v key = -1 → v.pv.look key = none) ∧ (∀ i (h : i < v.m.length), atV v key = i → v.pv.look key = some v.m[i].pv) := by
 have hl : v.pv.look key = if v.k = 6 then lookL (v.m.map MV.key) (MV.pvL v.m) key else none := by cases v; rfl
 rw [hl]
 unfold atV
 by_cases hk : v.k = 6
 ·rw [if_pos hk, if_pos hk, look_map]
  rcases idxG_split (fun x : MV => decide (x.key = key)) v.m with ⟨h1, h2⟩ | ⟨i, hi, h1, h2, h3⟩
  ·rw [h1]
   refine ⟨fun _ => ?_, fun i hi h => by omega⟩
   rw [List.find?_eq_none.2 (fun x hx => by
    obtain ⟨j, hj, rfl⟩ := List.getElem_of_mem hx
    rw [h2 j hj]; simp)]
   rfl
  ·rw [h1]
   refine ⟨fun h => by omega, fun j hj h => ?_⟩
   obtain rfl : i = j := by omega
   have : v.m.find? (fun x : MV => decide (x.key = key)) = some v.m[i] := by
    rw [List.find?_eq_some_iff_getElem]
    exact ⟨h2, i, hi, rfl, fun j hj => by rw [h3 j (by omega) hj]; rfl⟩
   rw [this]; rfl
 ·rw [if_neg hk, if_neg hk]
  exact ⟨fun _ => rfl, fun i hi h => by omega⟩
theorem getp_pv {v : MV} {key : ByteArray} {w w' : World} {e : Ending} (h : GetP v key w e w') : ∃ (v' : MV) (b : Bool), e = .returned (.tuple #[v'.val, .bool b]) ∧ VOwn w.heap.size w' v' ∧ Below w.heap.size w w' ∧ b = (v.pv.look key).isSome ∧ v'.pv = (v.pv.look key).getD PV.none_ := by
 obtain ⟨v', b, rfl, ho, hb, h⟩ := h
 refine ⟨v', b, rfl, ho, hb, ?_⟩
 rcases h with ⟨rfl, h1, h2⟩ | ⟨rfl, i, hi, h1, h2⟩
 ·rw [look_at.1 h1]; exact ⟨rfl, h2⟩
 ·rw [look_at.2 i hi h1]; exact ⟨rfl, h2⟩
structure FAt (w : World) (F : Nat) (v : MV) (b : Bool) : Prop where
 blk : Blk w F 119 #[.int .i64 v.k, .int .i64 v.n, .string v.s, .slice v.lA v.l.length v.lc, .slice v.mA v.m.length v.mc, .bool b]
 at_ : VAt w v
theorem FAt.bel {w w' : World} {F : Nat} {v : MV} {b : Bool} (h : FAt w F v b) (hb : Below w.heap.size w w') : FAt w' F v b := ⟨h.blk.below hb h.blk.lt, h.at_.bel hb⟩
theorem six_cells {w : World} {F : Nat} {t : TypeId} {a b c d e f : Value} (h : Blk w F t #[a, b, c, d, e, f]) : w.cell? ⟨F, 0, none⟩ = some a ∧ w.cell? ⟨F, 1, none⟩ = some b ∧ w.cell? ⟨F, 2, none⟩ = some c ∧ w.cell? ⟨F, 3, none⟩ = some d ∧ w.cell? ⟨F, 4, none⟩ = some e ∧ w.cell? ⟨F, 5, none⟩ = some f :=
 ⟨h.cell 0, h.cell 1, h.cell 2, h.cell 3, h.cell 4, h.cell 5⟩
def FOfP (v : MV) (w : World) (e : Ending) (w' : World) : Prop := ∃ F, e = .returned (.pointer (some ⟨F, 0, none⟩)) ∧ w.heap.size ≤ F ∧ FAt w' F v (v.k != 6) ∧ Below w.heap.size w w'
set_option maxHeartbeats 2000000 in
theorem fof_any {v : MV} {w : World} (h : VAt w v) : Calls Tryz.prog 42 #[v.val] w fun e w' => PF (FOfP v w) e w' := by
 obtain ⟨W1, hW1⟩ : ∃ W1, W1 = w.alloc (.cells #[.int .i64 v.k, .int .i64 v.n, .string v.s, .slice v.lA v.l.length v.lc, .slice v.mA v.m.length v.mc] 30) := ⟨_, rfl⟩
 have hb1 : Below w.heap.size w W1 := by rw [hW1]; exact below_new _ _
 have hs1 : W1.heap.size = w.heap.size + 1 := by rw [hW1]; simp
 have hx1 : Blk W1 w.heap.size 30 #[.int .i64 v.k, .int .i64 v.n, .string v.s, .slice v.lA v.l.length v.lc, .slice v.mA v.m.length v.mc] := by rw [hW1]; exact Blk.new _ _ _
 obtain ⟨t0, t1, t2, t3, t4⟩ := five_cells hx1
 have HW1 := Ld hW1
 have HV := Ld (h.bel hb1)
 have HB1 := Ld hb1
 have HS1 := Ld hs1
 clear hW1 h hb1 hs1
 unfold MV.val
 go_enter Tryz.func42, Tryz.ntmps42
 go_wp2
 rw [← HW1.out]
 refine bodyPost_ret (v := .pointer (some ⟨w.heap.size + 1, 0, none⟩)) (by simp [results, Tryz.results42, go_sem]) rfl ?_
 rw [← HS1.out]
 exact ⟨_, rfl, HB1.out.size, ⟨Blk.new _ _ _, HV.out.bel (below_new _ _)⟩, HB1.out.trans ((below_new _ _).mono HB1.out.size)⟩
set_option maxHeartbeats 1000000 in
theorem fok_any {v : MV} {w : World} {F : Nat} {b : Bool} (h : FAt w F v b) : Calls Tryz.prog 92 #[.pointer (some ⟨F, 0, none⟩)] w fun e w' => e = .returned (.bool (!b)) ∧ Below w.heap.size w w' := by
 obtain ⟨t0, t1, t2, t3, t4, t5⟩ := six_cells h.blk
 clear h
 go_enter Tryz.func92, Tryz.ntmps92
 go_wp2
 refine bodyPost_ret (v := .bool (!b)) (by simp [results, Tryz.results92, go_sem]) rfl ?_
 exact ⟨rfl, Below.refl _ _⟩
set_option maxHeartbeats 1000000 in
theorem fdone_any {v : MV} {w : World} {F : Nat} (h : FAt w F v false) : Calls Tryz.prog 48 #[.pointer (some ⟨F, 0, none⟩)] w fun e w' => e = .returned (.int .i64 0) ∧ Below w.heap.size w w' := by
 have HF := Ld h
 clear h
 go_enter Tryz.func48, Tryz.ntmps48
 go_wp2_with fail
 refine (fok_any HF.out).mono ?_
 rintro e w1 ⟨rfl, hb1⟩
 have HB1 := Ld hb1
 clear hb1
 go_wp2
 refine bodyPost_ret (v := .int .i64 0) (by simp [results, Tryz.results48, go_sem]) rfl ?_
 exact ⟨rfl, HB1.out⟩
set_option maxHeartbeats 2000000 in
theorem fhas_any {v : MV} {w : World} {F : Nat} (h : FAt w F v false) (hf : FitV v) (key : ByteArray) : Calls Tryz.prog 88 #[.pointer (some ⟨F, 0, none⟩), .string key] w fun e w' => e = .returned (.bool (v.pv.look key).isSome) ∧ Below w.heap.size w w' := by
 obtain ⟨c, hc⟩ : ∃ c, c = (v.pv.look key).isSome := ⟨_, rfl⟩
 rw [← hc]
 have HC := Ld hc
 clear hc
 have HF := Ld h
 have HFi := Ld hf
 clear h hf
 go_enter Tryz.func88, Tryz.ntmps88
 go_wp2_with fail
 refine (fok_any HF.out).mono ?_
 rintro e w1 ⟨rfl, hb1⟩
 have HF1 := Ld (HF.out.bel hb1)
 have HB1 := Ld hb1
 clear hb1
 obtain ⟨t0, t1, t2, t3, t4, t5⟩ := six_cells HF1.out.blk
 go_wp2_with fail
 have hg := get_any HF1.out.at_ HFi.out key
 unfold MV.val at hg
 refine hg.mono ?_
 clear hg
 rintro e w2 h2
 obtain ⟨v', b, rfl, ho, hb2, hbb, hp⟩ := getp_pv h2
 rw [← HC.out] at hbb
 subst hbb
 have HB2 := Ld (HB1.out.trans (hb2.mono HB1.out.size))
 clear h2 hb2 hp ho t0 t1 t2 t3 t4 t5
 unfold MV.val
 go_wp2
 refine bodyPost_ret (v := .bool b) (by simp [results, Tryz.results88, go_sem]) rfl ?_
 exact ⟨rfl, HB2.out.alloc HB2.out.size _⟩
def PredV (g : Nat) (lb : Array Value) (w : World) (p : PV → Bool) : Prop :=
 ∀ (v : MV) (W : World), Below w.heap.size w W → Calls Tryz.prog g (#[.agg #[.int .i64 v.k, .int .i64 v.n, .string v.s, .slice v.lA v.l.length v.lc, .slice v.mA v.m.length v.mc]] ++ lb) W fun e w' => e = .returned (.bool (p v.pv)) ∧ Below W.heap.size W w'
def PV.kd : PV → Int | .mk k _ _ _ _ _ => k
def PV.num : PV → Int | .mk _ n _ _ _ _ => n
def PV.txt : PV → ByteArray | .mk _ _ s _ _ _ => s
theorem pv_kd (v : MV) : v.pv.kd = v.k := by cases v; rfl
theorem pv_num (v : MV) : v.pv.num = v.n := by cases v; rfl
theorem pv_txt (v : MV) : v.pv.txt = v.s := by cases v; rfl
set_option maxRecDepth 100000 in
set_option maxHeartbeats 4000000 in
theorem fget_any {v : MV} {w : World} {F : Nat} (h : FAt w F v false) (hf : FitV v) (key : ByteArray) (p : PV) (k : Int) (hp : v.pv.look key = some p) (hk : p.kd = k) (g : Nat) (lb : Array Value) (eg : ∀ args w, (callFunc g args).run Tryz.prog w = .ok (.enter g args) w) (q : PV → Bool) (hq : PredV g lb w q) (hqp : q p = true) :
  Calls Tryz.prog 86 #[.pointer (some ⟨F, 0, none⟩), .string key, .int .i64 k, .func (.func g) #[] lb] w fun e w' => PF (OwP p w) e w' := by
 obtain ⟨W1, hW1⟩ : ∃ W1, W1 = w.alloc (.cells #[.int .i64 0, .int .i64 0, .string ⟨#[]⟩, .slice none 0 0, .slice none 0 0] 30) := ⟨_, rfl⟩
 have hb1 : Below w.heap.size w W1 := by rw [hW1]; exact below_new _ _
 have hx1 : Blk W1 w.heap.size 30 #[.int .i64 0, .int .i64 0, .string ⟨#[]⟩, .slice none 0 0, .slice none 0 0] := by rw [hW1]; exact Blk.new _ _ _
 have HW1 := Ld hW1
 have HF := Ld (h.bel hb1)
 have HFi := Ld hf
 have HB1 := Ld hb1
 have HX1 := Ld hx1
 have HP := Ld hp
 have HK := Ld hk
 have HQ := Ld hq
 have HQP := Ld hqp
 clear hW1 h hb1 hx1 hp hk hq hqp hf
 go_enter Tryz.func86, Tryz.ntmps86
 go_wp2_with fail
 rw [← HW1.out]
 refine (fok_any HF.out).mono ?_
 rintro e w1 ⟨rfl, hb1⟩
 have HF1 := Ld (HF.out.bel hb1)
 have HB2 := Ld (HB1.out.trans (hb1.mono HB1.out.size))
 have HX2 := Ld (HX1.out.below hb1 HX1.out.lt)
 have HS2 := Ld hb1.size
 clear hb1
 obtain ⟨t0, t1, t2, t3, t4, t5⟩ := six_cells HF1.out.blk
 go_wp2_with fail
 have hg := get_any HF1.out.at_ HFi.out key
 unfold MV.val at hg
 refine hg.mono ?_
 clear hg
 rintro e w2 h2
 obtain ⟨v', b, rfl, ho, hb2, hbb, hpv⟩ := getp_pv h2
 rw [HP.out] at hbb hpv
 subst hbb
 have HPV : Hid (v'.pv = p) := Ld hpv
 have HO := Ld (ho.base_le HS2.out)
 have HB3 := Ld (HB2.out.trans (hb2.mono HB2.out.size))
 have HX3 := Ld (HX2.out.below hb2 HX2.out.lt)
 clear h2 hb2 hpv ho t0 t1 t2 t3 t4 t5
 unfold MV.val
 simp only [Option.isSome_some]
 obtain ⟨W4, hW4⟩ : ∃ W4, W4 = w2.alloc (.cells #[.int .i64 v'.k, .int .i64 v'.n, .string v'.s, .slice v'.lA v'.l.length v'.lc, .slice v'.mA v'.m.length v'.mc] 30) := ⟨_, rfl⟩
 have hb4 : Below w2.heap.size w2 W4 := by rw [hW4]; exact below_new _ _
 have hx4 : Blk W4 w2.heap.size 30 #[.int .i64 v'.k, .int .i64 v'.n, .string v'.s, .slice v'.lA v'.l.length v'.lc, .slice v'.mA v'.m.length v'.mc] := by rw [hW4]; exact Blk.new _ _ _
 have HB4 := Ld (HB3.out.trans (hb4.mono HB3.out.size))
 have HO4 := Ld (HO.out.below hb4)
 have HX4 := Ld (HX3.out.below hb4 HX3.out.lt)
 have HC := Ld (HQ.out v' W4 HB4.out)
 have HY4 := Ld hx4
 have HW4 := Ld hW4
 clear hb4 hW4
 obtain ⟨t0, t1, t2, t3, t4⟩ := five_cells hx4
 clear hx4
 have d1 : (v'.k == k) = true := by rw [← HK.out, ← HPV.out, pv_kd]; exact beq_self_eq_true _
 have d2 : (v'.k != k) = false := by rw [bne, d1]; rfl
 have d3 : decide (v'.k = k) = true := by rw [decide_eq_true_iff]; exact eq_of_beq d1
 go_wp2_with fail
 rw [← HW4.out]
 refine HC.out.mono ?_
 rintro e w5 ⟨rfl, hb5⟩
 rw [HPV.out, HQP.out]
 have HB5 := Ld (HB4.out.trans (hb5.mono HB4.out.size))
 have HO5 := Ld (HO4.out.below hb5)
 have HX5 := Ld (HX4.out.below hb5 HX4.out.lt)
 have HY5 := Ld (HY4.out.below hb5 HY4.out.lt)
 clear hb5 t0 t1 t2 t3 t4
 obtain ⟨t0, t1, t2, t3, t4⟩ := five_cells HY5.out
 obtain ⟨y0, y1, y2, y3, y4⟩ := five_cells HX5.out
 obtain ⟨z0, z1, z2, z3, z4⟩ := five_fr HX5.out
 have HFF := Ld (own_stored (w := w) (w3 := W1) (v' := v') HX5.out (Nat.le_refl _) HX1.out.lt HO5.out HB5.out HB1.out.size HPV.out)
 go_wp2
 obtain ⟨k0, k1, k2, k3, k4⟩ := five_cells HFF.out.1
 refine bodyPost_ret (v := v'.val) (by simp [results, Tryz.results86, go_sem, k0, k1, k2, k3, k4, MV.val]) rfl ?_
 exact HFF.out.2
theorem intP_any (least most : Int) (w : World) (a b : Nat) (ha : w.cell? ⟨a, 0, none⟩ = some (.int .i64 least)) (hb : w.cell? ⟨b, 0, none⟩ = some (.int .i64 most)) (hla : a < w.heap.size) (hlb : b < w.heap.size) : PredV 119 #[.pointer (some ⟨a, 0, none⟩), .pointer (some ⟨b, 0, none⟩)] w (fun p => decide (least ≤ p.num) && decide (p.num ≤ most)) := by
 intro v W hbw
 have a1 := (hbw.cell hla).trans ha
 have b1 := (hbw.cell hlb).trans hb
 obtain ⟨W1, hW1⟩ : ∃ W1, W1 = W.alloc (.cells #[.int .i64 v.k, .int .i64 v.n, .string v.s, .slice v.lA v.l.length v.lc, .slice v.mA v.m.length v.mc] 30) := ⟨_, rfl⟩
 have hb1 : Below W.heap.size W W1 := by rw [hW1]; exact below_new _ _
 have hx1 : Blk W1 W.heap.size 30 #[.int .i64 v.k, .int .i64 v.n, .string v.s, .slice v.lA v.l.length v.lc, .slice v.mA v.m.length v.mc] := by rw [hW1]; exact Blk.new _ _ _
 have a2 := (hb1.cell (p := ⟨a, 0, none⟩) (Nat.lt_of_lt_of_le hla hbw.size)).trans a1
 have b2 := (hb1.cell (p := ⟨b, 0, none⟩) (Nat.lt_of_lt_of_le hlb hbw.size)).trans b1
 obtain ⟨t0, t1, t2, t3, t4⟩ := five_cells hx1
 change Calls Tryz.prog 119 #[.agg #[.int .i64 v.k, .int .i64 v.n, .string v.s, .slice v.lA v.l.length v.lc, .slice v.mA v.m.length v.mc], .pointer (some ⟨a, 0, none⟩), .pointer (some ⟨b, 0, none⟩)] W fun e w' => e = .returned (.bool (decide (least ≤ v.pv.num) && decide (v.pv.num ≤ most))) ∧ Below W.heap.size W w'
 rw [pv_num]
 have HW1 := Ld hW1
 have HB1 := Ld hb1
 clear hW1 hb1 hx1 a1 b1 ha hb hla hlb hbw
 rcases hd1 : decide (least ≤ v.n) with _ | _ <;> rcases hd2 : decide (v.n ≤ most) with _ | _ <;> (
  have d1 := hd1
  have d2 := hd2
  have d3 : decide (v.n ≥ least) = decide (least ≤ v.n) := rfl
  rw [hd1] at d3
  clear hd1 hd2
  go_enter Tryz.func119, Tryz.ntmps119
  go_upto_region 1 with (fail)
  rw [← HW1.out]
  go_wp2
  refine bodyPost_ret (v := .bool _) (by simp [results, Tryz.results119, go_sem]; first | rfl | skip) rfl ?_
  exact ⟨rfl, HB1.out⟩)
set_option maxRecDepth 100000 in
set_option maxHeartbeats 4000000 in
theorem fint_any {v : MV} {w : World} {F : Nat} (h : FAt w F v false) (hf : FitV v) (key : ByteArray) (n least most : Int) (hp : v.pv.look key = some (inV n)) (h1 : least ≤ n) (h2 : n ≤ most) :
  Calls Tryz.prog 83 #[.pointer (some ⟨F, 0, none⟩), .string key, .int .i64 least, .int .i64 most] w fun e w' => e = .returned (.int .i64 n) ∧ Below w.heap.size w w' := by
 obtain ⟨W2, hW2⟩ : ∃ W2, W2 = (w.alloc (.cells #[.int .i64 least] 3)).alloc (.cells #[.int .i64 most] 3) := ⟨_, rfl⟩
 obtain ⟨hb2, hk1, hk2, hs2⟩ := new2_ w _ _ _ _ W2 hW2
 have HG := Ld (fget_any (h.bel hb2) hf key (inV n) 3 hp rfl 119 #[.pointer (some ⟨w.heap.size, 0, none⟩), .pointer (some ⟨w.heap.size + 1, 0, none⟩)] (fun _ _ => rfl) _ (intP_any least most W2 _ _ (hk1.cell 0) (hk2.cell 0) hk1.lt hk2.lt) (by simp [inV, PV.num, h1, h2]))
 have HW2 := Ld hW2
 have HB2 := Ld hb2
 clear hW2 hb2 hk1 hk2 hs2 h hf hp h1 h2
 have RF : ∀ (v0 v1 v2 v3 v4 : Value) W, (Instr.field 30 (.agg #[v0, v1, v2, v3, v4]) 1).run Tryz.prog W = .ok v1 W := fun v0 v1 v2 v3 v4 W => rfl
 go_enter Tryz.func83, Tryz.ntmps83
 go_wp2_with fail
 rw [← HW2.out]
 refine HG.out.mono ?_
 rintro e w3 ⟨x, rfl, hpx, hox, hb3⟩
 have HN : Hid (x.n = n) := Ld (by rw [← pv_num, hpx]; rfl)
 have HB3 := Ld (HB2.out.trans (hb3.mono HB2.out.size))
 clear hpx hox hb3
 unfold MV.val
 go_wp2
 refine bodyPost_ret (v := .int .i64 x.n) (by simp [results, Tryz.results83, go_sem]) rfl ?_
 exact ⟨by rw [HN.out], HB3.out⟩
theorem textP_any (most : Int) (w : World) (a : Nat) (ha : w.cell? ⟨a, 0, none⟩ = some (.int .i64 most)) (hla : a < w.heap.size) : PredV 118 #[.pointer (some ⟨a, 0, none⟩)] w (fun p => decide ((p.txt.size : Int) ≤ most)) := by
 intro v W hbw
 have a1 := (hbw.cell hla).trans ha
 obtain ⟨W1, hW1⟩ : ∃ W1, W1 = W.alloc (.cells #[.int .i64 v.k, .int .i64 v.n, .string v.s, .slice v.lA v.l.length v.lc, .slice v.mA v.m.length v.mc] 30) := ⟨_, rfl⟩
 have hb1 : Below W.heap.size W W1 := by rw [hW1]; exact below_new _ _
 have hx1 : Blk W1 W.heap.size 30 #[.int .i64 v.k, .int .i64 v.n, .string v.s, .slice v.lA v.l.length v.lc, .slice v.mA v.m.length v.mc] := by rw [hW1]; exact Blk.new _ _ _
 have a2 := (hb1.cell (p := ⟨a, 0, none⟩) (Nat.lt_of_lt_of_le hla hbw.size)).trans a1
 obtain ⟨t0, t1, t2, t3, t4⟩ := five_cells hx1
 change Calls Tryz.prog 118 #[.agg #[.int .i64 v.k, .int .i64 v.n, .string v.s, .slice v.lA v.l.length v.lc, .slice v.mA v.m.length v.mc], .pointer (some ⟨a, 0, none⟩)] W fun e w' => e = .returned (.bool (decide ((v.pv.txt.size : Int) ≤ most))) ∧ Below W.heap.size W w'
 rw [pv_txt]
 have HW1 := Ld hW1
 have HB1 := Ld hb1
 clear hW1 hb1 hx1 a1 ha hla hbw
 go_enter Tryz.func118, Tryz.ntmps118
 go_upto_region 1 with (fail)
 rw [← HW1.out]
 go_wp2
 refine bodyPost_ret (v := .bool (decide ((v.s.size : Int) ≤ most))) (by simp [results, Tryz.results118, go_sem]) rfl ?_
 exact ⟨rfl, HB1.out⟩
set_option maxRecDepth 100000 in
set_option maxHeartbeats 4000000 in
theorem ftext_any {v : MV} {w : World} {F : Nat} (h : FAt w F v false) (hf : FitV v) (key s : ByteArray) (most : Int) (hp : v.pv.look key = some (txV s)) (h1 : (s.size : Int) ≤ most) :
  Calls Tryz.prog 82 #[.pointer (some ⟨F, 0, none⟩), .string key, .int .i64 most] w fun e w' => e = .returned (.string s) ∧ Below w.heap.size w w' := by
 obtain ⟨W2, hW2⟩ : ∃ W2, W2 = w.alloc (.cells #[.int .i64 most] 3) := ⟨_, rfl⟩
 have hb2 : Below w.heap.size w W2 := by rw [hW2]; exact below_new _ _
 have hk1 : Blk W2 w.heap.size 3 #[.int .i64 most] := by rw [hW2]; exact Blk.new _ _ _
 have HG := Ld (fget_any (h.bel hb2) hf key (txV s) 4 hp rfl 118 #[.pointer (some ⟨w.heap.size, 0, none⟩)] (fun _ _ => rfl) _ (textP_any most W2 _ (hk1.cell 0) hk1.lt) (by simp [txV, PV.txt, h1]))
 have HW2 := Ld hW2
 have HB2 := Ld hb2
 clear hW2 hb2 hk1 h hf hp h1
 have RF : ∀ (v0 v1 v2 v3 v4 : Value) W, (Instr.field 30 (.agg #[v0, v1, v2, v3, v4]) 2).run Tryz.prog W = .ok v2 W := fun v0 v1 v2 v3 v4 W => rfl
 go_enter Tryz.func82, Tryz.ntmps82
 go_wp2_with fail
 rw [← HW2.out]
 refine HG.out.mono ?_
 rintro e w3 ⟨x, rfl, hpx, hox, hb3⟩
 have HN : Hid (x.s = s) := Ld (by rw [← pv_txt, hpx]; rfl)
 have HB3 := Ld (HB2.out.trans (hb3.mono HB2.out.size))
 clear hpx hox hb3
 unfold MV.val
 go_wp2
 refine bodyPost_ret (v := .string x.s) (by simp [results, Tryz.results82, go_sem]) rfl ?_
 exact ⟨by rw [HN.out], HB3.out⟩
theorem anyP_any (w : World) : PredV 87 #[] w (fun _ => true) := by
 intro v W hbw
 change Calls Tryz.prog 87 #[.agg #[.int .i64 v.k, .int .i64 v.n, .string v.s, .slice v.lA v.l.length v.lc, .slice v.mA v.m.length v.mc]] W fun e w' => e = .returned (.bool true) ∧ Below W.heap.size W w'
 go_enter Tryz.func87, Tryz.ntmps87
 go_wp2
 refine bodyPost_ret (v := .bool true) (by simp [results, Tryz.results87, go_sem]) rfl ?_
 exact ⟨rfl, below_new _ _⟩
set_option maxRecDepth 100000 in
set_option maxHeartbeats 4000000 in
theorem fmap_any {v : MV} {w : World} {F : Nat} (h : FAt w F v false) (hf : FitV v) (key : ByteArray) (p : PV) (hp : v.pv.look key = some p) (hk : p.kd = 6) :
  Calls Tryz.prog 43 #[.pointer (some ⟨F, 0, none⟩), .string key] w fun e w' => PF (OwP p w) e w' := by
 obtain ⟨W1, hW1⟩ : ∃ W1, W1 = w.alloc (.cells #[.int .i64 0, .int .i64 0, .string ⟨#[]⟩, .slice none 0 0, .slice none 0 0] 30) := ⟨_, rfl⟩
 have hb1 : Below w.heap.size w W1 := by rw [hW1]; exact below_new _ _
 have hx1 : Blk W1 w.heap.size 30 #[.int .i64 0, .int .i64 0, .string ⟨#[]⟩, .slice none 0 0, .slice none 0 0] := by rw [hW1]; exact Blk.new _ _ _
 have HG := Ld (fget_any (h.bel hb1) hf key p 6 hp hk 87 #[] (fun _ _ => rfl) (fun _ => true) (anyP_any _) rfl)
 have HW1 := Ld hW1
 have HB1 := Ld hb1
 have HX1 := Ld hx1
 clear hW1 hb1 hx1 h hf hp hk
 go_enter Tryz.func43, Tryz.ntmps43
 go_wp2_with fail
 rw [← HW1.out]
 refine HG.out.mono ?_
 rintro e w3 ⟨x, rfl, hpx, hox, hb3⟩
 have HX3 := Ld (HX1.out.below hb3 HX1.out.lt)
 obtain ⟨t0, t1, t2, t3, t4⟩ := five_cells HX3.out
 obtain ⟨z0, z1, z2, z3, z4⟩ := five_fr HX3.out
 have HFF := Ld (own_stored (w := w) (w3 := W1) (v' := x) HX3.out (Nat.le_refl _) HX1.out.lt hox (HB1.out.trans (hb3.mono HB1.out.size)) HB1.out.size hpx)
 clear hpx hox hb3
 unfold MV.val
 go_wp2
 obtain ⟨k0, k1, k2, k3, k4⟩ := five_cells HFF.out.1
 refine bodyPost_ret (v := x.val) (by simp [results, Tryz.results43, go_sem, k0, k1, k2, k3, k4, MV.val]) rfl ?_
 exact HFF.out.2
end Go.Proofs.YtefkpphahimkgaaGreatDoor
