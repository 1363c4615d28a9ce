/-
  date and its reference: a moment's text: what the functions compute.
-/
import Derived.Test.YtahcajhacfnffaaDoorDateW4
import Derived.Test.YtahcajhacfnffaaDoorShelf
import Derived.Lib.ItoaNum
import Derived.Lib.AppendIntMem
import Derived.Deep.RegionHeld3
namespace Go.Proofs.YtahcajhacfnffaaDoor
open Go.RowKit
set_option linter.unusedVariables false

/-- two digits -/
def dig2 (n : Nat) : List UInt8 := [UInt8.ofNat (48 + n / 10), UInt8.ofNat (48 + n % 10)]
def dig4 (n : Nat) : List UInt8 := dig2 (n / 100) ++ dig2 (n % 100)
/-- a text's bytes -/
def strL (l : List UInt8) : ByteArray := ⟨l.toArray⟩
theorem strL_list (l : List UInt8) : (strL l).data.toList = l := by simp [strL]
theorem ba_eq {a b : ByteArray} (h : a.data.toList = b.data.toList) : a = b := by
  cases a; cases b; simp at h; simp [h]
theorem strL_app (l m : List UInt8) : strL l ++ strL m = strL (l ++ m) := ba_eq (by simp [strL])
theorem ret_str {a b : ByteArray} (h : a = b) : Ending.returned (.string a) = .returned (.string b) := by rw [h]

theorem dec_dig4 {n : Nat} (h1 : 1000 ≤ n) (h2 : n < 10000) : Lib.decDigits n = dig4 n := by
  rw [Lib.decDigits, dif_neg (by omega), Lib.decDigits, dif_neg (by omega), Lib.decDigits_two (by omega) (by omega)]
  unfold dig4 dig2
  rw [show n / 10 / 10 / 10 = n / 100 / 10 by omega, show n / 10 / 10 % 10 = n / 100 % 10 by omega, show n / 10 % 10 = n % 100 / 10 by omega, show n % 10 = n % 100 % 10 by omega]
  rfl

def tabP (w : World) : Prop := Lib.TabIs Tryd.prog w "internal/strconv.uint64pow10" .u64 Lib.pow10Tab
theorem tabP.below {w w' : World} (h : tabP w) (hb : Below w.heap.size w w') : tabP w' := by
  have hgn : Tryd.prog.globalNamed "internal/strconv.uint64pow10" = some 0 := by kernel_rfl
  unfold tabP Lib.TabIs World.var? at h ⊢
  rw [hgn] at h ⊢
  simp only [Option.bind_some] at h ⊢
  have hlt : 0 < w.heap.size := by
    rcases Nat.lt_or_ge 0 w.heap.size with h' | h'
    · exact h'
    · rw [Array.getElem?_eq_none h'] at h; cases h
  rw [hb.block _ hlt]
  exact h

theorem itoa_small_as (n : Nat) (hn : n < 100) (t : ByteArray) (ht : t = strL (Lib.decDigits n)) (w : World) :
    Calls Tryd.prog 39 #[.int .i64 n] w fun e w' => e = .returned (.string t) ∧ w = w' := by
  subst ht
  exact (Tryd.strconv_Itoa_small n hn w).mono fun _ _ ⟨a, b⟩ => ⟨a, b.symm⟩
theorem itoa_any_as (n : Nat) (hn : n < 10000) (t : ByteArray) (ht : t = strL (Lib.decDigits n)) (w : World) (htab : tabP w) :
    Calls Tryd.prog 39 #[.int .i64 n] w fun e w' => e = .returned (.string t) ∧ Below w.heap.size w w' := by
  subst ht
  refine (Tryd.strconv_Itoa n (by omega) (by omega) w htab).mono fun _ _ ⟨a, k, os, b⟩ => ⟨?_, ?_⟩
  · rw [a, Lib.itoa_nonneg]; rfl
  · subst b; exact Lib.below_grow _ _ (Nat.le_refl _) _ _
theorem rep_one (w : World) : Calls Tryd.prog 40 #[.string ⟨#[48]⟩, .int .i64 1] w fun e w' => e = .returned (.string ⟨#[48]⟩) ∧ w = w' :=
  (Tryd.strings_Repeat_one _ w).mono fun _ _ ⟨a, b⟩ => ⟨a, b.symm⟩
theorem rep_zero (w : World) : Calls Tryd.prog 40 #[.string ⟨#[48]⟩, .int .i64 0] w fun e w' => e = .returned (.string ⟨#[]⟩) ∧ w = w' :=
  (Tryd.strings_Repeat_zero _ w).mono fun _ _ ⟨a, b⟩ => ⟨a, b.symm⟩

set_option maxHeartbeats 400000 in
theorem pad2_any (n : Nat) (w : World) (hn : n < 100) :
    Calls Tryd.prog 32 #[.int .i64 n, .int .i64 2] w fun e w' => e = .returned (.string (strL (dig2 n))) ∧ w = w' := by
  obtain ⟨t, ht⟩ : ∃ t, t = strL (Lib.decDigits n) := ⟨_, rfl⟩
  have HT := Lib.hid ht
  rcases (by omega : n < 10 ∨ 10 ≤ n) with h | h
  · have hz : t.size = 1 := by rw [ht, Lib.decDigits_one h]; rfl
    have HD := Lib.hid (Lib.decDigits_one h)
    clear ht
    go_enter Tryd.func32, Tryd.ntmps32
    go_wp2_with (first | (go_at_call 39; refine (itoa_small_as n hn t HT.out _).mono ?_; rintro e w' ⟨rfl, rfl⟩) | (go_at_call 40; refine (rep_one _).mono ?_; rintro e w' ⟨rfl, rfl⟩))
    go_ret
    exact ⟨ret_str (ba_eq (by rw [HT.out, HD.out]; simp only [dig2, show n / 10 = 0 by omega, show n % 10 = n by omega]; simp [strL])), rfl⟩
  · have hz : t.size = 2 := by rw [ht, Lib.decDigits_two (by omega) hn]; rfl
    have HD := Lib.hid (Lib.decDigits_two (by omega : ¬ n < 10) hn)
    clear ht
    go_enter Tryd.func32, Tryd.ntmps32
    go_wp2_with (first | (go_at_call 39; refine (itoa_small_as n hn t HT.out _).mono ?_; rintro e w' ⟨rfl, rfl⟩) | (go_at_call 40; refine (rep_zero _).mono ?_; rintro e w' ⟨rfl, rfl⟩))
    go_ret
    exact ⟨ret_str (ba_eq (by rw [HT.out, HD.out]; simp [strL, dig2])), rfl⟩
set_option maxHeartbeats 400000 in
theorem pad4_any (n : Nat) (w : World) (h1 : 1000 ≤ n) (hn : n < 10000) (htab : tabP w) :
    Calls Tryd.prog 32 #[.int .i64 n, .int .i64 4] w fun e w' => e = .returned (.string (strL (dig4 n))) ∧ Below w.heap.size w w' := by
  obtain ⟨t, ht⟩ : ∃ t, t = strL (Lib.decDigits n) := ⟨_, rfl⟩
  have HT := Lib.hid ht
  have HTAB := Lib.hid htab
  have hz : t.size = 4 := by rw [ht, dec_dig4 h1 hn]; rfl
  have HD := Lib.hid (dec_dig4 h1 hn)
  clear ht htab
  go_enter Tryd.func32, Tryd.ntmps32
  go_wp2_with (first | (go_at_call 39; refine (itoa_any_as n hn t HT.out _ HTAB.out).mono ?_; rintro e w1 ⟨rfl, hb⟩) | (go_at_call 40; refine (rep_zero _).mono ?_; rintro e w' ⟨rfl, rfl⟩))
  go_ret
  exact ⟨ret_str (ba_eq (by rw [HT.out, HD.out]; simp [strL])), hb⟩
theorem pad2_int (n : Int) (w : World) (h0 : 0 ≤ n) (hn : n < 100) :
    Calls Tryd.prog 32 #[.int .i64 n, .int .i64 2] w fun e w' => e = .returned (.string (strL (dig2 n.toNat))) ∧ w = w' := by
  have := pad2_any n.toNat w (by omega)
  rwa [show ((n.toNat : Nat) : Int) = n by omega] at this
theorem pad4_int (n : Int) (w : World) (h0 : 1000 ≤ n) (hn : n < 10000) (htab : tabP w) :
    Calls Tryd.prog 32 #[.int .i64 n, .int .i64 4] w fun e w' => e = .returned (.string (strL (dig4 n.toNat))) ∧ Below w.heap.size w w' := by
  have := pad4_any n.toNat w (by omega) (by omega) htab
  rwa [show ((n.toNat : Nat) : Int) = n by omega] at this

def txtL (y m d h i s : Int) : List UInt8 := dig4 y.toNat ++ [45] ++ dig2 m.toNat ++ [45] ++ dig2 d.toNat ++ [84] ++ dig2 h.toNat ++ [58] ++ dig2 i.toNat ++ [58] ++ dig2 s.toNat ++ [90]

theorem pad2_as (n : Int) (t : ByteArray) (w : World) (h0 : 0 ≤ n) (hn : n < 100) (ht : t = strL (dig2 n.toNat)) :
    Calls Tryd.prog 32 #[.int .i64 n, .int .i64 2] w fun e w' => e = .returned (.string t) ∧ w = w' := by
  subst ht; exact pad2_int n w h0 hn
theorem pad4_as (n : Int) (t : ByteArray) (w : World) (h0 : 1000 ≤ n) (hn : n < 10000) (htab : tabP w) (ht : t = strL (dig4 n.toNat)) :
    Calls Tryd.prog 32 #[.int .i64 n, .int .i64 4] w fun e w' => e = .returned (.string t) ∧ Below w.heap.size w w' := by
  subst ht; exact pad4_int n w h0 hn htab
theorem txt_str {y m d a b c : Int} {ty tm td ta tb tc : ByteArray} (hy : ty = strL (dig4 y.toNat)) (hm : tm = strL (dig2 m.toNat)) (hd : td = strL (dig2 d.toNat)) (ha : ta = strL (dig2 a.toNat)) (hb : tb = strL (dig2 b.toNat)) (hc : tc = strL (dig2 c.toNat)) :
    ty ++ { data := #[45] } ++ tm ++ { data := #[45] } ++ td ++ { data := #[84] } ++ ta ++ { data := #[58] } ++ tb ++ { data := #[58] } ++ tc ++ { data := #[90] } = strL (txtL y m d a b c) := by
  subst hy; subst hm; subst hd; subst ha; subst hb; subst hc
  apply ba_eq
  simp [strL, txtL]
theorem civ_dim {n y m d : Int} (h : Cal.Civ n y m d) : 1970 ≤ y ∧ y ≤ 9999 ∧ 1 ≤ m ∧ m ≤ 12 ∧ 1 ≤ d ∧ d ≤ 31 := by
  have := Cal.dim_bd y m
  exact ⟨h.y0, h.y1, h.m0, h.m1, h.d0, by have := h.d1; omega⟩
theorem hms_bd (t : Int) : 0 ≤ hhT t ∧ hhT t ≤ 23 ∧ 0 ≤ mmT t ∧ mmT t ≤ 59 ∧ 0 ≤ ssT t ∧ ssT t ≤ 59 := by
  unfold hhT mmT ssT
  omega

set_option maxHeartbeats 400000 in
theorem text_no (t : Int) (w : World) (h : mayB t = false) :
    Calls Tryd.prog 12 #[.int .i64 t] w fun e w' => e = .returned (.tuple #[.string ⟨#[]⟩, .int .i64 100]) ∧ Below w.heap.size w w' := by
  go_enter Tryd.func12, Tryd.ntmps12
  go_wp2_with (go_at_call 11; refine (civil_no t _ h).mono ?_; rintro e w1 ⟨rfl, hb⟩)
  go_ret2
  exact ⟨rfl, hb.alloc hb.size _⟩
/-- the cells of a date in a block -/
def six (w' : World) (g : Nat) (y m d a b c : Int) : Prop :=
  w'.cell? ⟨g, 0, none⟩ = some (.int .i64 y) ∧ w'.cell? ⟨g, 1, none⟩ = some (.int .i64 m) ∧ w'.cell? ⟨g, 2, none⟩ = some (.int .i64 d) ∧ w'.cell? ⟨g, 3, none⟩ = some (.int .i64 a) ∧ w'.cell? ⟨g, 4, none⟩ = some (.int .i64 b) ∧ w'.cell? ⟨g, 5, none⟩ = some (.int .i64 c)
theorem six_new (w : World) (y m d a b c : Int) : six ((w.alloc (.cells #[.int .i64 y, .int .i64 m, .int .i64 d, .int .i64 a, .int .i64 b, .int .i64 c] 23)).drew) w.heap.size y m d a b c :=
  have h := (Blk.new w 23 #[.int .i64 y, .int .i64 m, .int .i64 d, .int .i64 a, .int .i64 b, .int .i64 c]).drew
  ⟨h.cell 0, h.cell 1, h.cell 2, h.cell 3, h.cell 4, h.cell 5⟩
theorem six_below {W w' : World} {g : Nat} {y m d a b c : Int} (h : six W g y m d a b c) (hg : g < W.heap.size) (hb : Below W.heap.size W w') : six w' g y m d a b c :=
  ⟨(hb.cell (p := ⟨g, 0, none⟩) hg).trans h.1, (hb.cell (p := ⟨g, 1, none⟩) hg).trans h.2.1, (hb.cell (p := ⟨g, 2, none⟩) hg).trans h.2.2.1, (hb.cell (p := ⟨g, 3, none⟩) hg).trans h.2.2.2.1, (hb.cell (p := ⟨g, 4, none⟩) hg).trans h.2.2.2.2.1, (hb.cell (p := ⟨g, 5, none⟩) hg).trans h.2.2.2.2.2⟩
set_option maxHeartbeats 1600000 in
theorem text_yes (t y m d : Int) (w : World) (hm : mayB t = true) (h : Cal.Civ (t / 86400 + 719162) y m d) (htab : tabP w) :
    Calls Tryd.prog 12 #[.int .i64 t] w fun e w' => e = .returned (.tuple #[.string (strL (txtL y m d (hhT t) (mmT t) (ssT t))), .int .i64 0]) ∧ Below w.heap.size w w' := by
  obtain ⟨h1, h2, h3, h4, h5, h6⟩ := civ_dim h
  obtain ⟨h7, h8, h9, h10, h11, h12⟩ := hms_bd t
  have HTAB := Lib.hid htab
  clear htab
  go_enter Tryd.func12, Tryd.ntmps12
  go_wp2_with (go_at_call 11; refine (civil_yes t y m d _ hm h).mono ?_; rintro e w1 ⟨rfl, hb⟩)
  obtain ⟨a, ha⟩ : ∃ a, a = hhT t := ⟨_, rfl⟩
  obtain ⟨b, hb'⟩ : ∃ b, b = mmT t := ⟨_, rfl⟩
  obtain ⟨c, hc⟩ : ∃ c, c = ssT t := ⟨_, rfl⟩
  rw [← ha, ← hb', ← hc]
  rw [← ha] at h7 h8
  rw [← hb'] at h9 h10
  rw [← hc] at h11 h12
  have EA := Lib.hid ha
  have EB := Lib.hid hb'
  have EC := Lib.hid hc
  clear ha hb' hc
  obtain ⟨ty, hty⟩ : ∃ x, x = strL (dig4 y.toNat) := ⟨_, rfl⟩
  obtain ⟨tm, htm⟩ : ∃ x, x = strL (dig2 m.toNat) := ⟨_, rfl⟩
  obtain ⟨td, htd⟩ : ∃ x, x = strL (dig2 d.toNat) := ⟨_, rfl⟩
  obtain ⟨ta, hta⟩ : ∃ x, x = strL (dig2 a.toNat) := ⟨_, rfl⟩
  obtain ⟨tb, htb⟩ : ∃ x, x = strL (dig2 b.toNat) := ⟨_, rfl⟩
  obtain ⟨tc, htc⟩ : ∃ x, x = strL (dig2 c.toNat) := ⟨_, rfl⟩
  have zy : ty.size = 4 := by rw [hty]; rfl
  have zm : tm.size = 2 := by rw [htm]; rfl
  have zd : td.size = 2 := by rw [htd]; rfl
  have za : ta.size = 2 := by rw [hta]; rfl
  have zb : tb.size = 2 := by rw [htb]; rfl
  have zc : tc.size = 2 := by rw [htc]; rfl
  have HY := Lib.hid hty
  have HM := Lib.hid htm
  have HD := Lib.hid htd
  have HA := Lib.hid hta
  have HBB := Lib.hid htb
  have HC := Lib.hid htc
  clear hty htm htd hta htb htc
  have HB := Lib.hid hb
  have HT1 := Lib.hid (HTAB.out.below hb)
  have hz := hb.size
  clear hb
  go_region_held3 (fun w' => w'.cell? ⟨w1.heap.size, 0, none⟩ = some (.int .i64 y) ∧ w'.cell? ⟨w1.heap.size, 1, none⟩ = some (.int .i64 m) ∧ w'.cell? ⟨w1.heap.size, 2, none⟩ = some (.int .i64 d) ∧ w'.cell? ⟨w1.heap.size, 3, none⟩ = some (.int .i64 a) ∧ w'.cell? ⟨w1.heap.size, 4, none⟩ = some (.int .i64 b) ∧ w'.cell? ⟨w1.heap.size, 5, none⟩ = some (.int .i64 c))
    (first | exact six_below (six_new w1 y m d a b c) (by simp) hb2 | go_keep)
    (first | (go_at_call 32; (with_reducible refine (pad4_as y ty _ (by omega) (by omega) (by exact HT1.out.below (((Below.refl _ _).alloc (Nat.le_refl _) _).drew)) HY.out).mono ?_); rintro e w2 ⟨rfl, hb2⟩)
           | (go_at_call 32; (with_reducible refine (pad2_as m tm _ (by omega) (by omega) HM.out).mono ?_); rintro e w' ⟨rfl, rfl⟩)
           | (go_at_call 32; (with_reducible refine (pad2_as d td _ (by omega) (by omega) HD.out).mono ?_); rintro e w' ⟨rfl, rfl⟩)
           | (go_at_call 32; (with_reducible refine (pad2_as a ta _ (by omega) (by omega) HA.out).mono ?_); rintro e w' ⟨rfl, rfl⟩)
           | (go_at_call 32; (with_reducible refine (pad2_as b tb _ (by omega) (by omega) HBB.out).mono ?_); rintro e w' ⟨rfl, rfl⟩)
           | (go_at_call 32; (with_reducible refine (pad2_as c tc _ (by omega) (by omega) HC.out).mono ?_); rintro e w' ⟨rfl, rfl⟩))
  go_wp2
  go_ret2
  exact ⟨by rw [← EA.out, ← EB.out, ← EC.out, txt_str HY.out HM.out HD.out HA.out HBB.out HC.out]; rfl, ((HB.out.alloc hz _).drew).trans (hb2.mono (by simp; omega))⟩
end Go.Proofs.YtahcajhacfnffaaDoor
