/-
  The reference's texts of moments: two digits, a date's text.
-/
import Derived.Test.YtahcajhacfnffaaDoorDateW5
namespace Go.Proofs.YtahcajhacfnffaaDoor
open Go.RowKit
set_option linter.unusedVariables false

theorem ext_dig (k : Int) (h0 : 0 ≤ k) (h1 : k < 10) : (ByteArray.mk #[48, 49, 50, 51, 52, 53, 54, 55, 56, 57]).extract k.toNat (k + 1).toNat = strL [UInt8.ofNat (48 + k.toNat)] := by
  have : k = 0 ∨ k = 1 ∨ k = 2 ∨ k = 3 ∨ k = 4 ∨ k = 5 ∨ k = 6 ∨ k = 7 ∨ k = 8 ∨ k = 9 := by omega
  rcases this with rfl | rfl | rfl | rfl | rfl | rfl | rfl | rfl | rfl | rfl <;> decide +kernel
theorem dig2_app (n : Int) (h0 : 0 ≤ n) : strL [UInt8.ofNat (48 + (n / 10).toNat)] ++ strL [UInt8.ofNat (48 + (n % 10).toNat)] = strL (dig2 n.toNat) := by
  rw [strL_app, show (n / 10).toNat = n.toNat / 10 by omega, show (n % 10).toNat = n.toNat % 10 by omega]
  rfl
set_option maxHeartbeats 400000 in
theorem two_any (n : Int) (w : World) (h0 : 0 ≤ n) (hn : n < 100) :
    Calls Tryd.prog 35 #[.int .i64 n] w fun e w' => e = .returned (.string (strL (dig2 n.toNat))) ∧ ∃ k, w' = w.drewN k := by
  have hq0 : 0 ≤ n / 10 := by omega
  have hq1 : n / 10 < 10 := by omega
  have hr0 : 0 ≤ n % 10 := by omega
  have hr1 : n % 10 < 10 := by omega
  have HE1 := Lib.hid (ext_dig (n / 10) hq0 hq1)
  have HE2 := Lib.hid (ext_dig (n % 10) hr0 hr1)
  have w1 : IntKind.i64.wrap (n / 10 + 1) = n / 10 + 1 := IntWalk.i64_in _ (by omega)
  have w2 : IntKind.i64.wrap (n % 10 + 1) = n % 10 + 1 := IntWalk.i64_in _ (by omega)
  go_enter Tryd.func35, Tryd.ntmps35
  go_wp2
  go_quiet (fail)
  go_wp2
  go_ret
  exact ⟨ret_str (by rw [HE1.out, HE2.out, dig2_app n h0]), _, rfl⟩
theorem two_as (n : Int) (t : ByteArray) (w : World) (h0 : 0 ≤ n) (hn : n < 100) (ht : t = strL (dig2 n.toNat)) :
    Calls Tryd.prog 35 #[.int .i64 n] w fun e w' => e = .returned (.string t) ∧ ∃ k, w' = w.drewN k := by
  subst ht; exact two_any n w h0 hn
theorem quiet_d {P : Program} {f : FuncId} {args : Array Value} {w : World} {n : Nat} {v : Value}
    (h : Calls P f args (w.drewN n) fun e w' => e = .returned v ∧ ∃ k, w' = (w.drewN n).drewN k) : Calls P f args (w.drewN n) fun e w'' => e = .returned v ∧ ∃ m, w'' = w.drewN m :=
  h.mono fun _ _ ⟨he, k, hm⟩ => ⟨he, n + k, by rw [hm, World.drewN_drewN]⟩

theorem rtxt_str {y m d a b c : Int} {t1 t2 tm td ta tb tc : ByteArray} (y0 : 0 ≤ y) (h1 : t1 = strL (dig2 (y / 100).toNat)) (h2 : t2 = strL (dig2 (y % 100).toNat)) (hm : tm = strL (dig2 m.toNat)) (hd : td = strL (dig2 d.toNat)) (ha : ta = strL (dig2 a.toNat)) (hb : tb = strL (dig2 b.toNat)) (hc : tc = strL (dig2 c.toNat)) :
    t1 ++ t2 ++ { data := #[45] } ++ tm ++ { data := #[45] } ++ td ++ { data := #[84] } ++ ta ++ { data := #[58] } ++ tb ++ { data := #[58] } ++ tc ++ { data := #[90] } = strL (txtL y m d a b c) := by
  subst h1; subst h2; subst hm; subst hd; subst ha; subst hb; subst hc
  apply ba_eq
  simp [strL, txtL, dig4, show (y / 100).toNat = y.toNat / 100 by omega, show (y % 100).toNat = y.toNat % 100 by omega]

set_option maxHeartbeats 1600000 in
theorem rtext_any (y m d a b c : Int) (w : World) (h1 : 0 ≤ y) (h2 : y ≤ 9999) (h3 : 1 ≤ m) (h4 : m ≤ 12) (h5 : 1 ≤ d) (h6 : d ≤ 31) (h7 : 0 ≤ a) (h8 : a ≤ 23) (h9 : 0 ≤ b) (h10 : b ≤ 59) (h11 : 0 ≤ c) (h12 : c ≤ 59) :
    Calls Tryd.prog 18 #[dateV y m d a b c] w fun e w' => e = .returned (.string (strL (txtL y m d a b c))) ∧ Below w.heap.size w w' := by
  obtain ⟨t1, ht1⟩ : ∃ x, x = strL (dig2 (y / 100).toNat) := ⟨_, rfl⟩
  obtain ⟨t2, ht2⟩ : ∃ x, x = strL (dig2 (y % 100).toNat) := ⟨_, rfl⟩
  obtain ⟨tm, htm⟩ : ∃ x, x = strL (dig2 m.toNat) := ⟨_, rfl⟩
  obtain ⟨td, htd⟩ : ∃ x, x = strL (dig2 d.toNat) := ⟨_, rfl⟩
  obtain ⟨ta, hta⟩ : ∃ x, x = strL (dig2 a.toNat) := ⟨_, rfl⟩
  obtain ⟨tb, htb⟩ : ∃ x, x = strL (dig2 b.toNat) := ⟨_, rfl⟩
  obtain ⟨tc, htc⟩ : ∃ x, x = strL (dig2 c.toNat) := ⟨_, rfl⟩
  have z1 : t1.size = 2 := by rw [ht1]; rfl
  have z2 : t2.size = 2 := by rw [ht2]; rfl
  have zm : tm.size = 2 := by rw [htm]; rfl
  have zd : td.size = 2 := by rw [htd]; rfl
  have za : ta.size = 2 := by rw [hta]; rfl
  have zb : tb.size = 2 := by rw [htb]; rfl
  have zc : tc.size = 2 := by rw [htc]; rfl
  have H1 := Lib.hid ht1
  have H2 := Lib.hid ht2
  have HM := Lib.hid htm
  have HD := Lib.hid htd
  have HA := Lib.hid hta
  have HBB := Lib.hid htb
  have HC := Lib.hid htc
  clear ht1 ht2 htm htd hta htb htc
  have q1 : 0 ≤ y / 100 := by omega
  have q2 : y / 100 < 100 := by omega
  have q3 : 0 ≤ y % 100 := by omega
  have q4 : y % 100 < 100 := by omega
  go_enter Tryd.func18, Tryd.ntmps18
  go_wp2
  go_quiet ((first | (go_at_call 35; (with_reducible exact quiet_d (two_as (y / 100) t1 _ (by omega) (by omega) H1.out))) | (go_at_call 35; (with_reducible exact quiet_d (two_as (y % 100) t2 _ (by omega) (by omega) H2.out))) | (go_at_call 35; (with_reducible exact quiet_d (two_as m tm _ (by omega) (by omega) HM.out))) | (go_at_call 35; (with_reducible exact quiet_d (two_as d td _ (by omega) (by omega) HD.out))) | (go_at_call 35; (with_reducible exact quiet_d (two_as a ta _ (by omega) (by omega) HA.out))) | (go_at_call 35; (with_reducible exact quiet_d (two_as b tb _ (by omega) (by omega) HBB.out))) | (go_at_call 35; (with_reducible exact quiet_d (two_as c tc _ (by omega) (by omega) HC.out)))))
  go_wp2
  go_ret
  exact ⟨ret_str (rtxt_str h1 H1.out H2.out HM.out HD.out HA.out HBB.out HC.out), dnB ((Below.refl _ _).alloc (Nat.le_refl _) _) _⟩
end Go.Proofs.YtahcajhacfnffaaDoor
