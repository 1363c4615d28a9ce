/-
  A moment's text is read back: plain facts.
-/
import Derived.Test.YtahcajhacfnffaaDoorDateW9
namespace Go.Proofs.YtahcajhacfnffaaDoor
open Go.RowKit
set_option linter.unusedVariables false

theorem txt_size (y m d h i s : Int) : (strL (txtL y m d h i s)).size = 20 := rfl
theorem ch_strL (l : List UInt8) (k : Nat) : ch (strL l) k = l.getD k 0 := by
  unfold ch
  split
  · rename_i h
    have h' : k < l.length := by simpa [strL, ByteArray.size] using h
    rw [List.getD_eq_getElem?_getD, List.getElem?_eq_getElem h']
    rfl
  · rename_i h
    have h' : l.length ≤ k := by simpa [strL, ByteArray.size] using h
    rw [List.getD_eq_getElem?_getD, List.getElem?_eq_none h']
    rfl
theorem txt_ok (y m d h i s : Int) : okB (strL (txtL y m d h i s)) = true := by
  unfold okB
  simp only [ch_strL]
  exact decide_eq_true ⟨rfl, rfl, rfl, rfl, rfl, rfl⟩
theorem ext_strL (l : List UInt8) (a b : Nat) : ((strL l).extract a b).data.toList = (l.drop a).take (b - a) := by
  simp [strL]
theorem dgU (q : Nat) (h : q ≤ 9) : ((UInt8.ofNat (48 + q)).toNat : Int) = 48 + q := by
  rw [UInt8.toNat_ofNat']
  omega
theorem digN_app (q : Nat) (h : q ≤ 9) (l : List UInt8) (x : Int) : digN (UInt8.ofNat (48 + q) :: l) x = digN l (10 * x + q) := by
  rw [digN_cons_yes (by rw [dgU q h]; omega) (by rw [dgU q h]; omega), dgU q h]
  congr 1
  omega
theorem digN_dig2 (n : Nat) (h : n < 100) (l : List UInt8) (x : Int) : digN (dig2 n ++ l) x = digN l (100 * x + n) := by
  unfold dig2
  rw [List.cons_append, List.cons_append, List.nil_append, digN_app _ (by omega), digN_app _ (by omega)]
  congr 1
  omega
theorem digN_dig2t (n : Nat) (h : n < 100) (x : Int) : digN (dig2 n) x = 100 * x + n := by
  have := digN_dig2 n h [] x
  rw [List.append_nil] at this
  rw [this, digN]
theorem digN_dig2' (n : Nat) (h : n < 100) : digN (dig2 n) 0 = n := by rw [digN_dig2t n h]; omega
theorem digN_dig4 (n : Nat) (h : n < 10000) : digN (dig4 n) 0 = n := by
  unfold dig4
  rw [digN_dig2 _ (by omega), digN_dig2t _ (by omega)]
  omega
theorem txt_dgs {y m d h i s : Int} (y0 : 0 ≤ y) (y1 : y ≤ 9999) (m0 : 0 ≤ m) (m1 : m ≤ 99) (d0 : 0 ≤ d) (d1 : d ≤ 99) (h0 : 0 ≤ h) (h1 : h ≤ 99) (i0 : 0 ≤ i) (i1 : i ≤ 99) (s0 : 0 ≤ s) (s1 : s ≤ 99) :
    dgs ((strL (txtL y m d h i s)).extract 0 4) = y ∧ dgs ((strL (txtL y m d h i s)).extract 5 7) = m ∧ dgs ((strL (txtL y m d h i s)).extract 8 10) = d ∧ dgs ((strL (txtL y m d h i s)).extract 11 13) = h ∧ dgs ((strL (txtL y m d h i s)).extract 14 16) = i ∧ dgs ((strL (txtL y m d h i s)).extract 17 19) = s := by
  unfold dgs
  simp only [ext_strL]
  refine ⟨?_, ?_, ?_, ?_, ?_, ?_⟩
  · show digN (dig4 y.toNat) 0 = y
    rw [digN_dig4 _ (by omega)]; omega
  · show digN (dig2 m.toNat) 0 = m
    rw [digN_dig2' _ (by omega)]; omega
  · show digN (dig2 d.toNat) 0 = d
    rw [digN_dig2' _ (by omega)]; omega
  · show digN (dig2 h.toNat) 0 = h
    rw [digN_dig2' _ (by omega)]; omega
  · show digN (dig2 i.toNat) 0 = i
    rw [digN_dig2' _ (by omega)]; omega
  · show digN (dig2 s.toNat) 0 = s
    rw [digN_dig2' _ (by omega)]; omega
theorem wi_mk {n a b : Int} (h1 : a ≤ n) (h2 : n ≤ b) : wiB n a b = true := decide_eq_true ⟨h1, h2⟩
theorem val_of {n y m d h i s : Int} (hc : Cal.Civ n y m d) (h0 : 0 ≤ h) (h1 : h ≤ 23) (i0 : 0 ≤ i) (i1 : i ≤ 59) (s0 : 0 ≤ s) (s1 : s ≤ 59) : valB y m d h i s = true := by
  have a := hc.y0; have b := hc.y1; have c := hc.m0; have e := hc.m1
  have hz := Cal.dimZ_in (show 1 ≤ y by omega) b c e
  unfold valB
  rw [wi_mk a b, wi_mk hc.d0 (by rw [hz]; exact hc.d1), wi_mk h0 h1, wi_mk i0 i1, wi_mk s0 s1]
  rfl
theorem tim_of {t y m d : Int} (hc : Cal.Civ (t / 86400 + 719162) y m d) : timV y m d (hhT t) (mmT t) (ssT t) = t := by
  have h := hc.num
  unfold timV hhT mmT ssT
  omega
theorem val_t {t y m d : Int} (hc : Cal.Civ (t / 86400 + 719162) y m d) : valB y m d (hhT t) (mmT t) (ssT t) = true := by
  obtain ⟨a, b, c, d', e, f⟩ := hms_bd t
  exact val_of hc a b c d' e f
theorem time_back (t y m d : Int) (w : World) (h : Cal.Civ (t / 86400 + 719162) y m d) :
    Calls Tryd.prog 16 #[dateV y m d (hhT t) (mmT t) (ssT t)] w fun e w' => e = .returned (.tuple #[.int .i64 t, .int .i64 0]) ∧ Below w.heap.size w w' := by
  have := time_yes y m d (hhT t) (mmT t) (ssT t) w (val_t h)
  rwa [tim_of h] at this
theorem parse_back (t y m d : Int) (w : World) (s : ByteArray) (hs : s = strL (txtL y m d (hhT t) (mmT t) (ssT t))) (h : Cal.Civ (t / 86400 + 719162) y m d) :
    Calls Tryd.prog 17 #[.string s] w fun e w' => e = .returned (.tuple #[.int .i64 t, .int .i64 0]) ∧ Below w.heap.size w w' := by
  subst hs
  obtain ⟨a, b, c, d', e, f⟩ := hms_bd t
  obtain ⟨y0, y1, m0, m1, d0, d1⟩ := civ_dim h
  obtain ⟨g1, g2, g3, g4, g5, g6⟩ := txt_dgs (y := y) (m := m) (d := d) (h := hhT t) (i := mmT t) (s := ssT t) (by omega) (by omega) (by omega) (by omega) (by omega) (by omega) (by omega) (by omega) (by omega) (by omega) (by omega) (by omega)
  have := parse_yes (strL (txtL y m d (hhT t) (mmT t) (ssT t))) w (txt_size ..) (txt_ok ..) (by rw [g1, g2, g3, g4, g5, g6]; exact val_t h)
  rw [g1, g2, g3, g4, g5, g6, tim_of h] at this
  exact this
/-- each moment has a date -/
theorem civ_t {t : Int} (h : mayB t = true) : ∃ y m d, Cal.Civ (t / 86400 + 719162) y m d := by
  obtain ⟨h0, h1⟩ := mayB_true h
  exact Cal.Civ.ex (by omega) (by omega)
end Go.Proofs.YtahcajhacfnffaaDoor
