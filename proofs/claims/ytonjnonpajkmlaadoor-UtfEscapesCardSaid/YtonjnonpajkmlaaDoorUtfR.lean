/-
  The reference's characters: May, Bytes, code.
-/
import Derived.Test.YtonjnonpajkmlaaDoorWords2
import Derived.Test.YtonjnonpajkmlaaDoorAppend
import Derived.Test.YtonjnonpajkmlaaDoorUtfPlain
import Derived.Lib.BufferRead
import Derived.Lib.ConvBytes
import Derived.LoopTactic
import Derived.Deep.RegionHeld
import Derived.Deep.RegionHeld3
import Derived.Deep.QuietTactic
import Derived.BigQuiet
import Derived.Outline
namespace Go.Proofs.YtonjnonpajkmlaaDoor
open Go.RowKit Utf
set_option linter.unusedVariables false

theorem ret_int {k : IntKind} {a b : Int} (h : a = b) : Ending.returned (.int k a) = .returned (.int k b) := by rw [h]
theorem ret_bool {a b : Bool} (h : a = b) : Ending.returned (.bool a) = .returned (.bool b) := by rw [h]
theorem below3 {w w1 w2 w3 : World} (h1 : Below w.heap.size w w1) (h2 : Below w1.heap.size w1 w2) (h3 : Below w2.heap.size w2 w3) : Below w.heap.size w w3 :=
  (h1.trans (h2.mono h1.size)).trans (h3.mono (Nat.le_trans h1.size h2.size))
theorem below2 {w w1 w2 : World} (h1 : Below w.heap.size w w1) (h2 : Below w1.heap.size w1 w2) : Below w.heap.size w w2 := h1.trans (h2.mono h1.size)
theorem below_al {w w1 : World} (o : Obj) (h1 : Below w.heap.size w w1) : Below w.heap.size w (w1.alloc o) := h1.alloc h1.size _
theorem below_new (w : World) (o : Obj) : Below w.heap.size w (w.alloc o) := (Below.refl _ _).alloc (Nat.le_refl _) _
theorem dnU {B : Nat} {w w' : World} (h : Below B w w') (n : Nat) : Below B w (w'.drewN n) :=
  ⟨h.os, h.tape, h.output, h.size, h.block⟩
theorem run_string {w : World} {A : Option Addr} {l : List UInt8} (h : RB w A l) (n c : Nat) (hn : l.length = n) :
    (convert 26 9 (.slice A n c)).run Tryd.prog w = .ok (.string ⟨l.toArray⟩) w := by
  subst hn
  rcases A with _ | ad
  · have hl : l = [] := by
      rcases Nat.eq_zero_or_pos l.length with h0 | h0
      · exact List.eq_nil_of_length_eq_zero h0
      · obtain ⟨ad, h, _⟩ := h.2 h0; cases h
    subst hl
    exact Lib.run_convert_nil_bytes w _ _ _ c Tryd.underlying26 Tryd.underlying5 Tryd.underlying9
  · refine run_convert_bytes_back w _ _ _ ad c l Tryd.underlying26 Tryd.underlying5 Tryd.underlying9 (fun j hj => ?_)
    obtain ⟨a', e, _, hc⟩ := h.at_ hj
    cases e
    exact hc

set_option maxHeartbeats 400000 in
theorem rmay_any (c : Int) (w : World) : Calls Tryd.prog 14 #[.int .i64 c] w fun e w' => e = .returned (.bool (mayU c)) ∧ w = w' := by
  have cs : decide (0 ≤ c) = false ∧ mayU c = false ∨ decide (0 ≤ c) = true ∧ (decide (c ≤ 1114111) = false ∧ mayU c = false ∨ decide (c ≤ 1114111) = true ∧ (decide (c < 55296) = true ∧ mayU c = true ∨ decide (c < 55296) = false ∧ (decide (57343 < c) = true ∧ mayU c = true ∨ decide (57343 < c) = false ∧ mayU c = false))) := by
    unfold mayU
    simp only [decide_eq_true_iff, decide_eq_false_iff_not]
    omega
  rcases cs with ⟨a, h⟩ | ⟨a, ⟨b, h⟩ | ⟨b, ⟨d, h⟩ | ⟨d, ⟨f, h⟩ | ⟨f, h⟩⟩⟩⟩
  all_goals
    have H := Lib.hid h
    clear h
    go_enter Tryd.func14, Tryd.ntmps14
    go_wp2
    go_ret
    exact ⟨ret_bool H.out.symm, rfl⟩

theorem byteCells_two (a b : Int) (h1 : 0 ≤ a) (h2 : a < 256) (h3 : 0 ≤ b) (h4 : b < 256) : #[Value.int .u8 a, .int .u8 b] = (Lib.byteCells [a.toNat.toUInt8, b.toNat.toUInt8]).toArray := by
  simp only [Lib.byteCells, List.map_cons, List.map_nil, toNat_toUInt8 h1 h2, toNat_toUInt8 h3 h4]
/-- what Bytes hands back, in a block of its own -/
def BytesW (c : Int) (w : World) (e : Ending) (w' : World) : Prop :=
  e = .returned (.slice (some ⟨w.heap.size, 0, none⟩) (encU c).length (encU c).length) ∧ w' = w.alloc (.cells (Lib.byteCells (encU c)).toArray 5)
set_option maxHeartbeats 800000 in
theorem rbytes_any (c : Int) (w : World) (hm : mayU c = true) : Calls Tryd.prog 15 #[.int .i64 c] w (BytesW c w) := by
  have h := may_iff.1 hm
  clear hm
  rcases (by omega : (0 ≤ c ∧ c ≤ 127) ∨ (128 ≤ c ∧ c ≤ 2047) ∨ ((2048 ≤ c ∧ c ≤ 65535) ∧ ((2048 ≤ c ∧ c < 55296) ∨ (57343 < c ∧ c ≤ 65535))) ∨ (65536 ≤ c ∧ c ≤ 1114111)) with ⟨h1, h2⟩ | ⟨h1, h2⟩ | ⟨⟨h1, h2⟩, h3⟩ | ⟨h1, h2⟩
  · have HE := Lib.hid (enc_one h1 h2)
    go_enter Tryd.func15, Tryd.ntmps15
    go_wp2
    go_ret
    unfold BytesW
    rw [HE.out]
    exact ⟨rfl, by simp only [Lib.byteCells, List.map_cons, List.map_nil]; rw [toNat_toUInt8 (by omega) (by omega)]⟩
  · have HE := Lib.hid (enc_two h1 h2)
    go_enter Tryd.func15, Tryd.ntmps15
    go_wp2
    go_ret
    unfold BytesW
    rw [HE.out]
    exact ⟨rfl, by simp only [Lib.byteCells, List.map_cons, List.map_nil]; rw [toNat_toUInt8 (by omega) (by omega), toNat_toUInt8 (by omega) (by omega)]⟩
  · have HE := Lib.hid (enc_three h3)
    clear h3
    go_enter Tryd.func15, Tryd.ntmps15
    go_wp2
    go_ret
    unfold BytesW
    rw [HE.out]
    exact ⟨rfl, by simp only [Lib.byteCells, List.map_cons, List.map_nil]; rw [toNat_toUInt8 (by omega) (by omega), toNat_toUInt8 (by omega) (by omega), toNat_toUInt8 (by omega) (by omega)]⟩
  · have HE := Lib.hid (enc_four h1 h2)
    go_enter Tryd.func15, Tryd.ntmps15
    go_wp2
    go_ret
    unfold BytesW
    rw [HE.out]
    exact ⟨rfl, by simp only [Lib.byteCells, List.map_cons, List.map_nil]; rw [toNat_toUInt8 (by omega) (by omega), toNat_toUInt8 (by omega) (by omega), toNat_toUInt8 (by omega) (by omega), toNat_toUInt8 (by omega) (by omega)]⟩

theorem at_g {s : ByteArray} {k : Nat} (h : k < s.size) : (s[k]).toNat = g s.data.toList k := by
  unfold g
  rw [List.getD_eq_getElem?_getD, List.getElem?_eq_getElem (by simpa using h)]
  rfl
def par (l : List UInt8) (B : Int) (i : Nat) : Int := if i = 1 then g l 0 - B else if i = 2 then 64 * (g l 0 - B) + g l 1 - 128 else if i = 3 then 64 * (64 * (g l 0 - B) + g l 1 - 128) + g l 2 - 128 else 64 * (64 * (64 * (g l 0 - B) + g l 1 - 128) + g l 2 - 128) + g l 3 - 128
theorem par1 (l : List UInt8) (B : Int) : par l B 1 = g l 0 - B := rfl
theorem par2 (l : List UInt8) (B : Int) : par l B 2 = 64 * (g l 0 - B) + g l 1 - 128 := rfl
theorem par3 (l : List UInt8) (B : Int) : par l B 3 = 64 * (64 * (g l 0 - B) + g l 1 - 128) + g l 2 - 128 := rfl
theorem par4 (l : List UInt8) (B : Int) : par l B 4 = 64 * (64 * (64 * (g l 0 - B) + g l 1 - 128) + g l 2 - 128) + g l 3 - 128 := rfl
set_option maxHeartbeats 400000 in
theorem rcode_1 (s : ByteArray) (w : World) (h : 1 ≤ s.size) : Calls Tryd.prog 20 #[.string s, .int .i64 1] w fun e w' => e = .returned (.int .i64 (codeU s.data.toList 1)) ∧ w = w' := by
  have e0 := at_g (s := s) (k := 0) (by omega)
  have b0 := g_lt s.data.toList 0
  have HC : Hid (codeU s.data.toList 1 = g s.data.toList 0) := rfl
  go_enter Tryd.func20, Tryd.ntmps20
  go_wp2
  go_ret
  exact ⟨ret_int HC.out.symm, rfl⟩
set_option maxHeartbeats 800000 in
theorem rcode_2 (s : ByteArray) (w : World) (h : 2 ≤ s.size) : Calls Tryd.prog 20 #[.string s, .int .i64 2] w fun e w' => e = .returned (.int .i64 (codeU s.data.toList 2)) ∧ w = w' := by
  have e0 := at_g (s := s) (k := 0) (by omega)
  have e1 := at_g (s := s) (k := 1) (by omega)
  have b0 := g_lt s.data.toList 0
  have b1 := g_lt s.data.toList 1
  have HC : Hid (codeU s.data.toList 2 = par s.data.toList 192 2) := rfl
  have HP1 := Lib.hid (par1 s.data.toList 192)
  have HP2 := Lib.hid (par2 s.data.toList 192)
  go_enter Tryd.func20, Tryd.ntmps20
  go_wp2
  go_loop [5, 6] (fun x i => ∃ k : Nat, 1 ≤ k ∧ k ≤ 2 ∧ i = .int .i64 k ∧ x = .int .i64 (par s.data.toList 192 k)) (fun _ i => 4 - (intOf i).toNat)
  case atStart => exact ⟨1, by omega, by omega, rfl, by rw [HP1.out]⟩
  case round =>
    obtain ⟨k, hk1, hk2, rfl, rfl⟩ := hrel
    rcases (by omega : k = 1 ∨ k = 2) with rfl | rfl
    · rw [HP1.out]
      go_wp2
      go_round
      case rel => exact ⟨2, by omega, by omega, rfl, by rw [HP2.out]⟩
      case measure => simp [intOf]
    · go_wp2
      go_ret
      exact ⟨ret_int HC.out.symm, rfl⟩
set_option maxHeartbeats 800000 in
theorem rcode_3 (s : ByteArray) (w : World) (h : 3 ≤ s.size) : Calls Tryd.prog 20 #[.string s, .int .i64 3] w fun e w' => e = .returned (.int .i64 (codeU s.data.toList 3)) ∧ w = w' := by
  have e0 := at_g (s := s) (k := 0) (by omega)
  have b0 := g_lt s.data.toList 0
  have e1 := at_g (s := s) (k := 1) (by omega)
  have b1 := g_lt s.data.toList 1
  have e2 := at_g (s := s) (k := 2) (by omega)
  have b2 := g_lt s.data.toList 2
  have HC : Hid (codeU s.data.toList 3 = par s.data.toList 224 3) := rfl
  have HP1 := Lib.hid (par1 s.data.toList 224)
  have HP2 := Lib.hid (par2 s.data.toList 224)
  have HP3 := Lib.hid (par3 s.data.toList 224)
  go_enter Tryd.func20, Tryd.ntmps20
  go_wp2
  go_loop [5, 6] (fun x i => ∃ k : Nat, 1 ≤ k ∧ k ≤ 3 ∧ i = .int .i64 k ∧ x = .int .i64 (par s.data.toList 224 k)) (fun _ i => 5 - (intOf i).toNat)
  case atStart => exact ⟨1, by omega, by omega, rfl, by rw [HP1.out]⟩
  case round =>
    obtain ⟨k, hk1, hk2, rfl, rfl⟩ := hrel
    rcases (by omega : k = 1 ∨ k = 2 ∨ k = 3) with rfl | rfl | rfl
    · rw [HP1.out]
      go_wp2
      go_round
      case rel => exact ⟨2, by omega, by omega, rfl, by rw [HP2.out]⟩
      case measure => simp [intOf]
    · rw [HP2.out]
      go_wp2
      go_round
      case rel => exact ⟨3, by omega, by omega, rfl, by rw [HP3.out]⟩
      case measure => simp [intOf]
    · go_wp2
      go_ret
      exact ⟨ret_int HC.out.symm, rfl⟩
set_option maxHeartbeats 800000 in
theorem rcode_4 (s : ByteArray) (w : World) (h : 4 ≤ s.size) : Calls Tryd.prog 20 #[.string s, .int .i64 4] w fun e w' => e = .returned (.int .i64 (codeU s.data.toList 4)) ∧ w = w' := by
  have e0 := at_g (s := s) (k := 0) (by omega)
  have b0 := g_lt s.data.toList 0
  have e1 := at_g (s := s) (k := 1) (by omega)
  have b1 := g_lt s.data.toList 1
  have e2 := at_g (s := s) (k := 2) (by omega)
  have b2 := g_lt s.data.toList 2
  have e3 := at_g (s := s) (k := 3) (by omega)
  have b3 := g_lt s.data.toList 3
  have HC : Hid (codeU s.data.toList 4 = par s.data.toList 240 4) := rfl
  have HP1 := Lib.hid (par1 s.data.toList 240)
  have HP2 := Lib.hid (par2 s.data.toList 240)
  have HP3 := Lib.hid (par3 s.data.toList 240)
  have HP4 := Lib.hid (par4 s.data.toList 240)
  go_enter Tryd.func20, Tryd.ntmps20
  go_wp2
  go_loop [5, 6] (fun x i => ∃ k : Nat, 1 ≤ k ∧ k ≤ 4 ∧ i = .int .i64 k ∧ x = .int .i64 (par s.data.toList 240 k)) (fun _ i => 5 - (intOf i).toNat)
  case atStart => exact ⟨1, by omega, by omega, rfl, by rw [HP1.out]⟩
  case round =>
    obtain ⟨k, hk1, hk2, rfl, rfl⟩ := hrel
    rcases (by omega : k = 1 ∨ k = 2 ∨ k = 3 ∨ k = 4) with rfl | rfl | rfl | rfl
    · rw [HP1.out]
      go_wp2
      go_round
      case rel => exact ⟨2, by omega, by omega, rfl, by rw [HP2.out]⟩
      case measure => simp [intOf]
    · rw [HP2.out]
      go_wp2
      go_round
      case rel => exact ⟨3, by omega, by omega, rfl, by rw [HP3.out]⟩
      case measure => simp [intOf]
    · rw [HP3.out]
      go_wp2
      go_round
      case rel => exact ⟨4, by omega, by omega, rfl, by rw [HP4.out]⟩
      case measure => simp [intOf]
    · go_wp2
      go_ret
      exact ⟨ret_int HC.out.symm, rfl⟩
theorem rcode_any (s : ByteArray) (n : Nat) (w : World) (h1 : 1 ≤ n) (h4 : n ≤ 4) (h : n ≤ s.size) : Calls Tryd.prog 20 #[.string s, .int .i64 n] w fun e w' => e = .returned (.int .i64 (codeU s.data.toList n)) ∧ w = w' := by
  rcases (by omega : n = 1 ∨ n = 2 ∨ n = 3 ∨ n = 4) with rfl | rfl | rfl | rfl
  · exact rcode_1 s w h
  · exact rcode_2 s w h
  · exact rcode_3 s w h
  · exact rcode_4 s w h

/-- is it the first character's size -/
theorem nxt_yes {l : List UInt8} {n : Nat} (h1 : 1 ≤ n) (hn : n ≤ l.length) (h : n = (nxt l).2) : mayU (codeU l n) = true ∧ encU (codeU l n) = l.take n ∧ codeU l n = (nxt l).1 := by
  obtain ⟨a, b, c⟩ := nxt_is (l := l) (c := (nxt l).1) (n := n) (by rw [h]) (by omega)
  obtain ⟨d, e, _⟩ := nxt_enc a b c
  rw [e]
  exact ⟨a, c, rfl⟩
theorem nxt_not {l : List UInt8} {n : Nat} (hn : n ≤ l.length) (h : n ≠ (nxt l).2) : mayU (codeU l n) = false ∨ mayU (codeU l n) = true ∧ encU (codeU l n) ≠ l.take n := by
  cases hm : mayU (codeU l n)
  · exact .inl rfl
  · refine .inr ⟨rfl, fun e => h ?_⟩
    rw [(nxt_enc hm hn e).1]
theorem ext_take (s : ByteArray) (k : Nat) : (s.extract 0 k).toList = s.data.toList.take k := by
  rw [ByteArray.toList_eq]; simp
theorem mk_list (l : List UInt8) : (ByteArray.mk l.toArray).toList = l := by
  rw [ByteArray.toList_eq]
theorem bytesW_str {c : Int} {w w1 : World} {E : ByteArray} (hE : E = ByteArray.mk (encU c).toArray) (hw : w1 = w.alloc (.cells (Lib.byteCells (encU c)).toArray 5)) (n m : Nat) (hn : (encU c).length = n) :
    (convert 26 9 (.slice (some ⟨w.heap.size, 0, none⟩) n m)).run Tryd.prog w1 = .ok (.string E) w1 := by
  subst hE; subst hw
  exact run_string (lit_rb w (encU c) _ rfl) n m hn
theorem rbytes_s (c : Int) (E : ByteArray) (n : Nat) (hE : E = ByteArray.mk (encU c).toArray) (hn : (encU c).length = n) (w : World) (hm : mayU c = true) : Calls Tryd.prog 15 #[.int .i64 c] w fun e w' =>
    ∃ g, e = .returned (.slice (some ⟨g, 0, none⟩) n n) ∧ (convert 26 9 (.slice (some ⟨g, 0, none⟩) n n)).run Tryd.prog w' = .ok (.string E) w' ∧ Below w.heap.size w w' := by
  subst hn
  refine (rbytes_any c w hm).mono fun e w' ⟨he, hw⟩ => ⟨_, he, bytesW_str hE hw _ _ rfl, ?_⟩
  rw [hw]; exact below_new _ _
theorem quiet_l {P : Program} {f : FuncId} {args : Array Value} {w : World} {n : Nat} {v : Value}
    (h : Calls P f args (w.drewN n) fun e w' => e = .returned v ∧ w.drewN n = w') : Calls P f args (w.drewN n) fun e w'' => e = .returned v ∧ ∃ m, w'' = w.drewN m :=
  h.mono fun _ _ ⟨he, hm⟩ => ⟨he, n, hm.symm⟩
set_option maxRecDepth 100000 in
set_option maxHeartbeats 1600000 in
theorem rnext_any (s : ByteArray) (w : World) (hs : s.size ≤ 9223372036854775807) : Calls Tryd.prog 10 #[.string s] w fun e w' => e = .returned (.tuple #[.int .i64 (nxt s.data.toList).1, .int .i64 ((nxt s.data.toList).2 : Nat)]) ∧ Below w.heap.size w w' := by
  have hsz : s.size = s.data.toList.length := by cases s; simp [ByteArray.size]
  have HSZ := Lib.hid hsz
  clear hsz
  obtain ⟨M, hM⟩ : ∃ M, M = (nxt s.data.toList).2 := ⟨_, rfl⟩
  obtain ⟨C, hC⟩ : ∃ C, C = (nxt s.data.toList).1 := ⟨_, rfl⟩
  rw [← hM, ← hC]
  have h4 : M ≤ 4 := by rw [hM]; exact (nxt_size (l := s.data.toList) rfl).1
  have hMs : M ≤ s.size := by
    rcases Nat.eq_zero_or_pos M with h0 | h0
    · omega
    · rw [HSZ.out]
      have := (nxt_is (l := s.data.toList) (c := C) (n := M) (by rw [hM, hC]) (by omega)).2.1
      exact this
  have hM0 : M = 0 → C = -1 := fun h => (nxt_size (l := s.data.toList) (c := C) (n := M) (by rw [hM, hC])).2 h
  have HM := Lib.hid hM
  have HC := Lib.hid hC
  have HM0 := Lib.hid hM0
  clear hM hC hM0
  go_enter Tryd.func10, Tryd.ntmps10
  go_wp2
  go_loopw [4] (fun i wr => ∃ k : Nat, 1 ≤ k ∧ k ≤ 5 ∧ (M = 0 ∨ k ≤ M) ∧ i = .int .i64 k ∧ Below w.heap.size w wr) (fun i _ => 6 - (intOf i).toNat)
  case atStart => exact ⟨1, by omega, by omega, by omega, rfl, Below.refl _ _⟩
  case round =>
    obtain ⟨k, hk1, hk2, hkM, rfl, hbw⟩ := hrel
    have HB := Lib.hid hbw
    clear hbw
    rcases (by omega : 4 < k ∨ k ≤ 4 ∧ s.size < k ∨ k ≤ 4 ∧ k ≤ s.size) with g1 | ⟨g1, g2⟩ | ⟨g1, g2⟩
    · have hM : M = 0 := by omega
      have e1 : decide ((k : Int) ≤ 4) = false := by rw [decide_eq_false_iff_not]; omega
      have HR : Hid ((C = -1) ∧ ((M : Nat) : Int) = 0) := ⟨HM0.out hM, by omega⟩
      clear hM
      go_wp2
      go_ret2
      exact ⟨by rw [HR.out.1, HR.out.2]; rfl, HB.out⟩
    · have hM : M = 0 := by omega
      have e1 : decide ((k : Int) ≤ 4) = true := by rw [decide_eq_true_iff]; omega
      have e2 : decide (k ≤ s.size) = false := by rw [decide_eq_false_iff_not]; omega
      have HR : Hid ((C = -1) ∧ ((M : Nat) : Int) = 0) := ⟨HM0.out hM, by omega⟩
      clear hM
      go_wp2
      go_ret2
      exact ⟨by rw [HR.out.1, HR.out.2]; rfl, HB.out⟩
    · have e1 : decide ((k : Int) ≤ 4) = true := by rw [decide_eq_true_iff]; omega
      have e2 : decide (k ≤ s.size) = true := by rw [decide_eq_true_iff]; omega
      obtain ⟨c, hc⟩ : ∃ c, c = codeU s.data.toList k := ⟨_, rfl⟩
      have HCD := Lib.hid (fun w => rcode_any s k w hk1 g1 g2)
      rw [← hc] at HCD
      have HCC := Lib.hid hc
      rcases (by omega : k = M ∨ k ≠ M) with hkm | hkm
      · have hy := nxt_yes hk1 (by rw [← HSZ.out]; exact g2) (hkm.trans HM.out)
        rw [← hc, ← HC.out] at hy
        obtain ⟨y1, y2, y3⟩ := hy
        have HE : Hid ((ByteArray.mk (encU c).toArray).toList = (s.extract 0 k).toList) := by show _ = _; rw [mk_list, ext_take, y2]
        have hkc : c = C ∧ k = M := ⟨y3, hkm⟩
        have HKC := Lib.hid hkc
        clear hc hkm y2 y3 hkc
        obtain ⟨E, hE⟩ : ∃ E, E = ByteArray.mk (encU c).toArray := ⟨_, rfl⟩
        rw [← hE] at HE
        have HEE := Lib.hid hE
        have e3 : (E.toList == (s.extract 0 k).toList) = true := by rw [HE.out]; simp
        clear hE
        go_wp2_with fail
        refine (HCD.out _).mono ?_
        rintro e w' ⟨rfl, rfl⟩
        go_wp2_with fail
        obtain ⟨n, hn⟩ : ∃ n, n = (encU c).length := ⟨_, rfl⟩
        have HN := Lib.hid hn.symm
        clear hn
        have hB := HB.out.drew
        go_region_held (fun w' => True) (trivial)
          (first | (go_at_call 14; (refine (rmay_any c _).mono ?_); rintro e w' ⟨rfl, rfl⟩)
                 | (go_at_call 15; (refine (rbytes_s c E n HEE.out HN.out _ y1).mono ?_); rintro e w1 ⟨g, rfl, hs1, hb1⟩; have hB := hB.trans (hb1.mono hB.size); clear hb1))
        clear hs1
        go_wp2
        go_ret2
        exact ⟨by rw [HKC.out.1, HKC.out.2]; rfl, hB⟩
      · have hx := nxt_not (l := s.data.toList) (n := k) (by rw [← HSZ.out]; exact g2) (by rw [← HM.out]; exact hkm)
        rw [← hc] at hx
        have hkM2 : M = 0 ∨ k + 1 ≤ M := by omega
        clear hkM hkm hc
        rcases hx with hx | ⟨hx, hne⟩
        · go_wp2_with fail
          refine (HCD.out _).mono ?_
          rintro e w' ⟨rfl, rfl⟩
          go_wp2_with fail
          go_quiet ((go_at_call 14; exact quiet_l (rmay_any c _)))
          go_wp2
          go_roundw
          case rel => exact ⟨k + 1, by omega, by omega, hkM2, by go_num, dnU HB.out _⟩
          case measure => simp [intOf]; omega
        · obtain ⟨E, hE⟩ : ∃ E, E = ByteArray.mk (encU c).toArray := ⟨_, rfl⟩
          have HEE := Lib.hid hE
          have e3 : (E.toList == (s.extract 0 k).toList) = false := by
            rw [beq_eq_false_iff_ne, hE, mk_list, ext_take]
            exact hne
          clear hE hne
          go_wp2_with fail
          refine (HCD.out _).mono ?_
          rintro e w' ⟨rfl, rfl⟩
          go_wp2_with fail
          obtain ⟨n, hn⟩ : ∃ n, n = (encU c).length := ⟨_, rfl⟩
          have HN := Lib.hid hn.symm
          clear hn
          have hB := HB.out.drew
          go_region_held (fun w' => True) (trivial)
            (first | (go_at_call 14; (refine (rmay_any c _).mono ?_); rintro e w' ⟨rfl, rfl⟩)
                   | (go_at_call 15; (refine (rbytes_s c E n HEE.out HN.out _ hx).mono ?_); rintro e w1 ⟨g, rfl, hs1, hb1⟩; have hB := hB.trans (hb1.mono hB.size); clear hb1))
          clear hs1
          go_wp2
          go_roundw
          case rel => exact ⟨k + 1, by omega, by omega, hkM2, by go_num, hB⟩
          case measure => simp [intOf]; omega

end Go.Proofs.YtonjnonpajkmlaaDoor
