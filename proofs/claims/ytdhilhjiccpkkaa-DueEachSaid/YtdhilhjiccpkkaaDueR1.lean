/-
  The document's queue: two lists alike; a name's place.
-/
import Derived.Test.YtdhilhjiccpkkaaDuePlain2
import Derived.Test.YtdhilhjiccpkkaaDueW4
import Derived.Laws.StructEq
import Derived.Shelf.SlicesE.Equal
import Derived.Deep.QuietTactic
import Derived.BigQuiet
namespace Go.Proofs.Ytdhilhjiccpkkaa
open Go.RowKit
set_option linter.unusedVariables false

theorem eql_du (a c : ByteArray) (b d : Int) (w : World) : (binOp .eql 44 (.agg #[.string a, .int .i64 b]) (.agg #[.string c, .int .i64 d])).run Try.prog w = .ok (.bool (decide ((a, b) = (c, d)))) w := by
  have u3 := Try.underlying3
  have u9 := Try.underlying9
  have a3 := Try.isAgg3
  have z3 := Try.sizeOf3
  have a9 := Try.isAgg9
  have z9 := Try.sizeOf9
  have hS : Try.prog.underlying 44 = some (.struct (Try.prog.fieldsOf 44)) := by kernel_rfl
  have hp : Try.prog.stoodInHeld 44 = false := by kernel_rfl
  have hb := beq_toList a c
  rw [run_eql_struct, show (10000 : Nat) = 9999 + 1 from rfl, run_equalIn_struct w 9999 44 _ _ hS hp]
  simp only [Program.fieldsOf, Try.underlying44]
  go_simp
  by_cases h1 : a = c <;> by_cases h2 : b = d <;> simp [h1, h2]
theorem equalIn_du (a c : ByteArray) (b d : Int) (w : World) : (Op.equalIn 10000 44 (.agg #[.string a, .int .i64 b]) (.agg #[.string c, .int .i64 d])).run Try.prog w = .ok (decide ((a, b) = (c, d))) w := by
  have u3 := Try.underlying3
  have u9 := Try.underlying9
  have a3 := Try.isAgg3
  have z3 := Try.sizeOf3
  have a9 := Try.isAgg9
  have z9 := Try.sizeOf9
  have hS : Try.prog.underlying 44 = some (.struct (Try.prog.fieldsOf 44)) := by kernel_rfl
  have hp : Try.prog.stoodInHeld 44 = false := by kernel_rfl
  have hb := beq_toList a c
  rw [show (10000 : Nat) = 9999 + 1 from rfl, run_equalIn_struct w 9999 44 _ _ hS hp]
  simp only [Program.fieldsOf, Try.underlying44]
  go_simp
  by_cases h1 : a = c <;> by_cases h2 : b = d <;> simp [h1, h2]
theorem noGuard : Try.prog.eqGuardType Try.prog.depth 44 = false := by kernel_rfl
/-- a list of names that is read -/
def RL (w : World) (A : Option Addr) (L : List Du) : Prop :=
  L = [] ∨ ∃ b o, A = some ⟨b, o, none⟩ ∧ b < w.heap.size ∧ ∀ k, k < L.length → w.cell? ⟨b, o + k * 2, none⟩ = some (.string (gd L k).1) ∧ w.cell? ⟨b, o + k * 2 + 1, none⟩ = some (.int .i64 (gd L k).2)
section
variable {w w' : World} {A : Option Addr} {L : List Du} {S : Nat → Prop}
theorem RL.nil (w : World) (A : Option Addr) : RL w A [] := .inl rfl
theorem RL.fr (h : RL w A L) (hf : Fr S w w') (hs : ∀ ad, A = some ad → ¬ S ad.block) : RL w' A L := by
  rcases h with h | ⟨b, o, rfl, hb, hc⟩
  · exact .inl h
  · refine .inr ⟨b, o, rfl, Nat.lt_of_lt_of_le hb hf.size, fun k hk => ?_⟩
    have hns := hs _ rfl
    exact ⟨cell_fr hf hns (hc k hk).1, cell_fr hf hns (hc k hk).2⟩
theorem RL.below (h : RL w A L) (hb : Below w.heap.size w w') : RL w' A L := h.fr (S := fun _ => False) (Fr.of_below hb) (fun _ _ x => x)
theorem RL.of_dr {base c : Nat} (h : DR w base (.slice A L.length c) L) : RL w A L := by
  rcases h.shape with ⟨_, e⟩ | ⟨g, cap, cur, e, _, hB, _, _, _, hdc⟩
  · exact .inl e
  · injection e with e1
    subst e1
    refine .inr ⟨g, 0, rfl, hB.lt, fun k hk => ?_⟩
    rw [Nat.zero_add, hB.cell, hB.cell]
    exact hdc k hk
theorem RL.take (h : RL w A L) {k : Nat} (hk : k ≤ L.length) : RL w A (L.take k) := by
  rcases h with h | ⟨b, o, e, hb, hc⟩
  · subst h; exact .inl (by simp)
  · refine .inr ⟨b, o, e, hb, fun j hj => ?_⟩
    rw [List.length_take] at hj
    have hj' : j < k := by omega
    have : gd (L.take k) j = gd L j := by
      unfold gd
      rw [List.getD_eq_getElem?_getD, List.getD_eq_getElem?_getD, List.getElem?_take_of_lt hj']
    rw [this]
    exact hc j (by omega)
theorem gd_drop' (X : List Du) (k j : Nat) : gd (X.drop k) j = gd X (k + j) := by
  unfold gd
  rw [List.getD_eq_getElem?_getD, List.getD_eq_getElem?_getD, List.getElem?_drop]
theorem RL.drop {b o : Nat} (h : RL w (some ⟨b, o, none⟩) L) (k : Nat) : RL w (some ⟨b, o + k * 2, none⟩) (L.drop k) := by
  rcases h with h | ⟨b', o', e, hb, hc⟩
  · subst h; exact .inl (by simp)
  · cases e
    refine .inr ⟨b, _, rfl, hb, fun j hj => ?_⟩
    rw [List.length_drop] at hj
    rw [gd_drop']
    have := hc (k + j) (by omega)
    rw [show o + k * 2 + j * 2 = o + (k + j) * 2 from by omega]
    exact this
end
theorem below_drewN {B : Nat} {w w' : World} (h : Below B w w') (n : Nat) : Below B w (w'.drewN n) := ⟨h.os, h.tape, h.output, h.size, h.block⟩
theorem du_ext {X Y : List Du} (hl : X.length = Y.length) (h : ∀ k, k < X.length → gd X k = gd Y k) : X = Y := gd_congr hl h
def SameI (w wr : World) (X Y : List Du) (k : Nat) : Prop := (∀ j, j < k → gd X j = gd Y j) ∧ Below w.heap.size w wr
set_option maxRecDepth 100000 in
set_option maxHeartbeats 2000000 in
theorem same_any {A B : Option Addr} {c d : Nat} {X Y : List Du} (w : World) (hX : RL w A X) (hY : RL w B Y) (hf : X.length ≤ 512) :
    Calls Try.prog 12 #[.slice A X.length c, .slice B Y.length d] w fun e w' => e = .returned (.bool (decide (X = Y))) ∧ Below w.heap.size w w' := by
  obtain ⟨n, hn⟩ : ∃ n, n = X.length := ⟨_, rfl⟩
  obtain ⟨m, hm⟩ : ∃ m, m = Y.length := ⟨_, rfl⟩
  rw [← hn] at hf
  rw [← hn, ← hm]
  have HX := Lib.hid hX
  have HY := Lib.hid hY
  have HN := Lib.hid hn
  have HM := Lib.hid hm
  obtain ⟨r, hr⟩ : ∃ r, r = decide (X = Y) := ⟨_, rfl⟩
  have HR := Lib.hid hr
  rw [← hr]
  clear hX hY hn hm hr
  by_cases hnm : n = m
  · subst hnm
    have b1 : ((n : Int) != (n : Int)) = false := by simp
    have b2 : (n != n) = false := by simp
    have HI0 : Hid (SameI w w X Y 0) := Lib.hid ⟨fun j hj => by omega, Below.refl _ _⟩
    go_enter Try.func12, Try.ntmps12
    go_wp2
    go_loopw [5] (fun i wr => ∃ k : Nat, k ≤ n ∧ i = .int .i64 (k : Int) ∧ Hid (SameI w wr X Y k)) (fun i _ => n - (intOf i).toNat)
    case atStart => exact ⟨0, Nat.zero_le _, rfl, HI0⟩
    case round =>
      obtain ⟨k, hk, rfl, HI⟩ := hrel
      clear HI0
      rcases (by omega : k < n ∨ k = n) with hlt | heq
      · have hkX : k < X.length := by rw [← HN.out]; exact hlt
        have hkY : k < Y.length := by rw [← HM.out]; exact hlt
        rcases HX.out.below HI.out.2 with e | ⟨bx, ox, rfl, _, hcx⟩
        · subst e; simp at hkX
        rcases HY.out.below HI.out.2 with e | ⟨by_, oy, rfl, _, hcy⟩
        · subst e; simp at hkY
        have x0 := (hcx k hkX).1
        have x1 := (hcx k hkX).2
        have y0 := (hcy k hkY).1
        have y1 := (hcy k hkY).2
        have q0 : decide ((k : Int) < (n : Int)) = true := by rw [decide_eq_true_iff]; omega
        have q0' : decide (k < n) = true := by rw [decide_eq_true_iff]; omega
        have q1 : (0 : Int) ≤ (k : Int) := by omega
        have q2 : (k : Int) < (n : Int) := by omega
        obtain ⟨dx, hdx⟩ : ∃ dx, dx = gd X k := ⟨_, rfl⟩
        obtain ⟨dy, hdy⟩ : ∃ dy, dy = gd Y k := ⟨_, rfl⟩
        rw [← hdx] at x0 x1
        rw [← hdy] at y0 y1
        have HDX := Lib.hid hdx
        have HDY := Lib.hid hdy
        obtain ⟨a1, a2⟩ := dx
        obtain ⟨b1', b2'⟩ := dy
        simp only at x0 x1 y0 y1
        have hq := equalIn_du a1 b1' a2 b2'
        have hng := noGuard
        clear hcx hcy hdx hdy hkX hkY
        by_cases hE : ((a1, a2) : Du) = (b1', b2')
        · have HE := Lib.hid hE
          rw [decide_eq_true hE] at hq
          clear hE
          go_wp2
          go_quiet (fail)
          have HI2 : Hid (SameI w (wr.drewN nq) X Y (k + 1)) := Lib.hid ⟨fun j hj => by
            rcases (by omega : j < k ∨ j = k) with h | rfl
            · exact HI.out.1 j h
            · rw [← HDX.out, ← HDY.out]; exact HE.out, below_drewN HI.out.2 nq⟩
          clear hq x0 x1 y0 y1
          go_wp2
          go_roundw
          case rel => exact ⟨k + 1, by omega, by go_num, HI2⟩
          case measure => simp [intOf]; omega
        · have HE := Lib.hid hE
          rw [decide_eq_false hE] at hq
          have HV : Hid (r = false) := Lib.hid (by
            rw [HR.out, decide_eq_false_iff_not]
            intro e
            exact hE (by rw [HDX.out, HDY.out, e]))
          clear hE
          go_wp2
          go_quiet (fail)
          clear hq x0 x1 y0 y1
          go_wp2
          go_ret
          exact ⟨by rw [HV.out]; rfl, below_drewN HI.out.2 nq⟩
      · have HV : Hid (r = true) := Lib.hid (by
          rw [HR.out, decide_eq_true_iff]
          exact du_ext (by rw [← HN.out, ← HM.out]) (fun j hj => HI.out.1 j (by rw [heq, HN.out]; exact hj)))
        have q0 : decide ((k : Int) < (n : Int)) = false := by rw [decide_eq_false_iff_not]; omega
        have q0' : decide (k < n) = false := by rw [decide_eq_false_iff_not]; omega
        clear heq
        go_wp2
        go_ret
        exact ⟨by rw [HV.out]; rfl, HI.out.2⟩
  · have HV : Hid (r = false) := Lib.hid (by
      rw [HR.out, decide_eq_false_iff_not]
      intro e
      exact hnm (by rw [HN.out, HM.out, e]))
    have b1 : ((n : Int) != (m : Int)) = true := by rw [bne_iff_ne]; omega
    have b2 : (n != m) = true := by rw [bne_iff_ne]; exact hnm
    clear hnm
    go_enter Try.func12, Try.ntmps12
    go_wp2
    go_ret
    exact ⟨by rw [HV.out]; rfl, Below.refl _ _⟩
/-- the document's queue in memory -/
structure XAt (w : World) (x : Nat) (A : Option Addr) (c : Nat) (X : List Du) : Prop where
  blk : Blk w x 28 #[.slice A X.length c]
  rl : RL w A X
  le : X.length ≤ c
  cm : c ≤ maxLen
  form : (A = none ∧ c = 0) ∨ ∃ b o, A = some ⟨b, o, none⟩ ∧ b < w.heap.size
theorem idx_step {X : List Du} {s : ByteArray} {k : Nat} (h : ∀ j, j < k → (gd X j).1 ≠ s) (hk : k < X.length) (he : (gd X k).1 = s) : idxL X s = some k := by
  unfold idxL
  rw [List.findIdx?_eq_some_iff_getElem]
  refine ⟨hk, by rw [← gd_at hk]; exact decide_eq_true he, fun j hj h2 => ?_⟩
  have := of_decide_eq_true h2
  rw [← gd_at (by omega)] at this
  exact h j hj this
theorem idx_end {X : List Du} {s : ByteArray} (h : ∀ j, j < X.length → (gd X j).1 ≠ s) : idxL X s = none := by
  rw [idx_none]
  intro hm
  obtain ⟨d, hd, e⟩ := List.mem_map.1 hm
  obtain ⟨j, hj, e2⟩ := List.getElem_of_mem hd
  exact h j hj (by rw [gd_at hj, e2, e])
def findI (X : List Du) (s : ByteArray) : Int := match idxL X s with | some i => (i : Int) | none => -1
set_option maxRecDepth 100000 in
set_option maxHeartbeats 2000000 in
theorem xfind_any {x c : Nat} {A : Option Addr} {X : List Du} (w : World) (h : XAt w x A c X) (s : ByteArray) (hf : X.length ≤ 256) :
    Calls Try.prog 21 #[.pointer (some ⟨x, 0, none⟩), .string s] w fun e w' => e = .returned (.int .i64 (findI X s)) ∧ w' = w := by
  have c0 := h.blk.cell 0
  simp only [List.getElem?_toArray, List.getElem?_cons_zero] at c0
  obtain ⟨n, hn⟩ : ∃ n, n = X.length := ⟨_, rfl⟩
  rw [← hn] at c0 hf
  have HN := Lib.hid hn
  have HR := Lib.hid h.rl
  obtain ⟨r, hr⟩ : ∃ r, r = findI X s := ⟨_, rfl⟩
  have HV := Lib.hid hr
  rw [← hr]
  clear h hn hr
  go_enter Try.func21, Try.ntmps21
  go_wp2
  go_loopw [5] (fun i wr => ∃ k : Nat, k ≤ n ∧ i = .int .i64 (k : Int) ∧ wr = w ∧ Hid (∀ j, j < k → (gd X j).1 ≠ s)) (fun i _ => n - (intOf i).toNat)
  case atStart => exact ⟨0, Nat.zero_le _, rfl, rfl, Lib.hid (fun j hj => by omega)⟩
  case round =>
    obtain ⟨k, hk, rfl, rfl, HI⟩ := hrel
    rcases (by omega : k < n ∨ k = n) with hlt | heq
    · have hkX : k < X.length := by rw [← HN.out]; exact hlt
      rcases HR.out with e | ⟨b, o, rfl, _, hc⟩
      · subst e; simp at hkX
      have x0 := (hc k hkX).1
      have q0 : decide ((k : Int) < (n : Int)) = true := by rw [decide_eq_true_iff]; omega
      have q0' : decide (k < n) = true := by rw [decide_eq_true_iff]; omega
      have q1 : (0 : Int) ≤ (k : Int) := by omega
      have q2 : (k : Int) < (n : Int) := by omega
      obtain ⟨a, ha⟩ : ∃ a, a = (gd X k).1 := ⟨_, rfl⟩
      rw [← ha] at x0
      have HA := Lib.hid ha
      have HKX := Lib.hid hkX
      have hbq := beq_toList a s
      clear hc ha hkX
      by_cases hE : a = s
      · have hb : (a.toList == s.toList) = true := by rw [hbq]; exact decide_eq_true hE
        have HE := Lib.hid hE
        clear hbq hE
        go_wp2
        go_ret
        have : r = (k : Int) := by
          rw [HV.out]
          unfold findI
          rw [idx_step HI.out HKX.out (by rw [← HA.out]; exact HE.out)]
        exact ⟨by rw [this]; rfl, rfl⟩
      · have hb : (a.toList == s.toList) = false := by rw [hbq]; exact decide_eq_false hE
        have HI2 : Hid (∀ j, j < k + 1 → (gd X j).1 ≠ s) := Lib.hid (fun j hj => by
          rcases (by omega : j < k ∨ j = k) with h | rfl
          · exact HI.out j h
          · rw [← HA.out]; exact hE)
        clear hbq hE
        go_wp2
        go_roundw
        case rel => exact ⟨k + 1, by omega, by go_num, by first | rfl | trivial, HI2⟩
        case measure => simp [intOf]; omega
    · have HE := Lib.hid heq
      have q0 : decide ((k : Int) < (n : Int)) = false := by rw [decide_eq_false_iff_not]; omega
      have q0' : decide (k < n) = false := by rw [decide_eq_false_iff_not]; omega
      clear heq
      go_wp2
      go_ret
      have : r = -1 := by
        rw [HV.out]
        unfold findI
        rw [idx_end (fun j hj => HI.out j (by rw [HE.out, HN.out]; exact hj))]
      exact ⟨by rw [this]; rfl, rfl⟩
end Go.Proofs.Ytdhilhjiccpkkaa
