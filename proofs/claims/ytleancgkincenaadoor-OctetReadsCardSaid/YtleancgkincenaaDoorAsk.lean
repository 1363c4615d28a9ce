/-
  pursuivantlaw01.ask: one question of both readers: they agree.
-/
import Derived.Test.YtleancgkincenaaDoorRefReader
import Derived.Deep.QuietTactic
import Derived.BigQuiet
import Derived.Deep.RegionHeld
namespace Go.Proofs.YtleancgkincenaaDoor
open Go.RowKit
set_option linter.unusedVariables false

theorem quiet_l {P : Program} {f : FuncId} {args : Array Value} {w : World} {n : Nat} {v : Value}
    (h : Calls P f args (w.drewN n) fun e w' => e = .returned v ∧ w.drewN n = w') : Calls P f args (w.drewN n) fun e w'' => e = .returned v ∧ ∃ m, w'' = w.drewN m :=
  h.mono fun _ _ ⟨he, hm⟩ => ⟨he, n, hm.symm⟩
theorem quiet_al {P : Program} {f : FuncId} {args : Array Value} {w : World} {a n : Nat} {v : Value}
    (h : Calls P f args (w.drewN (a + n)) fun e w' => e = .returned v ∧ w.drewN (a + n) = w') : Calls P f args (w.drewN (a + n)) fun e w'' => e = .returned v ∧ ∃ m, w'' = w.drewN (a + m) :=
  h.mono fun _ _ ⟨he, hm⟩ => ⟨he, n, hm.symm⟩
theorem RX.drewN {w : World} {r : Nat} {l : List UInt8} {b : Bool} (h : RX w r l b) (n : Nat) : RX (w.drewN n) r l b := h
theorem RX.drew {w : World} {r : Nat} {l : List UInt8} {b : Bool} (h : RX w r l b) : RX w.drew r l b := h
theorem RD.bad_nil {w : World} {r : Nat} {l : List UInt8} (h : RD w r l true) : l = [] := by
  obtain ⟨A, c, hb, hR, hc, hm, hln, hbad, hA⟩ := h
  exact hbad rfl
def Two (r x : Nat) : Nat → Prop := fun k => k = r ∨ k = x
/-- both readers stand alike -/
def Both (w : World) (r x : Nat) (l : List UInt8) (b : Bool) : Prop := RD w r l b ∧ RX w x l b
theorem Both.ne {w : World} {r x : Nat} {l : List UInt8} {b : Bool} (h : Both w r x l b) : r ≠ x ∧ (∀ k cs, k = r → ¬ Blk w k 5 cs) ∧ (∀ k cs, k = x → ¬ Blk w k 5 cs) := by
  obtain ⟨A, c, hb1, _⟩ := h.1
  obtain ⟨A2, c2, hb2, _⟩ := h.2
  refine ⟨hb1.ne_ hb2 (by decide), ?_, ?_⟩
  · rintro k cs rfl hk
    exact hb1.ne_ hk (by decide) rfl
  · rintro k cs rfl hk
    exact hb2.ne_ hk (by decide) rfl
/-- the reader's call leaves the reference's as it was -/
theorem Both.first {w w1 : World} {r x : Nat} {l : List UInt8} {b : Bool} (h : Both w r x l b) (f1 : Fr (· = r) w w1) : RX w1 x l b :=
  h.2.fr f1 (fun e => h.ne.1 e.symm) (fun k cs e => h.ne.2.1 k cs e)
theorem Both.second {w1 w2 : World} {r x : Nat} {l l' : List UInt8} {b b' : Bool} (h1 : RD w1 r l' b') (hx : RX w1 x l b) (h2 : RX w2 x l' b') (f2 : Fr (· = x) w1 w2) : Both w2 r x l' b' := by
  obtain ⟨A, c, hb1, _⟩ := id h1
  obtain ⟨A2, c2, hb2, _⟩ := id hx
  refine ⟨h1.fr f2 (fun e => hb1.ne_ hb2 (by decide) e) ?_, h2⟩
  rintro k cs rfl hk
  exact hb2.ne_ hk (by decide) rfl


set_option maxRecDepth 1000000 in
set_option maxHeartbeats 1000000 in
theorem ask_int (w : World) (r x : Nat) (l l' : List UInt8) (b b' : Bool) (n v : Int) (h : Both w r x l b)
    (hR : ∀ w, RD w r l b → Calls Tryd.prog 34 #[.pointer (some ⟨r, 0, none⟩), .int .i64 n] w fun e w' => e = .returned (.int .i64 v) ∧ RD w' r l' b' ∧ Fr (· = r) w w')
    (hX : ∀ w, RX w x l b → Calls Tryd.prog 64 #[.pointer (some ⟨x, 0, none⟩), .int .i64 n] w fun e w' => e = .returned (.int .i64 v) ∧ RX w' x l' b' ∧ Fr (· = x) w w') :
    Calls Tryd.prog 40 #[.pointer (some ⟨r, 0, none⟩), .pointer (some ⟨x, 0, none⟩), .agg #[.int .i64 1, .int .i64 n]] w fun e w' => e = .returned (.bool true) ∧ Both w' r x l' b' ∧ Fr (Two r x) w w' := by
  have HR := Lib.hid hR
  have HX := Lib.hid hX
  have HBO := Lib.hid h
  clear hR hX h
  go_enter Tryd.func40, Tryd.ntmps40
  have HBA : Hid (∀ o, Both (w.alloc o) r x l b) := fun o => ⟨HBO.out.1.below ((Below.refl _ _).alloc (Nat.le_refl _) _), HBO.out.2.fr (S := fun _ => False) (Fr.of_below ((Below.refl _ _).alloc (Nat.le_refl _) _)) (fun x => x) (fun _ _ x => x.elim)⟩
  have hrlt : r < w.heap.size := by obtain ⟨A, c, hb, _⟩ := HBO.out.1; exact hb.lt
  have hxlt : x < w.heap.size := by obtain ⟨A, c, hb, _⟩ := HBO.out.2; exact hb.lt
  have HC : Hid (∀ k v, ((w.alloc (.cells #[.int .i64 k, .int .i64 v] 62)).drew).cell? ⟨w.heap.size, 1, none⟩ = some (.int .i64 v)) := fun k v => (Blk.new w 62 #[.int .i64 k, .int .i64 v]).cell 1
  go_wp2_with fail
  go_region_held (fun w' => w'.cell? ⟨w.heap.size, 1, none⟩ = some (.int .i64 n))
    (first | exact HC.out 1 n | exact (f1.cell (p := ⟨w.heap.size, 1, none⟩) (by simp) (by simp; omega)).trans (HC.out 1 n) | exact (f2.cell (p := ⟨w.heap.size, 1, none⟩) hsz1 (by simp; omega)).trans ((f1.cell (p := ⟨w.heap.size, 1, none⟩) (by simp) (by simp; omega)).trans (HC.out 1 n)))
    (first | (go_at_call 34; go_must (refine (HR.out _ (by exact (HBA.out _).1.drew)).mono ?_); rintro e w1 ⟨rfl, hd1, f1⟩; have hsz1 : w.heap.size < w1.heap.size := by (have := f1.size; simp at this; omega))
           | (go_at_call 64; go_must (refine (HX.out _ (by exact (show Both _ r x l b from ⟨(HBA.out _).1.drew, (HBA.out _).2.drew⟩).first f1)).mono ?_); rintro e w2 ⟨rfl, hd2, f2⟩))
  have HBT := Lib.hid (Both.second hd1 ((show Both _ r x l b from ⟨(HBA.out _).1.drew, (HBA.out _).2.drew⟩).first f1) hd2 f2)
  have HF : Hid (Fr (Two r x) w w2) := (((Fr.refl _ _).alloc _).drew.trans_new f1 (fun j _ e => .inl e)).trans_new f2 (fun j _ e => .inr e)
  clear hd1 f1 hd2 f2 HR HX HBA HBO HC hsz1 hrlt hxlt
  obtain ⟨A, c, x0, x1, _, _⟩ := HBT.out.2.parts
  have hln := HBT.out.1.len
  cases b' with
  | true =>
    have hz : ((l'.length : Int) == 0) = true := by rw [HBT.out.1.bad_nil]; rfl
    go_wp2
    go_quiet ((first | (go_at_call 39; exact quiet_l (left_any _ r l' true (HBT.out.1.drewN _))) | (go_at_call 43; exact quiet_l (bad_any _ r l' true (HBT.out.1.drewN _))) | (go_at_call 35; exact quiet_l (done_bad _ r l' (HBT.out.1.drewN _)))))
    go_wp2
    go_ret
    exact ⟨rfl, ⟨HBT.out.1.drewN _, HBT.out.2.drewN _⟩, HF.out.drewN _⟩
  | false =>
    rcases Nat.eq_zero_or_pos l'.length with h0 | h0
    · have hz : ((l'.length : Int) == 0) = true := by rw [h0]; rfl
      have hdc : (doneCode l'.length == 0) = true := by rw [h0]; rfl
      clear h0
      go_wp2
      go_quiet ((first | (go_at_call 39; exact quiet_l (left_any _ r l' false (HBT.out.1.drewN _))) | (go_at_call 43; exact quiet_l (bad_any _ r l' false (HBT.out.1.drewN _))) | (go_at_call 35; exact quiet_l (done_any _ r l' (HBT.out.1.drewN _)))))
      go_wp2
      go_ret
      exact ⟨rfl, ⟨HBT.out.1.drewN _, HBT.out.2.drewN _⟩, HF.out.drewN _⟩
    · have hz : ((l'.length : Int) == 0) = false := by rw [beq_eq_false_iff_ne]; omega
      have hdc : (doneCode l'.length == 0) = false := by rw [doneCode, if_neg (by omega)]; rfl
      clear h0
      go_wp2
      go_quiet ((first | (go_at_call 39; exact quiet_l (left_any _ r l' false (HBT.out.1.drewN _))) | (go_at_call 43; exact quiet_l (bad_any _ r l' false (HBT.out.1.drewN _))) | (go_at_call 35; exact quiet_l (done_any _ r l' (HBT.out.1.drewN _)))))
      go_wp2
      go_ret
      exact ⟨rfl, ⟨HBT.out.1.drewN _, HBT.out.2.drewN _⟩, HF.out.drewN _⟩


set_option maxRecDepth 1000000 in
set_option maxHeartbeats 1000000 in
theorem ask_text (w : World) (r x : Nat) (l l' : List UInt8) (b b' : Bool) (n : Int) (v : ByteArray) (h : Both w r x l b)
    (hR : ∀ w, RD w r l b → Calls Tryd.prog 38 #[.pointer (some ⟨r, 0, none⟩), .int .i64 n] w fun e w' => e = .returned (.string v) ∧ RD w' r l' b' ∧ Fr (· = r) w w')
    (hX : ∀ w, RX w x l b → Calls Tryd.prog 66 #[.pointer (some ⟨x, 0, none⟩), .int .i64 n] w fun e w' => e = .returned (.string v) ∧ RX w' x l' b' ∧ Fr (· = x) w w') :
    Calls Tryd.prog 40 #[.pointer (some ⟨r, 0, none⟩), .pointer (some ⟨x, 0, none⟩), .agg #[.int .i64 3, .int .i64 n]] w fun e w' => e = .returned (.bool true) ∧ Both w' r x l' b' ∧ Fr (Two r x) w w' := by
  have HR := Lib.hid hR
  have HX := Lib.hid hX
  have HBO := Lib.hid h
  clear hR hX h
  go_enter Tryd.func40, Tryd.ntmps40
  have HBA : Hid (∀ o, Both (w.alloc o) r x l b) := fun o => ⟨HBO.out.1.below ((Below.refl _ _).alloc (Nat.le_refl _) _), HBO.out.2.fr (S := fun _ => False) (Fr.of_below ((Below.refl _ _).alloc (Nat.le_refl _) _)) (fun x => x) (fun _ _ x => x.elim)⟩
  have hrlt : r < w.heap.size := by obtain ⟨A, c, hb, _⟩ := HBO.out.1; exact hb.lt
  have hxlt : x < w.heap.size := by obtain ⟨A, c, hb, _⟩ := HBO.out.2; exact hb.lt
  have HC : Hid (∀ k v, ((w.alloc (.cells #[.int .i64 k, .int .i64 v] 62)).drew).cell? ⟨w.heap.size, 1, none⟩ = some (.int .i64 v)) := fun k v => (Blk.new w 62 #[.int .i64 k, .int .i64 v]).cell 1
  go_wp2_with fail
  go_region_held (fun w' => w'.cell? ⟨w.heap.size, 1, none⟩ = some (.int .i64 n))
    (first | exact HC.out 3 n | exact (f1.cell (p := ⟨w.heap.size, 1, none⟩) (by simp) (by simp; omega)).trans (HC.out 3 n) | exact (f2.cell (p := ⟨w.heap.size, 1, none⟩) hsz1 (by simp; omega)).trans ((f1.cell (p := ⟨w.heap.size, 1, none⟩) (by simp) (by simp; omega)).trans (HC.out 3 n)))
    (first | (go_at_call 38; go_must (refine (HR.out _ (by exact (HBA.out _).1.drew)).mono ?_); rintro e w1 ⟨rfl, hd1, f1⟩; have hsz1 : w.heap.size < w1.heap.size := by (have := f1.size; simp at this; omega))
           | (go_at_call 66; go_must (refine (HX.out _ (by exact (show Both _ r x l b from ⟨(HBA.out _).1.drew, (HBA.out _).2.drew⟩).first f1)).mono ?_); rintro e w2 ⟨rfl, hd2, f2⟩))
  have HBT := Lib.hid (Both.second hd1 ((show Both _ r x l b from ⟨(HBA.out _).1.drew, (HBA.out _).2.drew⟩).first f1) hd2 f2)
  have HF : Hid (Fr (Two r x) w w2) := (((Fr.refl _ _).alloc _).drew.trans_new f1 (fun j _ e => .inl e)).trans_new f2 (fun j _ e => .inr e)
  clear hd1 f1 hd2 f2 HR HX HBA HBO HC hsz1 hrlt hxlt
  obtain ⟨A, c, x0, x1, _, _⟩ := HBT.out.2.parts
  have hln := HBT.out.1.len
  cases b' with
  | true =>
    have hz : ((l'.length : Int) == 0) = true := by rw [HBT.out.1.bad_nil]; rfl
    go_wp2
    go_quiet ((first | (go_at_call 39; exact quiet_l (left_any _ r l' true (HBT.out.1.drewN _))) | (go_at_call 43; exact quiet_l (bad_any _ r l' true (HBT.out.1.drewN _))) | (go_at_call 35; exact quiet_l (done_bad _ r l' (HBT.out.1.drewN _)))))
    go_wp2
    go_ret
    exact ⟨rfl, ⟨HBT.out.1.drewN _, HBT.out.2.drewN _⟩, HF.out.drewN _⟩
  | false =>
    rcases Nat.eq_zero_or_pos l'.length with h0 | h0
    · have hz : ((l'.length : Int) == 0) = true := by rw [h0]; rfl
      have hdc : (doneCode l'.length == 0) = true := by rw [h0]; rfl
      clear h0
      go_wp2
      go_quiet ((first | (go_at_call 39; exact quiet_l (left_any _ r l' false (HBT.out.1.drewN _))) | (go_at_call 43; exact quiet_l (bad_any _ r l' false (HBT.out.1.drewN _))) | (go_at_call 35; exact quiet_l (done_any _ r l' (HBT.out.1.drewN _)))))
      go_wp2
      go_ret
      exact ⟨rfl, ⟨HBT.out.1.drewN _, HBT.out.2.drewN _⟩, HF.out.drewN _⟩
    · have hz : ((l'.length : Int) == 0) = false := by rw [beq_eq_false_iff_ne]; omega
      have hdc : (doneCode l'.length == 0) = false := by rw [doneCode, if_neg (by omega)]; rfl
      clear h0
      go_wp2
      go_quiet ((first | (go_at_call 39; exact quiet_l (left_any _ r l' false (HBT.out.1.drewN _))) | (go_at_call 43; exact quiet_l (bad_any _ r l' false (HBT.out.1.drewN _))) | (go_at_call 35; exact quiet_l (done_any _ r l' (HBT.out.1.drewN _)))))
      go_wp2
      go_ret
      exact ⟨rfl, ⟨HBT.out.1.drewN _, HBT.out.2.drewN _⟩, HF.out.drewN _⟩


set_option maxRecDepth 1000000 in
set_option maxHeartbeats 1000000 in
theorem ask_none (w : World) (r x : Nat) (l' : List UInt8) (b' : Bool) (k n : Int) (hk1 : (k == 1) = false) (hk2 : (k == 2) = false) (hk3 : (k == 3) = false) (hk4 : (k == 4) = false) (h : Both w r x l' b') :
    Calls Tryd.prog 40 #[.pointer (some ⟨r, 0, none⟩), .pointer (some ⟨x, 0, none⟩), .agg #[.int .i64 k, .int .i64 n]] w fun e w' => e = .returned (.bool true) ∧ Both w' r x l' b' ∧ Fr (Two r x) w w' := by
  have HBT : Hid (Both (w.alloc (.cells #[.int .i64 k, .int .i64 n] 62)) r x l' b') := ⟨h.1.below ((Below.refl _ _).alloc (Nat.le_refl _) _), h.2.fr (S := fun _ => False) (Fr.of_below ((Below.refl _ _).alloc (Nat.le_refl _) _)) (fun x => x) (fun _ _ x => x.elim)⟩
  have HF : Hid (Fr (Two r x) w (w.alloc (.cells #[.int .i64 k, .int .i64 n] 62))) := (Fr.refl _ _).alloc _
  clear h
  obtain ⟨A, c, x0, x1, _, _⟩ := HBT.out.2.parts
  have hln := HBT.out.1.len
  go_enter Tryd.func40, Tryd.ntmps40
  cases b' with
  | true =>
    have hz : ((l'.length : Int) == 0) = true := by rw [HBT.out.1.bad_nil]; rfl
    go_wp2
    go_quiet ((first | (go_at_call 39; exact quiet_l (left_any _ r l' true (HBT.out.1.drewN _))) | (go_at_call 43; exact quiet_l (bad_any _ r l' true (HBT.out.1.drewN _))) | (go_at_call 35; exact quiet_l (done_bad _ r l' (HBT.out.1.drewN _)))))
    go_wp2
    go_ret
    exact ⟨rfl, ⟨HBT.out.1.drewN _, HBT.out.2.drewN _⟩, HF.out.drewN _⟩
  | false =>
    rcases Nat.eq_zero_or_pos l'.length with h0 | h0
    · have hz : ((l'.length : Int) == 0) = true := by rw [h0]; rfl
      have hdc : (doneCode l'.length == 0) = true := by rw [h0]; rfl
      clear h0
      go_wp2
      go_quiet ((first | (go_at_call 39; exact quiet_l (left_any _ r l' false (HBT.out.1.drewN _))) | (go_at_call 43; exact quiet_l (bad_any _ r l' false (HBT.out.1.drewN _))) | (go_at_call 35; exact quiet_l (done_any _ r l' (HBT.out.1.drewN _)))))
      go_wp2
      go_ret
      exact ⟨rfl, ⟨HBT.out.1.drewN _, HBT.out.2.drewN _⟩, HF.out.drewN _⟩
    · have hz : ((l'.length : Int) == 0) = false := by rw [beq_eq_false_iff_ne]; omega
      have hdc : (doneCode l'.length == 0) = false := by rw [doneCode, if_neg (by omega)]; rfl
      clear h0
      go_wp2
      go_quiet ((first | (go_at_call 39; exact quiet_l (left_any _ r l' false (HBT.out.1.drewN _))) | (go_at_call 43; exact quiet_l (bad_any _ r l' false (HBT.out.1.drewN _))) | (go_at_call 35; exact quiet_l (done_any _ r l' (HBT.out.1.drewN _)))))
      go_wp2
      go_ret
      exact ⟨rfl, ⟨HBT.out.1.drewN _, HBT.out.2.drewN _⟩, HF.out.drewN _⟩


set_option maxRecDepth 1000000 in
set_option maxHeartbeats 1000000 in
theorem ask_spoil (w : World) (r x : Nat) (l : List UInt8) (b : Bool) (n : Int) (h : Both w r x l b) :
    Calls Tryd.prog 40 #[.pointer (some ⟨r, 0, none⟩), .pointer (some ⟨x, 0, none⟩), .agg #[.int .i64 4, .int .i64 n]] w fun e w' => e = .returned (.bool true) ∧ Both w' r x [] true ∧ Fr (Two r x) w w' := by
  have HBA : Hid (Both (w.alloc (.cells #[.int .i64 4, .int .i64 n] 62)) r x l b) := ⟨h.1.below ((Below.refl _ _).alloc (Nat.le_refl _) _), h.2.fr (S := fun _ => False) (Fr.of_below ((Below.refl _ _).alloc (Nat.le_refl _) _)) (fun x => x) (fun _ _ x => x.elim)⟩
  clear h
  go_enter Tryd.func40, Tryd.ntmps40
  go_wp2_with fail
  refine (spoil_any _ r l b HBA.out.1).mono ?_
  rintro e w1 ⟨rfl, hd1, f1⟩
  have hx1 := HBA.out.first f1
  go_wp2_with fail
  refine (xspoil_any _ x l b hx1).mono ?_
  rintro e w2 ⟨rfl, hd2, f2⟩
  have HBT := Lib.hid (Both.second hd1 hx1 hd2 f2)
  have HF : Hid (Fr (Two r x) w w2) := (((Fr.refl _ _).alloc _).trans_new f1 (fun j _ e => .inl e)).trans_new f2 (fun j _ e => .inr e)
  clear hd1 f1 hx1 hd2 f2 HBA
  obtain ⟨A, c, x0, x1, _, _⟩ := HBT.out.2.parts
  have hz : ((([] : List UInt8).length : Int) == 0) = true := rfl
  simp only [List.length_nil] at x0
  go_wp2
  go_quiet ((first | (go_at_call 39; exact quiet_l (left_any _ r [] true (HBT.out.1.drewN _))) | (go_at_call 43; exact quiet_l (bad_any _ r [] true (HBT.out.1.drewN _))) | (go_at_call 35; exact quiet_l (done_bad _ r [] (HBT.out.1.drewN _)))))
  go_wp2
  go_ret
  exact ⟨rfl, ⟨HBT.out.1.drewN _, HBT.out.2.drewN _⟩, HF.out.drewN _⟩

set_option maxRecDepth 1000000 in
set_option maxHeartbeats 1000000 in
theorem ask_bytes (w : World) (r x : Nat) (l l' : List UInt8) (b b' : Bool) (n : Int) (k : Nat) (lr : List UInt8) (hk : lr.length = k) (h : Both w r x l b)
    (hR : ∀ w, RD w r l b → Calls Tryd.prog 41 #[.pointer (some ⟨r, 0, none⟩), .int .i64 n] w fun e w' => ∃ v, e = .returned v ∧ OB w' w.heap.size v lr ∧ RD w' r l' b' ∧ Fr (· = r) w w')
    (hX : ∀ w, RX w x l b → Calls Tryd.prog 65 #[.pointer (some ⟨x, 0, none⟩), .int .i64 n] w fun e w' => ∃ v, e = .returned v ∧ OB w' w.heap.size v lr ∧ RX w' x l' b' ∧ Fr (· = x) w w') :
    Calls Tryd.prog 40 #[.pointer (some ⟨r, 0, none⟩), .pointer (some ⟨x, 0, none⟩), .agg #[.int .i64 2, .int .i64 n]] w fun e w' => e = .returned (.bool true) ∧ Both w' r x l' b' ∧ Fr (Two r x) w w' := by
  have HR := Lib.hid hR
  have HK := Lib.hid hk
  have hne := arr_ne_self lr
  have HX := Lib.hid hX
  have HBO := Lib.hid h
  clear hR hX h hk
  go_enter Tryd.func40, Tryd.ntmps40
  have HBA : Hid (∀ o, Both (w.alloc o) r x l b) := fun o => ⟨HBO.out.1.below ((Below.refl _ _).alloc (Nat.le_refl _) _), HBO.out.2.fr (S := fun _ => False) (Fr.of_below ((Below.refl _ _).alloc (Nat.le_refl _) _)) (fun x => x) (fun _ _ x => x.elim)⟩
  have hrlt : r < w.heap.size := by obtain ⟨A, c, hb, _⟩ := HBO.out.1; exact hb.lt
  have hxlt : x < w.heap.size := by obtain ⟨A, c, hb, _⟩ := HBO.out.2; exact hb.lt
  have HC : Hid (∀ k v, ((w.alloc (.cells #[.int .i64 k, .int .i64 v] 62)).drew).cell? ⟨w.heap.size, 1, none⟩ = some (.int .i64 v)) := fun k v => (Blk.new w 62 #[.int .i64 k, .int .i64 v]).cell 1
  go_wp2_with fail
  go_region_held (fun w' => w'.cell? ⟨w.heap.size, 1, none⟩ = some (.int .i64 n))
    (first | exact HC.out 2 n | exact (f1.cell (p := ⟨w.heap.size, 1, none⟩) (by simp) (by simp; omega)).trans (HC.out 2 n) | exact (f2.cell (p := ⟨w.heap.size, 1, none⟩) hsz1 (by simp; omega)).trans ((f1.cell (p := ⟨w.heap.size, 1, none⟩) (by simp) (by simp; omega)).trans (HC.out 2 n)))
    (first | (go_at_call 41; go_must (refine (HR.out _ (by exact (HBA.out _).1.drew)).mono ?_); rintro e w1 ⟨v1, rfl, ho1, hd1, f1⟩; obtain ⟨A1, c1, rfl, hh1, hh2, k1⟩ := ho1.kb_n HK.out; have hs1 := run_string k1.1 _ c1 HK.out; have HO1 := Lib.hid ho1; clear ho1 k1; have hsz1 : w.heap.size < w1.heap.size := by (have := f1.size; simp at this; omega))
           | (go_at_call 65; go_must (refine (HX.out _ (by exact (show Both _ r x l b from ⟨(HBA.out _).1.drew, (HBA.out _).2.drew⟩).first f1)).mono ?_); rintro e w2 ⟨v2, rfl, ho2, hd2, f2⟩; obtain ⟨A2, c2, rfl, hh3, hh4, k2⟩ := ho2.kb_n HK.out; have hs2 := run_string k2.1 _ c2 HK.out; obtain ⟨A3, c3, he3, _, _, k3⟩ := (HO1.out.fr f2 (fun g hg e => by have := HO1.out.grown_ge g hg; simp at this; omega)).kb_n HK.out; cases he3; have hs3 := run_string k3.1 _ c1 HK.out; clear ho2 k2 k3))
  all_goals
    have HBT := Lib.hid (Both.second hd1 ((show Both _ r x l b from ⟨(HBA.out _).1.drew, (HBA.out _).2.drew⟩).first f1) hd2 f2)
    have HF : Hid (Fr (Two r x) w w2) := (((Fr.refl _ _).alloc _).drew.trans_new f1 (fun j _ e => .inl e)).trans_new f2 (fun j _ e => .inr e)
    clear hd1 f1 hd2 f2 HR HX HBA HBO HC hsz1 hrlt hxlt
    obtain ⟨A, c, x0, x1, _, _⟩ := HBT.out.2.parts
    have hln := HBT.out.1.len
    cases b' with
    | true =>
      have hz : ((l'.length : Int) == 0) = true := by rw [HBT.out.1.bad_nil]; rfl
      go_wp2
      go_quiet ((first | (go_at_call 39; exact quiet_l (left_any _ r l' true (HBT.out.1.drewN _))) | (go_at_call 43; exact quiet_l (bad_any _ r l' true (HBT.out.1.drewN _))) | (go_at_call 35; exact quiet_l (done_bad _ r l' (HBT.out.1.drewN _)))))
      go_wp2
      go_ret
      exact ⟨rfl, ⟨HBT.out.1.drewN _, HBT.out.2.drewN _⟩, HF.out.drewN _⟩
    | false =>
      rcases Nat.eq_zero_or_pos l'.length with h0 | h0
      · have hz : ((l'.length : Int) == 0) = true := by rw [h0]; rfl
        have hdc : (doneCode l'.length == 0) = true := by rw [h0]; rfl
        clear h0
        go_wp2
        go_quiet ((first | (go_at_call 39; exact quiet_l (left_any _ r l' false (HBT.out.1.drewN _))) | (go_at_call 43; exact quiet_l (bad_any _ r l' false (HBT.out.1.drewN _))) | (go_at_call 35; exact quiet_l (done_any _ r l' (HBT.out.1.drewN _)))))
        go_wp2
        go_ret
        exact ⟨rfl, ⟨HBT.out.1.drewN _, HBT.out.2.drewN _⟩, HF.out.drewN _⟩
      · have hz : ((l'.length : Int) == 0) = false := by rw [beq_eq_false_iff_ne]; omega
        have hdc : (doneCode l'.length == 0) = false := by rw [doneCode, if_neg (by omega)]; rfl
        clear h0
        go_wp2
        go_quiet ((first | (go_at_call 39; exact quiet_l (left_any _ r l' false (HBT.out.1.drewN _))) | (go_at_call 43; exact quiet_l (bad_any _ r l' false (HBT.out.1.drewN _))) | (go_at_call 35; exact quiet_l (done_any _ r l' (HBT.out.1.drewN _)))))
        go_wp2
        go_ret
        exact ⟨rfl, ⟨HBT.out.1.drewN _, HBT.out.2.drewN _⟩, HF.out.drewN _⟩


end Go.Proofs.YtleancgkincenaaDoor
