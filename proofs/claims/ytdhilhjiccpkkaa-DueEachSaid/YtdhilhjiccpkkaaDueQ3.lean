/-
  due.Queue: Drop, Until.
-/
import Derived.Test.YtdhilhjiccpkkaaDueQ2
namespace Go.Proofs.Ytdhilhjiccpkkaa
open Go.RowKit
attribute [local go_sem ↓] Go.wp_at_zero Go.wp_at_succ
set_option linter.unusedVariables false
set_option linter.unusedSimpArgs false

theorem qdrop_nil (s : ByteArray) (w : World) : Calls Try.prog 16 #[.pointer none, .string s] w fun e w' => e = .returned (.int .i64 6) ∧ w' = w := by
  go_enter Try.func16, Try.ntmps16
  go_wp2_with (go_at_call 25; refine (made_nil _).mono ?_; rintro e w ⟨rfl, rfl⟩)
  go_ret
  exact ⟨rfl, rfl⟩
/-- the queue behind a Remove -/
theorem QAt.rem {w w1 : World} {base q r M : Nat} {v v' : Value} {l X l' X' : List Du} (h : QAt w base q r M v l X) (h3 : HR w1 base r M v' l') (hf : Fr (RS r M v) w w1) (hq : QP l' X') : QAt w1 base q r M v' l' X' := by
  refine ⟨h.ge, h.blk.fr' hf (fun e => ?_), h3, hq⟩
  have hne := h.ne
  rcases e with e | e | e
  · exact hne.1 e
  · exact hne.2.1 e
  · exact hne.2.2 q e rfl
set_option maxRecDepth 100000 in
set_option maxHeartbeats 4000000 in
theorem qdrop_any {w : World} {base q r M : Nat} {v : Value} {l X : List Du} (h : QAt w base q r M v l X) (s : ByteArray) (hs : s.size ≤ maxLen) : Calls Try.prog 16 #[.pointer (some ⟨q, 0, none⟩), .string s] w fun e w' => QPost w base q r M v (.returned (.int .i64 (dropE X s))) (dropX X s) e w' := by
  have HM := Lib.hid (made_yes h.blk)
  have hlk := h.hr.map.look s hs
  have c0 := h.blk.cell 0
  have f0 := h.hr.row.cell 0
  have f1 := h.hr.row.cell 1
  simp only [List.getElem?_toArray, List.getElem?_cons_zero, List.getElem?_cons_succ] at c0 f0 f1
  have HQ := Lib.hid h
  have hmem : idxL l s = none ↔ idxL X s = none := by
    rw [idx_none, idx_none]
    exact not_congr (nm_perm h.qp.perm).mem_iff
  cases e : idxL l s with
  | none =>
    have hx := hmem.1 e
    have HV : Hid (dropE X s = 4 ∧ dropX X s = X) := Lib.hid ⟨by unfold dropE; rw [if_pos hx], drop_none (idx_none.1 hx)⟩
    rw [e] at hlk
    simp only [Option.getD_none, Option.isSome_none] at hlk
    clear hx hmem e h hs
    go_enter Try.func16, Try.ntmps16
    go_wp2_with (go_at_call 25; refine HM.out.mono ?_; rintro e w ⟨rfl, rfl⟩)
    go_ret
    exact ⟨v, l, by rw [HV.out.1]; rfl, by rw [HV.out.2]; exact HQ.out, Fr.refl _ _, fun g e => .inl e⟩
  | some i =>
    have hx : idxL X s ≠ none := fun x => by rw [hmem.2 x] at e; cases e
    have HV : Hid (dropE X s = 0) := Lib.hid (by unfold dropE; rw [if_neg hx])
    rw [e] at hlk
    simp only [Option.getD_some, Option.isSome_some] at hlk
    obtain ⟨hi, hnm⟩ := (idx_iff h.hr.nd).1 e
    have HIN : Hid (i < l.length ∧ (gd l i).1 = s) := Lib.hid ⟨hi, hnm⟩
    obtain ⟨n, hn⟩ : ∃ n, l.length = n + 1 := ⟨l.length - 1, by omega⟩
    have HR := Lib.hid (hremove_any h.hr (i := i) h.qp.heap hn (by omega))
    clear hx hmem e h hs hi hnm hn
    go_enter Try.func16, Try.ntmps16
    go_wp2_with (go_at_call 25; refine HM.out.mono ?_; rintro e w ⟨rfl, rfl⟩)
    refine HR.out.mono ?_
    rintro e w1 ⟨l', v', x, rfl, m1, m2, m3, m4, m5, m6⟩
    have HN := Lib.hid (HQ.out.rem m4 m5 (HQ.out.qp.drop HIN.out.1 HIN.out.2 m1 (by rw [m3]; exact m2)))
    have HF : Hid (Fr (QS q r M v) w w1) := Lib.hid (m5.mono (fun _ _ e => .inr e))
    have HG := Lib.hid m6
    clear m1 m2 m3 m4 m5 m6
    go_wp2_with fail
    go_ret
    exact ⟨v', l', by rw [HV.out]; rfl, HN.out, HF.out, fun g e => .inl (by rw [← HG.out]; exact e)⟩
set_option maxRecDepth 100000 in
theorem quntil_nil (t : Int) (w : World) : Calls Try.prog 17 #[.pointer none, .int .i64 t] w fun e w' => e = .returned (.slice none 0 0) ∧ Below w.heap.size w w' := by
  go_enter Try.func17, Try.ntmps17
  go_wp2_with fail
  refine wp_loop_rounds 1 ?_
  rw [rounds_succ]
  go_wp2_with (go_at_call 20; refine (qfirst_nil _).mono ?_; rintro e w1 ⟨rfl, hb⟩)
  go_ret
  exact ⟨rfl, hb.alloc hb.size _⟩
/-- between two rounds of Until -/
structure UntilInv (w wr : World) (base q r M : Nat) (v : Value) (X : List Du) (t : Int) (k : Nat) (v' vo : Value) (l' : List Du) : Prop where
  le : k ≤ X.length
  due : ∀ j, j < k → (gd X j).2 ≤ t
  qa : QAt wr base q r M v' l' (X.drop k)
  out : DR wr w.heap.size vo (X.take k)
  fr : Fr (QS q r M v) w wr
  own : v'.ownBlock = v.ownBlock
theorem until_at {X : List Du} {t : Int} : ∀ {k : Nat}, (∀ j, j < k → (gd X j).2 ≤ t) → k ≤ X.length → (k = X.length ∨ t < (gd X k).2) → untilL X t = X.take k ∧ untilR X t = X.drop k := by
  unfold untilL untilR
  induction X with
  | nil => intro k _ hk _; simp at hk; subst hk; exact ⟨rfl, rfl⟩
  | cons a X ih =>
    intro k h1 h2 h3
    cases k with
    | zero =>
      rcases h3 with h3 | h3
      · simp at h3
      · have h4 : decide (a.2 ≤ t) = false := decide_eq_false (by have : gd (a :: X) 0 = a := rfl; rw [this] at h3; omega)
        simp [List.takeWhile_cons, List.dropWhile_cons, h4]
    | succ k =>
      have h4 : decide (a.2 ≤ t) = true := decide_eq_true (h1 0 (by omega))
      have := ih (k := k) (fun j hj => h1 (j + 1) (by omega)) (by simpa using h2) (by
        rcases h3 with h3 | h3
        · left; simpa using h3
        · right; exact h3)
      simp only [List.takeWhile_cons, List.dropWhile_cons, h4, if_true, List.take_succ_cons, List.drop_succ_cons]
      exact ⟨by rw [this.1], this.2⟩
theorem gd_drop (X : List Du) (k j : Nat) : gd (X.drop k) j = gd X (k + j) := by
  unfold gd
  rw [List.getD_eq_getElem?_getD, List.getD_eq_getElem?_getD, List.getElem?_drop]
theorem take_snoc {X : List Du} {k : Nat} (hk : k < X.length) : X.take (k + 1) = X.take k ++ [gd X k] := by
  rw [List.take_succ_eq_append_getElem hk, gd_at hk]
theorem UntilInv.below {w wr w1 : World} {base q r M : Nat} {v : Value} {X : List Du} {t : Int} {k : Nat} {v' vo : Value} {l' : List Du} (h : UntilInv w wr base q r M v X t k v' vo l') (hb : Below wr.heap.size wr w1) : UntilInv w w1 base q r M v X t k v' vo l' :=
  ⟨h.le, h.due, h.qa.below hb, h.out.below hb, h.fr.trans ((Fr.of_below (S := fun _ => False) hb).mono (fun _ _ x => x.elim)), h.own⟩
theorem QS_own {q r M : Nat} {v v' : Value} (h : v'.ownBlock = v.ownBlock) (k : Nat) : QS q r M v' k ↔ QS q r M v k := by unfold QS RS; rw [h]
theorem UntilInv.rem {w wr w1 : World} {base q r M : Nat} {v : Value} {X : List Du} {t : Int} {k : Nat} {v' vo v2 : Value} {l' l2 : List Du} (h : UntilInv w wr base q r M v X t k v' vo l') (hq : ∀ j, QS q r M v j → j < w.heap.size) (h3 : HR w1 base r M v2 l2) (hf : Fr (RS r M v') wr w1) (hp : QP l2 (X.drop (k + 1))) (ho : v2.ownBlock = v'.ownBlock) :
    QAt w1 base q r M v2 l2 (X.drop (k + 1)) ∧ DR w1 w.heap.size vo (X.take k) ∧ Fr (QS q r M v) w w1 ∧ v2.ownBlock = v.ownBlock := by
  have hf2 : Fr (QS q r M v) wr w1 := hf.mono (fun j _ e => (QS_own h.own j).1 (.inr e))
  refine ⟨h.qa.rem h3 hf hp, h.out.fr hf2 (fun g e e2 => ?_), h.fr.trans hf2, ho.trans h.own⟩
  have h1 := h.out.ge g e
  have h2 := hq g e2
  omega
/-- the element that was taken lies behind all; what append makes of it -/
theorem UntilInv.app {w w1 w2 : World} {base q r M : Nat} {v : Value} {X : List Du} {t : Int} {k : Nat} {vo v2 vn : Value} {l2 : List Du} {o : Obj} (hq : ∀ j, QS q r M v j → j < w.heap.size) (h1 : QAt w1 base q r M v2 l2 (X.drop (k + 1))) (h2 : DR w1 w.heap.size vo (X.take k)) (h3 : Fr (QS q r M v) w w1) (h4 : v2.ownBlock = v.ownBlock)
    (hk : k < X.length) (hdue : ∀ j, j < k → (gd X j).2 ≤ t) (hd : (gd X k).2 ≤ t)
    (hg : (w1.alloc o).grownBy w2 vo.ownBlock) (hn : w2.ownsRow w.heap.size 44 2 vn (k + 1) (dcells (X.take k) ++ [.string (gd X k).1, .int .i64 (gd X k).2])) : UntilInv w w2 base q r M v X t (k + 1) v2 vn l2 := by
  have hf0 : Fr (fun _ => False) w1 (w1.alloc o) := (Fr.refl _ w1).alloc o
  have hf1 : Fr (fun g => vo.ownBlock = some g) (w1.alloc o) w2 := Fr.of_grown hg (fun g e => e)
  have hf2 : Fr (fun g => vo.ownBlock = some g) w1 w2 := (hf0.mono (fun _ _ x => x.elim)).trans hf1
  refine ⟨hk, fun j hj => ?_, h1.fr hf2 (fun j e e2 => ?_), ?_, h3.trans_new hf2 (fun j hj e => ?_), h4⟩
  · rcases (by omega : j < k ∨ j = k) with h | rfl
    · exact hdue j h
    · exact hd
  · have a1 := hq j ((QS_own h4 j).1 e)
    have a2 := h2.ge j e2
    omega
  · unfold DR
    rw [take_snoc hk, dcells_append, List.length_append, List.length_take, Nat.min_eq_left (by omega)]
    exact hn
  · have a2 := h2.ge j e
    omega
def UntilPost (w : World) (base q r M : Nat) (v : Value) (X : List Du) (t : Int) (e : Ending) (w' : World) : Prop :=
  ∃ v' l' vo, e = .returned vo ∧ DR w' w.heap.size vo (untilL X t) ∧ QAt w' base q r M v' l' (untilR X t) ∧ Fr (QS q r M v) w w' ∧ v'.ownBlock = v.ownBlock
theorem dr_val {w : World} {base : Nat} {v : Value} {l : List Du} (h : DR w base v l) : ∃ A c, v = .slice A l.length c := by
  rcases h.shape with ⟨rfl, rfl⟩ | ⟨g, cap, cur, rfl, _⟩
  · exact ⟨none, 0, rfl⟩
  · exact ⟨_, _, rfl⟩
theorem QP.tail' {l X l' : List Du} {k : Nat} (h : QP l (X.drop k)) (hk : k < X.length) (hp : l'.Perm (l.eraseIdx 0)) (hh : IsHeap ltD (gd l') l'.length) : QP l' (X.drop (k + 1)) := by
  have := h.tail (by simp; omega) hp hh
  rwa [List.tail_drop] at this
set_option maxRecDepth 100000 in
set_option maxHeartbeats 4000000 in
theorem quntil_any {w : World} {base q r M : Nat} {v : Value} {l X : List Du} (h : QAt w base q r M v l X) (t : Int) : Calls Try.prog 17 #[.pointer (some ⟨q, 0, none⟩), .int .i64 t] w fun e w' => UntilPost w base q r M v X t e w' := by
  have HI0 : Hid (UntilInv w w base q r M v X t 0 v (.slice none 0 0) l) := Lib.hid ⟨Nat.zero_le _, fun j hj => by omega, h, DR.nil _ _, Fr.refl _ _, rfl⟩
  have HQ : Hid (∀ j, QS q r M v j → j < w.heap.size) := Lib.hid h.lt
  have HX : Hid (X.length ≤ 256) := Lib.hid h.len.2
  obtain ⟨n, hn⟩ : ∃ n, n = X.length := ⟨_, rfl⟩
  have HN := Lib.hid hn
  clear h hn
  go_enter Try.func17, Try.ntmps17
  go_wp2_with fail
  go_loopw [5] (fun o wr => ∃ (k : Nat) (v' vo : Value) (l' : List Du), k ≤ n ∧ o = vo ∧ Hid (UntilInv w wr base q r M v X t k v' vo l') ∧ Hid (∃ A c, vo = .slice A k c)) (fun o _ => n - (match o with | .slice _ m _ => m | _ => 0))
  case atStart => exact ⟨0, v, .slice none 0 0, l, Nat.zero_le _, rfl, HI0, Lib.hid ⟨none, 0, rfl⟩⟩
  case round =>
    obtain ⟨k, v', vo, l', hk, rfl, HI, HV⟩ := hrel
    clear HI0
    obtain ⟨A, c, rfl⟩ := HV.out
    have HF := Lib.hid (qfirst_any HI.out.qa)
    rcases (by omega : k < n ∨ k = n) with hlt | heq
    · have hb : decide (0 < (X.drop k).length) = true := by rw [decide_eq_true_iff, List.length_drop]; have := HN.out; omega
      have hg : gd (X.drop k) 0 = gd X k := by rw [gd_drop]; rfl
      rw [hb, hg] at HF
      obtain ⟨d, hd⟩ : ∃ d, d = gd X k := ⟨_, rfl⟩
      rw [← hd] at HF
      have HD := Lib.hid hd
      obtain ⟨a, b⟩ := d
      clear hb hg hd
      by_cases hbt : t < b
      · have d1 : decide (t < b) = true := decide_eq_true hbt
        have HBT := Lib.hid hbt
        clear hbt
        go_wp2_with (go_at_call 20; refine HF.out.mono ?_; rintro e w1 ⟨rfl, hb1⟩)
        have HI2 := Lib.hid ((HI.out.below hb1).below ((Below.refl _ _).alloc (Nat.le_refl _) (.cells #[.string a, .int .i64 b] 44)))
        go_ret
        have hu := until_at HI2.out.due HI2.out.le (.inr (by rw [← HD.out]; exact HBT.out))
        refine ⟨v', l', _, rfl, ?_, ?_, HI2.out.fr, HI2.out.own⟩
        · rw [hu.1]; exact HI2.out.out
        · rw [hu.2]; exact HI2.out.qa
      · have d1 : decide (t < b) = false := decide_eq_false hbt
        have HBT : Hid (b ≤ t) := Lib.hid (by omega)
        clear hbt
        go_wp2_with fail
        refine HF.out.mono ?_
        rintro e w1 ⟨rfl, hb1⟩
        have HI2 := Lib.hid ((HI.out.below hb1).below ((Below.refl _ _).alloc (Nat.le_refl _) (.cells #[.string a, .int .i64 b] 44)))
        have hX := Blk.new w1 44 #[.string a, .int .i64 b]
        have hlt2 : ∀ j, QS q r M v' j → j < w1.heap.size := (HI.out.qa.below hb1).lt
        have HZ : Hid (∀ j, QS q r M v' j → j ≠ w1.heap.size) := Lib.hid (fun j e => by have := hlt2 j e; omega)
        obtain ⟨W, hW⟩ : ∃ W, W = w1.alloc (.cells #[.string a, .int .i64 b] 44) := ⟨_, rfl⟩
        rw [← hW] at HI2 hX
        have x1 := hX.cell 1
        have c0 := HI2.out.qa.blk.cell 0
        have hln := HI2.out.qa.qp.len
        simp only [List.getElem?_toArray, List.getElem?_cons_zero, List.getElem?_cons_succ] at x1 c0
        have HRM := Lib.hid (hremove_any HI2.out.qa.hr (i := 0) (n := l'.length - 1) HI2.out.qa.qp.heap (by rw [hln, List.length_drop]; have := HN.out; omega) (by omega))
        have HBX := Lib.hid hX
        have HDU : Hid (∀ j, j < k → (gd X j).2 ≤ t) := Lib.hid HI2.out.due
        have HKN : Hid (k < X.length) := Lib.hid (by rw [← HN.out]; exact hlt)
        rw [hW] at x1 c0
        clear hX hlt2 hln hb1 HF
        go_wp2_with fail
        rw [← hW]
        refine HRM.out.mono ?_
        rintro e w3 ⟨l2, v2, x, rfl, m1, m2, m3, m4, m5, m6⟩
        have hp := HI2.out.qa.qp.tail' HKN.out m1 (by rw [m3]; exact m2)
        have HRR := Lib.hid (HI2.out.rem HQ.out m4 m5 hp m6)
        have hB3 : Blk w3 w1.heap.size 44 #[.string a, .int .i64 b] := HBX.out.fr' m5 (fun e => HZ.out _ (.inr e) rfl)
        have x0 := hB3.cell 0
        have x1 := hB3.cell 1
        simp only [List.getElem?_toArray, List.getElem?_cons_zero, List.getElem?_cons_succ] at x0 x1
        clear m1 m2 m3 m4 m5 m6 hp hB3 c0 hW HRM HI HI2
        have t0 : 0 < 2 := by omega
        have t1 : ∀ u ∈ [Value.string a, .int .i64 b], u.oneCell' = true := by simp [Value.oneCell']
        have t2 : k + 1 ≤ maxLen := by have := HN.out; have := HX.out; unfold maxLen; omega
        have t3 : (k + 1) * 24 ≤ 140737488355328 := by have := HN.out; have := HX.out; omega
        have t4 : w.heap.size ≤ (w3.alloc (.cells #[.string a, .int .i64 b] 44)).heap.size := by have := HRR.out.2.2.1.size; simp; omega
        have hown : (w3.alloc (.cells #[.string a, .int .i64 b] 44)).ownsRow w.heap.size 44 2 (.slice A k c) k (dcells (X.take k)) := by
          have h1 := HRR.out.2.1.below ((Below.refl w3.heap.size w3).alloc (Nat.le_refl _) (.cells #[.string a, .int .i64 b] 44))
          have h2 : (X.take k).length = k := by rw [List.length_take]; have := HKN.out; omega
          unfold DR at h1
          rw [h2] at h1
          exact h1
        have HOW := Lib.hid hown
        have T1 := Lib.hid t1
        have T4 := Lib.hid t4
        clear hown t1 t4
        obtain ⟨i0, hi0, hz0, hz1, hz2⟩ := info_parts infoDue
        have HI0 := Lib.hid hi0
        have HZ0 := Lib.hid hz0
        have HZ1 := Lib.hid hz1
        have HZ2 := Lib.hid hz2
        clear hi0 hz0 hz1 hz2
        go_wp2_with (at_builtin; refine wpList_append_any _ rfl (.tmp 28) (.tmp 30) 26 rfl w.heap.size 44 i0 (.agg #[.string ⟨#[]⟩, .int .i64 0]) 2 24 Try.underlying26 HI0.out HZ0.out HZ1.out HZ2.out rfl t0 (.slice A k c) k (dcells (X.take k)) rfl HOW.out (w3.heap.size + 1) (some ⟨w3.heap.size, 0, none⟩) 1 1 [.string a, .int .i64 b] rfl (reads_due w3 44 _ _ w3.heap.size rfl) T1.out t2 t3 T4.out ?_; intro vn w4 ho hg hat)
        obtain ⟨A', c', rfl⟩ := own_val ho
        have HI3 : Hid (UntilInv w w4 base q r M v X t (k + 1) v2 (.slice A' (k + 1) c') l2) := by
          obtain ⟨y1, y2, y3, y4⟩ := HRR.out
          have hd := HD.out
          refine Lib.hid (UntilInv.app HQ.out y1 y2 y3 y4 HKN.out HDU.out (by rw [← hd]; exact HBT.out) hg ?_)
          rw [← hd]
          exact ho
        clear ho hg hat
        go_roundw
        case rel => exact ⟨k + 1, v2, _, l2, by omega, rfl, HI3, Lib.hid ⟨_, _, rfl⟩⟩
        case measure => show n - (k + 1) < n - k; omega
    · have hb : decide (0 < (X.drop k).length) = false := by rw [decide_eq_false_iff_not, List.length_drop]; have := HN.out; omega
      rw [hb] at HF
      obtain ⟨d, hd⟩ : ∃ d, d = gd (X.drop k) 0 := ⟨_, rfl⟩
      rw [← hd] at HF
      obtain ⟨a, b⟩ := d
      clear hb hd
      have HE := Lib.hid heq
      clear heq
      go_wp2_with (go_at_call 20; refine HF.out.mono ?_; rintro e w1 ⟨rfl, hb1⟩)
      have HI2 := Lib.hid ((HI.out.below hb1).below ((Below.refl _ _).alloc (Nat.le_refl _) (.cells #[.string a, .int .i64 b] 44)))
      go_ret
      have hu := until_at HI2.out.due HI2.out.le (.inl (by rw [HE.out]; exact HN.out))
      refine ⟨v', l', _, rfl, ?_, ?_, HI2.out.fr, HI2.out.own⟩
      · rw [hu.1]; exact HI2.out.out
      · rw [hu.2]; exact HI2.out.qa
end Go.Proofs.Ytdhilhjiccpkkaa
