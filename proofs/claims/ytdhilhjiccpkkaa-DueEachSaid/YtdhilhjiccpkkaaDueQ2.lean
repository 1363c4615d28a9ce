/-
  due.Queue: First, Set.
-/
import Derived.Test.YtdhilhjiccpkkaaDueQ1
namespace Go.Proofs.Ytdhilhjiccpkkaa
open Go.RowKit
attribute [local go_sem ↓] Go.wp_at_zero Go.wp_at_succ
set_option linter.unusedVariables false

set_option maxRecDepth 100000 in
theorem qfirst_nil (w : World) : Calls Try.prog 20 #[.pointer none] w fun e w' => e = .returned (.tuple #[.agg #[.string ⟨#[]⟩, .int .i64 0], .bool false]) ∧ Below w.heap.size w w' := by
  go_enter Try.func20, Try.ntmps20
  go_wp2_with (go_at_call 11; refine (qlen_nil _).mono ?_; rintro e w1 ⟨rfl, rfl⟩)
  exact bodyPost_ret (v := .tuple #[.agg #[.string ⟨#[]⟩, .int .i64 0], .bool false]) (by simp [results, Try.results20, go_sem]) rfl ⟨rfl, (Below.refl _ _).alloc (Nat.le_refl _) _⟩
set_option maxRecDepth 100000 in
set_option maxHeartbeats 1000000 in
theorem qfirst_any {w : World} {base q r M : Nat} {v : Value} {l X : List Du} (h : QAt w base q r M v l X) : Calls Try.prog 20 #[.pointer (some ⟨q, 0, none⟩)] w fun e w' => e = .returned (.tuple #[.agg #[.string (gd X 0).1, .int .i64 (gd X 0).2], .bool (decide (0 < X.length))]) ∧ Below w.heap.size w w' := by
  have hb : Below w.heap.size w (w.alloc (.cells #[.string ⟨#[]⟩, .int .i64 0] 44)) := (Below.refl _ _).alloc (Nat.le_refl _) _
  have h1 := h.below hb
  have HL := Lib.hid (qlen_any h1)
  have HB := Lib.hid hb
  obtain ⟨n, hn⟩ : ∃ n, n = X.length := ⟨_, rfl⟩
  rw [← hn] at HL
  have hln := h.qp.len
  rcases Nat.eq_zero_or_pos n with h0 | h0
  · have hX : X = [] := List.eq_nil_of_length_eq_zero (by omega)
    subst hX
    subst h0
    clear h h1 hb hn hln
    go_enter Try.func20, Try.ntmps20
    go_wp2_with (go_at_call 11; refine HL.out.mono ?_; rintro e w1 ⟨rfl, rfl⟩)
    exact bodyPost_ret (v := .tuple #[.agg #[.string ⟨#[]⟩, .int .i64 0], .bool false]) (by simp [results, Try.results20, go_sem]) rfl ⟨rfl, HB.out⟩
  · have c0 := h1.blk.cell 0
    have d0 := h1.hr.row.cell 0
    simp only [List.getElem?_toArray, List.getElem?_cons_zero] at c0 d0
    obtain ⟨g, cap, cur, rfl, _, hB, hnc, hm, _, hdc⟩ := h1.hr.open_ (by omega)
    have e0 := (hdc 0 (by omega)).1
    have e1 := (hdc 0 (by omega)).2
    rw [← hB.cell, h.qp.first (by omega)] at e0 e1
    simp only [Nat.zero_mul, Nat.zero_add] at e0 e1
    rw [hln, ← hn] at d0 hnc
    have HX : Hid (decide (0 < X.length) = true) := Lib.hid (by rw [decide_eq_true_iff]; omega)
    have HD : Hid (∃ d : Du, d = gd X 0) := Lib.hid ⟨_, rfl⟩
    obtain ⟨d, hd⟩ := HD.out
    rw [← hd] at e0 e1 ⊢
    rw [HX.out]
    obtain ⟨a, b⟩ := d
    simp only at e0 e1
    have b1 : ((n : Int) == 0) = false := by rw [beq_eq_false_iff_ne]; omega
    have b2 : (n == 0) = false := by rw [beq_eq_false_iff_ne]; omega
    have q2 : (0 : Int) < (n : Int) := by omega
    clear h h1 hb hB hdc hln hd HX HD hn
    go_enter Try.func20, Try.ntmps20
    go_wp2_with (go_at_call 11; refine HL.out.mono ?_; rintro e w1 ⟨rfl, rfl⟩)
    exact bodyPost_ret (v := .tuple #[.agg #[.string a, .int .i64 b], .bool true]) (by simp [results, Try.results20, go_sem]) rfl ⟨rfl, (Below.refl _ _).alloc (Nat.le_refl _) _⟩
def QPost (w : World) (base q r M : Nat) (v : Value) (E : Ending) (X' : List Du) (e : Ending) (w' : World) : Prop :=
  ∃ v' l', e = E ∧ QAt w' base q r M v' l' X' ∧ Fr (QS q r M v) w w' ∧ ∀ g, v'.ownBlock = some g → v.ownBlock = some g ∨ w.heap.size ≤ g
theorem qset_nil (s : ByteArray) (a : Int) (w : World) : Calls Try.prog 14 #[.pointer none, .string s, .int .i64 a] w fun e w' => e = .returned (.int .i64 6) ∧ w' = w := by
  go_enter Try.func14, Try.ntmps14
  go_wp2_with (go_at_call 25; refine (made_nil _).mono ?_; rintro e w ⟨rfl, rfl⟩)
  go_ret
  exact ⟨rfl, rfl⟩
theorem size_toList (s : ByteArray) : s.toList.length = s.size := by rw [Lib.toList_data]; rfl
set_option maxRecDepth 100000 in
set_option maxHeartbeats 2000000 in
/-- what may not be set -/
theorem qset_bad {w : World} {base q r M : Nat} {v : Value} {l X : List Du} (h : QAt w base q r M v l X) (s : ByteArray) (a : Int) (hk : okSet s a = false) : Calls Try.prog 14 #[.pointer (some ⟨q, 0, none⟩), .string s, .int .i64 a] w fun e w' => e = .returned (.int .i64 1) ∧ w' = w := by
  have HM := Lib.hid (made_yes h.blk)
  have hsz := size_toList s
  unfold okSet at hk
  simp only [Bool.and_eq_false_iff, decide_eq_false_iff_not] at hk
  clear h
  by_cases h1 : s.toList = []
  · have b1 : (s.toList == []) = true := by rw [h1]; rfl
    have b2 : s.toList.isEmpty = true := by rw [h1]; rfl
    clear hk hsz h1
    go_enter Try.func14, Try.ntmps14
    go_wp2_with (go_at_call 25; refine HM.out.mono ?_; rintro e w ⟨rfl, rfl⟩)
    go_ret
    exact ⟨rfl, rfl⟩
  · have b1 : (s.toList == []) = false := beq_eq_false_iff_ne.2 h1
    have b2 : s.toList.isEmpty = false := by rw [List.isEmpty_eq_false_iff]; exact h1
    have hpos : 1 ≤ s.size := by
      rcases Nat.eq_zero_or_pos s.size with h | h
      · exact absurd (List.eq_nil_of_length_eq_zero (by omega)) h1
      · exact h
    obtain ⟨n, hn⟩ : ∃ n, n = s.size := ⟨_, rfl⟩
    rw [← hn] at hk hpos hsz
    by_cases h2 : 64 < n
    · have d1 : decide ((64 : Int) < (n : Int)) = true := by rw [decide_eq_true_iff]; omega
      have d2 : decide (64 < n) = true := decide_eq_true h2
      rw [hn] at d1 d2
      clear hk hsz h1 h2 hpos hn
      go_enter Try.func14, Try.ntmps14
      go_wp2_with (go_at_call 25; refine HM.out.mono ?_; rintro e w ⟨rfl, rfl⟩)
      go_ret
      exact ⟨rfl, rfl⟩
    · have d1 : decide ((64 : Int) < (n : Int)) = false := by rw [decide_eq_false_iff_not]; omega
      have d2 : decide (64 < n) = false := decide_eq_false h2
      rw [hn] at d1 d2
      by_cases h3 : a < 0
      · have d3 : decide (a < 0) = true := decide_eq_true h3
        clear hk hsz h1 h2 h3 hpos hn
        go_enter Try.func14, Try.ntmps14
        go_wp2_with (go_at_call 25; refine HM.out.mono ?_; rintro e w ⟨rfl, rfl⟩)
        go_ret
        exact ⟨rfl, rfl⟩
      · have d3 : decide (a < 0) = false := decide_eq_false h3
        have d4 : decide (253402300799 < a) = true := by rw [decide_eq_true_iff]; omega
        clear hk hsz h1 h2 h3 hpos hn
        go_enter Try.func14, Try.ntmps14
        go_wp2_with (go_at_call 25; refine HM.out.mono ?_; rintro e w ⟨rfl, rfl⟩)
        go_ret
        exact ⟨rfl, rfl⟩
/-- the moment of a name that is there, in memory -/
theorem set_mem {w : World} {base q r M g cap n i : Nat} {cur : Array Value} {l X : List Du} {s : ByteArray} {a : Int} (h : QAt w base q r M (.slice (some ⟨g, 0, none⟩) n cap) l X) (hB : Blk w g 44 cur) (hg : base ≤ g) (hn : l.length ≤ cap) (hm : cap ≤ maxLen) (hs : cur.size = cap * 2) (hdc : DC cur l) (hi : i < l.length) (hnm : (gd l i).1 = s) (ha : 0 ≤ a ∧ a ≤ 253402300799) (hnl : n = l.length) :
    HR (w.setCell ⟨g, i * 2 + 1, none⟩ (.int .i64 a)) base r M (.slice (some ⟨g, 0, none⟩) n cap) (l.set i (s, a)) ∧ Fr (RS r M (.slice (some ⟨g, 0, none⟩) n cap)) w (w.setCell ⟨g, i * 2 + 1, none⟩ (.int .i64 a)) ∧ Hole ltD (gd (l.set i (s, a))) (l.set i (s, a)).length i := by
  have hf : Fr (· = g) w (w.setCell ⟨g, i * 2 + 1, none⟩ (.int .i64 a)) := fr_cell' g _ _
  have hne := h.hr.ne
  have hgr := (hne.2 g rfl).1
  have hgM := (hne.2 g rfl).2
  have hB2 := hB.set_ (i * 2 + 1) (.int .i64 a)
  have hnms : Nm (l.set i (s, a)) = Nm l := by rw [← hnm]; exact nm_set hi a
  have hd2 : DC (cur.setIfInBounds (i * 2 + 1) (.int .i64 a)) (l.set i (s, a)) := by
    intro k hk
    have hk' : k < l.length := by simpa using hk
    have := hdc k hk'
    by_cases e : k = i
    · subst e
      rw [gd_set_self _ hk']
      refine ⟨?_, ?_⟩
      · rw [Array.getElem?_setIfInBounds_ne (by omega), this.1, hnm]
      · rw [Array.getElem?_setIfInBounds_self, if_pos (by omega)]
    · rw [gd_set _ e]
      refine ⟨?_, ?_⟩
      · rw [Array.getElem?_setIfInBounds_ne (by omega)]; exact this.1
      · rw [Array.getElem?_setIfInBounds_ne (by omega)]; exact this.2
  refine ⟨⟨h.hr.ge, h.hr.row.fr' hf (fun e => hgr e.symm), ?_, (h.hr.map.fr hf (fun e => hgM e.symm)).congr (fun t => (idx_nm hnms t).symm), by rw [hnms]; exact h.hr.nd, by simpa using h.hr.few, fun d hd => ?_⟩, hf.mono (fun x _ e => by subst e; exact .inr (.inr rfl)), ?_⟩
  · have e : n = (l.set i (s, a)).length := by simpa using hnl
    rw [e]
    exact DR.mk hg hB2 (by simpa using hn) hm (by simpa using hs) hd2
  · rcases List.mem_or_eq_of_mem_set hd with hd | rfl
    · exact h.hr.ok d hd
    · have := (gd_ok h.hr hi).1
      rw [hnm] at this
      exact ⟨this, ha⟩
  · exact hole_of_heap ordD (g := gd l) (by simpa using h.qp.heap) (fun k hk hki => gd_set _ hki)
set_option maxRecDepth 100000 in
set_option maxHeartbeats 4000000 in
theorem qset_ok {w : World} {base q r M : Nat} {v : Value} {l X : List Du} (h : QAt w base q r M v l X) (s : ByteArray) (a : Int) (hk : okSet s a = true) : Calls Try.prog 14 #[.pointer (some ⟨q, 0, none⟩), .string s, .int .i64 a] w fun e w' => QPost w base q r M v (.returned (.int .i64 (setE X s a))) (setR X s a) e w' := by
  have hk2 := hk
  unfold okSet at hk2
  simp only [Bool.and_eq_true, decide_eq_true_eq] at hk2
  obtain ⟨⟨⟨k1, k2⟩, k3⟩, k4⟩ := hk2
  have hsz := size_toList s
  have hsl : s.toList ≠ [] := fun e => by rw [e] at hsz; simp at hsz; omega
  have b1 : (s.toList == []) = false := beq_eq_false_iff_ne.2 hsl
  have b2 : s.toList.isEmpty = false := by rw [List.isEmpty_eq_false_iff]; exact hsl
  have d1 : decide ((64 : Int) < (s.size : Int)) = false := by rw [decide_eq_false_iff_not]; omega
  have d2 : decide (64 < s.size) = false := by rw [decide_eq_false_iff_not]; omega
  have d3 : decide (a < 0) = false := by rw [decide_eq_false_iff_not]; omega
  have d4 : decide (253402300799 < a) = false := by rw [decide_eq_false_iff_not]; omega
  have HM := Lib.hid (made_yes h.blk)
  have hlk := h.hr.map.look s (by unfold maxLen; omega)
  have c0 := h.blk.cell 0
  have f0 := h.hr.row.cell 0
  have f1 := h.hr.row.cell 1
  simp only [List.getElem?_toArray, List.getElem?_cons_zero, List.getElem?_cons_succ] at c0 f0 f1
  have hfew := h.hr.few
  have HQ := Lib.hid h
  have HOK : Hid (OkDu (s, a)) := Lib.hid ⟨k2, k3, k4⟩
  have HK := Lib.hid hk
  have hmem : idxL l s = none ↔ idxL X s = none := by
    rw [idx_none, idx_none]
    exact not_congr (nm_perm h.qp.perm).mem_iff
  have HLEN := Lib.hid h.qp.len
  cases e : idxL l s with
  | none =>
    have hx := hmem.1 e
    rw [e] at hlk
    simp only [Option.getD_none, Option.isSome_none] at hlk
    have HNX : Hid (s ∉ Nm X ∧ s ∉ Nm l) := Lib.hid ⟨idx_none.1 hx, idx_none.1 e⟩
    have HL := Lib.hid (row_len h.hr)
    obtain ⟨n, hn⟩ : ∃ n, n = l.length := ⟨_, rfl⟩
    rw [← hn] at HL
    rcases Nat.lt_or_ge n 256 with hlt | hge
    · have g1 : decide ((256 : Int) ≤ (n : Int)) = false := by rw [decide_eq_false_iff_not]; omega
      have g2 : decide (256 ≤ n) = false := by rw [decide_eq_false_iff_not]; omega
      have HV : Hid (setE X s a = 0 ∧ setR X s a = setX X s a) := by
        have := HLEN.out
        unfold setE setR
        rw [hk]
        exact Lib.hid ⟨by rw [if_neg (by simp), if_neg (by omega)], by rw [if_neg (by simp), if_neg (by omega)]⟩
      have HP := Lib.hid (hpush_any h.hr h.qp.heap (s, a) HNX.out.2 HOK.out (by omega))
      clear hx hmem e h hk hsz hsl k1 k2 k3 k4 hn
      go_enter Try.func14, Try.ntmps14
      go_wp2_with (first
        | (go_at_call 25; refine HM.out.mono ?_; rintro e w ⟨rfl, rfl⟩)
        | (go_at_call 26; refine HL.out.mono ?_; rintro e w ⟨rfl, rfl⟩))
      refine HP.out.mono ?_
      rintro e w1 ⟨l', v', rfl, m1, m2, m3, m4, m5⟩
      have HN : Hid (QAt w1 base q r M v' l' (setX X s a)) := by
        refine Lib.hid ⟨HQ.out.ge, HQ.out.blk.fr' m4 (fun e => ?_), m3, ?_⟩
        · have hne := HQ.out.ne
          rcases e with e | e | e
          · exact hne.1 e
          · exact hne.2.1 e
          · exact hne.2.2 q e rfl
        · unfold setX
          rw [drop_none HNX.out.1]
          exact HQ.out.qp.push (d := (s, a)) HNX.out.1 m1 m2
      have HF : Hid (Fr (QS q r M v) w w1) := Lib.hid (m4.mono (fun _ _ e => .inr e))
      have HG := Lib.hid m5
      clear m1 m2 m3 m4 m5
      go_wp2_with fail
      go_ret
      exact ⟨v', l', by rw [HV.out.1]; rfl, by rw [HV.out.2]; exact HN.out, HF.out, HG.out⟩
    · have g1 : decide ((256 : Int) ≤ (n : Int)) = true := by rw [decide_eq_true_iff]; omega
      have g2 : decide (256 ≤ n) = true := by rw [decide_eq_true_iff]; omega
      have HV : Hid (setE X s a = 2 ∧ setR X s a = X) := by
        have := HLEN.out
        unfold setE setR
        rw [hk]
        exact Lib.hid ⟨by rw [if_neg (by simp), if_pos ⟨hx, by omega⟩], by rw [if_neg (by simp), if_pos ⟨hx, by omega⟩]⟩
      clear hx hmem e h hk hsz hsl k1 k2 k3 k4 hn
      go_enter Try.func14, Try.ntmps14
      go_wp2_with (first
        | (go_at_call 25; refine HM.out.mono ?_; rintro e w ⟨rfl, rfl⟩)
        | (go_at_call 26; refine HL.out.mono ?_; rintro e w ⟨rfl, rfl⟩))
      go_ret
      exact ⟨v, l, by rw [HV.out.1]; rfl, by rw [HV.out.2]; exact HQ.out, Fr.refl _ _, fun g e => .inl e⟩
  | some i =>
    have hx : idxL X s ≠ none := fun x => by rw [hmem.2 x] at e; cases e
    rw [e] at hlk
    simp only [Option.getD_some, Option.isSome_some] at hlk
    obtain ⟨hi, hnm⟩ := (idx_iff h.hr.nd).1 e
    obtain ⟨g, cap, cur, rfl, hg, hB, hn, hm, hs, hdc⟩ := h.hr.open_ (by omega)
    have e1 := (hdc i hi).2
    rw [← hB.cell] at e1
    have z1 := hB.frozen (i * 2 + 1)
    have HSM := Lib.hid (set_mem (a := a) h hB hg hn hm hs hdc hi hnm ⟨k3, k4⟩ rfl)
    have HFX := Lib.hid (hfix_any HSM.out.1 HSM.out.2.2 (by simpa using hi))
    have HIN : Hid (i < l.length ∧ (gd l i).1 = s) := Lib.hid ⟨hi, hnm⟩
    obtain ⟨n, hn'⟩ : ∃ n, n = l.length := ⟨_, rfl⟩
    have HN := Lib.hid hn'
    rw [← hn'] at hi f0 hn hfew HFX
    have q1 : (0 : Int) ≤ (i : Int) := by omega
    have q2 : (i : Int) < (n : Int) := by omega
    have HV : Hid (setE X s a = 0 ∧ setR X s a = setX X s a) := by
      unfold setE setR
      rw [hk]
      exact Lib.hid ⟨by rw [if_neg (by simp), if_neg (fun x => hx x.1)], by rw [if_neg (by simp), if_neg (fun x => hx x.1)]⟩
    clear hx hmem e h hk hsz hsl k1 k2 k3 k4 hB hdc hs hn' hnm hg
    have c0a : ∀ (y : Value), (w.setCell ⟨g, i * 2 + 1, none⟩ y).cell? ⟨q, 0, none⟩ = some (.pointer (some ⟨r, 0, none⟩)) := fun y => by
      rw [World.cell?_setCell_far _ _ _ _ (by have := HQ.out.ne.2.2 g (by rfl); exact fun e => this e.symm)]; exact c0
    go_enter Try.func14, Try.ntmps14
    go_wp2_with (first
      | (go_at_call 25; refine HM.out.mono ?_; rintro e w ⟨rfl, rfl⟩))
    refine HFX.out.mono ?_
    rintro e w1 ⟨l', rfl, m1, m2, m3, m4⟩
    have hvn : (Value.slice (some ⟨g, 0, none⟩) l.length cap).ownBlock = (Value.slice (some ⟨g, 0, none⟩) n cap).ownBlock := rfl
    have hfr : Fr (RS r M (.slice (some ⟨g, 0, none⟩) l.length cap)) w w1 := HSM.out.2.1.trans m4
    have HN' : Hid (QAt w1 base q r M (.slice (some ⟨g, 0, none⟩) l.length cap) l' (setX X s a)) := by
      refine Lib.hid ⟨HQ.out.ge, HQ.out.blk.fr' hfr (fun e => ?_), by rw [← HN.out]; exact m3, ?_⟩
      · have hne := HQ.out.ne
        rcases e with e | e | e
        · exact hne.1 e
        · exact hne.2.1 e
        · exact hne.2.2 q e rfl
      · exact HQ.out.qp.fix HIN.out.1 HIN.out.2 a m1 (by rw [m1.length_eq]; exact m2)
    have HF : Hid (Fr (QS q r M (.slice (some ⟨g, 0, none⟩) l.length cap)) w w1) := Lib.hid (hfr.mono (fun _ _ e => .inr e))
    clear m1 m2 m3 m4 hvn hfr
    go_wp2_with fail
    go_ret
    exact ⟨_, l', by rw [HV.out.1]; rfl, by rw [HV.out.2]; exact HN'.out, HF.out, fun g e => .inl e⟩
theorem qset_any {w : World} {base q r M : Nat} {v : Value} {l X : List Du} (h : QAt w base q r M v l X) (s : ByteArray) (a : Int) : Calls Try.prog 14 #[.pointer (some ⟨q, 0, none⟩), .string s, .int .i64 a] w fun e w' => QPost w base q r M v (.returned (.int .i64 (setE X s a))) (setR X s a) e w' := by
  cases hk : okSet s a with
  | true => exact qset_ok h s a hk
  | false =>
    refine (qset_bad h s a hk).mono ?_
    rintro e w' ⟨rfl, rfl⟩
    exact ⟨v, l, by unfold setE; rw [hk, if_pos rfl], by unfold setR; rw [hk, if_pos rfl]; exact h, Fr.refl _ _, fun g e => .inl e⟩
end Go.Proofs.Ytdhilhjiccpkkaa
