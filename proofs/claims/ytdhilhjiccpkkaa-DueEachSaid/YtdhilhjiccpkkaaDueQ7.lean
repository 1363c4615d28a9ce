/-
  due.Queue.Each; the law's gatherer.
-/
import Derived.Test.YtdhilhjiccpkkaaDueQ6
import Derived.Deep.RegionLaw
import Derived.Deep.QuietTactic
import Derived.BigQuiet
namespace Go.Proofs.Ytdhilhjiccpkkaa
open Go.RowKit
set_option linter.unusedVariables false

/-- a gatherer in memory -/
structure GAt (w : World) (base G : Nat) (v : Value) (m : Int) (L : List Du) : Prop where
  ge : base ≤ G
  blk : Blk w G 69 #[v, .int .i64 m]
  own : DR w base v L
def GS (G : Nat) (v : Value) (k : Nat) : Prop := k = G ∨ v.ownBlock = some k
def TakePost (w : World) (base G : Nat) (v : Value) (m : Int) (L : List Du) (d : Du) (e : Ending) (w' : World) : Prop :=
  ∃ v', e = .returned (.bool (!decide (((L.length + 1 : Nat) : Int) = m))) ∧ GAt w' base G v' m (L ++ [d]) ∧ Fr (GS G v) w w' ∧ ∀ g, v'.ownBlock = some g → v.ownBlock = some g ∨ w.heap.size ≤ g
theorem take_own {w : World} {base G : Nat} {m : Int} {L : List Du} {A : Option Addr} {c n : Nat} {a : ByteArray} {b : Int} {o : Obj} (h : GAt w base G (.slice A n c) m L) (hn : n = L.length) : ((((w.alloc o).alloc (.cells #[.string a, .int .i64 b] 44)).drew).ownsRow base 44 2 (.slice A n c) n (dcells L)) := by
  have h1 : DR (((w.alloc o).alloc (.cells #[.string a, .int .i64 b] 44)).drew) base (.slice A n c) L := h.own.below ((((Below.refl w.heap.size w).alloc (Nat.le_refl _) _).alloc (by simp) _).drew)
  unfold DR at h1
  rw [← hn] at h1
  exact h1
theorem take_mem {w w' : World} {base G : Nat} {m : Int} {L : List Du} {A : Option Addr} {c n : Nat} {d : Du} {o o2 : Obj} {v' : Value} (h : GAt w base G (.slice A n c) m L) (hn : n = L.length)
    (ho : w'.ownsRow base 44 2 v' (n + 1) (dcells L ++ [.string d.1, .int .i64 d.2])) (hg : (((w.alloc o).alloc o2).drew).grownBy w' (Value.slice A n c).ownBlock) (hat : v'.ownBlock = (Value.slice A n c).ownBlock ∨ v'.ownBlock = some (((w.alloc o).alloc o2).drew).heap.size) :
    Blk w' G 69 #[.slice A n c, .int .i64 m] ∧ GAt (w'.setCell ⟨G, 0, none⟩ v') base G v' m (L ++ [d]) ∧ Fr (GS G (.slice A n c)) w (w'.setCell ⟨G, 0, none⟩ v') ∧ ∀ g, v'.ownBlock = some g → (Value.slice A n c).ownBlock = some g ∨ w.heap.size ≤ g := by
  have hne : ∀ g, (Value.slice A n c).ownBlock = some g → g ≠ G := fun g e => by
    rcases h.own.shape with ⟨e2, _⟩ | ⟨g', cap, cur, e2, _, hB, _⟩
    · rw [e2] at e; cases e
    · rw [e2] at e
      cases e
      exact Blk.ne_ hB h.blk (by decide)
  have h0 : Fr (fun _ => False) w (((w.alloc o).alloc o2).drew) := (((Fr.refl _ w).alloc _).alloc _).drew
  have h1 : Fr (fun g => (Value.slice A n c).ownBlock = some g) (((w.alloc o).alloc o2).drew) w' := Fr.of_grown hg (fun g e => e)
  have h2 : Fr (fun g => (Value.slice A n c).ownBlock = some g) w w' := (h0.mono (fun _ _ x => x.elim)).trans h1
  have hf : Fr (· = G) w' (w'.setCell ⟨G, 0, none⟩ v') := fr_cell' G 0 v'
  have hb' : Blk w' G 69 #[.slice A n c, .int .i64 m] := h.blk.fr' h2 (fun e => hne G e rfl)
  have hge : ∀ g, v'.ownBlock = some g → (Value.slice A n c).ownBlock = some g ∨ w.heap.size ≤ g := fun g e => by
    rcases hat with e2 | e2
    · exact .inl (e2.symm.trans e)
    · right
      rw [e2] at e
      cases e
      simp; omega
  have hdr : DR w' base v' (L ++ [d]) := by
    unfold DR
    rw [dcells_append, List.length_append, ← hn]
    exact ho
  refine ⟨hb', ⟨h.ge, hb'.set_ 0 v', hdr.fr hf (fun g e e2 => ?_)⟩, (h2.mono (T := GS G (.slice A n c)) (fun _ _ e => .inr e)).trans_new hf (fun j _ e => .inl e), hge⟩
  rcases hge g e with h3 | h3
  · exact hne g h3 e2
  · have := h.blk.lt
    have e3 : g = G := e2
    omega
set_option maxRecDepth 100000 in
set_option maxHeartbeats 4000000 in
theorem take_any {w : World} {base G : Nat} {v : Value} {m : Int} {L : List Du} (h : GAt w base G v m L) (d : Du) (hl : L.length ≤ 256) (hb : base ≤ w.heap.size) :
    Calls Try.prog 34 #[.pointer (some ⟨G, 0, none⟩), .agg #[.string d.1, .int .i64 d.2]] w fun e w' => TakePost w base G v m L d e w' := by
  obtain ⟨a, b⟩ := d
  obtain ⟨A, c, rfl⟩ := dr_val h.own
  obtain ⟨n, hn⟩ : ∃ n, n = L.length := ⟨_, rfl⟩
  rw [← hn] at h hl
  rw [← hn]
  have HN := Lib.hid hn
  have HH := Lib.hid h
  have hX := Blk.new w 44 #[.string a, .int .i64 b]
  have x0 := hX.cell 0
  have x1 := hX.cell 1
  have hG := h.blk.alloc (.cells #[.string a, .int .i64 b] 44)
  have c0 := hG.cell 0
  simp only [List.getElem?_toArray, List.getElem?_cons_zero, List.getElem?_cons_succ] at x0 x1 c0
  have x0a : ∀ o, ((w.alloc (.cells #[.string a, .int .i64 b] 44)).alloc o).cell? ⟨w.heap.size, 0, none⟩ = some (.string a) := fun o => by rw [World.cell?_alloc_lt _ _ _ hX.lt]; exact x0
  have x1a : ∀ o, ((w.alloc (.cells #[.string a, .int .i64 b] 44)).alloc o).cell? ⟨w.heap.size, 1, none⟩ = some (.int .i64 b) := fun o => by rw [World.cell?_alloc_lt _ _ _ hX.lt]; exact x1
  have c0a : ∀ o, ((w.alloc (.cells #[.string a, .int .i64 b] 44)).alloc o).cell? ⟨G, 0, none⟩ = some (.slice A n c) := fun o => by rw [World.cell?_alloc_lt _ _ _ hG.lt]; exact c0
  have t0 : 0 < 2 := by omega
  have t1 : ∀ u ∈ [Value.string a, .int .i64 b], u.oneCell' = true := by simp [Value.oneCell']
  have t2 : n + 1 ≤ maxLen := by unfold maxLen; omega
  have t3 : (n + 1) * 24 ≤ 140737488355328 := by omega
  have t4 : base ≤ (((w.alloc (.cells #[.string a, .int .i64 b] 44)).alloc (.cells #[.string a, .int .i64 b] 44)).drew).heap.size := by simp; omega
  obtain ⟨i0, hi0, hz0, hz1, hz2⟩ := info_parts infoDue
  clear h hn hX hG
  go_enter Try.func34, Try.ntmps34
  go_wp2
  go_region_law ((refine step_append_any _ (by rfl) (.tmp 9) (.tmp 11) 26 (by rfl) base 44 i0 (.agg #[.string ⟨#[]⟩, .int .i64 0]) 2 24 Try.underlying26 hi0 hz0 hz1 hz2 rfl t0 (.slice A n c) n (dcells L) (by rfl) (take_own HH.out HN.out) (w.heap.size + 1 + 1) (some ⟨w.heap.size + 1, 0, none⟩) 1 1 [.string a, .int .i64 b] (by rfl) (reads_due2 (w.alloc (.cells #[.string a, .int .i64 b] 44)) 44 _ _ (w.heap.size + 1) (by simp)) t1 t2 t3 t4 ?_; intro v' w' ho hg hat; obtain ⟨A', c', rfl⟩ := own_val ho; have HN2 := Lib.hid (take_mem (d := (a, b)) HH.out HN.out ho hg hat); have hDw := HN2.out.1; have g0 := hDw.cell 0; have g1 := hDw.frozen 0; simp only [List.getElem?_toArray, List.getElem?_cons_zero] at g0; clear hDw ho hg hat))
  all_goals
    have e0 := HN2.out.2.1.blk.cell 0
    have e1 := HN2.out.2.1.blk.cell 1
    simp only [List.getElem?_toArray, List.getElem?_cons_zero, List.getElem?_cons_succ] at e0 e1
    clear x0 x1 c0 x0a x1a c0a t0 t1 t2 t3 t4 hi0 hz0 hz1 hz2 g0 g1
    generalize w'.setCell ⟨G, 0, none⟩ (.slice A' (n + 1) c') = W2 at HN2 e0 e1 ⊢
    go_wp2
    go_quiet (fail)
    go_wp2
    go_ret
    refine ⟨.slice A' (n + 1) c', ?_, ⟨HN2.out.2.1.ge, HN2.out.2.1.blk.drewN nq, HN2.out.2.1.own.drewN nq⟩, HN2.out.2.2.1.drewN nq, HN2.out.2.2.2⟩
    have hh : ((n : Int) + 1 != m) = !decide (((L.length + 1 : Nat) : Int) = m) := by
      rw [← HN.out]
      by_cases e : (n : Int) + 1 = m
      · simp [bne, e]
      · simp [bne, e]
    rw [← hh]
    rfl
/-- what is gathered, at most so many -/
def gathL (X : List Du) (m : Int) : List Du := if 1 ≤ m ∧ m < X.length then X.take m.toNat else X
/-- between two rounds of Each -/
structure EachI (w wr : World) (base G : Nat) (va : Value) (m : Int) (X : List Du) (k : Nat) (v : Value) : Prop where
  le : k ≤ X.length
  on : ∀ j, 1 ≤ j → j ≤ k → ((j : Nat) : Int) ≠ m
  g : GAt wr base G v m (X.take k)
  all : DR wr w.heap.size va X
  fr : Fr (GS G (.slice none 0 0)) w wr
  new : ∀ g, v.ownBlock = some g → w.heap.size ≤ g ∧ va.ownBlock ≠ some g
def EachPost (w : World) (base G : Nat) (m : Int) (X : List Du) (e : Ending) (w' : World) : Prop :=
  ∃ v, e = .returned (.tuple #[]) ∧ GAt w' base G v m (gathL X m) ∧ Fr (GS G (.slice none 0 0)) w w'
set_option maxRecDepth 100000 in
set_option maxHeartbeats 4000000 in
theorem each_any {w : World} {base G : Nat} {m : Int} {X : List Du} (p : Option Addr) (h : GAt w base G (.slice none 0 0) m []) (hA : Calls Try.prog 13 #[.pointer p] w fun e w' => AppPost w X e w') (hX : X.length ≤ 256) (hb : base ≤ w.heap.size) :
    Calls Try.prog 33 #[.pointer p, .func (.func 34) #[.pointer (some ⟨G, 0, none⟩)] #[]] w fun e w' => EachPost w base G m X e w' := by
  have HA := Lib.hid hA
  have HG := Lib.hid h
  have HB := Lib.hid hb
  clear hA h hb
  go_enter Try.func33, Try.ntmps33
  go_wp2_with fail
  refine HA.out.mono ?_
  rintro e w1 ⟨va, rfl, h1, h2⟩
  obtain ⟨A, c, hva⟩ := dr_val h1
  obtain ⟨n, hn⟩ : ∃ n, n = X.length := ⟨_, rfl⟩
  rw [← hn] at hva hX
  have HI0 : Hid (EachI w w1 base G va m X 0 (.slice none 0 0)) := Lib.hid ⟨Nat.zero_le _, fun j h1 h2 => by omega, ⟨HG.out.ge, HG.out.blk.below h2 HG.out.blk.lt, DR.nil _ _⟩, h1, (Fr.of_below (S := fun _ => False) h2).mono (fun _ _ x => x.elim), fun g e => by cases e⟩
  have HN := Lib.hid hn
  subst hva
  clear h1 h2 hn
  go_wp2_with fail
  go_loopw [9] (fun i wr => ∃ (k : Nat) (v : Value), k ≤ n ∧ i = .int .i64 (k : Int) ∧ Hid (EachI w wr base G (.slice A n c) m X k v)) (fun i _ => n - (intOf i).toNat)
  case atStart => exact ⟨0, _, Nat.zero_le _, rfl, HI0⟩
  case round =>
    obtain ⟨k, v, hk, rfl, HI⟩ := hrel
    clear HI0
    rcases (by omega : k < n ∨ k = n) with hlt | heq
    · have hkX : k < X.length := by rw [← HN.out]; exact hlt
      rcases HI.out.all.shape with ⟨e, e2⟩ | ⟨g, cap, cur, e, _, hB, _, _, _, hdc⟩
      · subst e2
        simp at hkX
      · injection e with e1 e2 e3
        subst e1
        have x0 := (hdc k hkX).1
        have x1 := (hdc k hkX).2
        rw [← hB.cell] at x0 x1
        obtain ⟨d, hd⟩ : ∃ d, d = gd X k := ⟨_, rfl⟩
        rw [← hd] at x0 x1
        have HD := Lib.hid hd
        obtain ⟨a, b⟩ := d
        simp only at x0 x1
        have hal : Below wr.heap.size wr (wr.alloc (.cells #[.string a, .int .i64 b] 44)) := (Below.refl _ _).alloc (Nat.le_refl _) _
        have hg1 : GAt (wr.alloc (.cells #[.string a, .int .i64 b] 44)) base G v m (X.take k) := ⟨HI.out.g.ge, HI.out.g.blk.below hal HI.out.g.blk.lt, HI.out.g.own.below hal⟩
        have HT := Lib.hid (take_any hg1 (a, b) (by rw [List.length_take]; omega) (by have := HB.out; have := HI.out.fr.size; simp; omega))
        have HAL := Lib.hid hal
        have hX2 := Blk.new wr 44 #[.string a, .int .i64 b]
        have y0 := hX2.cell 0
        have y1 := hX2.cell 1
        simp only [List.getElem?_toArray, List.getElem?_cons_zero, List.getElem?_cons_succ] at y0 y1
        have q0 : decide ((k : Int) < (n : Int)) = true := by rw [decide_eq_true_iff]; omega
        have q1 : (0 : Int) ≤ (k : Int) := by omega
        have q2 : (k : Int) < (n : Int) := by omega
        have HKX := Lib.hid hkX
        clear hd hB hdc e2 e3 hal hg1 hX2 hkX
        go_wp2_with fail
        refine HT.out.mono ?_
        rintro e w2 ⟨v', rfl, k1, k2, k3⟩
        have HG2 : Hid (GAt w2 base G v' m (X.take (k + 1))) := Lib.hid (by rw [take_snoc HKX.out, ← HD.out]; exact k1)
        have hGX : G < w.heap.size := HG.out.blk.lt
        have HF2 : Hid (Fr (GS G v) wr w2) := Lib.hid (Fr.trans ((Fr.of_below (S := fun _ => False) HAL.out).mono (fun _ _ x => x.elim)) k2)
        have HV2 : Hid (∀ g, v'.ownBlock = some g → v.ownBlock = some g ∨ wr.heap.size < g) := Lib.hid (fun g e => by
          rcases k3 g e with h | h
          · exact .inl h
          · right; simp at h; omega)
        have hlen : (X.take k).length = k := by rw [List.length_take]; have := HKX.out; omega
        rw [hlen]
        have HFW : Hid (Fr (GS G (.slice none 0 0)) w w2) := Lib.hid (HI.out.fr.trans_new HF2.out (fun j hj e => by
          rcases e with e | e
          · exact .inl e
          · have := (HI.out.new j e).1
            omega))
        clear k1 k2 k3 hlen
        by_cases hm : ((k + 1 : Nat) : Int) = m
        · have HM := Lib.hid hm
          have hd : decide (((k + 1 : Nat) : Int) = m) = true := decide_eq_true hm
          rw [hd]
          clear hm hd
          go_wp2_with fail
          refine bodyPost_ret (results_none rfl _ _ _) rfl ?_
          refine ⟨v', rfl, ?_, HFW.out⟩
          have : gathL X m = X.take (k + 1) := by
            have hm := HM.out
            unfold gathL
            by_cases hc : 1 ≤ m ∧ m < X.length
            · rw [if_pos hc, ← hm]; rfl
            · rw [if_neg hc, List.take_of_length_le (by omega)]
          rw [this]
          exact HG2.out
        · have hd : decide (((k + 1 : Nat) : Int) = m) = false := decide_eq_false hm
          rw [hd]
          have HI2 : Hid (EachI w w2 base G (.slice (some ⟨g, 0, none⟩) n c) m X (k + 1) v') := by
            refine Lib.hid ⟨HKX.out, fun j h1 h2 => ?_, HG2.out, ?_, HFW.out, fun g' e => ?_⟩
            · rcases (by omega : j ≤ k ∨ j = k + 1) with h | rfl
              · exact HI.out.on j h1 h
              · exact hm
            · refine HI.out.all.fr HF2.out (fun g' e e2 => ?_)
              rcases e2 with e2 | e2
              · have := HI.out.all.ge g' e
                omega
              · exact (HI.out.new g' e2).2 e
            · rcases HV2.out g' e with h | h
              · exact HI.out.new g' h
              · refine ⟨by have := HI.out.fr.size; omega, fun e2 => ?_⟩
                have := HI.out.all.lt g' e2
                omega
          clear hm hd
          go_wp2_with fail
          go_roundw
          case rel => exact ⟨k + 1, v', by omega, by go_num, HI2⟩
          case measure => simp [intOf]; omega
    · have HE := Lib.hid heq
      have q0 : decide ((k : Int) < (n : Int)) = false := by rw [decide_eq_false_iff_not]; omega
      have q0' : decide (k < n) = false := by rw [decide_eq_false_iff_not]; omega
      clear heq
      go_wp2_with fail
      go_end0
      refine ⟨v, rfl, ?_, HI.out.fr⟩
      have hk2 : k = X.length := by rw [HE.out]; exact HN.out
      have : gathL X m = X.take k := by
        unfold gathL
        rw [if_neg (fun hc => by
          have := HI.out.on m.toNat (by omega) (by omega)
          omega), List.take_of_length_le (by omega)]
      rw [this]
      exact HI.out.g
def GatherPost (w : World) (X : List Du) (m : Int) (e : Ending) (w' : World) : Prop := ∃ v, e = .returned v ∧ DR w' w.heap.size v (gathL X m) ∧ Below w.heap.size w w'
set_option maxRecDepth 100000 in
set_option maxHeartbeats 1000000 in
theorem gathered_any {w : World} {m : Int} {X : List Du} (p : Option Addr) (hA : ∀ W, Below w.heap.size w W → Calls Try.prog 13 #[.pointer p] W fun e w' => AppPost W X e w') (hX : X.length ≤ 256) :
    Calls Try.prog 18 #[.pointer p, .int .i64 m] w fun e w' => GatherPost w X m e w' := by
  have hal : Below w.heap.size w (w.alloc (.cells #[.slice none 0 0, .int .i64 m] 69)) := (Below.refl _ _).alloc (Nat.le_refl _) _
  have HE := Lib.hid (each_any (base := w.heap.size) p ⟨Nat.le_refl _, Blk.new w 69 #[.slice none 0 0, .int .i64 m], DR.nil _ _⟩ (hA _ hal) hX hal.size)
  have HAL := Lib.hid hal
  clear hA hal
  go_enter Try.func18, Try.ntmps18
  go_wp2_with fail
  refine HE.out.mono ?_
  rintro e w2 ⟨v, rfl, k1, k2⟩
  have c0 := k1.blk.cell 0
  simp only [List.getElem?_toArray, List.getElem?_cons_zero] at c0
  have K1 := Lib.hid k1.own
  have K2 : Hid (Below w.heap.size w w2) := Lib.hid (Fr.below_trans HAL.out k2 HAL.out.size (fun g e => by
    rcases e with e | e
    · omega
    · cases e))
  clear k1 k2
  go_wp2_with fail
  go_ret
  exact ⟨v, rfl, K1.out, K2.out⟩
end Go.Proofs.Ytdhilhjiccpkkaa
