/-
  The queue as the laws see it; what lives() returns.
-/
import Derived.Test.YtdhilhjiccpkkaaDueQ6
import Derived.Test.YtdhilhjiccpkkaaDueR1
import Derived.Deep.RegionHeld3
namespace Go.Proofs.Ytdhilhjiccpkkaa
open Go.RowKit
set_option linter.unusedVariables false

/-- a queue with the list X; S: the blocks that it has -/
def QI (B : Nat) (w : World) (q : Nat) (X : List Du) (S : Nat → Prop) : Prop := ∃ r M v l, QAt w B q r M v l X ∧ S = QS q r M v
section
variable {B q : Nat} {w w' : World} {X : List Du} {S T : Nat → Prop}
theorem QI.fr (h : QI B w q X S) (hf : Fr T w w') (hs : ∀ k, S k → ¬ T k) : QI B w' q X S := by
  obtain ⟨r, M, v, l, h, rfl⟩ := h
  exact ⟨r, M, v, l, h.fr hf hs, rfl⟩
theorem QI.below (h : QI B w q X S) (hb : Below w.heap.size w w') : QI B w' q X S := h.fr (Fr.of_below hb) (T := fun _ => False) (fun _ _ x => x)
theorem QI.few (h : QI B w q X S) : X.length ≤ 256 := by
  obtain ⟨r, M, v, l, h, _⟩ := h
  exact h.len.2
theorem QI.lt (h : QI B w q X S) : ∀ k, S k → k < w.heap.size := by
  obtain ⟨r, M, v, l, h, rfl⟩ := h
  exact h.lt
theorem QI.ge (h : QI B w q X S) : ∀ k, S k → B ≤ k := by
  obtain ⟨r, M, v, l, h, rfl⟩ := h
  exact h.geS
theorem QI.size (h : QI B w q X S) : B ≤ w.heap.size := by
  obtain ⟨r, M, v, l, h, _⟩ := h
  have := h.blk.lt
  have := h.ge
  omega
theorem QI.nd (h : QI B w q X S) : (Nm X).Nodup := by
  obtain ⟨r, M, v, l, h, _⟩ := h
  exact h.qp.nd
theorem QI.srt (h : QI B w q X S) : SortedD X := by
  obtain ⟨r, M, v, l, h, _⟩ := h
  exact h.qp.srt
theorem fr_low {S : Nat → Prop} (h : Fr S w w') (hB : B ≤ w.heap.size) (hS : ∀ k, S k → B ≤ k) : Below B w w' := Fr.below_trans (Below.refl _ _) h hB hS
/-- behind a call that changes the queue -/
def QIPost (B : Nat) (w : World) (q : Nat) (S : Nat → Prop) (E : Ending) (X' : List Du) (e : Ending) (w' : World) : Prop := ∃ S', e = E ∧ QI B w' q X' S' ∧ Fr S w w' ∧ (∀ k, S' k → S k ∨ w.heap.size ≤ k) ∧ Below B w w'
end
theorem QPost.qi {w : World} {B q r M : Nat} {v : Value} {l X : List Du} {E e : Ending} {X' : List Du} {w' : World} (h : QAt w B q r M v l X) (hp : QPost w B q r M v E X' e w') : QIPost B w q (QS q r M v) E X' e w' := by
  obtain ⟨v', l', he, h1, h2, h3⟩ := hp
  refine ⟨_, he, ⟨r, M, v', l', h1, rfl⟩, h2, fun k hk => ?_, fr_low h2 (QI.size ⟨r, M, v, l, h, rfl⟩) h.geS⟩
  rcases hk with hk | hk | hk | hk
  · exact .inl (.inl hk)
  · exact .inl (.inr (.inl hk))
  · exact .inl (.inr (.inr (.inl hk)))
  · rcases h3 k hk with h4 | h4
    · exact .inl (.inr (.inr (.inr h4)))
    · exact .inr h4
theorem iset_any {B q : Nat} {X : List Du} {S : Nat → Prop} (w : World) (h : QI B w q X S) (s : ByteArray) (a : Int) {E : Int} {Y : List Du} (hE : setE X s a = E) (hY : setR X s a = Y) : Calls Try.prog 14 #[.pointer (some ⟨q, 0, none⟩), .string s, .int .i64 a] w fun e w' => QIPost B w q S (.returned (.int .i64 E)) Y e w' := by
  subst hE hY
  obtain ⟨r, M, v, l, h, rfl⟩ := h
  exact (qset_any h s a).mono fun e w' hp => hp.qi h
theorem idrop_any {B q : Nat} {X : List Du} {S : Nat → Prop} (w : World) (h : QI B w q X S) (s : ByteArray) (hs : s.size ≤ maxLen) {E : Int} {Y : List Du} (hE : dropE X s = E) (hY : dropX X s = Y) : Calls Try.prog 16 #[.pointer (some ⟨q, 0, none⟩), .string s] w fun e w' => QIPost B w q S (.returned (.int .i64 E)) Y e w' := by
  subst hE hY
  obtain ⟨r, M, v, l, h, rfl⟩ := h
  exact (qdrop_any h s hs).mono fun e w' hp => hp.qi h
def IUntil (B : Nat) (w : World) (q : Nat) (S : Nat → Prop) (X : List Du) (t : Int) (e : Ending) (w' : World) : Prop :=
  ∃ A c, e = .returned (.slice A (untilL X t).length c) ∧ DR w' w.heap.size (.slice A (untilL X t).length c) (untilL X t) ∧ QI B w' q (untilR X t) S ∧ Fr S w w' ∧ Below B w w'
theorem iuntil_any {B q : Nat} {X : List Du} {S : Nat → Prop} (w : World) (h : QI B w q X S) (t : Int) : Calls Try.prog 17 #[.pointer (some ⟨q, 0, none⟩), .int .i64 t] w fun e w' => IUntil B w q S X t e w' := by
  obtain ⟨r, M, v, l, h, rfl⟩ := h
  refine (quntil_any h t).mono fun e w' hp => ?_
  obtain ⟨v', l', vo, he, h1, h2, h3, h4⟩ := hp
  obtain ⟨A, c, rfl⟩ := dr_val h1
  exact ⟨A, c, he, h1, ⟨r, M, v', l', h2, funext fun k => propext (QS_own h4 k).symm⟩, h3, fr_low h3 (QI.size ⟨r, M, v, l, h, rfl⟩) h.geS⟩
theorem iget_any {B q : Nat} {X : List Du} {S : Nat → Prop} (w : World) (h : QI B w q X S) (s : ByteArray) (hs : s.size ≤ maxLen) : Calls Try.prog 19 #[.pointer (some ⟨q, 0, none⟩), .string s] w fun e w' => e = .returned (.tuple #[.int .i64 ((getX X s).getD 0), .bool (getX X s).isSome]) ∧ w' = w := by
  obtain ⟨r, M, v, l, h, _⟩ := h
  exact qget_any h s hs
theorem ifirst_any {B q : Nat} {X : List Du} {S : Nat → Prop} (w : World) (h : QI B w q X S) : Calls Try.prog 20 #[.pointer (some ⟨q, 0, none⟩)] w fun e w' => e = .returned (.tuple #[.agg #[.string (gd X 0).1, .int .i64 (gd X 0).2], .bool (decide (0 < X.length))]) ∧ Below w.heap.size w w' := by
  obtain ⟨r, M, v, l, h, _⟩ := h
  exact qfirst_any h
theorem ilen_any {B q : Nat} {X : List Du} {S : Nat → Prop} (w : World) (h : QI B w q X S) : Calls Try.prog 11 #[.pointer (some ⟨q, 0, none⟩)] w fun e w' => e = .returned (.int .i64 (X.length : Int)) ∧ w' = w := by
  obtain ⟨r, M, v, l, h, _⟩ := h
  exact qlen_any h
theorem iall_any {B q : Nat} {X : List Du} {S : Nat → Prop} (w : World) (h : QI B w q X S) : Calls Try.prog 13 #[.pointer (some ⟨q, 0, none⟩)] w fun e w' => AppPost w X e w' := by
  obtain ⟨r, M, v, l, h, _⟩ := h
  exact qall_any h
theorem inew_any (w : World) : Calls Try.prog 8 #[] w fun e w' => ∃ q S, e = .returned (.pointer (some ⟨q, 0, none⟩)) ∧ QI w.heap.size w' q [] S ∧ Below w.heap.size w w' := by
  refine (due_new w).mono ?_
  rintro e w1 ⟨q, r, M, rfl, h1, hb1⟩
  exact ⟨q, _, rfl, ⟨r, M, _, _, h1, rfl⟩, hb1⟩
theorem lv1 : setE [] ⟨#[98]⟩ 5 = 0 ∧ setR [] ⟨#[98]⟩ 5 = [(⟨#[98]⟩, 5)] := by decide +kernel
theorem lv2 : setE [(⟨#[98]⟩, 5)] ⟨#[97]⟩ 5 = 0 ∧ setR [(⟨#[98]⟩, 5)] ⟨#[97]⟩ 5 = [(⟨#[97]⟩, 5), (⟨#[98]⟩, 5)] := by decide +kernel
theorem lv3 : setE [(⟨#[97]⟩, 5), (⟨#[98]⟩, 5)] ⟨#[98]⟩ 3 = 0 ∧ setR [(⟨#[97]⟩, 5), (⟨#[98]⟩, 5)] ⟨#[98]⟩ 3 = [(⟨#[98]⟩, 3), (⟨#[97]⟩, 5)] := by decide +kernel
theorem lv4 : untilL [(⟨#[98]⟩, 3), (⟨#[97]⟩, 5)] 4 = [(⟨#[98]⟩, 3)] ∧ untilR [(⟨#[98]⟩, 3), (⟨#[97]⟩, 5)] 4 = [(⟨#[97]⟩, 5)] := by decide +kernel
theorem lv5 : getX [(⟨#[97]⟩, 5)] ⟨#[97]⟩ = some 5 := by decide +kernel
theorem lv6 : setE [(⟨#[97]⟩, 5)] ⟨#[]⟩ 1 = 1 ∧ setR [(⟨#[97]⟩, 5)] ⟨#[]⟩ 1 = [(⟨#[97]⟩, 5)] := by decide +kernel
theorem lv7 : dropE [(⟨#[97]⟩, 5)] ⟨#[98]⟩ = 4 ∧ dropX [(⟨#[97]⟩, 5)] ⟨#[98]⟩ = [(⟨#[97]⟩, 5)] := by decide +kernel
set_option maxRecDepth 100000 in
set_option maxHeartbeats 2000000 in
theorem lives_any (w0 : World) : Calls Try.prog 9 #[] w0 fun e w' => e = .returned (.bool true) ∧ Below w0.heap.size w0 w' := by
  obtain ⟨B, hB⟩ : ∃ B, B = w0.heap.size := ⟨_, rfl⟩
  rw [← hB]
  have HB := Lib.hid hB
  clear hB
  go_enter Try.func9, Try.ntmps9
  go_wp2_with fail
  refine (inew_any _).mono ?_
  rintro e w1 ⟨q, S1, rfl, h1, hb1⟩
  rw [← HB.out] at h1 hb1
  have HQ1 := Lib.hid h1
  have HB1 := Lib.hid hb1
  clear h1 hb1
  go_wp2_with fail
  refine (iset_any _ HQ1.out _ _ lv1.1 lv1.2).mono ?_
  rintro e w2 ⟨S2, rfl, h2, _, _, hb2⟩
  have HQ2 := Lib.hid h2
  have HB2 := Lib.hid (HB1.out.trans hb2)
  clear h2 hb2
  go_wp2_with fail
  refine (iset_any _ HQ2.out _ _ lv2.1 lv2.2).mono ?_
  rintro e w3 ⟨S3, rfl, h2, _, _, hb2⟩
  have HQ3 := Lib.hid h2
  have HB3 := Lib.hid (HB2.out.trans hb2)
  clear h2 hb2
  go_wp2_with fail
  refine (iset_any _ HQ3.out _ _ lv3.1 lv3.2).mono ?_
  rintro e w4 ⟨S4, rfl, h2, _, _, hb2⟩
  have HQ4 := Lib.hid h2
  have HB4 := Lib.hid (HB3.out.trans hb2)
  clear h2 hb2
  go_wp2_with fail
  refine (ifirst_any _ HQ4.out).mono ?_
  rintro e w5 ⟨rfl, hb5⟩
  have HB5 := Lib.hid (HB4.out.trans (hb5.mono HQ4.out.size))
  have HQ5 := Lib.hid (HQ4.out.below hb5)
  clear hb5
  have e1 : gd [((⟨#[98]⟩, 3) : Du), (⟨#[97]⟩, 5)] 0 = (⟨#[98]⟩, 3) := rfl
  rw [e1]
  have e2 : decide (0 < [((⟨#[98]⟩, 3) : Du), (⟨#[97]⟩, 5)].length) = true := rfl
  rw [e2]
  simp only
  clear e1 e2
  have ha5 : Below w5.heap.size w5 (w5.alloc (.cells #[.string ⟨#[98]⟩, .int .i64 3] 44)) := (Below.refl _ _).alloc (Nat.le_refl _) _
  have HQ6 := Lib.hid (HQ5.out.below ha5)
  have HB6 := Lib.hid (HB5.out.trans (ha5.mono HQ5.out.size))
  have HBX := Lib.hid (Blk.new w5 44 #[.string ⟨#[98]⟩, .int .i64 3])
  have HNS := Lib.hid (fun h => Nat.lt_irrefl _ (HQ5.out.lt w5.heap.size h) : ¬ S4 w5.heap.size)
  clear ha5
  go_wp2_with fail
  refine (iuntil_any _ HQ6.out _).mono ?_
  rintro e w7 ⟨A, c, rfl, hd, h2, hf, hb2⟩
  rw [lv4.1] at hd
  rw [lv4.2] at h2
  rw [lv4.1]
  have HQ7 := Lib.hid h2
  have HB7 := Lib.hid (HB6.out.trans hb2)
  have HBX7 := Lib.hid (HBX.out.fr' hf HNS.out)
  have x0 := HBX7.out.cell 0
  have x1 := HBX7.out.cell 1
  rcases RL.of_dr hd with e | ⟨b, o, e, hbl, hc⟩
  · cases e
  subst e
  have HNB := Lib.hid (fun h => by have h1 := HQ6.out.lt b h; have h2 := hd.ge b rfl; omega : ¬ S4 b)
  have y0 := (hc 0 (by decide)).1
  have y1 := (hc 0 (by decide)).2
  have e1 : gd [((⟨#[98]⟩, 3) : Du)] 0 = (⟨#[98]⟩, 3) := rfl
  rw [e1] at y0 y1
  simp only [List.length_cons, List.length_nil, Nat.zero_mul, Nat.add_zero, Nat.zero_add, List.getElem?_toArray, List.getElem?_cons_zero, List.getElem?_cons_succ] at x0 x1 y0 y1 ⊢
  clear h2 hb2 hd hc e1 hf hbl
  have HG := Lib.hid (iget_any _ HQ7.out ⟨#[97]⟩ (by decide))
  rw [lv5] at HG
  go_wp2_with (go_at_call 19; refine HG.out.mono ?_; rintro e w ⟨rfl, rfl⟩)
  have HQ8 := Lib.hid (HQ7.out.below ((Below.refl _ _).drew))
  have HB8 := Lib.hid (HB7.out.trans (((Below.refl _ _).drew).mono HQ7.out.size) : Below B w0 w.drew)
  have HF8 : Hid (Fr S4 w w.drew) := Lib.hid (Fr.drew (Fr.refl _ _))
  have HL := Lib.hid (ilen_any _ HQ8.out)
  have HS := Lib.hid (iset_any _ HQ8.out _ _ lv6.1 lv6.2)
  have hq := eql_du ⟨#[98]⟩ ⟨#[98]⟩ 3 3
  rw [decide_eq_true rfl] at hq
  have hx0 : w.drew.cell? ⟨w5.heap.size, 0, none⟩ = some (.string ⟨#[98]⟩) := x0
  have hx1 : w.drew.cell? ⟨w5.heap.size, 1, none⟩ = some (.int .i64 3) := x1
  have hy0 : w.drew.cell? ⟨b, o, none⟩ = some (.string ⟨#[98]⟩) := y0
  have hy1 : w.drew.cell? ⟨b, o + 1, none⟩ = some (.int .i64 3) := y1
  go_region_held3 (fun V => V.cell? ⟨w5.heap.size, 0, none⟩ = some (.string ⟨#[98]⟩) ∧ V.cell? ⟨w5.heap.size, 1, none⟩ = some (.int .i64 3) ∧ V.cell? ⟨b, o, none⟩ = some (.string ⟨#[98]⟩) ∧ V.cell? ⟨b, o + 1, none⟩ = some (.int .i64 3))
    (go_keep)
    (first
    | (go_at_call 11; refine HL.out.mono ?_; rintro e w' ⟨rfl, rfl⟩)
    | (go_at_call 14; refine HS.out.mono ?_; rintro e w9 ⟨S9, rfl, h2, hf9, hs9, hb2⟩; have HQ9 := Lib.hid h2; have HB9 := Lib.hid (HB8.out.trans hb2); have HF9 := Lib.hid (HF8.out.trans hf9); have HS9 := Lib.hid hs9; have z0 := cell_fr HF9.out HNS.out x0; have z1 := cell_fr HF9.out HNS.out x1; have z2 := cell_fr HF9.out HNB.out y0; have z3 := cell_fr HF9.out HNB.out y1; clear h2 hb2 hf9 hs9)
    | (go_at_call 16; refine (idrop_any _ HQ9.out _ (by decide) lv7.1 lv7.2).mono ?_; rintro e w10 ⟨S10, rfl, h2, hf9, _, hb2⟩; have HQ10 := Lib.hid h2; have HB10 := Lib.hid (HB9.out.trans hb2); have HF10 := Lib.hid (HF9.out.trans_new hf9 (fun j hj hs => (HS9.out j hs).resolve_right (fun h => by rw [World.size_drew] at h; omega))); have u0 := cell_fr HF10.out HNS.out x0; have u1 := cell_fr HF10.out HNS.out x1; have u2 := cell_fr HF10.out HNB.out y0; have u3 := cell_fr HF10.out HNB.out y1; clear h2 hb2 hf9)
    | (go_at_call 13; refine (iall_any _ HQ10.out).mono ?_; rintro e w11 ⟨v, rfl, hd, hb2⟩; obtain ⟨A2, c2, rfl⟩ := dr_val hd; have HB11 := Lib.hid (HB10.out.trans (hb2.mono HQ10.out.size)); have HF11 := Lib.hid (HF10.out.below hb2); have v0 := cell_fr HF11.out HNS.out x0; have v1 := cell_fr HF11.out HNS.out x1; have v2 := cell_fr HF11.out HNB.out y0; have v3 := cell_fr HF11.out HNB.out y1; clear hd hb2))
  go_wp2
  go_ret
  exact ⟨rfl, HB11.out⟩
end Go.Proofs.Ytdhilhjiccpkkaa
