/-
  Both queues, as the laws see them.
-/
import Derived.Test.YtdhilhjiccpkkaaDueL1
import Derived.Test.YtdhilhjiccpkkaaDueR4
namespace Go.Proofs.Ytdhilhjiccpkkaa
open Go.RowKit
set_option linter.unusedVariables false

theorem XAt.fr {w w' : World} {x c : Nat} {A : Option Addr} {X : List Du} {S : Nat → Prop} (h : XAt w x A c X) (hf : Fr S w w') (hx : ¬ S x) (hA : ∀ ad, A = some ad → ¬ S ad.block) : XAt w' x A c X := by
  refine ⟨h.blk.fr' hf hx, h.rl.fr hf hA, h.le, h.cm, ?_⟩
  rcases h.form with e | ⟨b, o, e, hb⟩
  · exact .inl e
  · exact .inr ⟨b, o, e, Nat.lt_of_lt_of_le hb hf.size⟩
/-- the program's queue with X and the document's with Y; G: other blocks, that neither has -/
def QX (B : Nat) (G : Nat → Prop) (w : World) (q x : Nat) (X Y : List Du) : Prop :=
  ∃ S A c, QI B w q X S ∧ XAt w x A c Y ∧ B ≤ x ∧ ¬ S x ∧ (∀ ad : Addr, A = some ad → ¬ S ad.block ∧ ad.block ≠ x) ∧ (∀ k, G k → ¬ S k ∧ k ≠ x ∧ k < w.heap.size) ∧ (Nm Y).Nodup ∧ Y.length ≤ 256
/-- what is protected is as it was -/
def Kept (G : Nat → Prop) (w w' : World) : Prop := ∀ k t cs, G k → Blk w k t cs → Blk w' k t cs
section
variable {B q x : Nat} {G : Nat → Prop} {w w' : World} {X Y : List Du}
theorem QX.below (h : QX B G w q x X Y) (hb : Below w.heap.size w w') : QX B G w' q x X Y := by
  obtain ⟨S, A, c, h1, h2, h3, h4, h5, hG, h6⟩ := h
  exact ⟨S, A, c, h1.below hb, h2.fr (S := fun _ => False) (Fr.of_below hb) (fun e => e) (fun _ _ e => e), h3, h4, h5, fun k hk => ⟨(hG k hk).1, (hG k hk).2.1, Nat.lt_of_lt_of_le (hG k hk).2.2 hb.size⟩, h6⟩
theorem QX.weak (h : QX B G w q x X Y) : QX B (fun _ => False) w q x X Y := by
  obtain ⟨S, A, c, h1, h2, h3, h4, h5, hG, h6⟩ := h
  exact ⟨S, A, c, h1, h2, h3, h4, h5, fun k hk => hk.elim, h6⟩
theorem QX.box (h : QX B G w q x X Y) (o : Obj) : QX B (· = w.heap.size) (w.alloc o) q x X Y := by
  have hb : Below w.heap.size w (w.alloc o) := (Below.refl _ _).alloc (Nat.le_refl _) _
  obtain ⟨S, A, c, h1, h2, h3, h4, h5, hG, h6⟩ := h
  refine ⟨S, A, c, h1.below hb, h2.fr (S := fun _ => False) (Fr.of_below hb) (fun e => e) (fun _ _ e => e), h3, h4, h5, fun k hk => ?_, h6⟩
  subst hk
  refine ⟨fun e => by have := h1.lt _ e; omega, fun e => by have := h2.blk.lt; omega, ?_⟩
  rw [World.size_alloc]
  omega
theorem QX.size (h : QX B G w q x X Y) : B ≤ w.heap.size := by
  obtain ⟨S, A, c, h1, _⟩ := h
  exact h1.size
theorem QX.few (h : QX B G w q x X Y) : X.length ≤ 256 ∧ Y.length ≤ 256 := by
  obtain ⟨S, A, c, h1, _, _, _, _, _, _, h6⟩ := h
  exact ⟨h1.few, h6⟩
theorem xlt {A : Option Addr} {c : Nat} (h : XAt w x A c Y) : ∀ ad, A = some ad → ad.block < w.heap.size := by
  intro ad e
  rcases h.form with ⟨e2, _⟩ | ⟨b, o, e2, hb⟩
  · rw [e2] at e; cases e
  · rw [e2] at e; cases e; exact hb
/-- a call that changes the program's queue -/
theorem QX.qcall {S : Nat → Prop} {A : Option Addr} {c : Nat} {E e : Ending} {X' : List Du} (h1 : QI B w q X S) (h2 : XAt w x A c Y) (h3 : B ≤ x) (h4 : ¬ S x) (h5 : ∀ ad : Addr, A = some ad → ¬ S ad.block ∧ ad.block ≠ x) (hG : ∀ k, G k → ¬ S k ∧ k ≠ x ∧ k < w.heap.size) (h6 : (Nm Y).Nodup ∧ Y.length ≤ 256) (hp : QIPost B w q S E X' e w') :
    e = E ∧ QX B G w' q x X' Y ∧ Below B w w' ∧ Kept G w w' := by
  obtain ⟨S', rfl, k1, k2, k3, k4⟩ := hp
  refine ⟨rfl, ⟨S', A, c, k1, h2.fr k2 h4 (fun ad e => (h5 ad e).1), h3, fun e => ?_, fun ad e => ⟨fun e2 => ?_, (h5 ad e).2⟩, fun k hk => ⟨fun e => ?_, (hG k hk).2.1, Nat.lt_of_lt_of_le (hG k hk).2.2 k2.size⟩, h6⟩, k4, fun k t cs hk hb => hb.fr' k2 (hG k hk).1⟩
  · rcases k3 x e with h | h
    · exact h4 h
    · have := h2.blk.lt; omega
  · rcases k3 _ e2 with h | h
    · exact (h5 ad e).1 h
    · have := xlt h2 ad e; omega
  · rcases k3 k e with h | h
    · exact (hG k hk).1 h
    · have := (hG k hk).2.2; omega
/-- a call that changes the document's -/
theorem QX.xcall {S : Nat → Prop} {A : Option Addr} {c : Nat} {E e : Ending} {Y' : List Du} (h1 : QI B w q X S) (h2 : XAt w x A c Y) (h3 : B ≤ x) (h4 : ¬ S x) (h5 : ∀ ad : Addr, A = some ad → ¬ S ad.block ∧ ad.block ≠ x) (hG : ∀ k, G k → ¬ S k ∧ k ≠ x ∧ k < w.heap.size) (h6 : (Nm Y').Nodup ∧ Y'.length ≤ 256) (hp : XPost w x A E Y' e w') :
    e = E ∧ QX B G w' q x X Y' ∧ Below B w w' ∧ Kept G w w' := by
  obtain ⟨A', c', rfl, k1, k2, k3⟩ := hp
  refine ⟨rfl, ⟨S, A', c', h1.fr k2 (fun k hk e => h4 (by rw [← e]; exact hk)), k1, h3, h4, fun ad e => ?_, fun k hk => ⟨(hG k hk).1, (hG k hk).2.1, Nat.lt_of_lt_of_le (hG k hk).2.2 k2.size⟩, h6⟩, fr_low k2 h1.size (fun k e => by rw [e]; exact h3), fun k t cs hk hb => hb.fr' k2 (hG k hk).2.1⟩
  rcases k3 ad e with ⟨ad0, e1, e2⟩ | hge
  · rw [← e2]; exact h5 ad0 e1
  · exact ⟨fun e2 => by have := h1.lt _ e2; omega, fun e2 => by have := h2.blk.lt; omega⟩
end
theorem len_setR {X : List Du} (hn : (Nm X).Nodup) (hl : X.length ≤ 256) (s : ByteArray) (a : Int) : (Nm (setR X s a)).Nodup ∧ (setR X s a).length ≤ 256 := by
  unfold setR
  split
  · exact ⟨hn, hl⟩
  · split
    · exact ⟨hn, hl⟩
    · rename_i h1 h2
      refine ⟨nd_ins (nd_drop hn _) drop_not_mem, ?_⟩
      have hlen : (setX X s a).length = (dropX X s).length + 1 := by
        unfold setX
        rw [(ins_perm _ _).length_eq]
        rfl
      rw [hlen]
      cases e : idxL X s with
      | none =>
        have : (dropX X s).length = X.length := by rw [drop_none (idx_none.1 e)]
        have : ¬ 256 ≤ X.length := fun h => h2 ⟨e, h⟩
        omega
      | some i =>
        obtain ⟨hi, hs⟩ := (idx_iff hn).1 e
        rw [← erase_filter hn hi hs, List.length_eraseIdx, if_pos hi]
        omega
theorem len_dropX {X : List Du} (hn : (Nm X).Nodup) (hl : X.length ≤ 256) (s : ByteArray) : (Nm (dropX X s)).Nodup ∧ (dropX X s).length ≤ 256 :=
  ⟨nd_drop hn s, by unfold dropX; have := List.length_filter_le (fun d : Du => !decide (d.1 = s)) X; omega⟩
theorem len_untilR {X : List Du} (hn : (Nm X).Nodup) (hl : X.length ≤ 256) (t : Int) : (Nm (untilR X t)).Nodup ∧ (untilR X t).length ≤ 256 := by
  have hs := List.dropWhile_sublist (fun d : Du => decide (d.2 ≤ t)) (l := X)
  refine ⟨hn.sublist (hs.map _), ?_⟩
  have := hs.length_le
  unfold untilR
  omega
section
variable {B q x : Nat} {G : Nat → Prop} {X Y : List Du}
theorem bset_q (w : World) (h : QX B G w q x X Y) (s : ByteArray) (a : Int) : Calls Try.prog 14 #[.pointer (some ⟨q, 0, none⟩), .string s, .int .i64 a] w fun e w' => e = .returned (.int .i64 (setE X s a)) ∧ QX B G w' q x (setR X s a) Y ∧ Below B w w' ∧ Kept G w w' := by
  obtain ⟨S, A, c, h1, h2, h3, h4, h5, hG, h6⟩ := h
  exact (iset_any w h1 s a rfl rfl).mono fun e w' hp => QX.qcall h1 h2 h3 h4 h5 hG h6 hp
theorem bdrop_q (w : World) (h : QX B G w q x X Y) (s : ByteArray) (hs : s.size ≤ maxLen) : Calls Try.prog 16 #[.pointer (some ⟨q, 0, none⟩), .string s] w fun e w' => e = .returned (.int .i64 (dropE X s)) ∧ QX B G w' q x (dropX X s) Y ∧ Below B w w' ∧ Kept G w w' := by
  obtain ⟨S, A, c, h1, h2, h3, h4, h5, hG, h6⟩ := h
  exact (idrop_any w h1 s hs rfl rfl).mono fun e w' hp => QX.qcall h1 h2 h3 h4 h5 hG h6 hp
theorem bset_x (w : World) (h : QX B G w q x X Y) (s : ByteArray) (a : Int) : Calls Try.prog 22 #[.pointer (some ⟨x, 0, none⟩), .string s, .int .i64 a] w fun e w' => e = .returned (.int .i64 (setE Y s a)) ∧ QX B G w' q x X (setR Y s a) ∧ Below B w w' ∧ Kept G w w' := by
  obtain ⟨S, A, c, h1, h2, h3, h4, h5, hG, h6⟩ := h
  exact (xset_any w h2 s a h6.2 h6.1).mono fun e w' hp => QX.xcall h1 h2 h3 h4 h5 hG (len_setR h6.1 h6.2 s a) hp
theorem bdrop_x (w : World) (h : QX B G w q x X Y) (s : ByteArray) : Calls Try.prog 23 #[.pointer (some ⟨x, 0, none⟩), .string s] w fun e w' => e = .returned (.int .i64 (dropE Y s)) ∧ QX B G w' q x X (dropX Y s) ∧ Below B w w' ∧ Kept G w w' := by
  obtain ⟨S, A, c, h1, h2, h3, h4, h5, hG, h6⟩ := h
  exact (xdrop_any w h2 s h6.2 h6.1).mono fun e w' hp => QX.xcall h1 h2 h3 h4 h5 hG (len_dropX h6.1 h6.2 s) hp
theorem bfind_x (w : World) (h : QX B G w q x X Y) (s : ByteArray) : Calls Try.prog 21 #[.pointer (some ⟨x, 0, none⟩), .string s] w fun e w' => e = .returned (.int .i64 (findI Y s)) ∧ w' = w := by
  obtain ⟨S, A, c, h1, h2, h3, h4, h5, hG, h6⟩ := h
  exact xfind_any w h2 s h6.2
theorem bget_q (w : World) (h : QX B G w q x X Y) (s : ByteArray) (hs : s.size ≤ maxLen) : Calls Try.prog 19 #[.pointer (some ⟨q, 0, none⟩), .string s] w fun e w' => e = .returned (.tuple #[.int .i64 ((getX X s).getD 0), .bool (getX X s).isSome]) ∧ w' = w := by
  obtain ⟨S, A, c, h1, _⟩ := h
  exact iget_any w h1 s hs
theorem bfirst_q (w : World) (h : QX B G w q x X Y) : Calls Try.prog 20 #[.pointer (some ⟨q, 0, none⟩)] w fun e w' => e = .returned (.tuple #[.agg #[.string (gd X 0).1, .int .i64 (gd X 0).2], .bool (decide (0 < X.length))]) ∧ Below w.heap.size w w' := by
  obtain ⟨S, A, c, h1, _⟩ := h
  exact ifirst_any w h1
theorem blen_q (w : World) (h : QX B G w q x X Y) : Calls Try.prog 11 #[.pointer (some ⟨q, 0, none⟩)] w fun e w' => e = .returned (.int .i64 (X.length : Int)) ∧ w' = w := by
  obtain ⟨S, A, c, h1, _⟩ := h
  exact ilen_any w h1
theorem ball_q (w : World) (h : QX B G w q x X Y) : Calls Try.prog 13 #[.pointer (some ⟨q, 0, none⟩)] w fun e w' => AppPost w X e w' := by
  obtain ⟨S, A, c, h1, _⟩ := h
  exact iall_any w h1
/-- Until of the program's: its list is new -/
theorem buntil_q (w : World) (h : QX B G w q x X Y) (t : Int) : Calls Try.prog 17 #[.pointer (some ⟨q, 0, none⟩), .int .i64 t] w fun e w' => ∃ A c, e = .returned (.slice A (untilL X t).length c) ∧ RL w' A (untilL X t) ∧ (∀ ad, A = some ad → w.heap.size ≤ ad.block) ∧ QX B G w' q x (untilR X t) Y ∧ Below B w w' ∧ Kept G w w' := by
  obtain ⟨S, A, c, h1, h2, h3, h4, h5, hG, h6⟩ := h
  refine (iuntil_any w h1 t).mono ?_
  rintro e w' ⟨A1, c1, rfl, k1, k2, k3, k4⟩
  refine ⟨A1, c1, rfl, RL.of_dr k1, fun (ad : Addr) (e : A1 = some ad) => ?_, ⟨S, A, c, k2, h2.fr k3 h4 (fun ad e => (h5 ad e).1), h3, h4, h5, fun k hk => ⟨(hG k hk).1, (hG k hk).2.1, Nat.lt_of_lt_of_le (hG k hk).2.2 k3.size⟩, h6⟩, k4, fun k t cs hk hb => hb.fr' k3 (hG k hk).1⟩
  rcases k1.shape with ⟨e2, _⟩ | ⟨g, cap, cur, e2, hg, _⟩
  · injection e2 with e2; rw [e2] at e; cases e
  · injection e2 with e2; rw [e2] at e; cases e; exact hg
/-- Until of the document's -/
theorem buntil_x (w : World) (h : QX B G w q x X Y) (t : Int) : Calls Try.prog 24 #[.pointer (some ⟨x, 0, none⟩), .int .i64 t] w fun e w' => ∃ A c, e = .returned (.slice A (untilL Y t).length c) ∧ RL w' A (untilL Y t) ∧ QX B G w' q x X (untilR Y t) ∧ Fr (· = x) w w' ∧ Below B w w' ∧ Kept G w w' := by
  obtain ⟨S, A, c, h1, h2, h3, h4, h5, hG, h6⟩ := h
  refine (xuntil_any w h2 t h6.2).mono ?_
  rintro e w' ⟨A1, c1, A0, c0, rfl, k1, k2, k3, k4⟩
  refine ⟨A0, c0, rfl, k1, ⟨S, A1, c1, h1.fr k3 (fun k hk e => h4 (by rw [← e]; exact hk)), k2, h3, h4, fun ad e => ?_, fun k hk => ⟨(hG k hk).1, (hG k hk).2.1, Nat.lt_of_lt_of_le (hG k hk).2.2 k3.size⟩, len_untilR h6.1 h6.2 t⟩, k3, fr_low k3 h1.size (fun k e => by rw [e]; exact h3), fun k t cs hk hb => hb.fr' k3 (hG k hk).2.1⟩
  obtain ⟨ad0, e1, e2⟩ := k4 ad e
  rw [← e2]; exact h5 ad0 e1
end
theorem QX.doc {B q x : Nat} {G : Nat → Prop} {X Y : List Du} {w : World} (h : QX B G w q x X Y) : ∃ A c, XAt w x A c Y := by
  obtain ⟨S, A, c, _, h2, _⟩ := h
  exact ⟨A, c, h2⟩
theorem QX.xge {B q x : Nat} {G : Nat → Prop} {X Y : List Du} {w : World} (h : QX B G w q x X Y) : B ≤ x ∧ x < w.heap.size := by
  obtain ⟨S, A, c, _, h2, h3, _⟩ := h
  exact ⟨h3, h2.blk.lt⟩
end Go.Proofs.Ytdhilhjiccpkkaa
