/-
  slices.Clone at []byte, octet.Text, octet.From: what they return.
-/
import Derived.Test.YtleancgkincenaaDoorBytes
import Derived.Test.YtleancgkincenaaDoorAppend
namespace Go.Proofs.YtleancgkincenaaDoor
open Go.RowKit


theorem emptyRow (w : World) (B : Nat) (hB : B ≤ w.heap.size) : (w.alloc (.cells #[] 5)).ownsRow B 5 1 (.slice (some ⟨w.heap.size, 0, none⟩) 0 0) 0 [] :=
  ⟨rfl, .inr ⟨w.heap.size, 0, #[], rfl, hB, heap_alloc_new w _, Nat.le_refl _, by simp [maxLen], rfl, rfl⟩⟩

set_option maxRecDepth 100000 in
set_option maxHeartbeats 400000 in
theorem clone_any (A : Option Addr) (c : Nat) (l : List UInt8) (w : World) (hn : l.length ≤ 140737488355328) (hr : RB w A l) :
    Calls Tryd.prog 48 #[.slice A l.length c] w fun e w' => ∃ v, e = .returned v ∧ OB w' w.heap.size v l ∧ Below w.heap.size w w' := by
  have hne := fun W => Lib.run_eql_slice_nil (P := Tryd.prog) W 22 5 A l.length c 0 0 Tryd.underlying22
  rcases A with _ | ad
  · have hl : l = [] := by
      rcases Nat.eq_zero_or_pos l.length with h0 | h0
      · exact List.eq_nil_of_length_eq_zero h0
      · obtain ⟨ad, h, _⟩ := hr.2 h0; cases h
    subst hl
    simp only [List.length_nil] at hne
    go_enter Tryd.func48, Tryd.ntmps48
    go_wp2
    go_ret
    exact ⟨_, rfl, OB.nil _ _, Below.refl _ _⟩
  · obtain ⟨i0, hi0, hz0, hz1, hz2⟩ := info_parts infoByte
    have hr1 : Reads (w.alloc (.cells #[] 5)) w.heap.size 1 (some ad) l.length (Lib.byteCells l) := Reads.alloc hr (Nat.le_refl _) _
    have hown := emptyRow w w.heap.size (Nat.le_refl _)
    go_enter Tryd.func48, Tryd.ntmps48
    go_wp2_with (at_builtin; refine wpList_append_any _ rfl _ _ _ rfl w.heap.size 5 i0 _ 1 1 Tryd.underlying22 hi0 hz0 hz1 hz2 rfl (by omega) _ 0 [] rfl hown w.heap.size (some ad) l.length c _ rfl hr1 (oneCell_bytes l) (by simp only [maxLen]; omega) (by omega) (by simp) ?_; intro v1 w1 hown1 hg1 hat1)
    go_ret
    refine ⟨v1, rfl, by simpa [OB] using hown1, ?_⟩
    exact ((Below.refl _ _).alloc (Nat.le_refl _) _).grown hg1 (by simp) (by intro k hk; cases hk; exact Nat.le_refl _)

theorem put4 (n : Nat) (w : World) (hn : n < 4294967296) :
    Calls Tryd.prog 31 #[.int .i64 n, .int .i64 4] w fun e w' => ∃ v, e = .returned (.tuple #[v, .int .i64 0]) ∧ OB w' w.heap.size v (beBytes n 4) ∧ Below w.heap.size w w' :=
  put_ok n 4 w (by omega) (by omega) (fun _ => by show n / 4294967296 = 0; omega)
theorem put8 (n : Nat) (w : World) :
    Calls Tryd.prog 31 #[.int .i64 n, .int .i64 8] w fun e w' => ∃ v, e = .returned (.tuple #[v, .int .i64 0]) ∧ OB w' w.heap.size v (beBytes n 8) ∧ Below w.heap.size w w' :=
  put_ok n 8 w (by omega) (by omega) (fun h => by omega)

def textBytes (s : List UInt8) : List UInt8 := beBytes s.length 4 ++ s
set_option maxRecDepth 100000 in
set_option maxHeartbeats 400000 in
theorem text_ok (s : ByteArray) (w : World) (hs : s.size ≤ 1048576) :
    Calls Tryd.prog 36 #[.string s] w fun e w' => ∃ v, e = .returned (.tuple #[v, .int .i64 0]) ∧ OB w' w.heap.size v (textBytes s.data.toList) ∧ Below w.heap.size w w' := by
  obtain ⟨i0, hi0, hz0, hz1, hz2⟩ := info_parts infoByte
  have hd : decide (1048576 < (s.size : Int)) = false := by simp; omega
  go_enter Tryd.func36, Tryd.ntmps36
  go_wp2_with (go_at_call 31; refine (put4 s.size _ (by omega)).mono ?_)
  rintro e w1 ⟨v, rfl, hv, hb⟩
  go_wp2_with (at_builtin; refine Lib.wpList_append_own_string _ rfl _ _ _ _ rfl w.heap.size 5 i0 Tryd.underlying22 Tryd.underlying9 hi0 hz0 hz1 hz2 v _ _ rfl hv s rfl ?c1 ?c2 hb.size ?_)
  case c1 => simp only [beBytes_length, maxLen]; omega
  case c2 => simp only [beBytes_length]; omega
  intro v1 w2 hown1 hg1 _
  go_wp2
  go_ret2
  refine ⟨v1, rfl, ?_, hb.grown hg1 hb.size (fun k hk => ?_)⟩
  · unfold OB textBytes
    rw [Lib.byteCells_append, List.length_append]
    exact hown1
  · obtain ⟨A, c, rfl, _, _, _, hA⟩ := hv.shape
    rcases A with _ | ad
    · simp [Value.ownBlock] at hk
    · simp [Value.ownBlock] at hk; subst hk; exact (hA ad rfl).1
set_option maxHeartbeats 400000 in
theorem text_no (s : ByteArray) (w : World) (hs : 1048576 < s.size) :
    Calls Tryd.prog 36 #[.string s] w fun e w' => e = .returned (.tuple #[.slice none 0 0, .int .i64 3]) ∧ w = w' := by
  have hd : decide (1048576 < (s.size : Int)) = true := by simp; omega
  go_enter Tryd.func36, Tryd.ntmps36
  go_wp2
  go_ret2
  exact ⟨rfl, rfl⟩

/-- A reader: the bytes that are left; is it bad? -/
def RD (w : World) (r : Nat) (l : List UInt8) (bad : Bool) : Prop :=
  ∃ A c, Blk w r 98 #[.slice A l.length c, .bool bad] ∧ RB w A l ∧ l.length ≤ c ∧ c ≤ maxLen ∧ l.length ≤ 70368744177664 ∧ (bad = true → l = []) ∧ ∀ ad, A = some ad → ∃ cs, Blk w ad.block 5 cs
theorem RD.fr {S : Nat → Prop} {w w' : World} {r : Nat} {l : List UInt8} {bad : Bool} (h : RD w r l bad) (hf : Fr S w w') (hr : ¬ S r) (hS : ∀ k cs, S k → ¬ Blk w k 5 cs) : RD w' r l bad := by
  obtain ⟨A, c, hb, hR, hc, hm, hln, hbad, hA⟩ := h
  have hA' : ∀ ad, A = some ad → ¬ S ad.block := fun ad e hs => by
    obtain ⟨cs, hcs⟩ := hA ad e
    exact hS _ cs hs hcs
  exact ⟨A, c, hb.fr hf hr, hR.fr hf hA', hc, hm, hln, hbad, fun ad e => by
    obtain ⟨cs, hcs⟩ := hA ad e
    exact ⟨cs, hcs.fr hf (hA' ad e)⟩⟩
theorem RD.below {w w' : World} {r : Nat} {l : List UInt8} {bad : Bool} (h : RD w r l bad) (hb : Below w.heap.size w w') : RD w' r l bad :=
  h.fr (S := fun _ => False) (Fr.of_below hb) (fun x => x) (fun _ _ x => x.elim)
theorem OB.typed {w : World} {base : Nat} {A : Option Addr} {n c : Nat} {l : List UInt8} (h : OB w base (.slice A n c) l) : ∀ ad, A = some ad → ∃ cs, Blk w ad.block 5 cs := by
  intro ad e
  subst e
  rcases h.2 with ⟨hv, _⟩ | ⟨g, cap, cur, hv, _, hh, _⟩
  · cases hv
  · injection hv with hv _ _
    injection hv with hv
    subst hv
    exact ⟨cur, hh⟩

set_option maxRecDepth 100000 in
set_option maxHeartbeats 400000 in
theorem from_any (A : Option Addr) (c : Nat) (l : List UInt8) (w : World) (hn : l.length ≤ 70368744177664) (hr : RB w A l) :
    Calls Tryd.prog 33 #[.slice A l.length c] w fun e w' => ∃ r, e = .returned (.pointer (some ⟨r, 0, none⟩)) ∧ w.heap.size ≤ r ∧ RD w' r l false ∧ Below w.heap.size w w' := by
  go_enter Tryd.func33, Tryd.ntmps33
  go_wp2_with (go_at_call 48; refine (clone_any A c l _ (by omega) hr).mono ?_)
  rintro e w1 ⟨v, rfl, hv, hb⟩
  obtain ⟨A', c', rfl, hlc, hm, hR, hA⟩ := hv.shape
  have hT := hv.typed
  go_wp2
  go_ret
  refine ⟨w1.heap.size, rfl, hb.size, ⟨A', c', Blk.new _ _ _, RB.below hR ((Below.refl _ _).alloc (Nat.le_refl _) _), hlc, hm, hn, by simp, fun ad e => ?_⟩, hb.trans ?_⟩
  · obtain ⟨cs, hcs⟩ := hT ad e
    exact ⟨cs, hcs.alloc _⟩
  · exact (Below.refl _ _).alloc hb.size _

end Go.Proofs.YtleancgkincenaaDoor
