/-
  pursuivantlaw01.ask at any question: both readers agree, and stand alike behind it. A reader that nobody else's bytes change.
-/
import Derived.Test.YtleancgkincenaaDoorAsk
import Derived.Test.YtleancgkincenaaDoorOctJoinsW
namespace Go.Proofs.YtleancgkincenaaDoor
open Go.RowKit
set_option linter.unusedVariables false

/-- what a question leaves -/
def AskR (r x : Nat) (w : World) (e : Ending) (w' : World) : Prop := e = .returned (.bool true) ∧ (∃ l b, Both w' r x l b) ∧ Fr (Two r x) w w'
theorem OB.none (w : World) (b : Nat) : OB w b (.slice none 0 0) [] := OB.nil w b
theorem ask_any (w : World) (r x : Nat) (l : List UInt8) (b : Bool) (k n : Int) (h : Both w r x l b) :
    Calls Tryd.prog 40 #[.pointer (some ⟨r, 0, none⟩), .pointer (some ⟨x, 0, none⟩), .agg #[.int .i64 k, .int .i64 n]] w (AskR r x w) := by
  have fin : ∀ {l' b'}, Calls Tryd.prog 40 #[.pointer (some ⟨r, 0, none⟩), .pointer (some ⟨x, 0, none⟩), .agg #[.int .i64 k, .int .i64 n]] w (fun e w' => e = .returned (.bool true) ∧ Both w' r x l' b' ∧ Fr (Two r x) w w') →
      Calls Tryd.prog 40 #[.pointer (some ⟨r, 0, none⟩), .pointer (some ⟨x, 0, none⟩), .agg #[.int .i64 k, .int .i64 n]] w (AskR r x w) :=
    fun hc => hc.mono fun e w' ⟨h1, h2, h3⟩ => ⟨h1, ⟨_, _, h2⟩, h3⟩
  have hbl : b = true → l = [] := by
    intro hb
    subst hb
    exact h.1.bad_nil
  rcases (by omega : k = 1 ∨ k = 2 ∨ k = 3 ∨ k = 4 ∨ k ≠ 1 ∧ k ≠ 2 ∧ k ≠ 3 ∧ k ≠ 4) with rfl | rfl | rfl | rfl | ⟨k1, k2, k3, k4⟩
  · rcases (by omega : (n < 1 ∨ 8 < n ∨ (l.length : Int) < n) ∨ 1 ≤ n ∧ n ≤ 7 ∧ n ≤ (l.length : Int) ∨ n = 8 ∧ 8 ≤ l.length) with hn | ⟨h1, h7, hl⟩ | ⟨rfl, hl⟩
    · exact fin (ask_int w r x l [] b true n 0 h (fun w hr => int_no w r l b n hr hn) (fun w hr => xint_no w x l b n hr hn))
    · obtain ⟨m, rfl⟩ : ∃ m : Nat, n = m := ⟨n.toNat, by omega⟩
      have hb : b = false := by
        cases b
        · rfl
        · have := hbl rfl; subst this; simp at hl; omega
      subst hb
      exact fin (ask_int w r x l _ false false m _ h (fun w hr => int_ok w r l m hr (by omega) (by omega) (by omega)) (fun w hr => xint_ok w x l false m hr (by omega) (by omega) (by omega)))
    · obtain ⟨c, t, rfl⟩ : ∃ c t, l = c :: t := by
        cases l with
        | nil => simp at hl
        | cons c t => exact ⟨c, t, rfl⟩
      have hb : b = false := by
        cases b
        · rfl
        · exact absurd (hbl rfl) (by simp)
      subst hb
      have ht : 7 ≤ t.length := by simp at hl; omega
      rcases (by omega : 127 < c.toNat ∨ c.toNat ≤ 127) with hc | hc
      · exact fin (ask_int w r x (c :: t) [] false true 8 0 h (fun w hr => int_big w r c t false hr ht hc) (fun w hr => xint_big w x c t false hr ht hc))
      · exact fin (ask_int w r x (c :: t) _ false false 8 _ h (fun w hr => int8_ok w r c t hr ht hc) (fun w hr => xint8_ok w x c t false hr ht hc))
  · rcases (by omega : (n < 0 ∨ (l.length : Int) < n) ∨ 0 ≤ n ∧ n ≤ (l.length : Int)) with hn | ⟨h0, hl⟩
    · exact fin (ask_bytes w r x l [] b true n 0 [] rfl h (fun w hr => (bytes_no w r l b n hr (by omega)).mono fun e w' ⟨he, h2, h3⟩ => ⟨_, he, OB.none _ _, h2, h3⟩) (fun w hr => (xbytes_no w x l b n hr hn).mono fun e w' ⟨he, h2, h3⟩ => ⟨_, he, OB.none _ _, h2, h3⟩))
    · obtain ⟨m, rfl⟩ : ∃ m : Nat, n = m := ⟨n.toNat, by omega⟩
      cases b
      · exact fin (ask_bytes w r x l (l.drop m) false false m (l.take m).length (l.take m) rfl h (fun w hr => bytes_ok w r l m hr (by omega)) (fun w hr => xbytes_ok w x l false m hr (by omega)))
      · have := hbl rfl
        subst this
        have hm : m = 0 := by simpa using hl
        subst hm
        exact fin (ask_bytes w r x [] [] true true ((0 : Nat) : Int) 0 [] rfl h (fun w hr => (bytes_no w r [] true _ hr (.inr (.inr rfl))).mono fun e w' ⟨he, h2, h3⟩ => ⟨_, he, OB.none _ _, h2, h3⟩) (fun w hr => xbytes_ok w x [] true 0 hr (by simp)))
  · rcases Nat.lt_or_ge l.length 4 with hl | hl
    · exact fin (ask_text w r x l [] b true n _ h (fun w hr => rtext_no w r l b n hr hl) (fun w hr => xtext_no w x l b n hr hl))
    · have hb : b = false := by
        cases b
        · rfl
        · have := hbl rfl; subst this; simp at hl
      subst hb
      rcases (by omega : n < (beVal (l.take 4) : Int) ∨ (beVal (l.take 4) : Int) ≤ n ∧ l.length - 4 < beVal (l.take 4) ∨ (beVal (l.take 4) : Int) ≤ n ∧ beVal (l.take 4) ≤ l.length - 4) with hm | ⟨hm, hs⟩ | ⟨hm, hs⟩
      · exact fin (ask_text w r x l [] false true n _ h (fun w hr => rtext_long w r l n hr hl hm) (fun w hr => xtext_long w x l n hr hl hm))
      · exact fin (ask_text w r x l [] false true n _ h (fun w hr => rtext_short w r l n hr hl hm hs) (fun w hr => xtext_short w x l n hr hl hm hs))
      · exact fin (ask_text w r x l _ false false n _ h (fun w hr => rtext_ok w r l n hr hl hm hs) (fun w hr => xtext_ok w x l n hr hl hm hs))
  · exact fin (ask_spoil w r x l b n h)
  · exact fin (ask_none w r x l b k n (by simpa using k1) (by simpa using k2) (by simpa using k3) (by simpa using k4) h)

set_option maxRecDepth 100000 in
set_option maxHeartbeats 400000 in
theorem from_hi (A : Option Addr) (n c : Nat) (l : List UInt8) (w : World) (hl : l.length = n) (hn : n ≤ 70368744177664) (hr : RB w A l) :
    Calls Tryd.prog 33 #[.slice A n c] w fun e w' => ∃ r, e = .returned (.pointer (some ⟨r, 0, none⟩)) ∧ w.heap.size ≤ r ∧ RD w' r l false ∧ (∀ w'', Fr (fun k => k < w.heap.size) w' w'' → RD w'' r l false) ∧ Below w.heap.size w w' := by
  subst hl
  go_enter Tryd.func33, Tryd.ntmps33
  go_wp2_with (go_at_call 48; refine (clone_any A c l _ (by omega) hr).mono ?_)
  rintro e w1 ⟨v, rfl, hv, hb⟩
  obtain ⟨A', c', rfl, hlc, hm, hR, hA⟩ := hv.shape
  have hT := hv.typed
  go_wp2
  go_ret
  have hR2 : RB (w1.alloc (.cells #[.slice A' l.length c', .bool false] 98)) A' l := RB.below hR ((Below.refl _ _).alloc (Nat.le_refl _) _)
  have hT2 : ∀ ad, A' = some ad → ∃ cs, Blk (w1.alloc (.cells #[.slice A' l.length c', .bool false] 98)) ad.block 5 cs := fun ad e => by
    obtain ⟨cs, hcs⟩ := hT ad e
    exact ⟨cs, hcs.alloc _⟩
  refine ⟨w1.heap.size, rfl, hb.size, ⟨A', c', Blk.new _ _ _, hR2, hlc, hm, hn, by simp, hT2⟩, ?_, hb.trans ?_⟩
  · intro w'' hf
    have hge : ∀ ad, A' = some ad → ¬ (fun k => k < w.heap.size) ad.block := fun ad e => by have := (hA ad e).1; simp; omega
    refine ⟨A', c', (Blk.new _ _ _).fr hf (by have := hb.size; simp; omega), hR2.fr hf hge, hlc, hm, hn, by simp, fun ad e => ?_⟩
    obtain ⟨cs, hcs⟩ := hT2 ad e
    exact ⟨cs, hcs.fr hf (hge ad e)⟩
  · exact (Below.refl _ _).alloc hb.size _
/-- the reference's reader, made of a row of its own -/
theorem RX.made {w : World} {base x : Nat} {v : Value} {l : List UInt8} (ho : OB w base v l) (hb : Blk w x 59 #[v, .bool false]) (hn : l.length ≤ 70368744177664) : RX w x l false := by
  obtain ⟨A, c, rfl, hc, hm, hR, hA⟩ := ho.shape
  exact ⟨A, c, hb, hR, hc, hm, hn, by simp, ho.typed⟩
end Go.Proofs.YtleancgkincenaaDoor
