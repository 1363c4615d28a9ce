/-
  strings.Builder.WriteRune at this program; utf.Unquote, by a relation of its steps.
-/
import Derived.Test.YteofdpogjnojnaaGreatDoorUtfE
import Derived.Test.YteofdpogjnojnaaGreatDoorOctHex
namespace Go.Proofs.YteofdpogjnojnaaGreatDoor
open Go.RowKit Utf
set_option linter.unusedVariables false

theorem ownsRow_onw {w w' : World} {base : Nat} {e : TypeId} {size n : Nat} {v : Value} {xs : List Value} (h : w.ownsRow base e size v n xs) (hb : Below w.heap.size w w') : w'.ownsRow base e size v n xs := by
  refine ⟨h.1, ?_⟩
  rcases h.2 with h0 | ⟨g, cap, cur, hv, hg, hh, hn⟩
  · exact .inl h0
  · exact .inr ⟨g, cap, cur, hv, hg, (hb.block g (Blk.lt (t := e) hh)).trans hh, hn⟩
theorem builderAt_onw {B b : Nat} {p : Value} {bs : List Value} {w w' : World} (h : Lib.BuilderAt 94 5 B b p bs w) (hb : Below w.heap.size w w') : Lib.BuilderAt 94 5 B b p bs w' := by
  obtain ⟨hB, v, hbk, hown, hne⟩ := h
  exact ⟨hB, v, (hb.block b (Blk.lt (t := 94) hbk)).trans hbk, ownsRow_onw hown hb, hne⟩
theorem isBuilder_onw {B b : Nat} {bs : List Value} {w w' : World} (h : Lib.IsBuilder 94 5 B b bs w) (hb : Below w.heap.size w w') : Lib.IsBuilder 94 5 B b bs w' := by
  rcases h with h | h
  · exact .inl (builderAt_onw h hb)
  · exact .inr (builderAt_onw h hb)

set_option maxHeartbeats 2000000 in
set_option maxRecDepth 100000 in
theorem writeRune_any (B b : Nat) (l : List UInt8) (c : Int) (w : World) (hm : mayU c = true) (h : Lib.IsBuilder 94 5 B b (Lib.byteCells l) w) (hlen : l.length + 4 ≤ 140737488355328) (hBw : B ≤ w.heap.size) :
    Calls Tryz.prog 77 #[.pointer (some ⟨b, 0, none⟩), .int .i32 c] w fun e w' => ∃ n : Int, e = .returned (.tuple #[.int .i64 n, .nilIface]) ∧ (Lib.BuilderAt 94 5 B b (.pointer (some ⟨b, 0, none⟩)) (Lib.byteCells (l ++ encU c)) w' ∧ Below B w w') := by
  have hmm := may_iff.1 hm
  have hcells := enc_cells c hm
  have hel : 1 ≤ (encU c).length ∧ (encU c).length ≤ 4 := by
    rcases (by omega : (0 ≤ c ∧ c ≤ 127) ∨ (128 ≤ c ∧ c ≤ 2047) ∨ ((2048 ≤ c ∧ c < 55296) ∨ (57343 < c ∧ c ≤ 65535)) ∨ (65536 ≤ c ∧ c ≤ 1114111)) with k | k | k | k
    · rw [enc_one k.1 k.2]; simp
    · rw [enc_two k.1 k.2]; simp
    · rw [enc_three k]; simp
    · rw [enc_four k.1 k.2]; simp
  have HA := Lib.hid (fun v w hown => Tryz.utf8_AppendRune_plain B v l.length (Lib.byteCells l) c (by omega) (by omega) w hown (by omega))
  have HC := Lib.hid hcells
  have HL := Lib.hid hel
  clear hcells hmm hm hel
  go_enter Tryz.func77, Tryz.ntmps77
  go_wp2_with (go_at_call 83; refine (copyCheck_any B b (Lib.byteCells l) _ h).mono ?_)
  rintro e w1 ⟨rfl, h1, hb1⟩
  obtain ⟨hB, v, hbk, hown, hne⟩ := h1
  rw [Lib.byteCells_length] at hown
  obtain ⟨A, cc, rfl⟩ : ∃ A cc, v = .slice A l.length cc := by
    rcases hown.2 with ⟨hv, h0⟩ | ⟨g, cap, cur, hv, _⟩
    · exact ⟨none, 0, by rw [hv, h0]⟩
    · exact ⟨_, _, hv⟩
  have c0 : w1.cell? ⟨b, 0, none⟩ = some (.pointer (some ⟨b, 0, none⟩)) := by rw [Lib.cell_of_heap hbk]; rfl
  have c1 : w1.cell? ⟨b, 1, none⟩ = some (.slice A l.length cc) := by rw [Lib.cell_of_heap hbk]; rfl
  have hsz1 := hb1.size
  go_wp2_with fail
  refine (HA.out _ _ hown (by omega)).mono ?_
  rintro e w2 ⟨v', rfl, hown', o, hgrow⟩
  have hlt : b < w1.heap.size := Blk.lt (t := 94) hbk
  have hb2 : w2.heap[b]? = some (.cells #[.pointer (some ⟨b, 0, none⟩), .slice A l.length cc] 94 (0, 0)) := by
    rw [hgrow.block b (by simp; omega) (fun e => hne e.symm), Lib.alloc_old w1 _ b hlt]
    exact hbk
  have d0 : w2.cell? ⟨b, 0, none⟩ = some (.pointer (some ⟨b, 0, none⟩)) := by rw [Lib.cell_of_heap hb2]; rfl
  have d1 : w2.cell? ⟨b, 1, none⟩ = some (.slice A l.length cc) := by rw [Lib.cell_of_heap hb2]; rfl
  have f1 : w2.frozen? ⟨b, 1, none⟩ = false := Lib.frozen_of_heap hb2 1
  rw [HC.out, Lib.byteCells_length, ← Lib.byteCells_append] at hown'
  obtain ⟨m, hm⟩ : ∃ m, m = (encU c).length := ⟨_, rfl⟩
  have HM := Lib.hid hm
  have hm1 : 1 ≤ m ∧ m ≤ 4 := by rw [hm]; exact HL.out
  rw [← hm] at hown'
  clear hm c0 c1
  obtain ⟨g, cap, rfl⟩ : ∃ g cap, v' = .slice (some ⟨g, 0, none⟩) (l.length + m) cap := by
    rcases hown'.2 with ⟨_, h0⟩ | ⟨g, cap, cur, hv, _⟩
    · omega
    · exact ⟨g, cap, hv⟩
  go_wp2
  go_ret2
  refine ⟨_, rfl, ?_, ?_⟩
  · exact Lib.BuilderAt.put (T := 94) (e := 5) hB hb2 (bs' := Lib.byteCells (l ++ encU c)) (by rw [Lib.byteCells_length, List.length_append, ← HM.out]; exact hown') (by decide)
  · exact ((hb1.alloc (by omega) _).grown hgrow (by simp; omega) (fun k hk => (hown.lt k hk).1)).setCell (p := ⟨b, 1, none⟩) hB _
/-- does a quote stand at a place -/
def qAt (s : ByteArray) (a : Nat) : Bool := Lib.hasPrefix (s.extract a s.size).data.toList [34]
/-- what part says at a place: a character -/
def PartS (s : ByteArray) (a : Nat) (v : Int) (n : Nat) : Prop :=
  ∀ w, tabU w → Calls Tryz.prog 76 #[.string (s.extract a s.size)] w fun e w' => e = .returned (.tuple #[.int .i32 v, .int .i64 n, .int .i64 0]) ∧ Below w.heap.size w w'
/-- what part says at a place: a fault -/
def PartF (s : ByteArray) (a : Nat) (er : Int) : Prop :=
  ∀ w, tabU w → Calls Tryz.prog 76 #[.string (s.extract a s.size)] w fun e w' => e = .returned (.tuple #[.int .i32 0, .int .i64 0, .int .i64 er]) ∧ Below w.heap.size w w'
/-- the steps from a place on -/
def UQ (s : ByteArray) : Nat → Nat → List UInt8 → (List UInt8 × Nat × Int) → Prop
  | 0, a, acc, r => (qAt s a = true ∧ r = (acc, a + 1, 0)) ∨ (qAt s a = false ∧ ∃ er : Int, er ≠ 0 ∧ PartF s a er ∧ r = ([], a, er))
  | k + 1, a, acc, r => qAt s a = false ∧ ∃ v n, PartS s a v n ∧ 1 ≤ n ∧ n ≤ 12 ∧ a + n ≤ s.size ∧ mayU v = true ∧ UQ s k (a + n) (acc ++ encU v) r
theorem hasP (s : ByteArray) (a : Nat) (w : World) : Calls Tryz.prog 57 #[.string (s.extract a s.size), .string ⟨#[34]⟩] w fun e w' => e = .returned (.bool (qAt s a)) ∧ w = w' :=
  (Tryz.strings_HasPrefix _ _ w).mono fun _ _ ⟨h1, h2⟩ => ⟨h1, h2.symm⟩
theorem enc_len (c : Int) (hm : mayU c = true) : (encU c).length ≤ 4 := by
  have hmm := may_iff.1 hm
  rcases (by omega : (0 ≤ c ∧ c ≤ 127) ∨ (128 ≤ c ∧ c ≤ 2047) ∨ ((2048 ≤ c ∧ c < 55296) ∨ (57343 < c ∧ c ≤ 65535)) ∨ (65536 ≤ c ∧ c ≤ 1114111)) with k | k | k | k
  · rw [enc_one k.1 k.2]; simp
  · rw [enc_two k.1 k.2]; simp
  · rw [enc_three k]; simp
  · rw [enc_four k.1 k.2]; simp
set_option maxRecDepth 100000 in
set_option maxHeartbeats 2000000 in
theorem unquote_any (s : ByteArray) (k0 : Nat) (txt : List UInt8) (at0 : Nat) (er : Int) (w : World) (ht : tabU w) (hs : s.size ≤ 1000000) (h1 : 1 ≤ s.size) (hp : qAt s 0 = true) (hu : UQ s k0 1 [] (txt, at0, er)) :
    Calls Tryz.prog 61 #[.string s] w fun e w' => e = .returned (.tuple #[.string ⟨txt.toArray⟩, .int .i64 at0, .int .i64 er]) ∧ Below w.heap.size w w' := by
  have HT := Lib.hid ht
  have HU := Lib.hid hu
  have hp0 : ∀ w, Calls Tryz.prog 57 #[.string s, .string ⟨#[34]⟩] w fun e w' => e = .returned (.bool true) ∧ w = w' := by
    intro w
    refine (Tryz.strings_HasPrefix s _ w).mono fun _ _ ⟨h1, h2⟩ => ⟨?_, h2.symm⟩
    rw [h1]
    unfold qAt at hp
    rw [show s.extract 0 s.size = s from ByteArray.ext (Array.toList_inj.1 (ext_drop s 0))] at hp
    rw [hp]
  have HP := Lib.hid hp0
  clear ht hu hp0 hp
  go_enter Tryz.func61, Tryz.ntmps61
  go_wp2_with fail
  refine (HP.out _).mono ?_
  rintro e w' ⟨rfl, rfl⟩
  go_wp2
  go_loopw [6] (fun x wr => ∃ (k a : Nat) (acc : List UInt8), x = .int .i64 a ∧ a ≤ s.size ∧ UQ s k a acc (txt, at0, er) ∧ acc.length ≤ 4 * a ∧ Lib.IsBuilder 94 5 w.heap.size w.heap.size (Lib.byteCells acc) wr ∧ Below w.heap.size w wr) (fun x _ => s.size + 1 - (intOf x).toNat)
  case atStart => exact ⟨k0, 1, [], rfl, h1, HU.out, by simp, newBuilder w _ (Nat.le_refl _), (Below.refl _ _).alloc (Nat.le_refl _) _⟩
  case round =>
    obtain ⟨k, a, acc, rfl, ha, hu, hacc, hbu, hbw⟩ := hrel
    have HB := Lib.hid hbw
    have HBU := Lib.hid hbu
    have HTR := Lib.hid (HT.out.below hbw)
    clear hbw hbu
    have haz : (a : Int) ≤ s.size := by omega
    cases k with
    | zero =>
      rcases hu with ⟨hq, hr⟩ | ⟨hq, er', hne, hF, hr⟩
      · have HR := Lib.hid hr
        clear hr
        go_wp2_with fail
        refine (hasP s a _).mono ?_
        rintro e w' ⟨rfl, rfl⟩
        go_wp2_with fail
        refine (Tryz.Builder_String_any w.heap.size w.heap.size _ _ HBU.out HB.out.size).mono ?_
        rintro e w1 ⟨rfl, hb1⟩
        go_wp2
        go_ret3
        have h := HR.out
        simp only [Prod.mk.injEq] at h
        exact ⟨by rw [h.1, h.2.1, h.2.2]; rfl, HB.out.trans hb1⟩
      · have HR := Lib.hid hr
        have HF := Lib.hid hF
        have f0 : (er' != 0) = true := by simpa using hne
        clear hr hF hne
        go_wp2_with fail
        refine (hasP s a _).mono ?_
        rintro e w' ⟨rfl, rfl⟩
        go_wp2_with fail
        refine (HF.out _ HTR.out).mono ?_
        rintro e w1 ⟨rfl, hb1⟩
        go_wp2
        go_ret3
        have h := HR.out
        simp only [Prod.mk.injEq] at h
        exact ⟨by rw [h.1, h.2.1, h.2.2]; rfl, HB.out.trans (hb1.mono HB.out.size)⟩
    | succ k =>
      obtain ⟨hq, v, n, hS, hn1, hn12, han, hm, hu⟩ := hu
      have HS := Lib.hid hS
      have HU2 := Lib.hid hu
      have HM := Lib.hid hm
      have hel := enc_len v hm
      clear hS hu hm
      go_wp2_with fail
      refine (hasP s a _).mono ?_
      rintro e w' ⟨rfl, rfl⟩
      go_wp2_with fail
      refine (HS.out _ HTR.out).mono ?_
      rintro e w1 ⟨rfl, hb1⟩
      have HB1 := Lib.hid (HB.out.trans (hb1.mono HB.out.size))
      have HBU1 := Lib.hid (isBuilder_onw HBU.out hb1)
      clear hb1
      go_wp2_with fail
      refine (writeRune_any w.heap.size w.heap.size acc v _ HM.out HBU1.out (by omega) HB1.out.size).mono ?_
      rintro e w2 ⟨nn, rfl, hbu2, hb2⟩
      have HBU2 := Lib.hid hbu2
      have HB2 := Lib.hid (HB1.out.trans hb2)
      clear hbu2 hb2
      go_wp2
      go_roundw
      case rel => exact ⟨k, a + n, acc ++ encU v, by go_num, han, HU2.out, by rw [List.length_append]; omega, .inr HBU2.out, HB2.out⟩
      case measure => simp [intOf]; omega
end Go.Proofs.YteofdpogjnojnaaGreatDoor
