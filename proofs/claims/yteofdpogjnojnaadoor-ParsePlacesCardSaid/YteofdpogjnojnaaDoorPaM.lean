/-
  parse: the parser in memory; what is left, faults, signs, blanks.
-/
import Derived.Test.YteofdpogjnojnaaDoorGPa
import Derived.Test.YteofdpogjnojnaaDoorVa3
import Derived.Test.YteofdpogjnojnaaDoorUnhexU
import Derived.Test.YteofdpogjnojnaaDoorShelf
import Derived.BigQuiet
import Derived.Shelf.Strings.SlTrimAscii
namespace Go.Proofs.YteofdpogjnojnaaDoor
open Go.RowKit Utf Pa
set_option linter.unusedVariables false
set_option linter.unusedSimpArgs false

/-- what is left, as a text -/
def rs (p : St) : ByteArray := ⟨p.r.toArray⟩
theorem rs_list (p : St) : (rs p).data.toList = p.r := by simp [rs]
theorem rs_size (p : St) : (rs p).size = p.r.length := by simp [rs, ByteArray.size]
/-- a parser in memory -/
structure PSt (W : World) (B : Nat) (s : ByteArray) (w : World) (p : St) : Prop where
  blk : Blk w B 40 #[.string s, .int .i64 p.i, .int .i64 p.c, .int .i64 p.e]
  no : p.e ≠ 0 → p.r = []
  ok : p.e = 0 → p.r = s.data.toList.drop p.i
  pi : p.i ≤ s.size
  pc : p.c ≤ 4097 ∧ (p.e = 0 → p.c ≤ 4096)
  pe : 0 ≤ p.e ∧ p.e ≤ 1000
  bel : Below W.heap.size W w
  bW : W.heap.size ≤ B
section
variable {W w w' : World} {B : Nat} {s : ByteArray} {p : St} {S : Nat → Prop}
theorem PSt.below (h : PSt W B s w p) (hb : Below w.heap.size w w') : PSt W B s w' p := ⟨h.blk.below hb h.blk.lt, h.no, h.ok, h.pi, h.pc, h.pe, h.bel.trans (hb.mono h.bel.size), h.bW⟩
theorem PSt.fr (h : PSt W B s w p) (hf : Fr S w w') (hB : ¬ S B) (hS : ∀ b, S b → W.heap.size ≤ b) : PSt W B s w' p := ⟨h.blk.fr hf hB, h.no, h.ok, h.pi, h.pc, h.pe, Fr.below_trans h.bel hf h.bel.size hS, h.bW⟩
theorem PSt.len (h : PSt W B s w p) : p.r.length ≤ s.size := by
  by_cases he : p.e = 0
  · rw [h.ok he, List.length_drop]; exact Nat.sub_le _ _
  · rw [h.no he]; simp
theorem PSt.rs_eq (h : PSt W B s w p) (he : p.e = 0) : s.extract p.i s.size = rs p := by
  refine ByteArray.ext (Array.toList_inj.1 ?_)
  rw [ext_drop, rs_list, h.ok he]
/-- the parser's block has new numbers -/
theorem PSt.set (h : PSt W B s w p) {p' : St} (hb : Blk w' B 40 #[.string s, .int .i64 p'.i, .int .i64 p'.c, .int .i64 p'.e]) (hf : Fr (· = B) w w') (h1 : p'.e ≠ 0 → p'.r = []) (h2 : p'.e = 0 → p'.r = s.data.toList.drop p'.i) (h3 : p'.i ≤ s.size) (h4 : p'.c ≤ 4097 ∧ (p'.e = 0 → p'.c ≤ 4096)) (h5 : 0 ≤ p'.e ∧ p'.e ≤ 1000) : PSt W B s w' p' :=
  ⟨hb, h1, h2, h3, h4, h5, Fr.below_trans h.bel hf h.bel.size (fun b e => e ▸ h.bW), h.bW⟩
end
/-- what rest answers -/
def RstP (p : St) (w : World) (e : Ending) (w' : World) : Prop := e = .returned (.string (rs p)) ∧ Below w.heap.size w w'
set_option maxRecDepth 100000 in
set_option maxHeartbeats 2000000 in
theorem rest_any {W w : World} {B : Nat} {s : ByteArray} {p : St} (h : PSt W B s w p) (hs : s.size ≤ 1000000) : Calls Tryd.prog 11 #[.pointer (some ⟨B, 0, none⟩)] w fun e w' => PF (RstP p w) e w' := by
  have c0 : w.cell? ⟨B, 0, none⟩ = some (.string s) := h.blk.cell 0
  have c1 : w.cell? ⟨B, 1, none⟩ = some (.int .i64 p.i) := h.blk.cell 1
  have c3 : w.cell? ⟨B, 3, none⟩ = some (.int .i64 p.e) := h.blk.cell 3
  have i0 : (0 : Int) ≤ (p.i : Int) := by omega
  have i1 : (p.i : Int) ≤ (s.size : Int) := by have := h.pi; omega
  by_cases he : p.e = 0
  · have q0 : (p.e != 0) = false := by rw [he]; rfl
    have HX := Lib.hid (h.rs_eq he)
    clear he h
    go_enter Tryd.func11, Tryd.ntmps11
    go_wp2_with (go_quiet (fail))
    go_ret
    exact ⟨by rw [← HX.out]; rfl, dnU (Below.refl _ _) _⟩
  · have q0 : (p.e != 0) = true := by rw [bne_iff_ne]; exact he
    have HX : Hid (rs p = ⟨#[]⟩) := Lib.hid (by unfold rs; rw [h.no he])
    clear he h
    go_enter Tryd.func11, Tryd.ntmps11
    go_wp2
    go_ret
    exact ⟨by rw [HX.out]; rfl, Below.refl _ _⟩
/-- a step that writes the parser alone -/
def StpP (W : World) (B : Nat) (s : ByteArray) (v : Value) (p' : St) (w : World) (e : Ending) (w' : World) : Prop := e = .returned v ∧ PSt W B s w' p' ∧ Fr (· = B) w w'
theorem frB {w : World} {B i : Nat} {v : Value} : Fr (· = B) w (w.setCell ⟨B, i, none⟩ v) := (Fr.refl (· = B) w).setCell (p := ⟨B, i, none⟩) (fun _ => rfl) v
set_option maxRecDepth 100000 in
set_option maxHeartbeats 2000000 in
theorem fail_any {W w : World} {B : Nat} {s : ByteArray} {p : St} (h : PSt W B s w p) (a : Nat) (er : Int) (ha : a ≤ s.size) (he : 1 ≤ er ∧ er ≤ 1000) : Calls Tryd.prog 12 #[.pointer (some ⟨B, 0, none⟩), .int .i64 a, .int .i64 er] w fun e w' => PF (StpP W B s (.bool false) (p.fail a er) w) e w' := by
  have c3 : w.cell? ⟨B, 3, none⟩ = some (.int .i64 p.e) := h.blk.cell 3
  by_cases h0 : p.e = 0
  · have q0 : (p.e == 0) = true := by rw [h0]; rfl
    have c1 : w.cell? ⟨B, 1, none⟩ = some (.int .i64 p.i) := h.blk.cell 1
    have f1 : w.frozen? ⟨B, 1, none⟩ = false := h.blk.frozen 1
    have f3 : w.frozen? ⟨B, 3, none⟩ = false := h.blk.frozen 3
    have HP : Hid (PSt W B s ((w.setCell ⟨B, 1, none⟩ (.int .i64 a)).setCell ⟨B, 3, none⟩ (.int .i64 er)) (p.fail a er)) := Lib.hid (by
      rw [fail_ok h0]
      refine h.set (p' := ⟨a, [], p.c, er⟩) ?_ (frB.trans frB) (fun _ => rfl) (fun q => by simp only at q; omega) ha ⟨h.pc.1, fun q => by simp only at q; omega⟩ ⟨by simp only; omega, by simp only; omega⟩
      have := (h.blk.set_ 1 (.int .i64 a)).set_ 3 (.int .i64 er)
      simpa using this)
    clear h0 h ha he
    go_enter Tryd.func12, Tryd.ntmps12
    go_wp2
    go_ret
    exact ⟨rfl, HP.out, frB.trans frB⟩
  · have q0 : (p.e == 0) = false := by rw [beq_eq_false_iff_ne]; exact h0
    have HP : Hid (PSt W B s w (p.fail a er)) := Lib.hid (by rw [fail_of h0]; exact h)
    clear h0 h ha he
    go_enter Tryd.func12, Tryd.ntmps12
    go_wp2
    go_ret
    exact ⟨rfl, HP.out, Fr.refl _ _⟩
theorem hasP1 (p : St) (c : UInt8) (w : World) : Calls Tryd.prog 42 #[.string (rs p), .string ⟨#[c]⟩] w fun e w' => e = .returned (.bool (p.eat c).1) ∧ w = w' :=
  (Tryd.strings_HasPrefix _ _ w).mono fun _ _ ⟨h1, h2⟩ => ⟨by
    rw [h1, rs_list]
    congr 2
    unfold St.eat
    cases hr : p.r with
    | nil => rfl
    | cons x r =>
      simp only [Lib.hasPrefix, List.isPrefixOf, List.head?_cons, Option.some.injEq, Bool.and_true]
      by_cases hx : x = c
      · subst hx; simp
      · rw [if_neg hx]; simpa using (Ne.symm hx), h2.symm⟩
theorem eat_rest {p : St} {c : UInt8} (h : (p.eat c).1 = true) : p.r.head? = some c ∧ (p.eat c).2 = p.adv 1 := by
  unfold St.eat at h ⊢
  split at h
  · rename_i hh; rw [if_pos hh]; exact ⟨hh, rfl⟩
  · cases h
theorem eat_not {p : St} {c : UInt8} (h : (p.eat c).1 = false) : (p.eat c).2 = p := by
  unfold St.eat at h ⊢
  split at h
  · cases h
  · rename_i hh; rw [if_neg hh]
/-- so many bytes on -/
theorem PSt.adv_ {W w w' : World} {B : Nat} {s : ByteArray} {p : St} (h : PSt W B s w p) {n : Nat} (hn : n ≤ p.r.length) (he : p.e = 0) : PSt W B s (w.setCell ⟨B, 1, none⟩ (.int .i64 ((p.i + n : Nat) : Int))) (p.adv n) := by
  have hl : p.r.length = s.size - p.i := by rw [h.ok he, List.length_drop]; rfl
  have hp := h.pi
  refine h.set (p' := p.adv n) ?_ frB (fun q => absurd he q) (fun _ => ?_) (by show p.i + n ≤ _; omega) h.pc h.pe
  · have := h.blk.set_ 1 (.int .i64 ((p.i + n : Nat) : Int))
    simpa [St.adv] using this
  · show p.r.drop n = s.data.toList.drop (p.i + n)
    rw [h.ok he, List.drop_drop]
set_option maxRecDepth 100000 in
set_option maxHeartbeats 2000000 in
theorem eat_any {W w : World} {B : Nat} {s : ByteArray} {p : St} (h : PSt W B s w p) (hs : s.size ≤ 1000000) (c : UInt8) : Calls Tryd.prog 28 #[.pointer (some ⟨B, 0, none⟩), .string ⟨#[c]⟩] w fun e w' => PF (StpP W B s (.bool (p.eat c).1) (p.eat c).2 w) e w' := by
  have c3 : w.cell? ⟨B, 3, none⟩ = some (.int .i64 p.e) := h.blk.cell 3
  by_cases h0 : p.e = 0
  · have q0 : (p.e != 0) = false := by rw [h0]; rfl
    have HR := Lib.hid (rest_any h hs)
    have HH := Lib.hid (fun w => hasP1 p c w)
    obtain ⟨b, hb⟩ : ∃ b, b = (p.eat c).1 := ⟨_, rfl⟩
    rw [← hb] at HH ⊢
    cases b with
    | true =>
      obtain ⟨e1, e2⟩ := eat_rest hb.symm
      have hn : 1 ≤ p.r.length := by
        cases hr : p.r with
        | nil => rw [hr] at e1; cases e1
        | cons x r => simp
      have HP : Hid (∀ w', Below w.heap.size w w' → PSt W B s (w'.setCell ⟨B, 1, none⟩ (.int .i64 ((p.i : Int) + 1))) (p.eat c).2) := Lib.hid (fun w' hw => by rw [e2]; exact (h.below hw).adv_ (w' := w) hn h0)
      have HB := Lib.hid h.blk
      have i0 : (0 : Int) ≤ (p.i : Int) := by omega
      have i1 : (p.i : Int) ≤ 1000000 := by have := h.pi; omega
      clear h0 h hb e1 e2 hn
      go_enter Tryd.func28, Tryd.ntmps28
      go_wp2_with fail
      refine HR.out.mono ?_
      rintro e w1 ⟨rfl, hb1⟩
      have d1 : w1.cell? ⟨B, 1, none⟩ = some (.int .i64 p.i) := (HB.out.below hb1 HB.out.lt).cell 1
      have g1 : w1.frozen? ⟨B, 1, none⟩ = false := (HB.out.below hb1 HB.out.lt).frozen 1
      have HPW := Lib.hid (HP.out w1 hb1)
      have HFW : Hid (Fr (· = B) w w1) := Lib.hid (Fr.of_below hb1)
      clear hb1
      go_wp2_with fail
      refine (HH.out _).mono ?_
      rintro e w2 ⟨rfl, rfl⟩
      go_wp2
      go_ret
      exact ⟨rfl, HPW.out, HFW.out.trans frB⟩
    | false =>
      have HP : Hid (∀ w', Below w.heap.size w w' → PSt W B s w' (p.eat c).2) := Lib.hid (fun w' hw => by rw [eat_not hb.symm]; exact h.below hw)
      clear h0 h hb
      go_enter Tryd.func28, Tryd.ntmps28
      go_wp2_with fail
      refine HR.out.mono ?_
      rintro e w1 ⟨rfl, hb1⟩
      have HPW := Lib.hid (HP.out w1 hb1)
      have HFW : Hid (Fr (· = B) w w1) := Lib.hid (Fr.of_below hb1)
      clear hb1
      go_wp2_with fail
      refine (HH.out _).mono ?_
      rintro e w2 ⟨rfl, rfl⟩
      go_wp2
      go_ret
      exact ⟨rfl, HPW.out, HFW.out⟩
  · have q0 : (p.e != 0) = true := by rw [bne_iff_ne]; exact h0
    have HP : Hid (p.eat c = (false, p)) := Lib.hid (eat_of (h.no h0))
    have HS := Lib.hid h
    clear h0 h
    go_enter Tryd.func28, Tryd.ntmps28
    go_wp2
    go_ret
    exact ⟨by rw [HP.out]; rfl, by rw [HP.out]; exact HS.out, Fr.refl _ _⟩
set_option maxRecDepth 100000 in
set_option maxHeartbeats 2000000 in
theorem need_any {W w : World} {B : Nat} {s : ByteArray} {p : St} (h : PSt W B s w p) (hs : s.size ≤ 1000000) (c : UInt8) : Calls Tryd.prog 50 #[.pointer (some ⟨B, 0, none⟩), .string ⟨#[c]⟩] w fun e w' => PF (StpP W B s (.tuple #[]) (p.need c) w) e w' := by
  have HE := Lib.hid (eat_any h hs c)
  obtain ⟨b, hb⟩ : ∃ b, b = (p.eat c).1 := ⟨_, rfl⟩
  rw [← hb] at HE
  cases b with
  | true =>
    have HN : Hid (p.need c = (p.eat c).2) := Lib.hid (by unfold St.need; rw [if_pos hb.symm])
    clear hb h
    go_enter Tryd.func50, Tryd.ntmps50
    go_wp2_with fail
    refine HE.out.mono ?_
    rintro e w1 ⟨rfl, hp, hf⟩
    have HP := Lib.hid hp
    have HF := Lib.hid hf
    clear hp hf
    go_wp2
    go_end0
    exact ⟨rfl, by rw [HN.out]; exact HP.out, HF.out⟩
  | false =>
    have HN : Hid (p.need c = p.fail p.i 50 ∧ (p.eat c).2 = p) := Lib.hid ⟨by unfold St.need; rw [if_neg (by rw [← hb]; decide)], eat_not hb.symm⟩
    have HI : Hid (p.i ≤ s.size) := Lib.hid h.pi
    clear hb h
    go_enter Tryd.func50, Tryd.ntmps50
    go_wp2_with fail
    refine HE.out.mono ?_
    rintro e w1 ⟨rfl, hp, hf⟩
    rw [HN.out.2] at hp
    have c1 : w1.cell? ⟨B, 1, none⟩ = some (.int .i64 p.i) := hp.blk.cell 1
    have HFL := Lib.hid (fail_any hp p.i 50 HI.out (by omega))
    have HF := Lib.hid hf
    clear hp hf
    go_wp2_with fail
    refine HFL.out.mono ?_
    rintro e w2 ⟨rfl, hp2, hf2⟩
    have HP := Lib.hid hp2
    have HF2 := Lib.hid (HF.out.trans hf2)
    clear hp2 hf2
    go_wp2
    go_end0
    exact ⟨rfl, by rw [HN.out.1]; exact HP.out, HF2.out⟩
end Go.Proofs.YteofdpogjnojnaaDoor
