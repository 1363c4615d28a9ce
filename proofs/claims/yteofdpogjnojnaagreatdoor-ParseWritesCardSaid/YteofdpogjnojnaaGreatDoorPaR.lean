/-
  A row's last value is written; a loop over items with any closure.
-/
import Derived.Test.YteofdpogjnojnaaGreatDoorPaQ
import Derived.Test.YteofdpogjnojnaaGreatDoorVa4
import Derived.Test.YteofdpogjnojnaaGreatDoorGPa
namespace Go.Proofs.YteofdpogjnojnaaGreatDoor
open Go.RowKit Utf Pa
attribute [local go_sem ↓] Go.wp_at_zero Go.wp_at_succ
set_option linter.unusedVariables false
set_option linter.unusedSimpArgs false

theorem set_mid (a b : List Value) (i : Nat) (u : Value) : (a ++ b).set (a.length + i) u = a ++ b.set i u := by
  rw [List.set_append_right _ _ (by omega)]
  congr 2
  omega
section
variable {base : Nat} {w : World} {g n cap : Nat} {l : List MV} {z x : MV}
theorem csL_n (l : List MV) : (l.flatMap MV.cs).length = l.length * 5 := csL_len l
/-- five cells at a row's end -/
theorem own_put5 (h : w.ownsRow base 25 5 (.slice (some ⟨g, 0, none⟩) n cap) n ((l ++ [z]).flatMap MV.cs)) (hn : n = l.length + 1) :
    (((((w.setCell ⟨g, l.length * 5, none⟩ (.int .i64 x.k)).setCell ⟨g, l.length * 5 + 1, none⟩ (.int .i64 x.n)).setCell ⟨g, l.length * 5 + 2, none⟩ (.string x.s)).setCell ⟨g, l.length * 5 + 3, none⟩ (.slice x.lA x.l.length x.lc)).setCell ⟨g, l.length * 5 + 4, none⟩ (.slice x.mA x.m.length x.mc)).ownsRow base 25 5 (.slice (some ⟨g, 0, none⟩) n cap) n ((l ++ [x]).flatMap MV.cs) := by
  have h5 := (((((h.stored (l.length * 5) (.int .i64 x.k)).1.stored (l.length * 5 + 1) (.int .i64 x.n)).1.stored (l.length * 5 + 2) (.string x.s)).1.stored (l.length * 5 + 3) (.slice x.lA x.l.length x.lc)).1.stored (l.length * 5 + 4) (.slice x.mA x.m.length x.mc)).1
  have e : ((((((l ++ [z]).flatMap MV.cs).set (l.length * 5) (.int .i64 x.k)).set (l.length * 5 + 1) (.int .i64 x.n)).set (l.length * 5 + 2) (.string x.s)).set (l.length * 5 + 3) (.slice x.lA x.l.length x.lc)).set (l.length * 5 + 4) (.slice x.mA x.m.length x.mc) = (l ++ [x]).flatMap MV.cs := by
    have hz : (l ++ [z]).flatMap MV.cs = l.flatMap MV.cs ++ z.cs := by simp
    have hx : (l ++ [x]).flatMap MV.cs = l.flatMap MV.cs ++ x.cs := by simp
    have h0 : l.length * 5 = (l.flatMap MV.cs).length + 0 := by rw [csL_len]; rfl
    rw [hz, hx, h0]
    simp only [Nat.add_assoc, set_mid]
    rfl
  rw [e] at h5
  exact h5
theorem own_put6 (h : w.ownsRow base 40 6 (.slice (some ⟨g, 0, none⟩) n cap) n ((l ++ [z]).flatMap MV.pcs)) (hn : n = l.length + 1) :
    ((((((w.setCell ⟨g, l.length * 6, none⟩ (.string x.key)).setCell ⟨g, l.length * 6 + 1, none⟩ (.int .i64 x.k)).setCell ⟨g, l.length * 6 + 2, none⟩ (.int .i64 x.n)).setCell ⟨g, l.length * 6 + 3, none⟩ (.string x.s)).setCell ⟨g, l.length * 6 + 4, none⟩ (.slice x.lA x.l.length x.lc)).setCell ⟨g, l.length * 6 + 5, none⟩ (.slice x.mA x.m.length x.mc)).ownsRow base 40 6 (.slice (some ⟨g, 0, none⟩) n cap) n ((l ++ [x]).flatMap MV.pcs) := by
  have h5 := ((((((h.stored (l.length * 6) (.string x.key)).1.stored (l.length * 6 + 1) (.int .i64 x.k)).1.stored (l.length * 6 + 2) (.int .i64 x.n)).1.stored (l.length * 6 + 3) (.string x.s)).1.stored (l.length * 6 + 4) (.slice x.lA x.l.length x.lc)).1.stored (l.length * 6 + 5) (.slice x.mA x.m.length x.mc)).1
  have e : (((((((l ++ [z]).flatMap MV.pcs).set (l.length * 6) (.string x.key)).set (l.length * 6 + 1) (.int .i64 x.k)).set (l.length * 6 + 2) (.int .i64 x.n)).set (l.length * 6 + 3) (.string x.s)).set (l.length * 6 + 4) (.slice x.lA x.l.length x.lc)).set (l.length * 6 + 5) (.slice x.mA x.m.length x.mc) = (l ++ [x]).flatMap MV.pcs := by
    have hz : (l ++ [z]).flatMap MV.pcs = l.flatMap MV.pcs ++ z.pcs := by simp
    have hx : (l ++ [x]).flatMap MV.pcs = l.flatMap MV.pcs ++ x.pcs := by simp
    have h0 : l.length * 6 = (l.flatMap MV.pcs).length + 0 := by rw [csM_len]; rfl
    rw [hz, hx, h0]
    simp only [Nat.add_assoc, set_mid]
    rfl
  rw [e] at h5
  exact h5
theorem fr_put5 {a b c d e : Value} {o : Nat} : Fr (· = g) w (((((w.setCell ⟨g, o, none⟩ a).setCell ⟨g, o + 1, none⟩ b).setCell ⟨g, o + 2, none⟩ c).setCell ⟨g, o + 3, none⟩ d).setCell ⟨g, o + 4, none⟩ e) :=
  (((((Fr.refl (· = g) w).setCell (p := ⟨g, o, none⟩) (fun _ => rfl) _).setCell (p := ⟨g, o + 1, none⟩) (fun _ => rfl) _).setCell (p := ⟨g, o + 2, none⟩) (fun _ => rfl) _).setCell (p := ⟨g, o + 3, none⟩) (fun _ => rfl) _).setCell (p := ⟨g, o + 4, none⟩) (fun _ => rfl) _
theorem fr_put6 {a b c d e f : Value} {o : Nat} : Fr (· = g) w ((((((w.setCell ⟨g, o, none⟩ a).setCell ⟨g, o + 1, none⟩ b).setCell ⟨g, o + 2, none⟩ c).setCell ⟨g, o + 3, none⟩ d).setCell ⟨g, o + 4, none⟩ e).setCell ⟨g, o + 5, none⟩ f) :=
  fr_put5.setCell (p := ⟨g, o + 5, none⟩) (fun _ => rfl) _
/-- the last one of a row is another one now -/
theorem ROwn.put {t : TypeId} {size : Nat} {cs : MV → List Value} {w' : World} (h : ROwn t size cs base w (.slice (some ⟨g, 0, none⟩) n cap) (l ++ [z])) (hn : n = l.length + 1) (hx : VAt w x) (hfr : BlkP (base ≤ ·) x) (hav : BlkP (fun b => ¬ b = g) x) (hown : w'.ownsRow base t size (.slice (some ⟨g, 0, none⟩) n cap) n ((l ++ [x]).flatMap cs)) (hf : Fr (· = g) w w') : ROwn t size cs base w' (.slice (some ⟨g, 0, none⟩) n cap) (l ++ [x]) := by
  have hob : (Value.slice (some ⟨g, 0, none⟩) n cap).ownBlock = some g ∨ n = 0 := .inl rfl
  have hg : ∀ y ∈ l ++ [z], BlkP (fun b => ¬ b = g) y := fun y hy => (h.av y hy).mono (fun b hb e => hb (by rw [e]; rfl))
  refine ⟨by rw [List.length_append]; simpa [hn] using hown, fun y hy => ?_, fun y hy => ?_, fun y hy => ?_⟩
  · rcases List.mem_append.1 hy with hy | hy
    · exact (h.at_ y (by simp [hy])).fr hf (hg y (by simp [hy]))
    · rw [List.mem_singleton] at hy; subst hy; exact hx.fr hf hav
  · rcases List.mem_append.1 hy with hy | hy
    · exact h.fr y (by simp [hy])
    · rw [List.mem_singleton] at hy; subst hy; exact hfr
  · rcases List.mem_append.1 hy with hy | hy
    · exact h.av y (by simp [hy])
    · rw [List.mem_singleton] at hy; subst hy
      exact hav.mono (fun b hb e => hb (by injection e with e; exact e.symm))
end
/-! items -/
def muW (s : ByteArray) (B : Nat) (w : World) : Nat := match w.cell? ⟨B, 3, none⟩, w.cell? ⟨B, 1, none⟩ with | some (.int _ e), some (.int _ i) => if e = 0 then s.size + 1 - i.toNat else 0 | _, _ => 0
theorem PSt.mu {W w : World} {B : Nat} {s : ByteArray} {p : St} (h : PSt W B s w p) : muW s B w = p.mu := by
  have c1 : w.cell? ⟨B, 1, none⟩ = some (.int .i64 p.i) := h.blk.cell 1
  have c3 : w.cell? ⟨B, 3, none⟩ = some (.int .i64 p.e) := h.blk.cell 3
  unfold muW St.mu
  rw [c1, c3]
  simp only
  by_cases he : p.e = 0
  · rw [if_pos he, if_pos he, h.ok he, List.length_drop]
    have := h.pi
    have e : s.data.toList.length = s.size := rfl
    simp only [Int.toNat_natCast]
    omega
  · rw [if_neg he, if_neg he]
section
variable {W : World} {B : Nat} {s : ByteArray} {α : Type}
/-- what one step of a loop leaves -/
def OneP (W : World) (B : Nat) (s : ByteArray) (base : Nat) (J : World → α → Prop) (r : St × α) (w : World) (e : Ending) (w' : World) : Prop := e = .returned (.tuple #[]) ∧ PSt W B s w' r.1 ∧ J w' r.2 ∧ Fr (fun b => b = B ∨ base ≤ b) w w'
set_option maxRecDepth 100000 in
set_option maxHeartbeats 8000000 in
theorem items_any (one : St → α → St × α) (en : UInt8) (fn : Nat) (caps : Array Value) (base : Nat) (J : World → α → Prop) (hs : s.size ≤ 1000000) (eg : ∀ args w, (callFunc fn args).run Tryz.prog w = .ok (.enter fn args) w) (hbW : W.heap.size ≤ base)
    (hJ : ∀ w w' a, J w a → Fr (· = B) w w' → J w' a)
    (sz : α → Nat) (hsz : ∀ p a, p.e = 0 → sz a ≤ p.c → (one p a).1.e = 0 → sz (one p a).2 ≤ (one p a).1.c)
    (hone : ∀ w p a, base ≤ w.heap.size → PSt W B s w p → p.e = 0 → sz a ≤ p.c → J w a → Calls Tryz.prog fn caps w fun e w' => PF (OneP W B s base J (one p a) w) e w') (hlen : ∀ p a, (one p a).1.r.length ≤ p.r.length)
    {w : World} {p : St} {a : α} (h : PSt W B s w p) (hj : J w a) (hza : sz a ≤ p.c) (hb : base ≤ w.heap.size) :
    Calls Tryz.prog 62 #[.pointer (some ⟨B, 0, none⟩), .string ⟨#[en]⟩, .func (.func fn) #[] caps] w fun e w' => PF (OneP W B s base J (itemsP one en p a) w) e w' := by
  have HJ := Lib.hid hJ
  have HONE := Lib.hid hone
  have HLEN := Lib.hid hlen
  have HSZ := Lib.hid hsz
  have HZA := Lib.hid hza
  have HJA := Lib.hid hj
  have HBW := Lib.hid hbW
  have HBB := Lib.hid hb
  have HSK := Lib.hid (skip_any h hs)
  have HEAT : Hid (∀ V q, PSt W B s V q → Calls Tryz.prog 40 #[.pointer (some ⟨B, 0, none⟩), .string ⟨#[en]⟩] V fun e w' => PF (StpP W B s (.bool (q.eat en).1) (q.eat en).2 V) e w') := Lib.hid (fun V q hq => eat_any hq hs en)
  have HNEED : Hid (∀ V q, PSt W B s V q → Calls Tryz.prog 65 #[.pointer (some ⟨B, 0, none⟩), .string ⟨#[44]⟩] V fun e w' => PF (StpP W B s (.tuple #[]) (q.need 44) V) e w') := Lib.hid (fun V q hq => need_any hq hs 44)
  obtain ⟨RES, hR⟩ : ∃ RES, RES = itemsP one en p a := ⟨_, rfl⟩
  rw [← hR]
  have HR := Lib.hid hR
  clear hJ hone hlen hsz hza hj hbW hb h hR
  obtain ⟨bb, hbb⟩ : ∃ bb, bb = (p.skip.eat en).1 := ⟨_, rfl⟩
  have HEB := Lib.hid hbb
  clear hbb
  go_enter Tryz.func62, Tryz.ntmps62
  go_wp2_with fail
  refine HSK.out.mono ?_
  rintro e w1 ⟨rfl, hp1, hf1⟩
  have HP1 := Lib.hid hp1
  have HF1 := Lib.hid hf1
  clear hp1 hf1
  go_wp2_with fail
  refine (HEAT.out w1 _ HP1.out).mono ?_
  rintro e w2 ⟨rfl, hp2, hf2⟩
  have HP2 := Lib.hid hp2
  have HF2 : Hid (Fr (· = B) w w2) := Lib.hid (HF1.out.trans hf2)
  have HJ2 := Lib.hid (HJ.out w w2 a HJA.out HF2.out)
  clear hp2 hf2
  rw [← HEB.out]
  cases bb with
  | true =>
    have HRE : Hid (RES = ((p.skip.eat en).2, a)) := Lib.hid (by rw [HR.out]; unfold itemsP; rw [if_pos HEB.out.symm])
    go_wp2
    go_returns
    exact ⟨rfl, by rw [HRE.out]; exact HP2.out, by rw [HRE.out]; exact HJ2.out, HF2.out.mono (fun b _ e => .inl e)⟩
  | false =>
    have hq2 : (p.skip.eat en).2 = p.skip := eat_not HEB.out.symm
    have HP2' : Hid (PSt W B s w2 p.skip) := Lib.hid (by rw [← hq2]; exact HP2.out)
    have HRE : Hid (itemsG one en (p.skip.r.length + 2) p.skip a = RES) := Lib.hid (by rw [HR.out]; unfold itemsP; rw [if_neg (by rw [← HEB.out]; decide)])
    clear hq2
    go_wp2
    go_loopw [] (fun wr => ∃ (f : Nat) (q : St) (b : α), Hid (itemsG one en f q b = RES) ∧ Hid (q.mu ≤ f) ∧ Hid (PSt W B s wr q) ∧ Hid (J wr b) ∧ Hid (Fr (fun b => b = B ∨ base ≤ b) w wr) ∧ Hid (q.e = 0 → sz b ≤ q.c)) (fun wr => muW s B wr)
    case atStart => exact ⟨_, p.skip, a, HRE, Lib.hid (by unfold St.mu; split <;> omega), HP2', HJ2, Lib.hid (HF2.out.mono (fun b _ e => .inl e)), Lib.hid (fun _ => HZA.out)⟩
    case round =>
      obtain ⟨f, q, b, HG, HM, HP, HJB, HF, HQZ⟩ := hrel
      have c3 : wr.cell? ⟨B, 3, none⟩ = some (.int .i64 q.e) := HP.out.blk.cell 3
      by_cases he : q.e = 0
      · have q0 : (q.e == 0) = true := by rw [he]; rfl
        have HMU : Hid (q.mu = q.r.length + 1) := Lib.hid (by unfold St.mu; rw [if_pos he])
        obtain ⟨g, hg⟩ : ∃ g, f = g + 1 := ⟨f - 1, by have := HM.out; have := HMU.out; omega⟩
        have HG1 : Hid (RES = if ((one q b).1.eat en).1 = true then (((one q b).1.eat en).2, (one q b).2) else itemsG one en g ((one q b).1.need 44) (one q b).2) := Lib.hid (by rw [← HG.out, hg, itemsG_ok he])
        have HGF := Lib.hid hg
        have HO := Lib.hid (HONE.out wr q b (Nat.le_trans HBB.out HF.out.size) HP.out he (HQZ.out he) HJB.out)
        have HLQ := Lib.hid (HLEN.out q b)
        have HZN : Hid (((one q b).1.need 44).e = 0 → sz (one q b).2 ≤ ((one q b).1.need 44).c) := Lib.hid (fun h0 => by
          rw [need_c]
          exact HSZ.out q b he (HQZ.out he) (need_e h0))
        clear he hg
        go_wp2_with fail
        refine HO.out.mono ?_
        rintro e w3 ⟨rfl, hp3, hj3, hf3⟩
        have HP3 := Lib.hid hp3
        have HJ3 := Lib.hid hj3
        have HF3 := Lib.hid (HF.out.trans hf3)
        obtain ⟨z, hz⟩ : ∃ z, z = (one q b).1 := ⟨_, rfl⟩
        obtain ⟨y, hy⟩ : ∃ y, y = (one q b).2 := ⟨_, rfl⟩
        rw [← hz] at HP3 HLQ
        rw [← hy] at HJ3
        rw [← hz, ← hy] at HG1 HZN
        clear hp3 hj3 hf3 c3 hz hy
        go_wp2_with fail
        refine (HEAT.out w3 z HP3.out).mono ?_
        rintro e w4 ⟨rfl, hp4, hf4⟩
        have HP4 := Lib.hid hp4
        have HJ4 := Lib.hid (HJ.out w3 w4 y HJ3.out hf4)
        have HF4 : Hid (Fr (fun b => b = B ∨ base ≤ b) w w4) := Lib.hid (HF3.out.trans (hf4.mono (fun b _ e => .inl e)))
        clear hp4 hf4
        obtain ⟨b2, hb2⟩ : ∃ b2, b2 = (z.eat en).1 := ⟨_, rfl⟩
        rw [← hb2]
        have HB2 := Lib.hid hb2
        clear hb2
        cases b2 with
        | true =>
          have HRE2 : Hid (RES = ((z.eat en).2, y)) := Lib.hid (by rw [HG1.out, if_pos HB2.out.symm])
          go_wp2
          go_returns
          exact ⟨rfl, by rw [HRE2.out]; exact HP4.out, by rw [HRE2.out]; exact HJ4.out, HF4.out⟩
        | false =>
          have hz2 : (z.eat en).2 = z := eat_not HB2.out.symm
          have HP4' : Hid (PSt W B s w4 z) := Lib.hid (by rw [← hz2]; exact HP4.out)
          have HRE2 : Hid (itemsG one en g (z.need 44) y = RES) := Lib.hid (by rw [HG1.out, if_neg (by rw [← HB2.out]; decide)])
          clear hz2
          go_wp2_with fail
          refine (HNEED.out w4 z HP4'.out).mono ?_
          rintro e w5 ⟨rfl, hp5, hf5⟩
          have HP5 := Lib.hid hp5
          have HJ5 := Lib.hid (HJ.out w4 w5 y HJ4.out hf5)
          have HF5 : Hid (Fr (fun b => b = B ∨ base ≤ b) w w5) := Lib.hid (HF4.out.trans (hf5.mono (fun b _ e => .inl e)))
          have HMN := Lib.hid (need_mu z 44)
          clear hp5 hf5
          go_wp2
          go_roundw
          case rel => exact ⟨g, z.need 44, y, HRE2, Lib.hid (by have := HMN.out; have := HLQ.out; have := HM.out; have := HMU.out; have := HGF.out; omega), HP5, HJ5, HF5, HZN⟩
          case measure => rw [HP5.out.mu, HP.out.mu]; have := HMN.out; have := HLQ.out; have := HMU.out; omega
      · have q0 : (q.e == 0) = false := by rw [beq_eq_false_iff_ne]; exact he
        have HRE2 : Hid (RES = (q, b)) := Lib.hid (by rw [← HG.out]; cases f <;> unfold itemsG <;> simp [he])
        clear he
        go_wp2
        go_returns
        exact ⟨rfl, by rw [HRE2.out]; exact HP.out, by rw [HRE2.out]; exact HJB.out, HF.out⟩
end
end Go.Proofs.YteofdpogjnojnaaGreatDoor
