/-
  sha.Hash: Write.
-/
import Derived.Test.YtcndkkagnobpmaaDoorSha4
import Derived.Test.YtcndkkagnobpmaaDoorCl
import Derived.Test.YtcndkkagnobpmaaDoorBy
import Derived.Deep.RegionWith
namespace Go.Proofs.YtcndkkagnobpmaaDoor
open Go.RowKit
set_option linter.unusedVariables false

/-- the state behind so many blocks of a text -/
def eatN (s : St) (L : List UInt8) : Nat → St
  | 0 => s
  | k + 1 => blockI (eatN s L k) ((L.drop (64 * k)).take 64)
theorem blockI_isW (s : St) (b : List UInt8) : (blockI s b).isW := by
  have h : ∀ x y, isW (add32 x y) := fun x y => by unfold isW add32; omega
  exact ⟨h _ _, h _ _, h _ _, h _ _, h _ _, h _ _, h _ _, h _ _⟩
theorem eatN_isW (s : St) (hs : s.isW) (L : List UInt8) : ∀ k, (eatN s L k).isW
  | 0 => hs
  | k + 1 => blockI_isW _ _
/-- a hash's block: the state, the bytes that make no block yet, how many were written -/
def hashV (s : St) (v : Value) (n : Int) : Array Value := #[.int .u32 s.a, .int .u32 s.b, .int .u32 s.c, .int .u32 s.d, .int .u32 s.e, .int .u32 s.f, .int .u32 s.g, .int .u32 s.h, v, .int .i64 n]
def sliceLen : Value → Nat
  | .slice _ n _ => n
  | _ => 0
theorem RB.cut64 {w : World} {A : Option Addr} {l : List UInt8} {c : Nat} (h : RB w A l) (hl : 64 ≤ l.length) (hc : l.length ≤ c) : RB w (if c = 64 then A else Option.map (fun x => (⟨x.block, x.off + 64, none⟩ : Addr)) A) (l.drop 64) := by
  have := h.cut hl hc
  simpa [Addr.add] using this
structure HashAt (w : World) (g : Nat) (s : St) (rest : List UInt8) (n : Nat) : Prop where
  ex : ∃ A c, Blk w g 131 (hashV s (.slice A rest.length c) n) ∧ RB w A rest ∧ rest.length ≤ c ∧ c ≤ maxLen
theorem hash_cells {w : World} {g : Nat} {s : St} {v : Value} {n : Int} (h : Blk w g 131 (hashV s v n)) : w.cell? ⟨g, 0, none⟩ = some (.int .u32 s.a) ∧ w.cell? ⟨g, 1, none⟩ = some (.int .u32 s.b) ∧ w.cell? ⟨g, 2, none⟩ = some (.int .u32 s.c) ∧ w.cell? ⟨g, 3, none⟩ = some (.int .u32 s.d) ∧ w.cell? ⟨g, 4, none⟩ = some (.int .u32 s.e) ∧ w.cell? ⟨g, 5, none⟩ = some (.int .u32 s.f) ∧ w.cell? ⟨g, 6, none⟩ = some (.int .u32 s.g) ∧ w.cell? ⟨g, 7, none⟩ = some (.int .u32 s.h) ∧ w.cell? ⟨g, 8, none⟩ = some v ∧ w.cell? ⟨g, 9, none⟩ = some (.int .i64 n) :=
  ⟨h.cell 0, h.cell 1, h.cell 2, h.cell 3, h.cell 4, h.cell 5, h.cell 6, h.cell 7, h.cell 8, h.cell 9⟩
theorem Blk.set8 {w : World} {g : Nat} {s t : St} {v : Value} {n : Int} (h : Blk w g 131 (hashV s v n)) : Blk ((((((((w.setCell ⟨g, 0, none⟩ (.int .u32 t.a)).setCell ⟨g, 1, none⟩ (.int .u32 t.b)).setCell ⟨g, 2, none⟩ (.int .u32 t.c)).setCell ⟨g, 3, none⟩ (.int .u32 t.d)).setCell ⟨g, 4, none⟩ (.int .u32 t.e)).setCell ⟨g, 5, none⟩ (.int .u32 t.f)).setCell ⟨g, 6, none⟩ (.int .u32 t.g)).setCell ⟨g, 7, none⟩ (.int .u32 t.h)) g 131 (hashV t v n) := by
  have := (((((((h.set_ 0 (.int .u32 t.a)).set_ 1 (.int .u32 t.b)).set_ 2 (.int .u32 t.c)).set_ 3 (.int .u32 t.d)).set_ 4 (.int .u32 t.e)).set_ 5 (.int .u32 t.f)).set_ 6 (.int .u32 t.g)).set_ 7 (.int .u32 t.h)
  unfold hashV at this ⊢
  simpa only [List.setIfInBounds_toArray, List.set_cons_zero, List.set_cons_succ] using this
theorem Blk.setRest {w : World} {g : Nat} {s : St} {v v' : Value} {n : Int} (h : Blk w g 131 (hashV s v n)) : Blk (w.setCell ⟨g, 8, none⟩ v') g 131 (hashV s v' n) := by
  have := h.set_ 8 v'
  unfold hashV at this ⊢
  simpa only [List.setIfInBounds_toArray, List.set_cons_zero, List.set_cons_succ] using this
theorem Blk.setLen {w : World} {g : Nat} {s : St} {v : Value} {n n' : Int} (h : Blk w g 131 (hashV s v n)) : Blk (w.setCell ⟨g, 9, none⟩ (.int .i64 n')) g 131 (hashV s v n') := by
  have := h.set_ 9 (.int .i64 n')
  unfold hashV at this ⊢
  simpa only [List.setIfInBounds_toArray, List.set_cons_zero, List.set_cons_succ] using this
theorem Blk.noHash {w : World} {g : Nat} {s : St} {A : Option Addr} {k c : Nat} {n : Int} (h : Blk w g 131 (hashV s (.slice A k c) n)) : NoBy w g := NoBy.of_blk h (by
  intro k x
  unfold hashV
  rcases (by omega : k = 0 ∨ k = 1 ∨ k = 2 ∨ k = 3 ∨ k = 4 ∨ k = 5 ∨ k = 6 ∨ k = 7 ∨ k = 8 ∨ k = 9 ∨ 10 ≤ k) with rfl | rfl | rfl | rfl | rfl | rfl | rfl | rfl | rfl | rfl | h
  all_goals first | (intro h; cases h) | (rw [Array.getElem?_eq_none (by simpa using h)]; intro h; cases h))

set_option maxRecDepth 100000 in
set_option maxHeartbeats 4000000 in
theorem write_any (g : Nat) (s : St) (rest : List UInt8) (m : Nat) (A : Option Addr) (n c : Nat) (b : List UInt8) (w : World) (hs : s.isW) (hK : TabK w) (hH : HashAt w g s rest m) (hr : RB w A b) (hn : b.length = n) (hc : n ≤ c) (hcm : c ≤ maxLen) (hz : m + n ≤ 70368744177664) (hrz : rest.length < 64) :
    Calls Tryd.prog 78 #[.pointer (some ⟨g, 0, none⟩), .slice A n c] w fun e w' => e = .returned (.int .i64 n) ∧ HashAt w' g (eatN s (rest ++ b) ((rest ++ b).length / 64)) ((rest ++ b).drop (64 * ((rest ++ b).length / 64))) (m + n) ∧ Fr (· = g) w w' := by
  obtain ⟨A0, c0, hB, hr0, hc0, hc0m⟩ := hH.ex
  unfold maxLen at hcm hc0m
  have h0 := hB.cell 8
  have h1 := hB.cell 9
  have hf1 := hB.frozen 9
  have HN := Lib.hid hn
  have HB := Lib.hid hB
  have HH := Lib.hid hH
  have HS := Lib.hid hs
  obtain ⟨r, hrr⟩ : ∃ r, r = rest.length := ⟨_, rfl⟩
  have HR := Lib.hid hrr
  rw [← hrr] at h0 hc0
  have hGW : g < w.heap.size := HB.out.lt
  clear hB hH hn hs hrr
  unfold hashV at h0 h1
  simp only [List.getElem?_toArray, List.getElem?_cons_succ, List.getElem?_cons_zero] at h0 h1
  have HL1 : Hid (Blk (w.setCell ⟨g, 9, none⟩ (.int .i64 ((m : Int) + (n : Int)))) g 131 (hashV s (.slice A0 r c0) ((m : Int) + (n : Int)))) := by
    have := HB.out.setLen (n' := (m : Int) + (n : Int))
    rw [← HR.out] at this
    exact this
  have HF1 := Lib.hid (fr_cell (w := w) (g := g) (k := 9) (.int .i64 ((m : Int) + (n : Int))))
  have HRB1 := Lib.hid (hr.fr2 HF1.out (fun k hk _ => hk ▸ HB.out.noHash))
  have HRR1 := Lib.hid (hr0.fr2 HF1.out (fun k hk _ => hk ▸ HB.out.noHash))
  have HK1 : Hid (TabK (w.setCell ⟨g, 9, none⟩ (.int .i64 ((m : Int) + (n : Int))))) := TabK.fr hK HF1.out (fun e => hK.ne HB.out (by simp [hashV]) e)
  have hr64 : r < 64 := by rw [HR.out]; exact hrz
  have hE : ∃ L, L = rest ++ b := ⟨_, rfl⟩
  obtain ⟨L, hL⟩ := hE
  rcases Nat.eq_zero_or_pos r with hr00 | hr00
  · have hrn : rest = [] := List.eq_nil_of_length_eq_zero (by rw [← HR.out]; exact hr00)
    have HLn : Hid (L.length = n) := by show _ = _; rw [hL, hrn, List.nil_append, HN.out]
    have HRL : Hid (RB (w.setCell ⟨g, 9, none⟩ (.int .i64 ((m : Int) + (n : Int)))) A L) := by show RB _ _ _; rw [hL, hrn, List.nil_append]; exact HRB1.out
    have HLL := Lib.hid hL
    have hr0f : decide ((0 : Int) < (r : Int)) = false := by rw [decide_eq_false_iff_not]; omega
    have hr0g : decide (0 < r) = false := by rw [decide_eq_false_iff_not]; omega
    clear hrn hL hr00
    go_enter Tryd.func78, Tryd.ntmps78
    go_wp2
    generalize w.setCell ⟨g, 9, none⟩ (.int .i64 ((m : Int) + (n : Int))) = W1 at HL1 HF1 HRB1 HRR1 HK1 HRL ⊢
    have hcM : c ≤ 9223372036854775807 := by omega
    have hnM : n ≤ 140737488355328 := by omega
    clear hcm hz hr0 hf1 h0 h1 hK hr hc0m HRB1 HRR1
    go_loopw [5] (fun v wr => ∃ (k : Nat) (A' : Option Addr) (c' n' : Nat), v = .slice A' n' c' ∧ n' ≤ c' ∧ c' ≤ 9223372036854775807 ∧ n' ≤ 140737488355328 ∧ Hid (n' + 64 * k = L.length) ∧ Hid (RB wr A' (L.drop (64 * k))) ∧ Hid (Blk wr g 131 (hashV (eatN s L k) (.slice A0 r c0) ((m : Int) + (n : Int)))) ∧ Hid (Fr (· = g) w wr) ∧ Hid (TabK wr)) (fun v _ => sliceLen v)
    case atStart => exact ⟨0, _, _, _, rfl, by omega, by omega, by omega, Lib.hid (by rw [HLn.out]; omega), Lib.hid (by rw [Nat.mul_zero, List.drop_zero]; exact HRL.out), HL1, HF1, HK1⟩
    case round =>
      obtain ⟨k, A', c', n', rfl, hlc, hcc, hnn, HLK, HRK, HBK, HFK, HKK⟩ := hrel
      clear HRL HL1 HF1 HK1 hcM hnM
      rcases (by omega : 64 ≤ n' ∨ n' < 64) with h64 | h64
      · have hi : decide ((64 : Int) ≤ (n' : Int)) = true := by rw [decide_eq_true_iff]; omega
        have hc64 : (64 : Int) ≤ (c' : Int) := by omega
        have hn64 : (64 : Int) ≤ (n' : Int) := by omega
        have h640 : (0 : Int) ≤ 64 := by omega
        obtain ⟨CK, hCK⟩ : ∃ CK, CK = (L.drop (64 * k)).take 64 := ⟨_, rfl⟩
        have hlen : CK.length = 64 := by have := HLK.out; rw [hCK, List.length_take, List.length_drop]; omega
        have hsw := eatN_isW s HS.out L k
        obtain ⟨S, hS⟩ : ∃ S, S = eatN s L k := ⟨_, rfl⟩
        have hnx : eatN s L (k + 1) = blockI S CK := by rw [hS, hCK]; rfl
        obtain ⟨S', hS'⟩ : ∃ S', S' = blockI S CK := ⟨_, rfl⟩
        have HC := block_any S (by rw [hS]; exact hsw) A' c' CK wr.drew HKK.out (by rw [hCK]; exact HRK.out.take (by have := HLK.out; rw [List.length_drop]; omega)) hlen (by omega) (by omega)
        rw [← hS'] at HC
        unfold stV at HC
        have HC := Lib.hid HC
        have HNX : Hid (eatN s L (k + 1) = S') := hnx.trans hS'.symm
        rw [← hS] at HBK
        obtain ⟨q0, q1, q2, q3, q4, q5, q6, q7, _, _⟩ := hash_cells HBK.out
        clear hCK hlen hsw hS hnx hS'
        go_wp2
        go_region_with ((go_at_call 103; refine HC.out.mono ?_; rintro e w3 ⟨rfl, hb3⟩; have HB3 := (HBK.out.drew).below hb3 HBK.out.lt; obtain ⟨p0, p1, p2, p3, p4, p5, p6, p7, p8, p9⟩ := hash_cells HB3; have f0 := HB3.frozen 0; have f1 := HB3.frozen 1; have f2 := HB3.frozen 2; have f3 := HB3.frozen 3; have f4 := HB3.frozen 4; have f5 := HB3.frozen 5; have f6 := HB3.frozen 6; have f7 := HB3.frozen 7))
        have hFr : Fr (· = g) wr ((((((((w3.setCell ⟨g, 0, none⟩ (.int .u32 S'.a)).setCell ⟨g, 1, none⟩ (.int .u32 S'.b)).setCell ⟨g, 2, none⟩ (.int .u32 S'.c)).setCell ⟨g, 3, none⟩ (.int .u32 S'.d)).setCell ⟨g, 4, none⟩ (.int .u32 S'.e)).setCell ⟨g, 5, none⟩ (.int .u32 S'.f)).setCell ⟨g, 6, none⟩ (.int .u32 S'.g)).setCell ⟨g, 7, none⟩ (.int .u32 S'.h)) :=
          ((((((((((Fr.refl (· = g) wr).drew).below hb3).setCell (fun _ => rfl) _).setCell (fun _ => rfl) _).setCell (fun _ => rfl) _).setCell (fun _ => rfl) _).setCell (fun _ => rfl) _).setCell (fun _ => rfl) _).setCell (fun _ => rfl) _).setCell (fun _ => rfl) _
        have HB4 := Lib.hid (Blk.set8 (t := S') HB3)
        have HF4 := Lib.hid (HFK.out.trans hFr)
        have hgk : (0 : Nat) ≠ g := HKK.out.ne HBK.out (by simp [hashV])
        have HK4 : Hid (TabK _) := TabK.fr HKK.out hFr hgk
        have HR4 := Lib.hid (HRK.out.fr2 hFr (fun k hk _ => hk ▸ HBK.out.noHash))
        clear hFr HB3 p0 p1 p2 p3 p4 p5 p6 p7 p8 p9 f0 f1 f2 f3 f4 f5 f6 f7 hb3 q0 q1 q2 q3 q4 q5 q6 q7 HBK HFK HKK HRK HC
        generalize (((((((w3.setCell ⟨g, 0, none⟩ (.int .u32 S'.a)).setCell ⟨g, 1, none⟩ (.int .u32 S'.b)).setCell ⟨g, 2, none⟩ (.int .u32 S'.c)).setCell ⟨g, 3, none⟩ (.int .u32 S'.d)).setCell ⟨g, 4, none⟩ (.int .u32 S'.e)).setCell ⟨g, 5, none⟩ (.int .u32 S'.f)).setCell ⟨g, 6, none⟩ (.int .u32 S'.g)).setCell ⟨g, 7, none⟩ (.int .u32 S'.h) = W4 at HB4 HF4 HK4 HR4 ⊢
        go_wp2
        refine ⟨⟨k + 1, _, _, _, rfl, by omega, by omega, by omega, Lib.hid (by have := HLK.out; omega), Lib.hid ?_, by rw [HNX.out]; exact HB4, HF4, HK4⟩, by simp only [sliceLen]; omega⟩
        have := HR4.out.cut64 (c := c') (by have := HLK.out; rw [List.length_drop]; omega) (by have := HLK.out; rw [List.length_drop]; omega)
        rw [List.drop_drop] at this
        exact this
      · have hi : decide ((64 : Int) ≤ (n' : Int)) = false := by rw [decide_eq_false_iff_not]; omega
        have hq : L.length / 64 = k := by have := HLK.out; omega
        have hrl : (L.drop (64 * k)).length = n' := by have := HLK.out; rw [List.length_drop]; omega
        have HQ := Lib.hid hq
        have HRLn := Lib.hid hrl
        clear hq hrl
        go_wp2_with fail
        refine (clone_n A' n' c' _ _ HRLn.out hnn HRK.out).mono ?_
        rintro e w5 ⟨v, rfl, hv, hb5⟩
        obtain ⟨A5, c5, rfl, hl5, hm5, hr5, _⟩ := hv.shape
        clear hv
        rw [HRLn.out] at hl5 ⊢
        have HB5 := HBK.out.below hb5 HBK.out.lt
        have HF5 := HFK.out.below hb5
        have hcell := HB5.cell 8
        unfold hashV at hcell
        simp only [List.getElem?_toArray, List.getElem?_cons_succ, List.getElem?_cons_zero] at hcell
        have hfr5 := HB5.frozen 8
        have HB6 := Lib.hid (HB5.setRest (v' := .slice A5 n' c5))
        have HF6 := Lib.hid (HF5.setCell (p := ⟨g, 8, none⟩) (fun _ => rfl) (.slice A5 n' c5))
        have HR6 := Lib.hid (hr5.fr2 (fr_cell (w := w5) (g := g) (k := 8) (.slice A5 n' c5)) (fun k hk _ => hk ▸ HB5.noHash))
        have HL5 := Lib.hid hl5
        have HM5 := Lib.hid hm5
        clear hl5 hm5 hr5 HB5 HF5 hb5 HRK HBK HFK HKK
        go_wp2
        go_ret
        rw [← HLL.out, HQ.out]
        exact ⟨rfl, ⟨A5, c5, by rw [HRLn.out]; push_cast; exact HB6.out, HR6.out, by rw [HRLn.out]; exact HL5.out, HM5.out⟩, HF6.out⟩
  · have HLn : Hid (L.length = r + n) := by show _ = _; rw [hL, List.length_append, HN.out, HR.out]
    have HLL := Lib.hid hL
    clear hL
    go_enter Tryd.func78, Tryd.ntmps78
    go_wp2_with fail
    have hps : Pts ((w.setCell ⟨g, 9, none⟩ (.int .i64 ((m : Int) + (n : Int)))).alloc (.cells #[.slice A0 r c0, .slice A n c] 22)) (some ⟨w.heap.size, 0, none⟩) [⟨A0, c0, rest⟩, ⟨A, c, b⟩] := by
      refine Pts.of_block (t := 22) ?_ ?_
      · have := Blk.new (w.setCell ⟨g, 9, none⟩ (.int .i64 ((m : Int) + (n : Int)))) 22 #[.slice A0 r c0, .slice A n c]
        have e : (w.setCell ⟨g, 9, none⟩ (.int .i64 ((m : Int) + (n : Int)))).heap.size = w.heap.size := by simp [World.setCell]
        rw [e] at this
        simpa [Pt.v, HR.out, HN.out] using this
      · intro p hp
        have hal : Below (w.setCell ⟨g, 9, none⟩ (.int .i64 ((m : Int) + (n : Int)))).heap.size (w.setCell ⟨g, 9, none⟩ (.int .i64 ((m : Int) + (n : Int)))) ((w.setCell ⟨g, 9, none⟩ (.int .i64 ((m : Int) + (n : Int)))).alloc (.cells #[.slice A0 r c0, .slice A n c] 22)) := (Below.refl _ _).alloc (Nat.le_refl _) _
        simp only [List.mem_cons, List.not_mem_nil, or_false] at hp
        rcases hp with rfl | rfl
        · exact HRR1.out.below hal
        · exact HRB1.out.below hal
    have hcat : catP [⟨A0, c0, rest⟩, ⟨A, c, b⟩] = L := by rw [HLL.out]; simp [catP]
    refine (concat_any _ 2 2 _ _ hps rfl (by omega) (by rw [hcat, HLn.out]; omega)).mono ?_
    rintro e w2 ⟨v, rfl, hv, hb2⟩
    rw [hcat] at hv
    obtain ⟨A', c', rfl, hlc, hcm', hRL, _⟩ := hv.shape
    have HL3 := Lib.hid ((HL1.out.alloc (.cells #[.slice A0 r c0, .slice A n c] 22)).below hb2 (by have := HL1.out.lt; simp at this ⊢; omega))
    have HK3 : Hid (TabK w2) := TabK.below (TabK.below HK1.out ((Below.refl _ _).alloc (Nat.le_refl _) _)) hb2
    have HF3 := Lib.hid ((HF1.out.alloc (.cells #[.slice A0 r c0, .slice A n c] 22)).below hb2)
    obtain ⟨n2, hn2⟩ : ∃ n2, n2 = L.length := ⟨_, rfl⟩
    rw [← hn2] at hlc ⊢
    have HRL := Lib.hid hRL
    have HLn3 : Hid (L.length = n2) := hn2.symm
    have hcM : c' ≤ 9223372036854775807 := by unfold maxLen at hcm'; omega
    have hnM : n2 ≤ 140737488355328 := by rw [hn2, HLn.out]; omega
    clear HLn hcm' hps hv hcat hb2 HL1 HF1 HRB1 HRR1 HK1 hz hr0 hf1 h0 h1 hK hr hc0m hn2 hRL hcm
    go_wp2
    have HL1 := HL3
    have HF1 := HF3
    have HK1 := HK3
    have HLn := HLn3
    clear HL3 HF3 HK3 HLn3
    go_loopw [5] (fun v wr => ∃ (k : Nat) (A' : Option Addr) (c' n' : Nat), v = .slice A' n' c' ∧ n' ≤ c' ∧ c' ≤ 9223372036854775807 ∧ n' ≤ 140737488355328 ∧ Hid (n' + 64 * k = L.length) ∧ Hid (RB wr A' (L.drop (64 * k))) ∧ Hid (Blk wr g 131 (hashV (eatN s L k) (.slice A0 r c0) ((m : Int) + (n : Int)))) ∧ Hid (Fr (· = g) w wr) ∧ Hid (TabK wr)) (fun v _ => sliceLen v)
    case atStart => exact ⟨0, _, _, _, rfl, by omega, by omega, by omega, Lib.hid (by rw [HLn.out]; omega), Lib.hid (by rw [Nat.mul_zero, List.drop_zero]; exact HRL.out), HL1, HF1, HK1⟩
    case round =>
      obtain ⟨k, A', c', n', rfl, hlc, hcc, hnn, HLK, HRK, HBK, HFK, HKK⟩ := hrel
      clear HRL HL1 HF1 HK1 hcM hnM
      rcases (by omega : 64 ≤ n' ∨ n' < 64) with h64 | h64
      · have hi : decide ((64 : Int) ≤ (n' : Int)) = true := by rw [decide_eq_true_iff]; omega
        have hc64 : (64 : Int) ≤ (c' : Int) := by omega
        have hn64 : (64 : Int) ≤ (n' : Int) := by omega
        have h640 : (0 : Int) ≤ 64 := by omega
        obtain ⟨CK, hCK⟩ : ∃ CK, CK = (L.drop (64 * k)).take 64 := ⟨_, rfl⟩
        have hlen : CK.length = 64 := by have := HLK.out; rw [hCK, List.length_take, List.length_drop]; omega
        have hsw := eatN_isW s HS.out L k
        obtain ⟨S, hS⟩ : ∃ S, S = eatN s L k := ⟨_, rfl⟩
        have hnx : eatN s L (k + 1) = blockI S CK := by rw [hS, hCK]; rfl
        obtain ⟨S', hS'⟩ : ∃ S', S' = blockI S CK := ⟨_, rfl⟩
        have HC := block_any S (by rw [hS]; exact hsw) A' c' CK wr.drew HKK.out (by rw [hCK]; exact HRK.out.take (by have := HLK.out; rw [List.length_drop]; omega)) hlen (by omega) (by omega)
        rw [← hS'] at HC
        unfold stV at HC
        have HC := Lib.hid HC
        have HNX : Hid (eatN s L (k + 1) = S') := hnx.trans hS'.symm
        rw [← hS] at HBK
        obtain ⟨q0, q1, q2, q3, q4, q5, q6, q7, _, _⟩ := hash_cells HBK.out
        clear hCK hlen hsw hS hnx hS'
        go_wp2
        go_region_with ((go_at_call 103; refine HC.out.mono ?_; rintro e w3 ⟨rfl, hb3⟩; have HB3 := (HBK.out.drew).below hb3 HBK.out.lt; obtain ⟨p0, p1, p2, p3, p4, p5, p6, p7, p8, p9⟩ := hash_cells HB3; have f0 := HB3.frozen 0; have f1 := HB3.frozen 1; have f2 := HB3.frozen 2; have f3 := HB3.frozen 3; have f4 := HB3.frozen 4; have f5 := HB3.frozen 5; have f6 := HB3.frozen 6; have f7 := HB3.frozen 7))
        have hFr : Fr (· = g) wr ((((((((w3.setCell ⟨g, 0, none⟩ (.int .u32 S'.a)).setCell ⟨g, 1, none⟩ (.int .u32 S'.b)).setCell ⟨g, 2, none⟩ (.int .u32 S'.c)).setCell ⟨g, 3, none⟩ (.int .u32 S'.d)).setCell ⟨g, 4, none⟩ (.int .u32 S'.e)).setCell ⟨g, 5, none⟩ (.int .u32 S'.f)).setCell ⟨g, 6, none⟩ (.int .u32 S'.g)).setCell ⟨g, 7, none⟩ (.int .u32 S'.h)) :=
          ((((((((((Fr.refl (· = g) wr).drew).below hb3).setCell (fun _ => rfl) _).setCell (fun _ => rfl) _).setCell (fun _ => rfl) _).setCell (fun _ => rfl) _).setCell (fun _ => rfl) _).setCell (fun _ => rfl) _).setCell (fun _ => rfl) _).setCell (fun _ => rfl) _
        have HB4 := Lib.hid (Blk.set8 (t := S') HB3)
        have HF4 := Lib.hid (HFK.out.trans hFr)
        have hgk : (0 : Nat) ≠ g := HKK.out.ne HBK.out (by simp [hashV])
        have HK4 : Hid (TabK _) := TabK.fr HKK.out hFr hgk
        have HR4 := Lib.hid (HRK.out.fr2 hFr (fun k hk _ => hk ▸ HBK.out.noHash))
        clear hFr HB3 p0 p1 p2 p3 p4 p5 p6 p7 p8 p9 f0 f1 f2 f3 f4 f5 f6 f7 hb3 q0 q1 q2 q3 q4 q5 q6 q7 HBK HFK HKK HRK HC
        generalize (((((((w3.setCell ⟨g, 0, none⟩ (.int .u32 S'.a)).setCell ⟨g, 1, none⟩ (.int .u32 S'.b)).setCell ⟨g, 2, none⟩ (.int .u32 S'.c)).setCell ⟨g, 3, none⟩ (.int .u32 S'.d)).setCell ⟨g, 4, none⟩ (.int .u32 S'.e)).setCell ⟨g, 5, none⟩ (.int .u32 S'.f)).setCell ⟨g, 6, none⟩ (.int .u32 S'.g)).setCell ⟨g, 7, none⟩ (.int .u32 S'.h) = W4 at HB4 HF4 HK4 HR4 ⊢
        go_wp2
        refine ⟨⟨k + 1, _, _, _, rfl, by omega, by omega, by omega, Lib.hid (by have := HLK.out; omega), Lib.hid ?_, by rw [HNX.out]; exact HB4, HF4, HK4⟩, by simp only [sliceLen]; omega⟩
        have := HR4.out.cut64 (c := c') (by have := HLK.out; rw [List.length_drop]; omega) (by have := HLK.out; rw [List.length_drop]; omega)
        rw [List.drop_drop] at this
        exact this
      · have hi : decide ((64 : Int) ≤ (n' : Int)) = false := by rw [decide_eq_false_iff_not]; omega
        have hq : L.length / 64 = k := by have := HLK.out; omega
        have hrl : (L.drop (64 * k)).length = n' := by have := HLK.out; rw [List.length_drop]; omega
        have HQ := Lib.hid hq
        have HRLn := Lib.hid hrl
        clear hq hrl
        go_wp2_with fail
        refine (clone_n A' n' c' _ _ HRLn.out hnn HRK.out).mono ?_
        rintro e w5 ⟨v, rfl, hv, hb5⟩
        obtain ⟨A5, c5, rfl, hl5, hm5, hr5, _⟩ := hv.shape
        clear hv
        rw [HRLn.out] at hl5 ⊢
        have HB5 := HBK.out.below hb5 HBK.out.lt
        have HF5 := HFK.out.below hb5
        have hcell := HB5.cell 8
        unfold hashV at hcell
        simp only [List.getElem?_toArray, List.getElem?_cons_succ, List.getElem?_cons_zero] at hcell
        have hfr5 := HB5.frozen 8
        have HB6 := Lib.hid (HB5.setRest (v' := .slice A5 n' c5))
        have HF6 := Lib.hid (HF5.setCell (p := ⟨g, 8, none⟩) (fun _ => rfl) (.slice A5 n' c5))
        have HR6 := Lib.hid (hr5.fr2 (fr_cell (w := w5) (g := g) (k := 8) (.slice A5 n' c5)) (fun k hk _ => hk ▸ HB5.noHash))
        have HL5 := Lib.hid hl5
        have HM5 := Lib.hid hm5
        clear hl5 hm5 hr5 HB5 HF5 hb5 HRK HBK HFK HKK
        go_wp2
        go_ret
        rw [← HLL.out, HQ.out]
        exact ⟨rfl, ⟨A5, c5, by rw [HRLn.out]; push_cast; exact HB6.out, HR6.out, by rw [HRLn.out]; exact HL5.out, HM5.out⟩, HF6.out⟩
end Go.Proofs.YtcndkkagnobpmaaDoor
