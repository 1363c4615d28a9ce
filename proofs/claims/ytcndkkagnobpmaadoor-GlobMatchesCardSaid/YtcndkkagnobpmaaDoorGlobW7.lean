/-
  glob.Match, Any, Prefix.
-/
import Derived.Test.YtcndkkagnobpmaaDoorGlobW6
import Derived.Test.YtcndkkagnobpmaaDoorGlobR2
namespace Go.Proofs.YtcndkkagnobpmaaDoor
open Go.RowKit Glob
set_option linter.unusedVariables false

namespace Glob
def allL (p : List UInt8 → List UInt8 → Bool) : List (List UInt8) → List (List UInt8) → Bool
  | [], [] => true
  | a :: l, b :: m => p a b && allL p l m
  | _, _ => false
def matchL (p s : List UInt8) : Bool := patL p && (pathL s && allL oneL (cutS 47 p) (cutS 47 s))
def prefixL (s : List UInt8) : Bool := !s.isEmpty && (decide (s.length ≤ 64) && s.all isHex)
end Glob
theorem allS_allL (p : List UInt8 → List UInt8 → Bool) : ∀ (l m : List ByteArray), allS (fun a b => p a.data.toList b.data.toList) l m = allL p (l.map (·.data.toList)) (m.map (·.data.toList))
  | [], [] => rfl
  | [], _ :: _ => rfl
  | _ :: _, [] => rfl
  | a :: l, b :: m => by
    show (p a.data.toList b.data.toList && allS _ l m) = (p a.data.toList b.data.toList && allL p _ _)
    rw [allS_allL p l m]
theorem equalFunc_all (g : Nat) (lb : Array Value) (eg : ∀ args w, (callFunc g args).run Tryd.prog w = .ok (.enter g args) w) (A B : Option Addr) (c d : Nat) (l m : List ByteArray) (w : World) (p : ByteArray → ByteArray → Bool)
    (hl : SS w A l) (hm : SS w B m) (hn : l.length ≤ 9223372036854775807) (hn2 : m.length ≤ 9223372036854775807) (hp : PredS2 g lb w l m p) :
    Calls Tryd.prog 49 #[.slice A l.length c, .slice B m.length d, .func (.func g) #[] lb] w fun e w' => e = .returned (.bool (allS p l m)) ∧ Below w.heap.size w w' := by
  by_cases h : l.length = m.length
  · rw [h]
    exact equalFunc_any g lb eg A B m.length c d l m w p hl hm h rfl hn2 hp
  · rw [allS_len p l m h]
    exact equalFunc_len g lb A B _ _ c d w h hn hn2
theorem seg_sizes {l : List ByteArray} {s : ByteArray} (hs : s.size ≤ 100000) (hl : l.map (·.data.toList) = cutS 47 s.data.toList) : l.length ≤ 100001 ∧ ∀ a ∈ l, a.size ≤ 100000 := by
  have h2 : s.data.toList.length = s.size := by cases s; simp [ByteArray.size]
  refine ⟨?_, fun a ha => ?_⟩
  · have h1 := cutS_len 47 s.data.toList
    rw [← hl, List.length_map] at h1
    omega
  · have h := cutS_le 47 s.data.toList a.data.toList (by rw [← hl]; exact List.mem_map_of_mem ha)
    have h3 : a.data.toList.length = a.size := by cases a; simp [ByteArray.size]
    omega
set_option maxHeartbeats 1000000 in
theorem match_any (p s : ByteArray) (w : World) (hp : p.size ≤ 100000) (hs : s.size ≤ 100000) (hT : Tab w) : Calls Tryd.prog 24 #[.string p, .string s] w fun e w' => e = .returned (.bool (matchL p.data.toList s.data.toList)) ∧ Below w.heap.size w w' := by
  obtain ⟨r, hr⟩ : ∃ r, r = matchL p.data.toList s.data.toList := ⟨_, rfl⟩
  rw [← hr]
  have HR := Lib.hid hr
  clear hr
  have HA := fun w h => Lib.hid (pattern_any p w hp h)
  have HB := fun w h => Lib.hid (path_any s w hs h)
  cases h1 : patL p.data.toList with
  | false =>
    have HI : Hid (r = false) := by show _ = _; rw [HR.out]; unfold matchL; rw [h1]; rfl
    rw [h1] at HA
    clear h1
    go_enter Tryd.func24, Tryd.ntmps24
    go_wp2_with fail
    refine (HA _ hT).out.mono ?_
    rintro e w1 ⟨rfl, hb1⟩
    go_wp2
    go_ret
    exact ⟨by rw [HI.out]; rfl, hb1⟩
  | true =>
    cases h2 : pathL s.data.toList with
    | false =>
      have HI : Hid (r = false) := by show _ = _; rw [HR.out]; unfold matchL; rw [h1, h2]; rfl
      rw [h1] at HA
      rw [h2] at HB
      clear h1 h2
      go_enter Tryd.func24, Tryd.ntmps24
      go_wp2_with fail
      refine (HA _ hT).out.mono ?_
      rintro e w1 ⟨rfl, hb1⟩
      go_wp2_with fail
      refine (HB _ (hT.below hb1)).out.mono ?_
      rintro e w2 ⟨rfl, hb2⟩
      go_wp2
      go_ret
      exact ⟨by rw [HI.out]; rfl, hb1.trans (hb2.mono hb1.size)⟩
    | true =>
      have HI : Hid (r = allL oneL (cutS 47 p.data.toList) (cutS 47 s.data.toList)) := by show _ = _; rw [HR.out]; unfold matchL; rw [h1, h2]; rfl
      have HC := fun w h => Lib.hid (gsplit_yes p w hp h h1)
      have HD := fun w h => Lib.hid (gsplit_yes s w hs h (path_pat _ h2))
      rw [h1] at HA
      rw [h2] at HB
      clear h1 h2
      go_enter Tryd.func24, Tryd.ntmps24
      go_wp2_with fail
      refine (HA _ hT).out.mono ?_
      rintro e w1 ⟨rfl, hb1⟩
      have hT1 := hT.below hb1
      go_wp2_with fail
      refine (HB _ hT1).out.mono ?_
      rintro e w2 ⟨rfl, hb2⟩
      have hT2 := hT1.below hb2
      go_wp2_with fail
      refine (HC _ hT2).out.mono ?_
      rintro e w3 ⟨A, l, hl, rfl, hA, hb3⟩
      have hT3 := hT2.below hb3
      have HL := Lib.hid hl
      clear hl
      go_wp2_with fail
      refine (HD _ hT3).out.mono ?_
      rintro e w4 ⟨B, m, hm, rfl, hB, hb4⟩
      have hT4 := hT3.below hb4
      have HM := Lib.hid hm
      clear hm
      have hsl := seg_sizes hp HL.out
      have hsm := seg_sizes hs HM.out
      have HE := Lib.hid (equalFunc_all 50 #[] (enters_of Tryd.func50 (by kernel_rfl) rfl) A B l.length m.length l m w4 (fun a b => oneL a.data.toList b.data.toList) (hA.below hb4) hB (by omega) (by omega)
        (fun k h1 h2 W hb => (one_any l[k] m[k] W (hsl.2 _ (List.getElem_mem h1)) (hsm.2 _ (List.getElem_mem h2)) (hT4.below hb)).mono fun e w' ⟨he, hw⟩ => ⟨he, hb.trans (hw.mono hb.size)⟩))
      rw [allS_allL, HL.out, HM.out, ← HI.out] at HE
      go_wp2_with fail
      refine HE.out.mono ?_
      rintro e w5 ⟨rfl, hb5⟩
      go_wp2
      go_ret
      have a1 := hb1.trans (hb2.mono hb1.size)
      have a2 := a1.trans (hb3.mono a1.size)
      have a3 := a2.trans (hb4.mono a2.size)
      exact ⟨by simp, a3.trans (hb5.mono a3.size)⟩
set_option maxHeartbeats 1000000 in
theorem anyc_any (p path : ByteArray) (B : Nat) (w : World) (hp : p.size ≤ 100000) (hs : path.size ≤ 100000) (hT : Tab w) (hB : w.cell? ⟨B, 0, none⟩ = some (.string path)) :
    Calls Tryd.prog 58 #[.string p, .pointer (some ⟨B, 0, none⟩)] w fun e w' => e = .returned (.bool (matchL p.data.toList path.data.toList)) ∧ Below w.heap.size w w' := by
  obtain ⟨r, hr⟩ : ∃ r, r = matchL p.data.toList path.data.toList := ⟨_, rfl⟩
  have HM := match_any p path w hp hs hT
  rw [← hr] at HM ⊢
  clear hr
  have HM := Lib.hid HM
  go_enter Tryd.func58, Tryd.ntmps58
  go_wp2_with fail
  refine HM.out.mono ?_
  rintro e w' ⟨rfl, hb⟩
  go_wp2
  go_ret
  exact ⟨rfl, hb⟩
set_option maxHeartbeats 1000000 in
theorem anyG_any (A : Option Addr) (n c : Nat) (l : List ByteArray) (path : ByteArray) (w : World) (hl : SS w A l) (hn : l.length = n) (hbig : n ≤ 9223372036854775807) (hls : ∀ a ∈ l, a.size ≤ 100000) (hs : path.size ≤ 100000) (hT : Tab w) :
    Calls Tryd.prog 27 #[.slice A n c, .string path] w fun e w' => e = .returned (.int .i64 (idxS (fun p => matchL p.data.toList path.data.toList) l)) ∧ Below w.heap.size w w' := by
  have hb0 : Below w.heap.size w (w.alloc (.cells #[.string path] 9)) := (Below.refl _ _).alloc (Nat.le_refl _) _
  have hc0 : (w.alloc (.cells #[.string path] 9)).cell? ⟨w.heap.size, 0, none⟩ = some (.string path) := (Blk.new w 9 #[.string path]).cell 0
  have HI := indexFunc_any 58 #[.pointer (some ⟨w.heap.size, 0, none⟩)] (enters_of Tryd.func58 (by kernel_rfl) rfl) A n c l (w.alloc (.cells #[.string path] 9)) (fun p => matchL p.data.toList path.data.toList) (hl.below hb0) hn hbig
    (fun k h1 W hb => (anyc_any l[k] path w.heap.size W (hls _ (List.getElem_mem h1)) hs ((hT.below hb0).below hb) ((hb.cell (p := ⟨w.heap.size, 0, none⟩) (by simp)).trans hc0)).mono fun e w' ⟨he, hw⟩ => ⟨he, hb.trans (hw.mono hb.size)⟩)
  obtain ⟨r, hr⟩ : ∃ r, r = idxS (fun p => matchL p.data.toList path.data.toList) l := ⟨_, rfl⟩
  rw [← hr] at HI ⊢
  have HI := Lib.hid HI
  clear hr hc0
  go_enter Tryd.func27, Tryd.ntmps27
  go_wp2_with fail
  refine HI.out.mono ?_
  rintro e w' ⟨rfl, hb⟩
  go_wp2
  go_ret
  exact ⟨rfl, hb0.trans (hb.mono (by simp))⟩
end Go.Proofs.YtcndkkagnobpmaaDoor
