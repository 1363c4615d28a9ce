/-
  glob.Under, the document's Under.
-/
import Derived.Test.YtcndkkagnobpmaaDoorGlobR4
import Derived.Test.YtcndkkagnobpmaaDoorGlobW8
import Derived.Test.YtcndkkagnobpmaaDoorSha9
import Derived.Test.YtcndkkagnobpmaaDoorOctHex
import Derived.Test.YtcndkkagnobpmaaDoorConvB
import Derived.Test.YtcndkkagnobpmaaDoorRefHexA
namespace Go.Proofs.YtcndkkagnobpmaaDoor
open Go.RowKit Glob
set_option linter.unusedVariables false

namespace Glob
def underL (p s : List UInt8) : Bool := prefixL p && (pathL s && p.isPrefixOf (hexL (shaL s)))
end Glob
set_option maxRecDepth 100000 in
set_option maxHeartbeats 2000000 in
theorem under_any (p s : ByteArray) (w : World) (hp : p.size ≤ 100000) (hs : s.size ≤ 100000) (hT : Tab w) (hK : TabK w) : Calls Tryd.prog 25 #[.string p, .string s] w fun e w' => e = .returned (.bool (underL p.data.toList s.data.toList)) ∧ Below w.heap.size w w' := by
  obtain ⟨r, hr⟩ : ∃ r, r = underL p.data.toList s.data.toList := ⟨_, rfl⟩
  rw [← hr]
  have HR := Lib.hid hr
  clear hr
  have HA := fun w => Lib.hid (prefix_any p w hp)
  have HB := fun w h => Lib.hid (path_any s w hs h)
  cases h1 : prefixL p.data.toList with
  | false =>
    have HI : Hid (r = false) := by show _ = _; rw [HR.out]; unfold underL; rw [h1]; rfl
    rw [h1] at HA
    clear h1
    go_enter Tryd.func25, Tryd.ntmps25
    go_wp2_with fail
    refine (HA _).out.mono ?_
    rintro e w1 ⟨rfl, hb1⟩
    go_wp2
    go_ret
    exact ⟨by rw [HI.out]; rfl, hb1⟩
  | true =>
    cases h2 : pathL s.data.toList with
    | false =>
      have HI : Hid (r = false) := by show _ = _; rw [HR.out]; unfold underL; rw [h1, h2]; rfl
      rw [h1] at HA
      rw [h2] at HB
      clear h1 h2
      go_enter Tryd.func25, Tryd.ntmps25
      go_wp2_with fail
      refine (HA _).out.mono ?_
      rintro e w1 ⟨rfl, hb1⟩
      go_wp2_with fail
      refine (HB _ (hT.below hb1)).out.mono ?_
      rintro e w2 ⟨rfl, hb2⟩
      go_wp2
      go_ret
      exact ⟨by rw [HI.out]; rfl, hb1.trans (hb2.mono hb1.size)⟩
    | true =>
      have HI : Hid (r = p.data.toList.isPrefixOf (hexL (shaL s.data.toList))) := by show _ = _; rw [HR.out]; unfold underL; rw [h1, h2]; rfl
      rw [h1] at HA
      rw [h2] at HB
      clear h1 h2
      go_enter Tryd.func25, Tryd.ntmps25
      go_wp2_with fail
      refine (HA _).out.mono ?_
      rintro e w1 ⟨rfl, hb1⟩
      have hT1 := hT.below hb1
      go_wp2_with fail
      refine (HB _ hT1).out.mono ?_
      rintro e w2 ⟨rfl, hb2⟩
      have BW2 := Lib.hid (hb1.trans (hb2.mono hb1.size))
      clear hT1 hT hb1 hb2
      obtain ⟨cap, W3, hconv, hcap, hcapm, hrb, hb3⟩ := conv_bytes s w2 (by unfold maxLen; omega)
      have HRC := Lib.hid hconv
      have RC := HRC.out
      have hsl : s.data.toList.length = s.size := by cases s; simp [ByteArray.size]
      have hal : Below W3.heap.size W3 (W3.alloc (.cells #[.slice (some ⟨w2.heap.size, 0, none⟩) s.size cap] 22)) := (Below.refl _ _).alloc (Nat.le_refl _) _
      have HPS : Hid (Pts (W3.alloc (.cells #[.slice (some ⟨w2.heap.size, 0, none⟩) s.size cap] 22)) (some ⟨W3.heap.size, 0, none⟩) [⟨some ⟨w2.heap.size, 0, none⟩, cap, s.data.toList⟩]) := by
        refine Pts.of_block (t := 22) ?_ ?_
        · have := Blk.new W3 22 #[.slice (some ⟨w2.heap.size, 0, none⟩) s.size cap]
          simpa [Pt.v, hsl] using this
        · intro p hp
          rw [List.mem_singleton] at hp
          subst hp
          exact hrb.below hal
      have HK3 : Hid (TabK (W3.alloc (.cells #[.slice (some ⟨w2.heap.size, 0, none⟩) s.size cap] 22))) := TabK.below (TabK.below (TabK.below hK BW2.out) hb3) hal
      have BW3 := Lib.hid (BW2.out.trans ((hb3.trans (hal.mono hb3.size)).mono BW2.out.size))
      have HOF := Lib.hid (of_any (some ⟨W3.heap.size, 0, none⟩) 1 1 [⟨some ⟨w2.heap.size, 0, none⟩, cap, s.data.toList⟩] _ HK3.out HPS.out rfl (by omega) (by simp [catP, hsl]; omega) (by intro p hp; rw [List.mem_singleton] at hp; subst hp; exact ⟨by rw [hsl]; exact hcap, hcapm⟩))
      have hcat : catP [⟨some ⟨w2.heap.size, 0, none⟩, cap, s.data.toList⟩] = s.data.toList := by simp [catP]
      rw [hcat] at HOF
      clear hconv HRC hcapm hrb hb3 hal HPS HK3 hcat hsl hK
      go_wp2_with fail
      refine HOF.out.mono ?_
      rintro e w4 ⟨rfl, hb4⟩
      have BW4 := Lib.hid (BW3.out.trans (hb4.mono BW3.out.size))
      obtain ⟨D, hD⟩ : ∃ D, D = shaL s.data.toList := ⟨_, rfl⟩
      have hDl : D.length = 32 := by rw [hD, shaL_len]
      obtain ⟨V, hV⟩ : ∃ V, V = (Lib.byteCells D).toArray := ⟨_, rfl⟩
      rw [← hD, ← hV]
      rw [← hD] at HI
      have hVs : V.size = 32 := by rw [hV]; simp [Lib.byteCells, hDl]
      have HZB := Lib.hid (Blk.new w4 73 (#[.int .u8 0, .int .u8 0, .int .u8 0, .int .u8 0, .int .u8 0, .int .u8 0, .int .u8 0, .int .u8 0, .int .u8 0, .int .u8 0, .int .u8 0, .int .u8 0, .int .u8 0, .int .u8 0, .int .u8 0, .int .u8 0, .int .u8 0, .int .u8 0, .int .u8 0, .int .u8 0, .int .u8 0, .int .u8 0, .int .u8 0, .int .u8 0, .int .u8 0, .int .u8 0, .int .u8 0, .int .u8 0, .int .u8 0, .int .u8 0, .int .u8 0, .int .u8 0] : Array Value))
      have HIV : Hid ((Tryd.prog.info? 73).map (·.size) = some V.size) := by show _ = _; rw [hVs]; kernel_rfl
      have HOC : Hid (V.all (·.oneCell') = true) := by show _ = _; rw [hV]; simp [Lib.byteCells, Value.oneCell']
      have HS0 : Hid ((#[.int .u8 0, .int .u8 0, .int .u8 0, .int .u8 0, .int .u8 0, .int .u8 0, .int .u8 0, .int .u8 0, .int .u8 0, .int .u8 0, .int .u8 0, .int .u8 0, .int .u8 0, .int .u8 0, .int .u8 0, .int .u8 0, .int .u8 0, .int .u8 0, .int .u8 0, .int .u8 0, .int .u8 0, .int .u8 0, .int .u8 0, .int .u8 0, .int .u8 0, .int .u8 0, .int .u8 0, .int .u8 0, .int .u8 0, .int .u8 0, .int .u8 0, .int .u8 0] : Array Value).size = V.size) := by show _ = _; rw [hVs]; rfl
      have BW5 : Hid (Below w.heap.size w ((w4.alloc (.cells (#[.int .u8 0, .int .u8 0, .int .u8 0, .int .u8 0, .int .u8 0, .int .u8 0, .int .u8 0, .int .u8 0, .int .u8 0, .int .u8 0, .int .u8 0, .int .u8 0, .int .u8 0, .int .u8 0, .int .u8 0, .int .u8 0, .int .u8 0, .int .u8 0, .int .u8 0, .int .u8 0, .int .u8 0, .int .u8 0, .int .u8 0, .int .u8 0, .int .u8 0, .int .u8 0, .int .u8 0, .int .u8 0, .int .u8 0, .int .u8 0, .int .u8 0, .int .u8 0] : Array Value) 73)).setRow w4.heap.size V)) := below_setRow (BW4.out.alloc BW4.out.size _) BW4.out.size
      have HRB : Hid (RB ((w4.alloc (.cells (#[.int .u8 0, .int .u8 0, .int .u8 0, .int .u8 0, .int .u8 0, .int .u8 0, .int .u8 0, .int .u8 0, .int .u8 0, .int .u8 0, .int .u8 0, .int .u8 0, .int .u8 0, .int .u8 0, .int .u8 0, .int .u8 0, .int .u8 0, .int .u8 0, .int .u8 0, .int .u8 0, .int .u8 0, .int .u8 0, .int .u8 0, .int .u8 0, .int .u8 0, .int .u8 0, .int .u8 0, .int .u8 0, .int .u8 0, .int .u8 0, .int .u8 0, .int .u8 0] : Array Value) 73)).setRow w4.heap.size V) (some ⟨w4.heap.size, 0, none⟩) D) := by
        have := setRow_at HZB.out V
        rw [hV] at this ⊢
        exact RB.of_blk this
      have HDL := Lib.hid hDl
      clear hD hDl hV hVs BW3 HOF hb4
      go_wp2_with (refine wpList_store_row rfl 73 _ _ rfl w4.heap.size V rfl rfl 73 _ HZB.out HIV.out HS0.out HOC.out ?_)
      generalize (w4.alloc (.cells (#[.int .u8 0, .int .u8 0, .int .u8 0, .int .u8 0, .int .u8 0, .int .u8 0, .int .u8 0, .int .u8 0, .int .u8 0, .int .u8 0, .int .u8 0, .int .u8 0, .int .u8 0, .int .u8 0, .int .u8 0, .int .u8 0, .int .u8 0, .int .u8 0, .int .u8 0, .int .u8 0, .int .u8 0, .int .u8 0, .int .u8 0, .int .u8 0, .int .u8 0, .int .u8 0, .int .u8 0, .int .u8 0, .int .u8 0, .int .u8 0, .int .u8 0, .int .u8 0] : Array Value) 73)).setRow w4.heap.size V = w5 at BW5 HRB ⊢
      have HRB5 : Hid (Reads w5 w5.heap.size 1 (some ⟨w4.heap.size, 0, none⟩) 32 (Lib.byteCells D)) := by
        have := HRB.out
        unfold RB at this
        rw [HDL.out] at this
        exact this
      refine (hex_any (some ⟨w4.heap.size, 0, none⟩) 32 32 D w5 (by omega) HRB5.out).mono ?_
      rintro e w6 ⟨rfl, hb6⟩
      have BW6 := Lib.hid (BW5.out.trans (hb6.mono BW5.out.size))
      clear hb6
      go_wp2_with fail
      refine (Tryd.strings_HasPrefix _ _ _).mono ?_
      rintro e w' ⟨rfl, rfl⟩
      go_wp2
      go_ret
      exact ⟨by rw [HI.out]; simp [Lib.hasPrefix], BW6.out⟩
theorem prefixL_le {p : ByteArray} (h : prefixL p.data.toList = true) : p.size ≤ 64 := by
  unfold prefixL at h
  simp only [Bool.and_eq_true, decide_eq_true_eq] at h
  have := h.2.1
  have hl : p.data.toList.length = p.size := by cases p; simp [ByteArray.size]
  omega
theorem pre_extract (X p : ByteArray) (h : p.size ≤ X.size) : ((X.extract 0 p.size).toList == p.toList) = p.data.toList.isPrefixOf X.data.toList := by
  have hl : p.data.toList.length = p.size := by cases p; simp [ByteArray.size]
  rw [Lib.toList_data, Lib.toList_data, Bool.eq_iff_iff, beq_iff_eq, List.isPrefixOf_iff_prefix, List.prefix_iff_eq_take]
  have e : (X.extract 0 p.size).data.toList = X.data.toList.take p.size := by
    simp [ByteArray.data_extract, Array.toList_extract]
  rw [e, hl]
  exact eq_comm
set_option maxRecDepth 100000 in
set_option maxHeartbeats 2000000 in
theorem runder_any (p s : ByteArray) (w : World) (hp : p.size ≤ 100000) (hs : s.size ≤ 100000) : Calls Tryd.prog 26 #[.string p, .string s] w fun e w' => e = .returned (.bool (underL p.data.toList s.data.toList)) ∧ Below w.heap.size w w' := by
  obtain ⟨r, hr⟩ : ∃ r, r = underL p.data.toList s.data.toList := ⟨_, rfl⟩
  rw [← hr]
  have HR := Lib.hid hr
  clear hr
  have HA := fun w => Lib.hid (rprefix_any p w hp)
  have HB := fun w => Lib.hid (rpath_any s w hs)
  cases h1 : prefixL p.data.toList with
  | false =>
    have HI : Hid (r = false) := by show _ = _; rw [HR.out]; unfold underL; rw [h1]; rfl
    rw [h1] at HA
    clear h1
    go_enter Tryd.func26, Tryd.ntmps26
    go_wp2_with fail
    refine (HA _).out.mono ?_
    rintro e w1 ⟨rfl, rfl⟩
    go_wp2
    go_ret
    exact ⟨by rw [HI.out]; rfl, Below.refl _ _⟩
  | true =>
    cases h2 : pathL s.data.toList with
    | false =>
      have HI : Hid (r = false) := by show _ = _; rw [HR.out]; unfold underL; rw [h1, h2]; rfl
      rw [h1] at HA
      rw [h2] at HB
      clear h1 h2
      go_enter Tryd.func26, Tryd.ntmps26
      go_wp2_with fail
      refine (HA _).out.mono ?_
      rintro e w1 ⟨rfl, rfl⟩
      go_wp2_with fail
      refine (HB _).out.mono ?_
      rintro e w2 ⟨rfl, hb2⟩
      go_wp2
      go_ret
      exact ⟨by rw [HI.out]; rfl, hb2⟩
    | true =>
      have HI : Hid (r = p.data.toList.isPrefixOf (hexL (shaL s.data.toList))) := by show _ = _; rw [HR.out]; unfold underL; rw [h1, h2]; rfl
      have hp64 : p.size ≤ 64 := prefixL_le h1
      rw [h1] at HA
      rw [h2] at HB
      clear h1 h2
      go_enter Tryd.func26, Tryd.ntmps26
      go_wp2_with fail
      refine (HA _).out.mono ?_
      rintro e w1 ⟨rfl, rfl⟩
      go_wp2_with fail
      refine (HB _).out.mono ?_
      rintro e w2 ⟨rfl, hb2⟩
      have BW2 := Lib.hid (hb2)
      clear hb2
      obtain ⟨cap, W3, hconv, hcap, hcapm, hrb, hb3⟩ := conv_bytes s w2 (by unfold maxLen; omega)
      have HRC := Lib.hid hconv
      have RC := HRC.out
      have hsl : s.data.toList.length = s.size := by cases s; simp [ByteArray.size]
      have BW3 := Lib.hid (BW2.out.trans (hb3.mono BW2.out.size))
      have HOF := Lib.hid (refOf_any (some ⟨w2.heap.size, 0, none⟩) s.size cap s.data.toList W3 hrb hsl (by omega))
      clear hconv HRC hcapm hrb hb3 hsl
      go_wp2_with fail
      refine HOF.out.mono ?_
      rintro e w4 ⟨rfl, hb4⟩
      have BW4 := Lib.hid (BW3.out.trans (hb4.mono BW3.out.size))
      obtain ⟨D, hD⟩ : ∃ D, D = shaL s.data.toList := ⟨_, rfl⟩
      have hDl : D.length = 32 := by rw [hD, shaL_len]
      obtain ⟨V, hV⟩ : ∃ V, V = (Lib.byteCells D).toArray := ⟨_, rfl⟩
      rw [← hD, ← hV]
      rw [← hD] at HI
      have hVs : V.size = 32 := by rw [hV]; simp [Lib.byteCells, hDl]
      have HZB := Lib.hid (Blk.new w4 73 (#[.int .u8 0, .int .u8 0, .int .u8 0, .int .u8 0, .int .u8 0, .int .u8 0, .int .u8 0, .int .u8 0, .int .u8 0, .int .u8 0, .int .u8 0, .int .u8 0, .int .u8 0, .int .u8 0, .int .u8 0, .int .u8 0, .int .u8 0, .int .u8 0, .int .u8 0, .int .u8 0, .int .u8 0, .int .u8 0, .int .u8 0, .int .u8 0, .int .u8 0, .int .u8 0, .int .u8 0, .int .u8 0, .int .u8 0, .int .u8 0, .int .u8 0, .int .u8 0] : Array Value))
      have HIV : Hid ((Tryd.prog.info? 73).map (·.size) = some V.size) := by show _ = _; rw [hVs]; kernel_rfl
      have HOC : Hid (V.all (·.oneCell') = true) := by show _ = _; rw [hV]; simp [Lib.byteCells, Value.oneCell']
      have HS0 : Hid ((#[.int .u8 0, .int .u8 0, .int .u8 0, .int .u8 0, .int .u8 0, .int .u8 0, .int .u8 0, .int .u8 0, .int .u8 0, .int .u8 0, .int .u8 0, .int .u8 0, .int .u8 0, .int .u8 0, .int .u8 0, .int .u8 0, .int .u8 0, .int .u8 0, .int .u8 0, .int .u8 0, .int .u8 0, .int .u8 0, .int .u8 0, .int .u8 0, .int .u8 0, .int .u8 0, .int .u8 0, .int .u8 0, .int .u8 0, .int .u8 0, .int .u8 0, .int .u8 0] : Array Value).size = V.size) := by show _ = _; rw [hVs]; rfl
      have BW5 := Lib.hid (below_setRow (cs := V) (BW4.out.alloc BW4.out.size (.cells (#[.int .u8 0, .int .u8 0, .int .u8 0, .int .u8 0, .int .u8 0, .int .u8 0, .int .u8 0, .int .u8 0, .int .u8 0, .int .u8 0, .int .u8 0, .int .u8 0, .int .u8 0, .int .u8 0, .int .u8 0, .int .u8 0, .int .u8 0, .int .u8 0, .int .u8 0, .int .u8 0, .int .u8 0, .int .u8 0, .int .u8 0, .int .u8 0, .int .u8 0, .int .u8 0, .int .u8 0, .int .u8 0, .int .u8 0, .int .u8 0, .int .u8 0, .int .u8 0] : Array Value) 73)) BW4.out.size)
      have HRB : Hid (RB ((w4.alloc (.cells (#[.int .u8 0, .int .u8 0, .int .u8 0, .int .u8 0, .int .u8 0, .int .u8 0, .int .u8 0, .int .u8 0, .int .u8 0, .int .u8 0, .int .u8 0, .int .u8 0, .int .u8 0, .int .u8 0, .int .u8 0, .int .u8 0, .int .u8 0, .int .u8 0, .int .u8 0, .int .u8 0, .int .u8 0, .int .u8 0, .int .u8 0, .int .u8 0, .int .u8 0, .int .u8 0, .int .u8 0, .int .u8 0, .int .u8 0, .int .u8 0, .int .u8 0, .int .u8 0] : Array Value) 73)).setRow w4.heap.size V) (some ⟨w4.heap.size, 0, none⟩) D) := by
        have := setRow_at HZB.out V
        rw [hV] at this ⊢
        exact RB.of_blk this
      have HDL := Lib.hid hDl
      clear hD hDl hV hVs BW3 HOF hb4
      go_wp2_with (refine wpList_store_row rfl 73 _ _ rfl w4.heap.size V rfl rfl 73 _ HZB.out HIV.out HS0.out HOC.out ?_)
      generalize (w4.alloc (.cells (#[.int .u8 0, .int .u8 0, .int .u8 0, .int .u8 0, .int .u8 0, .int .u8 0, .int .u8 0, .int .u8 0, .int .u8 0, .int .u8 0, .int .u8 0, .int .u8 0, .int .u8 0, .int .u8 0, .int .u8 0, .int .u8 0, .int .u8 0, .int .u8 0, .int .u8 0, .int .u8 0, .int .u8 0, .int .u8 0, .int .u8 0, .int .u8 0, .int .u8 0, .int .u8 0, .int .u8 0, .int .u8 0, .int .u8 0, .int .u8 0, .int .u8 0, .int .u8 0] : Array Value) 73)).setRow w4.heap.size V = w5 at BW5 HRB ⊢
      have HRB5 : Hid (Reads w5 w5.heap.size 1 (some ⟨w4.heap.size, 0, none⟩) 32 (Lib.byteCells D)) := by
        have := HRB.out
        unfold RB at this
        rw [HDL.out] at this
        exact this
      refine (refHex_any (some ⟨w4.heap.size, 0, none⟩) 32 32 D w5 HDL.out (by omega) HRB.out).mono ?_
      rintro e w6 ⟨rfl, hb6⟩
      have BW6 := Lib.hid (BW5.out.trans (hb6.mono BW5.out.size))
      have HXL : Hid ((hexL D).length = 64) := by show _ = _; rw [hexL_length, HDL.out]
      obtain ⟨X, hX⟩ : ∃ X, X = (⟨(hexL D).toArray⟩ : ByteArray) := ⟨_, rfl⟩
      have hxs : X.size = 64 := by rw [hX]; simpa [ByteArray.size] using HXL.out
      have HF : Hid (((X.extract 0 p.size).toList == p.toList) = r) := by
        show _ = _
        rw [pre_extract X p (by omega), HI.out, hX]
      rw [← hX]
      have p64 : (p.size : Int) ≤ 64 := by omega
      have p0 : (0 : Int) ≤ (p.size : Int) := by omega
      clear hb6 hX
      go_wp2
      rw [HF.out]
      go_ret
      exact ⟨rfl, BW6.out⟩
end Go.Proofs.YtcndkkagnobpmaaDoor
