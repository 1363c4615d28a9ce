/-
  pursuivantlaw23.one: a state of a few files.
-/
import Derived.Test.YtgpcinfhcamgpaaGreatDoorStL1
import Derived.Test.YtgpcinfhcamgpaaGreatDoorStO4
import Derived.Test.YtgpcinfhcamgpaaGreatDoorGRc
import Derived.Lib.SlBytesConst
namespace Go.Proofs.YtgpcinfhcamgpaaGreatDoor
open Go.RowKit Glob
attribute [local go_sem ↓] Go.wp_at_zero Go.wp_at_succ
set_option linter.unusedVariables false
set_option linter.unusedSimpArgs false

def oneS (t : List UInt8) : Sta := ⟨[114], [], [], [⟨⟨#[116, 97, 114, 103, 101, 116, 115, 46, 106, 115, 111, 110]⟩, t⟩], [⟨⟨#[97, 47, 98]⟩, t⟩]⟩
theorem one_may : mayS fnameL pathL (oneS [120]) = true := by kernel_rfl
theorem one_len : (stB (oneS [120])).length = 50 := by kernel_rfl
def OnePost (t : List UInt8) (w : World) (e : Ending) (w' : World) : Prop := ∃ x : SV, e = .returned x.v ∧ x.sta = oneS t ∧ STy w' x ∧ SM x ∧ Below w.heap.size w w'
set_option maxRecDepth 100000 in
set_option maxHeartbeats 4000000 in
theorem one_any (t : List UInt8) (w : World) (hl : t.length ≤ 1000) :
    Calls Tryz.prog 34 #[.string ⟨t.toArray⟩] w fun e w' => OnePost t w e w' := by
  have e1 : (w.alloc (.cells #[.slice none 0 0, .slice none 0 0, .slice none 0 0, .slice none 0 0, .slice none 0 0] 25)).heap.size = w.heap.size + 1 := by simp
  obtain ⟨W2, hW2⟩ : ∃ W, W = (w.alloc (.cells #[.slice none 0 0, .slice none 0 0, .slice none 0 0, .slice none 0 0, .slice none 0 0] 25)).alloc (.cells #[.int .u8 114] 5 (1, 2)) := ⟨_, rfl⟩
  have k1 : (convert 22 22 (.slice (some ⟨w.heap.size + 1, 0, none⟩) 1 1)).run Tryz.prog ((w.alloc (.cells #[.slice none 0 0, .slice none 0 0, .slice none 0 0, .slice none 0 0, .slice none 0 0] 25)).alloc (.cells #[.int .u8 114] 5)) = .ok (.slice (some ⟨w.heap.size + 1, 0, none⟩) 1 1) W2 := by
    have h := Lib.run_convert_bytes_const (P := Tryz.prog) (w.alloc (.cells #[.slice none 0 0, .slice none 0 0, .slice none 0 0, .slice none 0 0, .slice none 0 0] 25)) 22 5 #[.int .u8 114] 1 1 Tryz.underlying22 Tryz.underlying5
    rw [e1] at h
    rw [hW2]
    exact h
  have HB2 : Hid (Below w.heap.size w W2) := Lib.hid (by rw [hW2]; exact ((Below.refl _ _).alloc (Nat.le_refl _) _).alloc (by simp) _)
  have HR2 : Hid (Blk W2 w.heap.size 25 #[.slice none 0 0, .slice none 0 0, .slice none 0 0, .slice none 0 0, .slice none 0 0]) := Lib.hid (by rw [hW2]; exact (Blk.new w 25 #[.slice none 0 0, .slice none 0 0, .slice none 0 0, .slice none 0 0, .slice none 0 0]).alloc _)
  have HP2 : Hid (PtT W2 ⟨some ⟨w.heap.size + 1, 0, none⟩, 1, [114]⟩) := Lib.hid (by
    have h := lit_rbf (w.alloc (.cells #[.slice none 0 0, .slice none 0 0, .slice none 0 0, .slice none 0 0, .slice none 0 0] 25)) [114] #[.int .u8 114] (1, 2) rfl
    have h2 := heap_alloc_new (w.alloc (.cells #[.slice none 0 0, .slice none 0 0, .slice none 0 0, .slice none 0 0, .slice none 0 0] 25)) (.cells #[.int .u8 114] 5 (1, 2))
    rw [e1] at h h2
    rw [hW2]
    exact ⟨⟨h, fun ad e => by injection e with e; subst e; exact .inr ⟨_, _, h2⟩⟩, Nat.le_refl _, by show (1 : Nat) ≤ maxLen; unfold maxLen; omega⟩)
  clear e1 hW2
  have HC3 := conv_body t W2 (by unfold maxLen; omega)
  obtain ⟨g3, hg3⟩ : ∃ g, g = W2.heap.size := ⟨_, rfl⟩
  rw [← hg3] at HC3
  obtain ⟨c3, W3, k3, hc3, hm3, hbo3, hb3, -⟩ := HC3
  have HC5 := conv_body t (W3.alloc (.cells #[.string ⟨#[116, 97, 114, 103, 101, 116, 115, 46, 106, 115, 111, 110]⟩, .slice (some ⟨g3, 0, none⟩) t.length c3] 55)) (by unfold maxLen; omega)
  obtain ⟨g5, hg5⟩ : ∃ g, g = (W3.alloc (.cells #[.string ⟨#[116, 97, 114, 103, 101, 116, 115, 46, 106, 115, 111, 110]⟩, .slice (some ⟨g3, 0, none⟩) t.length c3] 55)).heap.size := ⟨_, rfl⟩
  rw [← hg5] at HC5
  obtain ⟨c5, W5, k5, hc5, hm5, hbo5, hb5, -⟩ := HC5
  have HB3 : Hid (Below w.heap.size w W3) := Lib.hid (HB2.out.trans (hb3.mono (by have := HB2.out.size; omega)))
  have HA4 : Hid (Below W3.heap.size W3 (W3.alloc (.cells #[.string ⟨#[116, 97, 114, 103, 101, 116, 115, 46, 106, 115, 111, 110]⟩, .slice (some ⟨g3, 0, none⟩) t.length c3] 55))) := Lib.hid ((Below.refl _ _).alloc (Nat.le_refl _) _)
  have HB45 : Hid (Below (W3.alloc (.cells #[.string ⟨#[116, 97, 114, 103, 101, 116, 115, 46, 106, 115, 111, 110]⟩, .slice (some ⟨g3, 0, none⟩) t.length c3] 55)).heap.size (W3.alloc (.cells #[.string ⟨#[116, 97, 114, 103, 101, 116, 115, 46, 106, 115, 111, 110]⟩, .slice (some ⟨g3, 0, none⟩) t.length c3] 55)) W5) := Lib.hid (by rw [hg5] at hb5; exact hb5)
  have HB35 : Hid (Below W3.heap.size W3 W5) := Lib.hid (HA4.out.trans (HB45.out.mono HA4.out.size))
  have HA6 : Hid (Below W5.heap.size W5 (W5.alloc (.cells #[.string ⟨#[97, 47, 98]⟩, .slice (some ⟨g5, 0, none⟩) t.length c5] 55))) := Lib.hid ((Below.refl _ _).alloc (Nat.le_refl _) _)
  have HB36 : Hid (Below W3.heap.size W3 (W5.alloc (.cells #[.string ⟨#[97, 47, 98]⟩, .slice (some ⟨g5, 0, none⟩) t.length c5] 55))) := Lib.hid (HB35.out.trans (HA6.out.mono HB35.out.size))
  have HB23 : Hid (Below W2.heap.size W2 W3) := Lib.hid (by rw [hg3] at hb3; exact hb3)
  have HB26 : Hid (Below W2.heap.size W2 (W5.alloc (.cells #[.string ⟨#[97, 47, 98]⟩, .slice (some ⟨g5, 0, none⟩) t.length c5] 55))) := Lib.hid (HB23.out.trans (HB36.out.mono HB23.out.size))
  have HB6 : Hid (Below w.heap.size w (W5.alloc (.cells #[.string ⟨#[97, 47, 98]⟩, .slice (some ⟨g5, 0, none⟩) t.length c5] 55))) := Lib.hid (HB2.out.trans (HB26.out.mono HB2.out.size))
  have HR6 := Lib.hid (HR2.out.below HB26.out HR2.out.lt)
  obtain ⟨x, hx⟩ : ∃ x : SV, x = ⟨⟨some ⟨w.heap.size + 1, 0, none⟩, 1, [114]⟩, ⟨.none, 0, []⟩, ⟨.none, 0, []⟩, some ⟨W3.heap.size, 0, none⟩, 1, [⟨⟨#[116, 97, 114, 103, 101, 116, 115, 46, 106, 115, 111, 110]⟩, some ⟨g3, 0, none⟩, c3, t⟩], some ⟨W5.heap.size, 0, none⟩, 1, [⟨⟨#[97, 47, 98]⟩, some ⟨g5, 0, none⟩, c5, t⟩]⟩ := ⟨_, rfl⟩
  have HXV : Hid (x.v = .agg #[.slice (some ⟨w.heap.size + 1, 0, none⟩) 1 1, .slice none 0 0, .slice none 0 0, .slice (some ⟨W3.heap.size, 0, none⟩) 1 1, .slice (some ⟨W5.heap.size, 0, none⟩) 1 1]) := Lib.hid (by rw [hx]; rfl)
  have HXS : Hid (x.sta = oneS t) := Lib.hid (by rw [hx]; rfl)
  have HSM : Hid (SM x) := Lib.hid (by
    rw [hx]
    refine ⟨Nat.le_of_ble_eq_true rfl, Nat.le_of_ble_eq_true rfl, Nat.le_of_ble_eq_true rfl, Nat.le_of_ble_eq_true rfl, Nat.le_of_ble_eq_true rfl, fun f hf => ?_, fun f hf => ?_⟩
    · obtain rfl := List.mem_singleton.1 hf; exact Nat.le_of_ble_eq_true rfl
    · obtain rfl := List.mem_singleton.1 hf; exact Nat.le_of_ble_eq_true rfl)
  have HB4b : Hid (Blk (W3.alloc (.cells #[.string ⟨#[116, 97, 114, 103, 101, 116, 115, 46, 106, 115, 111, 110]⟩, .slice (some ⟨g3, 0, none⟩) t.length c3] 55)) W3.heap.size 55 #[.string ⟨#[116, 97, 114, 103, 101, 116, 115, 46, 106, 115, 111, 110]⟩, .slice (some ⟨g3, 0, none⟩) t.length c3]) := Lib.hid (Blk.new _ _ _)
  have HB46 : Hid (Below (W3.alloc (.cells #[.string ⟨#[116, 97, 114, 103, 101, 116, 115, 46, 106, 115, 111, 110]⟩, .slice (some ⟨g3, 0, none⟩) t.length c3] 55)).heap.size (W3.alloc (.cells #[.string ⟨#[116, 97, 114, 103, 101, 116, 115, 46, 106, 115, 111, 110]⟩, .slice (some ⟨g3, 0, none⟩) t.length c3] 55)) (W5.alloc (.cells #[.string ⟨#[97, 47, 98]⟩, .slice (some ⟨g5, 0, none⟩) t.length c5] 55))) := Lib.hid (HB45.out.trans (HA6.out.mono HB45.out.size))
  have HB5b : Hid (Blk (W5.alloc (.cells #[.string ⟨#[97, 47, 98]⟩, .slice (some ⟨g5, 0, none⟩) t.length c5] 55)) W5.heap.size 55 #[.string ⟨#[97, 47, 98]⟩, .slice (some ⟨g5, 0, none⟩) t.length c5]) := Lib.hid (Blk.new _ _ _)
  have HTY : Hid (STy (W5.alloc (.cells #[.string ⟨#[97, 47, 98]⟩, .slice (some ⟨g5, 0, none⟩) t.length c5] 55)) x) := Lib.hid (by
    have hn : PtT (W5.alloc (.cells #[.string ⟨#[97, 47, 98]⟩, .slice (some ⟨g5, 0, none⟩) t.length c5] 55)) ⟨Option.none, 0, []⟩ := ⟨⟨RB.nil _, fun ad e => by cases e⟩, Nat.le_refl _, by simp [maxLen]⟩
    rw [hx]
    refine ⟨HP2.out.below HB26.out, hn, hn, ⟨⟨rfl, .inr ⟨W3.heap.size, 1, _, rfl, Nat.zero_le _, HB4b.out.below HB46.out HB4b.out.lt, Nat.le_refl _, by unfold maxLen; omega, rfl, rfl⟩⟩, fun f hf => ?_⟩, ⟨⟨rfl, .inr ⟨W5.heap.size, 1, _, rfl, Nat.zero_le _, HB5b.out, Nat.le_refl _, by unfold maxLen; omega, rfl, rfl⟩⟩, fun f hf => ?_⟩⟩
    · obtain rfl := List.mem_singleton.1 hf
      exact ⟨(hbo3 0).below HB36.out, hc3, hm3⟩
    · obtain rfl := List.mem_singleton.1 hf
      exact ⟨(hbo5 0).below HA6.out, hc5, hm5⟩)
  have HPOST : Hid (∀ w', STy w' x → Below w.heap.size w w' → OnePost t w (.returned (.agg #[.slice (some ⟨w.heap.size + 1, 0, none⟩) 1 1, .slice none 0 0, .slice none 0 0, .slice (some ⟨W3.heap.size, 0, none⟩) 1 1, .slice (some ⟨W5.heap.size, 0, none⟩) 1 1])) w') := Lib.hid (fun w' h1 h2 => ⟨x, by rw [HXV.out], HXS.out, h1, HSM.out, h2⟩)
  clear hx hbo3 hbo5 hb3 hb5 hg3 hg5 hl hc3 hm3 hc5 hm5
  have q0 := HR6.out.cell 0
  have z0 := HR6.out.frozen 0
  have q1 := HR6.out.cell 1
  have z1 := HR6.out.frozen 1
  have q2 := HR6.out.cell 2
  have z2 := HR6.out.frozen 2
  have q3 := HR6.out.cell 3
  have z3 := HR6.out.frozen 3
  have q4 := HR6.out.cell 4
  have z4 := HR6.out.frozen 4
  simp only [List.getElem?_toArray, List.getElem?_cons_zero, List.getElem?_cons_succ] at q0 q1 q2 q3 q4
  go_enter Tryz.func34, Tryz.ntmps34
  go_wp2
  have HF : Hid (Blk ((((((W5.alloc (.cells #[.string ⟨#[97, 47, 98]⟩, .slice (some ⟨g5, 0, none⟩) t.length c5] 55)).setCell ⟨w.heap.size, 0, none⟩ (.slice (some ⟨w.heap.size + 1, 0, none⟩) 1 1)).setCell ⟨w.heap.size, 1, none⟩ (.slice none 0 0)).setCell ⟨w.heap.size, 2, none⟩ (.slice none 0 0)).setCell ⟨w.heap.size, 3, none⟩ (.slice (some ⟨W3.heap.size, 0, none⟩) 1 1)).setCell ⟨w.heap.size, 4, none⟩ (.slice (some ⟨W5.heap.size, 0, none⟩) 1 1)) w.heap.size 25 #[.slice (some ⟨w.heap.size + 1, 0, none⟩) 1 1, .slice none 0 0, .slice none 0 0, .slice (some ⟨W3.heap.size, 0, none⟩) 1 1, .slice (some ⟨W5.heap.size, 0, none⟩) 1 1]) := Lib.hid (((((HR6.out.set_ 0 (.slice (some ⟨w.heap.size + 1, 0, none⟩) 1 1)).set_ 1 (.slice none 0 0)).set_ 2 (.slice none 0 0)).set_ 3 (.slice (some ⟨W3.heap.size, 0, none⟩) 1 1)).set_ 4 (.slice (some ⟨W5.heap.size, 0, none⟩) 1 1))
  have HTF : Hid (STy ((((((W5.alloc (.cells #[.string ⟨#[97, 47, 98]⟩, .slice (some ⟨g5, 0, none⟩) t.length c5] 55)).setCell ⟨w.heap.size, 0, none⟩ (.slice (some ⟨w.heap.size + 1, 0, none⟩) 1 1)).setCell ⟨w.heap.size, 1, none⟩ (.slice none 0 0)).setCell ⟨w.heap.size, 2, none⟩ (.slice none 0 0)).setCell ⟨w.heap.size, 3, none⟩ (.slice (some ⟨W3.heap.size, 0, none⟩) 1 1)).setCell ⟨w.heap.size, 4, none⟩ (.slice (some ⟨W5.heap.size, 0, none⟩) 1 1)) x) := Lib.hid (sty_set9 (sty_set9 (sty_set9 (sty_set9 (sty_set9 HTY.out HR6.out 0 (.slice (some ⟨w.heap.size + 1, 0, none⟩) 1 1)) (HR6.out.set_ 0 (.slice (some ⟨w.heap.size + 1, 0, none⟩) 1 1)) 1 (.slice none 0 0)) ((HR6.out.set_ 0 (.slice (some ⟨w.heap.size + 1, 0, none⟩) 1 1)).set_ 1 (.slice none 0 0)) 2 (.slice none 0 0)) (((HR6.out.set_ 0 (.slice (some ⟨w.heap.size + 1, 0, none⟩) 1 1)).set_ 1 (.slice none 0 0)).set_ 2 (.slice none 0 0)) 3 (.slice (some ⟨W3.heap.size, 0, none⟩) 1 1)) ((((HR6.out.set_ 0 (.slice (some ⟨w.heap.size + 1, 0, none⟩) 1 1)).set_ 1 (.slice none 0 0)).set_ 2 (.slice none 0 0)).set_ 3 (.slice (some ⟨W3.heap.size, 0, none⟩) 1 1)) 4 (.slice (some ⟨W5.heap.size, 0, none⟩) 1 1))
  have HBF : Hid (Below w.heap.size w ((((((W5.alloc (.cells #[.string ⟨#[97, 47, 98]⟩, .slice (some ⟨g5, 0, none⟩) t.length c5] 55)).setCell ⟨w.heap.size, 0, none⟩ (.slice (some ⟨w.heap.size + 1, 0, none⟩) 1 1)).setCell ⟨w.heap.size, 1, none⟩ (.slice none 0 0)).setCell ⟨w.heap.size, 2, none⟩ (.slice none 0 0)).setCell ⟨w.heap.size, 3, none⟩ (.slice (some ⟨W3.heap.size, 0, none⟩) 1 1)).setCell ⟨w.heap.size, 4, none⟩ (.slice (some ⟨W5.heap.size, 0, none⟩) 1 1))) := Lib.hid (((((HB6.out.setCell (Nat.le_refl _) (.slice (some ⟨w.heap.size + 1, 0, none⟩) 1 1)).setCell (Nat.le_refl _) (.slice none 0 0)).setCell (Nat.le_refl _) (.slice none 0 0)).setCell (Nat.le_refl _) (.slice (some ⟨W3.heap.size, 0, none⟩) 1 1)).setCell (Nat.le_refl _) (.slice (some ⟨W5.heap.size, 0, none⟩) 1 1))
  generalize ((((((W5.alloc (.cells #[.string ⟨#[97, 47, 98]⟩, .slice (some ⟨g5, 0, none⟩) t.length c5] 55)).setCell ⟨w.heap.size, 0, none⟩ (.slice (some ⟨w.heap.size + 1, 0, none⟩) 1 1)).setCell ⟨w.heap.size, 1, none⟩ (.slice none 0 0)).setCell ⟨w.heap.size, 2, none⟩ (.slice none 0 0)).setCell ⟨w.heap.size, 3, none⟩ (.slice (some ⟨W3.heap.size, 0, none⟩) 1 1)).setCell ⟨w.heap.size, 4, none⟩ (.slice (some ⟨W5.heap.size, 0, none⟩) 1 1)) = Wf at HF HTF HBF ⊢
  have k0 := HF.out.cell 0
  have k1' := HF.out.cell 1
  have k2 := HF.out.cell 2
  have k3' := HF.out.cell 3
  have k4 := HF.out.cell 4
  simp only [List.getElem?_toArray, List.getElem?_cons_zero, List.getElem?_cons_succ] at k0 k1' k2 k3' k4
  refine bodyPost_ret (v := .agg #[.slice (some ⟨w.heap.size + 1, 0, none⟩) 1 1, .slice none 0 0, .slice none 0 0, .slice (some ⟨W3.heap.size, 0, none⟩) 1 1, .slice (some ⟨W5.heap.size, 0, none⟩) 1 1]) (by simp [results, Tryz.results34, go_sem, k0, k1', k2, k3', k4]) rfl ?_
  exact HPOST.out _ HTF.out HBF.out
end Go.Proofs.YtgpcinfhcamgpaaGreatDoor
