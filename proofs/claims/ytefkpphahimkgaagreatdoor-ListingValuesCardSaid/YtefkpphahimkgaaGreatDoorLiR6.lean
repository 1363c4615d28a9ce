/-
 listing.Read of a listing's value.
-/
import Derived.Test.YtefkpphahimkgaaGreatDoorTk
import Derived.Test.YtefkpphahimkgaaGreatDoorLiR5
namespace Go.Proofs.YtefkpphahimkgaaGreatDoor
open Go.RowKit
attribute [local go_sem ↓] Go.wp_at_zero Go.wp_at_succ
set_option linter.unusedVariables false
set_option linter.unusedSimpArgs false
theorem VAt.kidM {w : World} {v : MV} (h : VAt w v) : ∀ x ∈ v.m, VAt w x := by
 cases h with
 | mk a b c d e f g h i j => exact j
theorem meta_parts {x : MV} {l : List ME} (h : x.pv = metaL l) : x.m.length = l.length ∧ ∀ k (hk : k < x.m.length) (hk' : k < l.length), x.m[k].key = l[k].name ∧ x.m[k].pv = fileP l[k] := by
 cases x with
 | mk key k n s lA lc l0 mA mc m =>
  rw [MV.pv, metaL, mpV] at h
  injection h with _ _ _ _ h1 h2
  rw [pvL_map] at h2
  have h3 : m.length = l.length := by have := congrArg List.length h1; simpa using this
  refine ⟨h3, fun i hi hi' => ⟨?_, ?_⟩⟩
  ·have h4 : (m.map MV.key)[i]? = (l.map ME.name)[i]? := by rw [h1]
   rw [List.getElem?_map, List.getElem?_map, List.getElem?_eq_getElem hi', List.getElem?_eq_getElem (show i < m.length from hi)] at h4
   injection h4
  ·have h4 : (m.map MV.pv)[i]? = (l.map fileP)[i]? := by rw [h2]
   rw [List.getElem?_map, List.getElem?_map, List.getElem?_eq_getElem hi', List.getElem?_eq_getElem (show i < m.length from hi)] at h4
   injection h4
theorem may_pos {kind : ByteArray} {v e : Int} {l : List ME} (h : mayL kind v e l = true) : 0 < l.length := by
 cases l with
 | nil => unfold mayL at h; simp at h
 | cons a r => simp
theorem may_nums {kind : ByteArray} {v e : Int} {l : List ME} (h : mayL kind v e l = true) : 1 ≤ v ∧ v ≤ 1099511627776 ∧ mayB e = true ∧ kind.size ≤ 64 := by
 obtain ⟨_, _, h3⟩ := may_all h
 unfold headOk at h3
 simp only [Bool.and_eq_true, decide_eq_true_eq] at h3
 exact ⟨h3.2.1, h3.2.2.1, h3.1, h3.2.2.2.1⟩
theorem ris_of {l : List ME} (h : allB l = true) : RisE l := fun i j hi hj => allB_lt h i j hi hj
def RdP (n e : Int) (l : List ME) (w : World) (r : Ending) (w' : World) : Prop := ∃ A c, r = .returned (.tuple #[.agg #[.int .i64 n, .int .i64 e, .slice A l.length c], .int .i64 0]) ∧ MAt w' A c l ∧ Below w.heap.size w w'
theorem three_cells {w : World} {g : Nat} {t : TypeId} {a b c : Value} (h : Blk w g t #[a, b, c]) : w.cell? ⟨g, 0, none⟩ = some a ∧ w.cell? ⟨g, 1, none⟩ = some b ∧ w.cell? ⟨g, 2, none⟩ = some c := ⟨h.cell 0, h.cell 1, h.cell 2⟩
theorem three_fr {w : World} {g : Nat} {t : TypeId} {a b c : Value} (h : Blk w g t #[a, b, c]) : w.frozen? ⟨g, 0, none⟩ = false ∧ w.frozen? ⟨g, 1, none⟩ = false ∧ w.frozen? ⟨g, 2, none⟩ = false := ⟨h.frozen 0, h.frozen 1, h.frozen 2⟩
set_option maxRecDepth 100000 in
set_option maxHeartbeats 8000000 in
theorem read_no {v : MV} {w : World} (ht : tabM w) (h : VAt w v) (kd kind : ByteArray) (n e : Int) (tx : ByteArray) (l : List ME) (hpv : v.pv = valP kd n tx l) (hm : mayL kd n e l = true) (hd : DT e tx) (hk : ¬ kd = kind) :
  Calls Tryz.prog 15 #[.string kind, v.val] w fun r w' => r = .returned (.tuple #[.agg #[.int .i64 0, .int .i64 0, .slice none 0 0], .int .i64 130]) ∧ Below w.heap.size w w' := by
 obtain ⟨W2, hW2⟩ : ∃ W2, W2 = (w.alloc (.cells #[.int .i64 v.k, .int .i64 v.n, .string v.s, .slice v.lA v.l.length v.lc, .slice v.mA v.m.length v.mc] 30)).alloc (.cells #[.int .i64 0, .int .i64 0, .slice none 0 0] 24) := ⟨_, rfl⟩
 obtain ⟨hb2, hk1, hk2, hs2⟩ := new2_ w _ _ _ _ W2 hW2
 obtain ⟨t0, t1, t2, t3, t4⟩ := five_cells hk1
 obtain ⟨_, hl64, _⟩ := may_all hm
 obtain ⟨n1, n2, n3, n4⟩ := may_nums hm
 have hrh := readHead_any (ht.below hb2) (h.bel hb2) kd kind n e tx l hpv hl64 n4 n1 n2 hd
 rw [decide_eq_false hk] at hrh
 unfold MV.val at hrh
 have HRH := Ld hrh
 have HW2 := Ld hW2
 have HB2 := Ld hb2
 have HK2 := Ld hk2
 clear hW2 hb2 hk1 hk2 hs2 hl64 n1 n2 n3 n4 hrh ht h hpv hm hd hk
 unfold MV.val
 go_enter Tryz.func15, Tryz.ntmps15
 go_upto_region 1 with (fail)
 rw [← HW2.out]
 go_wp2_with fail
 refine HRH.out.mono ?_
 rintro r w3 ⟨rfl, hb3⟩
 have HB3 := Ld (HB2.out.trans (hb3.mono HB2.out.size))
 have HK3 := Ld (HK2.out.below hb3 HK2.out.lt)
 clear hb3 t0 t1 t2 t3 t4
 simp only [Bool.false_eq_true, if_false]
 obtain ⟨z0, z1, z2⟩ := three_cells HK3.out
 obtain ⟨y0, y1, y2⟩ := three_fr HK3.out
 have HF : Hid (Blk (((w3.setCell ⟨w.heap.size + 1, 0, none⟩ (.int .i64 0)).setCell ⟨w.heap.size + 1, 1, none⟩ (.int .i64 0)).setCell ⟨w.heap.size + 1, 2, none⟩ (.slice none 0 0)) (w.heap.size + 1) 24 #[.int .i64 0, .int .i64 0, .slice none 0 0]) := Ld (by
  have := ((HK3.out.set_ 0 (.int .i64 0)).set_ 1 (.int .i64 0)).set_ 2 (.slice none 0 0)
  simpa using this)
 go_wp2
 obtain ⟨k0, k1, k2⟩ := three_cells HF.out
 refine bodyPost_ret (v := .tuple #[.agg #[.int .i64 0, .int .i64 0, .slice none 0 0], .int .i64 130]) (by simp [results, Tryz.results15, go_sem, k0, k1, k2]) rfl ?_
 exact ⟨rfl, ((HB3.out.setCell (p := ⟨w.heap.size + 1, 0, none⟩) (Nat.le_succ _) _).setCell (p := ⟨w.heap.size + 1, 1, none⟩) (Nat.le_succ _) _).setCell (p := ⟨w.heap.size + 1, 2, none⟩) (Nat.le_succ _) _⟩
end Go.Proofs.YtefkpphahimkgaaGreatDoor
