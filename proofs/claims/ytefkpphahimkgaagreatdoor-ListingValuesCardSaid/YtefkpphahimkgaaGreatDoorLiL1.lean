/-
 lives of listing's laws.
-/
import Derived.Test.YtefkpphahimkgaaGreatDoorTk
import Derived.Test.YtefkpphahimkgaaGreatDoorLiF1
import Derived.Test.YtefkpphahimkgaaGreatDoorLiR7
import Derived.Test.YtefkpphahimkgaaGreatDoorLiW6
import Derived.Test.YtefkpphahimkgaaGreatDoorLiW7
import Derived.Test.YtefkpphahimkgaaGreatDoorGF
namespace Go.Proofs.YtefkpphahimkgaaGreatDoor
open Go.RowKit
attribute [local go_sem ↓] Go.wp_at_zero Go.wp_at_succ
set_option linter.unusedVariables false
set_option linter.unusedSimpArgs false
def oneM (n : Int) : ME := ⟨tgJ, n, -1, ⟨#[]⟩⟩
theorem may_one : mayL ssN 3 9 [oneM 3] = true := by decide
theorem may_two : mayL tsN 3 9 [oneM 3] = false := by decide
theorem find_one : findL [oneM 3] tgJ = some (oneM 3) := rfl
theorem old_one : olderL [oneM 3] [oneM 2] = [tgJ] := by decide
theorem old_two : olderL [oneM 2] [oneM 3] = [] := by decide
theorem fn_one : fnameL [97, 46, 106, 115, 111, 110] = true := by decide
theorem fn_two : fnameL [46, 97] = false := by decide
theorem fit_one : fitE ⟨⟨#[]⟩, 0, 2, ⟨#[]⟩⟩ [97] = 150 := fitE_len (by decide) (by decide)
theorem fit_two : fitE ⟨⟨#[]⟩, 0, 1, ⟨#[48, 48]⟩⟩ [97] = 151 := by
 rw [fitE_sum (by simp) (by decide), if_neg (fun e => by
  have h := congrArg List.length e
  rw [hexL_length, shaL_len] at h
  simp at h)]
theorem fit_three : fitE ⟨⟨#[]⟩, 0, -1, ⟨#[]⟩⟩ [] = 0 := fitE_none (by simp) rfl
theorem lit_rb6 (w : World) (l : List UInt8) (cs : Array Value) (fr : Nat × Nat) (h : cs = (Lib.byteCells l).toArray) : RB (w.alloc (.cells cs 5 fr)) (some ⟨w.heap.size, 0, none⟩) l := by
 subst h
 refine ⟨by simp [Lib.byteCells], fun hn => ⟨_, rfl, by simp, fun j u hu => ?_⟩⟩
 rw [Addr.add_lit, Nat.zero_add, cell_of_row _ w.heap.size j _ 5 fr (heap_alloc_new w _)]
 simpa using hu
theorem lit_conv6 (u : World) (l : List UInt8) (g n : Nat) (cs : Array Value) (hg : g = u.heap.size) (hn : n = l.length) (h : cs = (Lib.byteCells l).toArray) : ∃ W', (convert 45 45 (.slice (some ⟨g, 0, none⟩) n n)).run Tryz.prog (u.alloc (.cells cs 5)) = .ok (.slice (some ⟨g, 0, none⟩) n n) W' ∧ RB W' (some ⟨g, 0, none⟩) l ∧ Below u.heap.size u W' := by
 subst hg
 exact ⟨_, Lib.run_convert_bytes_const (P := Tryz.prog) u 45 5 cs n n Tryz.underlying45 Tryz.underlying5, lit_rb6 u l cs _ h, (Below.refl _ _).alloc (Nat.le_refl _) _⟩
theorem or_one {w : World} {base : Nat} {v x : Value} (h : OR 9 w base v [x]) : ∃ b o c, v = .slice (some ⟨b, o, none⟩) 1 c ∧ b < w.heap.size ∧ w.cell? ⟨b, o, none⟩ = some x := by
 have hh : w.ownsRow base 9 1 v 1 [x] := h
 rcases hh.2 with ⟨_, h0⟩ | ⟨g, cap, cur, hv, hg, hb, hn⟩
 ·cases h0
 ·subst hv
  obtain ⟨ad, he, hlt, hc⟩ := (Reads.of_own hh).2 (by omega)
  cases he
  refine ⟨g, 0, cap, rfl, hlt, ?_⟩
  have := hc 0 x rfl
  rw [Addr.add_lit] at this
  exact this
theorem or_nil {w : World} {base : Nat} {v : Value} (h : OR 9 w base v []) : ∃ A c, v = .slice A 0 c := by
 have hh : w.ownsRow base 9 1 v 0 [] := h
 rcases hh.2 with ⟨hv, h0⟩ | ⟨g, cap, cur, hv, hg, hb, hn⟩
 ·exact ⟨_, _, hv⟩
 ·exact ⟨_, _, hv⟩
theorem row_one (W : World) (n : Int) (hn : (Lit.int .i64 n).wf = true) : MAt (W.alloc (.cells #[.string tgJ, .int .i64 n, .int .i64 (-1), .string ⟨#[]⟩] 44)) (some ⟨W.heap.size, 0, none⟩) 1 [oneM n] := by
 have hb := Blk.new W 44 #[.string tgJ, .int .i64 n, .int .i64 (-1), .string ⟨#[]⟩]
 refine ⟨⟨rfl, fun _ => ⟨⟨W.heap.size, 0, none⟩, rfl, by simp, fun j u hu => ?_⟩⟩, Nat.le_refl _, by simp [maxLen], ?_, ?_⟩
 ·rw [Addr.add_lit, Nat.zero_add, hb.cell j]
  simpa [ME.cs, oneM] using hu
 ·intro m hm
  rw [List.mem_singleton] at hm
  subst hm
  exact ⟨hn, (by decide : (Lit.int .i64 (-1)).wf = true)⟩
 ·intro m hm
  rw [List.mem_singleton] at hm
  subst hm
  exact ⟨(by decide : tgJ.size ≤ 140737488351232), (by decide : (⟨#[]⟩ : ByteArray).size ≤ 140737488351232)⟩
theorem MAt.fr {w w' : World} {A : Option Addr} {c : Nat} {l : List ME} {S : Nat → Prop} (h : MAt w A c l) (hf : Fr S w w') (hs : ∀ ad, A = some ad → ¬ S ad.block) : MAt w' A c l := ⟨Reads.frS (B := 0) h.rd hf (fun _ => hs), h.cap, h.mx, h.wf, h.sz⟩
set_option maxHeartbeats 2000000 in
theorem one_any (n : Int) (w : World) (hn : (Lit.int .i64 n).wf = true) : Calls Tryz.prog 23 #[.int .i64 n] w fun e w' => ∃ g, e = .returned (.agg #[.int .i64 n, .int .i64 9, .slice (some ⟨g, 0, none⟩) 1 1]) ∧ MAt w' (some ⟨g, 0, none⟩) 1 [oneM n] ∧ Below w.heap.size w w' := by
 have HN := Ld hn
 clear hn
 go_enter Tryz.func23, Tryz.ntmps23
 go_wp2
 obtain ⟨W1, hW1⟩ : ∃ W1, W1 = w.alloc (.cells #[.int .i64 n, .int .i64 9, .slice (some ⟨w.heap.size + 1, 0, none⟩) 1 1] 24) := ⟨_, rfl⟩
 have hs1 : W1.heap.size = w.heap.size + 1 := by rw [hW1]; simp
 have hb1 : Below w.heap.size w W1 := by rw [hW1]; exact (Below.refl _ _).alloc (Nat.le_refl _) _
 have hk : Blk W1 w.heap.size 24 #[.int .i64 n, .int .i64 9, .slice (some ⟨w.heap.size + 1, 0, none⟩) 1 1] := by rw [hW1]; exact Blk.new _ _ _
 rw [← hW1]
 have hk2 := hk.alloc (.cells #[.string tgJ, .int .i64 n, .int .i64 (-1), .string ⟨#[]⟩] 44)
 obtain ⟨k0, k1, k2⟩ := three_cells hk2
 unfold tgJ at k0 k1 k2
 refine bodyPost_ret (v := .agg #[.int .i64 n, .int .i64 9, .slice (some ⟨w.heap.size + 1, 0, none⟩) 1 1]) (by simp [results, Tryz.results23, go_sem, k0, k1, k2]) rfl ?_
 refine ⟨_, rfl, ?_, hb1.alloc hb1.size _⟩
 have h9 := row_one W1 n HN.out
 rw [hs1] at h9
 exact h9
end Go.Proofs.YtefkpphahimkgaaGreatDoor
