/-
 role.pair, role.HeadValue.
-/
import Derived.Test.YtefkpphahimkgaaGreatDoorLiP
import Derived.Test.YtefkpphahimkgaaGreatDoorGG
import Derived.Test.YtefkpphahimkgaaGreatDoorGD
import Derived.Test.YtefkpphahimkgaaGreatDoorGU
namespace Go.Proofs.YtefkpphahimkgaaGreatDoor
open Go.RowKit
attribute [local go_sem ↓] Go.wp_at_zero Go.wp_at_succ
set_option linter.unusedVariables false
set_option linter.unusedSimpArgs false
def MV.keyed (v : MV) (key : ByteArray) : MV := match v with | .mk _ k n s lA lc l mA mc m => .mk key k n s lA lc l mA mc m
theorem keyed_pv (v : MV) (key : ByteArray) : (v.keyed key).pv = v.pv := by cases v; rfl
theorem keyed_key (v : MV) (key : ByteArray) : (v.keyed key).key = key := by cases v; rfl
theorem keyed_pcs (v : MV) (key : ByteArray) : (v.keyed key).pcs = [.string key, .int .i64 v.k, .int .i64 v.n, .string v.s, .slice v.lA v.l.length v.lc, .slice v.mA v.m.length v.mc] := by cases v; rfl
theorem VAt.keyed {w : World} {v : MV} (h : VAt w v) (key : ByteArray) : VAt w (v.keyed key) := by
 cases h with
 | mk a b c d e f g h i j => exact .mk a b c d e f g h i j
theorem FitV.keyed {v : MV} (h : FitV v) (key : ByteArray) : FitV (v.keyed key) := by
 cases h with
 | mk a b c => exact .mk a b c
theorem fit_small : ∀ {v : MV}, v.cnt ≤ 3000 → FitV v
 | .mk key k n s lA lc l mA mc m, h => by
  rw [MV.cnt] at h
  have hl : ∀ {r : List MV}, r.length ≤ MV.cntL r ∧ ∀ x ∈ r, x.cnt ≤ MV.cntL r := by
   intro r
   induction r with
   | nil => simp [MV.cntL]
   | cons v r ih =>
    have h1 : 1 ≤ v.cnt := by cases v; rw [MV.cnt]; omega
    rw [MV.cntL, List.length_cons]
    refine ⟨by omega, fun x hx => ?_⟩
    rcases List.mem_cons.1 hx with rfl | hx
    ·omega
    ·have := ih.2 x hx; omega
  have a1 := hl (r := l)
  have a2 := hl (r := m)
  refine .mk (by omega) (fun x hx => ?_) (fun x hx => ?_)
  ·have := a1.2 x hx
   exact fit_small (by omega)
  ·have := a2.2 x hx
   exact fit_small (by omega)
termination_by v => SizeOf.sizeOf v
decreasing_by
 all_goals
  have := List.sizeOf_lt_of_mem hx
  simp
  omega
theorem fit_cnt {v : MV} (h : v.pv.cnt ≤ 3000) : FitV v := fit_small (by rw [cnt_pv]; exact h)
set_option maxHeartbeats 1000000 in
theorem pair_any (v : MV) (key : ByteArray) (w : World) : Calls Tryz.prog 68 #[.string key, v.val] w fun e w' => e = .returned (.agg #[.string key, .int .i64 v.k, .int .i64 v.n, .string v.s, .slice v.lA v.l.length v.lc, .slice v.mA v.m.length v.mc]) ∧ Below w.heap.size w w' := by
 unfold MV.val
 go_enter Tryz.func68, Tryz.ntmps68
 go_wp2
 refine bodyPost_ret (v := .agg #[.string key, .int .i64 v.k, .int .i64 v.n, .string v.s, .slice v.lA v.l.length v.lc, .slice v.mA v.m.length v.mc]) (by simp [results, Tryz.results68, go_sem]) rfl ?_
 exact ⟨rfl, ((Below.refl _ _).alloc (Nat.le_refl _) _).alloc (by simp) _⟩
theorem pairs_new (w : World) (m : List MV) (cs : Array Value) (hcs : cs = (m.flatMap MV.pcs).toArray) (hm : ∀ x ∈ m, VAt w x) (hl : m.length ≤ 1000) (key : ByteArray) : VAt (w.alloc (.cells cs 73)) (.mk key 6 0 ⟨#[]⟩ none 0 [] (some ⟨w.heap.size, 0, none⟩) m.length m) := by
 have hb : Below w.heap.size w (w.alloc (.cells cs 73)) := (Below.refl _ _).alloc (Nat.le_refl _) _
 refine .mk (by decide) (by decide) Reads.none_ (Nat.le_refl _) (by simp [maxLen]) ?_ (Nat.le_refl _) (by simp only [maxLen]; omega) (fun x hx => by cases hx) (fun x hx => (hm x hx).bel hb)
 refine ⟨csM_len m, fun _ => ⟨⟨w.heap.size, 0, none⟩, rfl, by simp, fun j u hu => ?_⟩⟩
 have hk := (Blk.new w 73 cs).cell j
 rw [Addr.add_lit, Nat.zero_add, hk, hcs, List.getElem?_toArray]
 exact hu
def tyK : ByteArray := ⟨#[95, 116, 121, 112, 101]⟩
def spK : ByteArray := ⟨#[115, 112, 101, 99, 95, 118, 101, 114, 115, 105, 111, 110]⟩
def veK : ByteArray := ⟨#[118, 101, 114, 115, 105, 111, 110]⟩
def exK : ByteArray := ⟨#[101, 120, 112, 105, 114, 101, 115]⟩
def spT : ByteArray := ⟨#[49, 46, 48, 46, 48]⟩
def txV (s : ByteArray) : PV := .mk 4 0 s [] [] []
def inV (n : Int) : PV := .mk 3 n ⟨#[]⟩ [] [] []
def mpV (ks : List ByteArray) (l : List PV) : PV := .mk 6 0 ⟨#[]⟩ [] ks l
def DT (e : Int) (tx : ByteArray) : Prop := mayB e = true ∧ ∃ y m d, Cal.Civ (e / 86400 + 719162) y m d ∧ tx = strL (txtL y m d (hhT e) (mmT e) (ssT e))
def headOk (kind : ByteArray) (v e : Int) : Bool := mayB e && (decide (1 ≤ v) && (decide (v ≤ 1099511627776) && (decide (kind.size ≤ 64) && Lib.validD kind.data.toList)))
def headP (kind : ByteArray) (v : Int) (tx : ByteArray) : PV := mpV [tyK, spK, veK, exK] [txV kind, txV spT, inV v, txV tx]
theorem DT.ex {e : Int} (h : mayB e = true) : ∃ tx, DT e tx := by
 obtain ⟨y, m, d, hc⟩ := civ_t h
 exact ⟨_, h, y, m, d, hc, rfl⟩
theorem DT.text {e : Int} {tx : ByteArray} (h : DT e tx) (w : World) (ht : tabP w) : Calls Tryz.prog 66 #[.int .i64 e] w fun r w' => r = .returned (.tuple #[.string tx, .int .i64 0]) ∧ Below w.heap.size w w' := by
 obtain ⟨hm, y, m, d, hc, rfl⟩ := h
 exact text_yes e y m d w hm hc ht
theorem DT.parse {e : Int} {tx : ByteArray} (h : DT e tx) (w : World) : Calls Tryz.prog 84 #[.string tx] w fun r w' => r = .returned (.tuple #[.int .i64 e, .int .i64 0]) ∧ Below w.heap.size w w' := by
 obtain ⟨hm, y, m, d, hc, rfl⟩ := h
 exact parse_back e y m d w _ rfl hc
theorem DT.size {e : Int} {tx : ByteArray} (h : DT e tx) : tx.size = 20 := by
 obtain ⟨hm, y, m, d, hc, rfl⟩ := h
 exact txt_size ..
end Go.Proofs.YtefkpphahimkgaaGreatDoor
