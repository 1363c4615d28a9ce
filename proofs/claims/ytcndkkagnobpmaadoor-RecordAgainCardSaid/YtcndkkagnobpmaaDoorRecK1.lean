/-
  record: contracts at a disk whose halves are as every commit and every crash leaves them.
-/
import Derived.Test.YtcndkkagnobpmaaDoorRecPlain4
import Derived.Test.YtcndkkagnobpmaaDoorRecLives
namespace Go.Proofs.YtcndkkagnobpmaaDoor
open Go.RowKit
set_option linter.unusedVariables false

structure RecD (w : World) (d s M first half N : Nat) (T : List UInt8) (K : Dk) : Prop where
  disk : DiskAt w d s M 0 K
  left : K.left < 0
  dg : DG K first half N T
theorem RecD.fr {S : Nat → Prop} {w w' : World} {d s M first half N : Nat} {T : List UInt8} {K : Dk} (h : RecD w d s M first half N T K) (hf : Fr S w w') (hS : ∀ k, DS d s M k → ¬ S k) (hN : ∀ g, S g → g < w.heap.size → NoBy w g) : RecD w' d s M first half N T K :=
  ⟨h.disk.fr hf hS hN, h.left, h.dg⟩
theorem RecD.below {w w' : World} {d s M first half N : Nat} {T : List UInt8} {K : Dk} (h : RecD w d s M first half N T K) (hb : Below w.heap.size w w') : RecD w' d s M first half N T K :=
  ⟨h.disk.below hb, h.left, h.dg⟩
theorem zero_dg {n first half : Nat} (hin : first + 2 * half ≤ n) (hh : 2 ≤ half) : DG (Dk.zero n) first half 0 [] :=
  ⟨rfl, fun _ => rfl, zero_full n, .inl ⟨rfl, rfl, by unfold ZK; rw [zero_now n _ (by omega)]; decide, by unfold ZK; rw [zero_now n _ (by omega)]; decide⟩, by simpa [Dk.zero] using hin, hh⟩
theorem open_dg {d s M n first half N : Nat} {T : List UInt8} {K : Dk} (count : Nat) (w : World) (h : DiskAt w d s M n K) (hg : DG K first half N T) (htab : TabK w) (hc : count = 2 * half) :
    Calls Tryd.prog 9 #[.pointer (some ⟨d, 0, none⟩), .int .i64 (first : Int), .int .i64 (count : Int)] w fun e w' => ∃ r, e = .returned (.tuple #[.pointer (some ⟨r, 0, none⟩), .int .i64 0]) ∧ w.heap.size ≤ r ∧ RecAt w' r d first half N T false ∧ Below w.heap.size w w' := by
  have := open_ok first count half w htab h hg.on hc hg.two (by have := hg.inn; omega) hg.full
  rw [(hg.inv.rec_ hg.full hg.inn hg.two).open_] at this
  exact this
def DgPost (d s M r first half N : Nat) (T : List UInt8) (K : Dk) (w : World) (e : Ending) (w' : World) : Prop :=
  e = .returned (.int .i64 0) ∧ (∃ K', RecD w' d s M first half (N + 1) T K' ∧ K'.sure.length = K.sure.length) ∧ RecAt w' r d first half (N + 1) T false ∧ Fr (fun k => DS d s M k ∨ k = r) w w'
theorem rcommit_dg {d s M r first half num : Nat} {T0 : List UInt8} {K : Dk} (A : Option Addr) (n c : Nat) (T : List UInt8) (w : World) (h : RecD w d s M first half num T0 K) (htab : TabK w) (hR : RecAt w r d first half num T0 false)
    (hT : RB w A T) (hTn : T.length = n) (hc : n ≤ c) (hcm : c ≤ 9223372036854775807) (hn : n ≤ 64 * (half - 1)) (hnum : num < 255) :
    Calls Tryd.prog 14 #[.pointer (some ⟨r, 0, none⟩), .slice A n c] w fun e w' => DgPost d s M r first half num T K w e w' := by
  obtain ⟨h1, h2, h3⟩ := commit_left K (first + (num + 1) % 2 * half) (num + 1) T h.left h.dg.on
  have hlen := commit_len K (first + (num + 1) % 2 * half) (num + 1) T
  refine (rcommit_any A n c T w h.disk htab hR h.dg.on h.dg.two h.dg.inn hT hTn hc hcm hn (by omega) (by omega)).mono ?_
  rintro e w' ⟨rfl, ⟨n', hn', hD⟩, hRA, hf⟩
  rw [h2, if_neg (by simp)] at hRA
  have e0 := hn' h2
  subst e0
  have hl := commit_loose K _ _ T h2
  have hinv := inv_new h.dg hlen hD.full (by omega) (by omega) hnum (fun j hj => commit_now K _ (num + 1) T h2 hj)
  exact ⟨by unfold offE; rw [h2]; rfl, ⟨_, ⟨hD, by rw [h1]; exact h.left, ⟨h2, fun i => by rw [hl], hD.full, hinv, by rw [hlen]; exact h.dg.inn, h.dg.two⟩⟩, hlen⟩, hRA, hf⟩
theorem stop_sure (K : Dk) (n b : Int) : (K.stop n b).sure = K.sure ∧ (K.stop n b).loose = K.loose ∧ (K.stop n b).off = K.off := by
  unfold Dk.stop
  split
  · exact ⟨rfl, rfl, rfl⟩
  · split <;> exact ⟨rfl, rfl, rfl⟩
theorem DG.stop {K : Dk} {first half N : Nat} {T : List UInt8} (h : DG K first half N T) (n b : Int) : DG (K.stop n b) first half N T := by
  obtain ⟨e1, e2, e3⟩ := stop_sure K n b
  have hnow : ∀ i, (K.stop n b).now i = K.now i := fun i => by unfold Dk.now; rw [e1, e2]
  have hall : ∀ f n', allL (K.stop n b) f n' = allL K f n' := fun f n' => allL_congr (fun i _ => hnow _)
  have hst : ∀ g, stK (K.stop n b) first half g = stK K first half g := fun g => by unfold stK; rw [hall]
  have hz : ∀ g, ZK (K.stop n b) first half g = ZK K first half g := fun g => by unfold ZK; rw [hnow]
  refine ⟨by rw [e3]; exact h.on, fun i => by rw [e2]; exact h.loo i, fun i hi => by rw [hnow]; exact h.full i (by rw [e1] at hi; exact hi), ?_, by rw [e1]; exact h.inn, h.two⟩
  have hi := h.inv
  unfold InvR at hi ⊢
  simp only [hst, hz]
  exact hi
/-- a crash of a disk on which nothing is loose keeps all -/
theorem DG.crash {K : Dk} {first half N : Nat} {T : List UInt8} (h : DG K first half N T) (sure : List (List UInt8)) (hlen : sure.length = K.sure.length) (htook : ∀ i, i < K.sure.length → Took K i (sure.getD i [])) (hf2 : Full (K.crashed sure)) : DG (K.crashed sure) first half N T := by
  have hKn : ∀ j, K.now j = K.sure.getD j [] := fun j => by unfold Dk.now; rw [h.loo]; rfl
  have hnow : ∀ i, i < K.sure.length → (K.crashed sure).now i = K.now i := fun i hi => by
    rw [crashed_now, hKn]
    rcases htook i hi with e | ⟨l, n, e, _⟩
    · exact e
    · rw [h.loo] at e; cases e
  have htwo := h.two
  have hst : ∀ g, g < 2 → stK (K.crashed sure) first half g = stK K first half g := fun g hg => by
    unfold stK
    rw [allL_congr (fun i hi => hnow _ (by have := half_in hg h.inn h.two; omega))]
  have hz : ∀ g, g < 2 → ZK (K.crashed sure) first half g = ZK K first half g := fun g hg => by
    unfold ZK
    rw [hnow _ (by have := half_in hg h.inn h.two; omega)]
  refine ⟨rfl, fun _ => rfl, hf2, ?_, by show first + 2 * half ≤ sure.length; rw [hlen]; exact h.inn, h.two⟩
  have hi := h.inv
  unfold InvR at hi ⊢
  rw [hst _ (by omega), hz 0 (by omega), hz 1 (by omega), hz _ (by omega)]
  exact hi
/-- what is behind a commit that may be cut: what is found behind whatever crash -/
def KPost (d s M r first half N : Nat) (T0 T : List UInt8) (K : Dk) (w : World) (e : Ending) (w' : World) : Prop :=
  ∃ (gv : Int) (K8 : Dk) (n8 : Nat), e = .returned (.int .i64 gv) ∧ DiskAt w' d s M n8 K8 ∧ Fr (fun k => DS d s M k ∨ k = r) w w' ∧
    ∀ sure : List (List UInt8), sure.length = K8.sure.length → (∀ i, i < K8.sure.length → Took K8 i (sure.getD i [])) → Full (K8.crashed sure) →
      ∃ N' T', DG (K8.crashed sure) first half N' T' ∧ ((gv = 0 ∧ T' = T ∧ N' = N + 1) ∨ (gv ≠ 0 ∧ T' = T0 ∧ N' = N) ∨ (gv = 210 ∧ T' = T ∧ N' = N + 1)) ∧ T'.length ≤ 64 * (half - 1)
theorem rcommit_k {d s M n0 r first half num : Nat} {T0 : List UInt8} {K : Dk} (A : Option Addr) (n c : Nat) (T : List UInt8) (w : World) (h : DiskAt w d s M n0 K) (hg : DG K first half num T0) (htab : TabK w) (hR : RecAt w r d first half num T0 false)
    (hT : RB w A T) (hTn : T.length = n) (hc : n ≤ c) (hcm : c ≤ 9223372036854775807) (hnum : num < 255) (hn0 : n0 + 80000 < 1000000) (hhb : half ≤ 16384) (hT0 : T0.length ≤ 64 * (half - 1)) :
    Calls Tryd.prog 14 #[.pointer (some ⟨r, 0, none⟩), .slice A n c] w fun e w' => KPost d s M r first half num T0 T K w e w' := by
  rcases Nat.lt_or_ge (64 * (half - 1)) n with hl | hl
  · refine (rcommit_long A n c w hR hg.two hhb hl (by omega)).mono ?_
    rintro e w' ⟨rfl, hb⟩
    exact ⟨3, K, n0, rfl, h.below hb, Fr.of_below hb, fun sure h1 h2 h3 => ⟨num, T0, hg.crash sure h1 h2 h3, .inr (.inl ⟨by omega, rfl, rfl⟩), hT0⟩⟩
  · refine (rcommit_any A n c T w h htab hR hg.on hg.two hg.inn hT hTn hc hcm hl (by omega) hn0).mono ?_
    rintro e w' ⟨rfl, ⟨n', _, hD⟩, _, hf⟩
    refine ⟨_, _, n', rfl, hD, hf, fun sure h1 h2 h3 => ?_⟩
    obtain ⟨t1, t2⟩ := crash_torn hg h.byt (T := T) (by omega) (by omega) hnum sure h1 h2 h3
    cases ho : (commitK K (first + (num + 1) % 2 * half) (num + 1) T).off with
    | false => exact ⟨num + 1, T, t1 ho, .inl ⟨by unfold offE; rw [ho]; rfl, rfl, rfl⟩, by omega⟩
    | true =>
      rcases t2 ho with h | h
      · exact ⟨num, T0, h, .inr (.inl ⟨by unfold offE; rw [ho]; decide, rfl, rfl⟩), hT0⟩
      · exact ⟨num + 1, T, h, .inr (.inr ⟨by unfold offE; rw [ho]; rfl, rfl, rfl⟩), by omega⟩
theorem wf_le {x : Int} (h : (Lit.int .i64 x).wf = true) : x ≤ 9223372036854775807 := by
  simp only [Lit.wf, IntKind.min, IntKind.max, IntKind.signed, IntKind.bits, Bool.and_eq_true, decide_eq_true_eq, if_true] at h
  omega
end Go.Proofs.YtcndkkagnobpmaaDoor
