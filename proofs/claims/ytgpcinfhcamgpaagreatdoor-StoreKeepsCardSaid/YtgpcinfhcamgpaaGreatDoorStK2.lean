/-
  store.Commit behind Stop, of all three kinds: what it answers, and what every crash lets be found.
-/
import Derived.Test.YtgpcinfhcamgpaaGreatDoorStK1
import Derived.Test.YtgpcinfhcamgpaaGreatDoorStL1
namespace Go.Proofs.YtgpcinfhcamgpaaGreatDoor
open Go.RowKit Glob
set_option linter.unusedVariables false
set_option linter.unusedSimpArgs false

/-- what a commit is to answer, if the disk does not go off -/
def wantC (half : Nat) (s : Sta) : Int := if mayS fnameL pathL s = true then (if 64 * (half - 1) < (stB s).length then 2 else 0) else 1
def CAll (d s M p r half N : Nat) (st0 : Sta) (x : SV) (K : Dk) (w : World) (e : Ending) (w' : World) : Prop :=
  ∃ (gv : Int) (K8 : Dk) (n8 : Nat), e = .returned (.int .i64 gv) ∧ K8.sure.length = K.sure.length ∧ DiskAt w' d s M n8 K8 ∧ Fr (fun k => DS d s M k ∨ k = r ∨ k = p) w w' ∧ (gv = 0 → ∃ y, StoreAt w' p r y ∧ y.sta = x.sta) ∧
    ((wantC half x.sta ≠ 0 ∧ gv = wantC half x.sta) ∨ (wantC half x.sta = 0 ∧ (gv = 0 ∨ gv = 210))) ∧
    ∀ sure : List (List UInt8), sure.length = K8.sure.length → (∀ i, i < K8.sure.length → Took K8 i (sure.getD i [])) → Full (K8.crashed sure) →
      ∃ N' T' st', DG (K8.crashed sure) 0 half N' T' ∧ StIs T' st' ∧ T'.length ≤ 64 * (half - 1) ∧ T'.length ≤ 100000 ∧ N' ≤ N + 1 ∧
        ((wantC half x.sta ≠ 0 ∧ st' = st0) ∨ (wantC half x.sta = 0 ∧ gv = 0 ∧ st' = x.sta) ∨ (wantC half x.sta = 0 ∧ gv = 210 ∧ (st' = st0 ∨ st' = x.sta)))
theorem commit_all {d s M p r half N : Nat} {T0 : List UInt8} {K : Dk} {x0 : SV} {m8 : Nat} (x : SV) (st0 : Sta) (w : World) (h : DiskAt w d s M m8 K) (hg : DG K 0 half N T0) (hs0 : StIs T0 st0) (hT0 : T0.length ≤ 64 * (half - 1)) (hT0b : T0.length ≤ 100000) (hn0 : m8 + 80000 < 1000000)
    (hG : ¬ (DS d s M 2 ∨ 2 = r)) (htab : TabK w) (hT : Tab w) (hSA : StoreAt w p r x0) (hR : RecAt w r d 0 half N T0 false) (hX : ∀ V, Fr (fun k => DS d s M k ∨ k = r) w V → SAt V x) (hss : SSm x)
    (h2 : 2 ≤ half) (hhb : half ≤ 1000) (hN : N < 255) :
    Calls Tryz.prog 20 #[.pointer (some ⟨p, 0, none⟩), x.v] w fun e w' => CAll d s M p r half N st0 x K w e w' := by
  cases hq : mayS fnameL pathL x.sta with
  | false =>
    have hw : wantC half x.sta = 1 := by unfold wantC; rw [hq]; simp
    refine (scommit_no p x w (hX w (Fr.refl _ _)) hss.m hT hq).mono ?_
    rintro e w' ⟨rfl, hb⟩
    refine ⟨1, K, m8, rfl, rfl, h.below hb, Fr.of_below hb, fun e => by omega, .inl ⟨by omega, hw.symm⟩, fun sure k1 k2 k3 => ⟨N, T0, st0, hg.crash sure k1 k2 k3, hs0, hT0, hT0b, by omega, .inl ⟨by omega, rfl⟩⟩⟩
  | true =>
    rcases Nat.lt_or_ge (64 * (half - 1)) (stB x.sta).length with hl | hl
    · have hw : wantC half x.sta = 2 := by unfold wantC; rw [if_pos hq, if_pos hl]
      refine (scommit_full (K := K) x w htab hT hSA hR hX hss.m hq h2 hhb hN hl (by have := hss.l; omega)).mono ?_
      rintro e w' ⟨rfl, hb⟩
      refine ⟨2, K, m8, rfl, rfl, h.below hb, Fr.of_below hb, fun e => by omega, .inl ⟨by omega, hw.symm⟩, fun sure k1 k2 k3 => ⟨N, T0, st0, hg.crash sure k1 k2 k3, hs0, hT0, hT0b, by omega, .inl ⟨by omega, rfl⟩⟩⟩
    · have hw : wantC half x.sta = 0 := by unfold wantC; rw [if_pos hq, if_neg (by omega)]
      refine (scommit_fit x w h hg hT0 hn0 hG htab hT hSA hR hX hss.m hq h2 hhb hN ⟨hl, hss.l⟩).mono ?_
      rintro e w' ⟨gv, K8, n8, hgv, hlen, rfl, hD, hf, hst, hfin⟩
      refine ⟨gv, K8, n8, rfl, hlen, hD, hf, hst, .inr ⟨hw, hgv⟩, fun sure k1 k2 k3 => ?_⟩
      obtain ⟨N', T', hd, ho, hl'⟩ := hfin sure k1 k2 k3
      rcases ho with ⟨e1, e2, e3⟩ | ⟨e1, e2, e3⟩ | ⟨e1, e2, e3⟩
      · exact ⟨N', T', x.sta, hd, .inr ⟨hq, e2⟩, hl', by rw [e2]; exact hss.l, by omega, .inr (.inl ⟨hw, e1, rfl⟩)⟩
      · exact ⟨N', T', st0, hd, by rw [e2]; exact hs0, hl', by rw [e2]; exact hT0b, by omega, .inr (.inr ⟨hw, hgv.resolve_left e1, .inl rfl⟩)⟩
      · exact ⟨N', T', x.sta, hd, .inr ⟨hq, e2⟩, hl', by rw [e2]; exact hss.l, by omega, .inr (.inr ⟨hw, e1, .inr rfl⟩)⟩
end Go.Proofs.YtgpcinfhcamgpaaGreatDoor
