/-
  The law's loader as a loader; what it leads to, in plain Lean.
-/
import Derived.Test.YthidjdjcjjbpbaaGreatDoorSeLd
import Derived.Test.YthidjdjcjjbpbaaGreatDoorSeK
import Derived.Test.YthidjdjcjjbpbaaGreatDoorSearchFindsW
namespace Go.Proofs.YthidjdjcjjbpbaaGreatDoor
open Go.RowKit Sea Glob
set_option linter.unusedVariables false
set_option linter.unusedSimpArgs false

/-- what the law's loader keeps -/
def LInv (LB : Nat) (A : Option Addr) (n c : Nat) (l : List PN) (stop : Int) (w : World) (S : Nat → Prop) (vis : List ByteArray) (ask : List (List PK)) : Prop :=
  ∃ nv kv kvs, LdS LB A n c l stop w nv kv vis.tail kvs ask ∧ (∀ b, S b ↔ SofL LB nv kv b) ∧ vis ≠ [] ∧ ask.length = vis.tail.length
theorem tail_snoc {α : Type} {l : List α} (h : l ≠ []) (x : α) : (l ++ [x]).tail = l.tail ++ [x] := by
  cases l with
  | nil => exact absurd rfl h
  | cons a l => rfl
theorem ldStop_ok {l : List PN} {stop : Int} {k : Nat} {m : ByteArray} {t : PM} (h : ldStop l 4 180 stop k m = .ok t) : loadP l m = some t := by
  unfold ldStop at h
  split at h
  · cases h
  · unfold ldOf at h
    split at h
    · rename_i u hu
      injection h with h
      rw [hu, h]
    · cases h
theorem lload_ldr (LB : Nat) (A : Option Addr) (n c : Nat) (l : List PN) (stop : Int) (hn : l.length = n) (hs : n ≤ 30) (h63 : -9223372036854775808 ≤ stop ∧ stop ≤ 9223372036854775807) (hg : ∀ x ∈ l, PMs x.t ∧ PMz x.t ∧ PKo x.t) :
    Ldr (fun b => LB ≤ b) 13 (.pointer (some ⟨LB, 0, none⟩)) (ldStop l 4 180 stop) (LInv LB A n c l stop) where
  ent := enters_of Tryz.func13 (by kernel_rfl) rfl
  good := fun k m t h => by
    have hu := ldStop_ok h
    unfold loadP at hu
    cases hf : l.find? (fun x => decide (x.name = m)) with
    | none => rw [hf] at hu; cases hu
    | some y => rw [hf] at hu; injection hu with hu; rw [← hu]; exact hg y (List.mem_of_find?_eq_some hf)
  nz := fun k m e h => by
    unfold ldStop at h
    split at h
    · injection h with h; rw [← h]; decide
    · unfold ldOf at h
      split at h
      · cases h
      · injection h with h; rw [← h]; decide
  typ := fun {w S vis ask} h b hb => by
    obtain ⟨nv, kv, kvs, h, hS, _, _⟩ := h
    rcases (hS b).1 hb with e | e | e
    · subst e; exact ⟨Nat.le_refl _, _, _, h.blk, .inl rfl⟩
    · obtain ⟨cur, hc⟩ := OG.blk h.on b e
      exact ⟨OG.ge h.on b e, _, _, hc, .inr (.inl rfl)⟩
    · obtain ⟨cur, hc⟩ := OG.blk h.ok b e
      exact ⟨OG.ge h.ok b e, _, _, hc, .inr (.inr rfl)⟩
  keep := fun {w w' S vis ask} T h hf hT => by
    obtain ⟨nv, kv, kvs, h, hS, h1, h2⟩ := h
    exact ⟨nv, kv, kvs, h.fr hf (fun b hb q => by obtain ⟨a1, a2, a3⟩ := hT b hb q; exact ⟨a1, fun e => a2 ((hS b).2 e), a3⟩), hS, h1, h2⟩
  step := fun {w S vis ask} d a ks kv0 base h hv hv2 ho hk => by
    obtain ⟨nv, kv, kvs, h, hS, h1, h2⟩ := h
    obtain ⟨vA, vc, rfl, _⟩ := OG.form h.on
    obtain ⟨kA, kc, rfl, _⟩ := OG.form h.ok
    obtain ⟨xA, xc, rfl, _⟩ := OG.form ho
    have hlt : vis.tail.length + 1 = vis.length := by rw [List.length_tail]; omega
    refine (lload_any LB A n c l stop vA kA vc kc vis.tail kvs ask d a ks xA xc base w hn hs h63 (by omega) (by rw [h.len, h2]; omega) h ho hk).mono ?_
    rintro e w' ⟨t, a', en, e1, e2, e3, ⟨nv', kv', kvs', e4, e5⟩, e6⟩
    rw [hlt] at e2
    exact ⟨t, a', en, SofL LB nv' kv', e1, e2, e3, ⟨nv', kv', kvs', by rw [tail_snoc h1]; exact e4, fun b => Iff.rfl, by simp, by rw [tail_snoc h1]; simp [h2]⟩, e6.mono (fun b _ q => (hS b).2 q), fun b hb => (e5 b hb).imp (hS b).2 id⟩
/-- a search with a loader that stops -/
theorem searchP_stop {l : List PN} {path : ByteArray} {stop : Int} {t : PM} {R R' : Res} (hR : R = searchP (ldOf l 4) path 32 t) (hR' : R' = searchP (ldStop l 4 180 stop) path 32 t) :
    (1 ≤ stop ∧ stop < R.vis.length → R'.x = none ∧ R'.e = 180 ∧ R'.vis = R.vis.take (stop + 1).toNat) ∧ (¬ (1 ≤ stop ∧ stop < R.vis.length) → R'.x = R.x ∧ R'.e = R.e ∧ R'.vis = R.vis) := by
  unfold searchP at hR hR'
  split at hR
  · rename_i h
    rw [if_pos h] at hR'
    obtain ⟨Q, Q', hQ, hQ', q1, q2⟩ := walkP_stop (cov := covP path) (path := path) (most := 32) (eNone := 4) (eMany := 200) (l := l) (eStop := 180) (stop := stop) 33 t [] [targetsB] [] (by simp) (by simp; omega)
    rw [← hQ] at hR
    rw [← hQ'] at hR'
    subst hR hR'
    exact ⟨q1, fun h => by rw [q2 h]; exact ⟨rfl, rfl, rfl⟩⟩
  · rename_i h
    rw [if_neg h] at hR'
    subst hR hR'
    exact ⟨fun h => by simp at h; omega, fun _ => ⟨rfl, rfl, rfl⟩⟩
theorem searchP_ask {l : List PN} {path : ByteArray} {stop : Int} {t : PM} {R' : Res} (hR' : R' = searchP (ldStop l 4 180 stop) path 32 t) : ∀ k ∈ R'.ask, k = t.ks ∨ ∃ n ∈ l, k = n.t.ks := by
  unfold searchP at hR'
  split at hR'
  · subst hR'
    exact walkP_ask (fun k m t h => ldStop_ok h) 33 t [] [targetsB] [] (.inl rfl) (fun x hx => by cases hx) (fun k hk => by cases hk)
  · subst hR'
    intro k hk; cases hk
theorem SS.takeS {w : World} {A : Option Addr} {l : List ByteArray} (h : SS w A l) (k : Nat) (hk : k ≤ l.length) : SS w A (l.take k) := by
  refine ⟨by simp, fun hn => ?_⟩
  have hlt : (l.take k).length = k := by rw [List.length_take]; omega
  rw [hlt] at hn
  obtain ⟨ad, e, hb, hc⟩ := h.2 (by omega)
  refine ⟨ad, e, hb, fun j u hu => hc j u ?_⟩
  rw [List.getElem?_map] at hu ⊢
  rcases Nat.lt_or_ge j k with h1 | h1
  · rw [List.getElem?_take_of_lt h1] at hu; exact hu
  · rw [List.getElem?_eq_none (by omega)] at hu; cases hu
theorem SS.tail1 {w : World} {b o : Nat} {l : List ByteArray} (h : SS w (some ⟨b, o, none⟩) l) : SS w (some ⟨b, o + 1, none⟩) l.tail := by
  refine ⟨by simp, fun h0 => ?_⟩
  rw [List.length_tail] at h0
  obtain ⟨ad, e, hb, hc⟩ := h.2 (by omega)
  cases e
  refine ⟨_, rfl, hb, fun j u hu => ?_⟩
  have := hc (j + 1) u (by
    rw [List.getElem?_map] at hu ⊢
    cases l with
    | nil => simp at hu
    | cons a l => simpa using hu)
  rw [Addr.add_mid] at this ⊢
  rw [show o + 1 + j = o + (j + 1) from by omega]
  exact this
/-- is what was asked by one's keys found among those of the first and of so many? -/
def Cov (q : List PK) (t : PM) (l : List PN) (k : Nat) (b : Bool) : Prop := (q = t.ks → b = true) ∧ ∀ j (hj : j < l.length), j < k → q = l[j].t.ks → b = true
theorem Cov.end_ {q : List PK} {t : PM} {l : List PN} {b : Bool} (h : Cov q t l l.length b) (hq : q = t.ks ∨ ∃ n ∈ l, q = n.t.ks) : b = true := by
  rcases hq with e | ⟨n, hn, e⟩
  · exact h.1 e
  · obtain ⟨j, hj, hx⟩ := List.getElem_of_mem hn
    exact h.2 j hj hj (by rw [hx]; exact e)
theorem Cov.yes {q : List PK} {t : PM} {l : List PN} (k : Nat) : Cov q t l k true := ⟨fun _ => rfl, fun _ _ _ _ => rfl⟩
theorem Cov.snoc {q : List PK} {t : PM} {l : List PN} {k : Nat} {b : Bool} {b' : Bool} (h : Cov q t l k b) (hk : k < l.length) (h1 : b = true → b' = true) (h2 : q = l[k].t.ks → b' = true) : Cov q t l (k + 1) b' :=
  ⟨fun e => h1 (h.1 e), fun j hj hjk e => by
    rcases (by omega : j < k ∨ j = k) with q | q
    · exact h1 (h.2 j hj q e)
    · subst q; exact h2 e⟩
/-- what lies there behind the search: the loader's block, what it was asked -/
structure LdE (LB : Nat) (A : Option Addr) (n c : Nat) (l : List PN) (stop : Int) (w : World) (nA : Option Addr) (nc kb : Nat) (kA : Option Addr) (kc nn : Nat) (names : List ByteArray) (ask : List (List PK)) : Prop where
  blk : Blk w LB 41 #[.slice A n c, .slice nA nn nc, .slice kA nn kc, .int .i64 stop]
  ns : SS w nA names
  nl : names.length = nn
  al : ask.length = nn
  el : ∀ i (h : i < ask.length), kA = some ⟨kb, 0, none⟩ ∧ ∃ xA xc, w.cell? ⟨kb, i, none⟩ = some (.slice xA ask[i].length xc) ∧ kb < w.heap.size ∧ KR w xA ask[i] ∧ (∀ k ∈ ask[i], k.length = 35)
theorem LdE.bel {LB : Nat} {A : Option Addr} {n c : Nat} {l : List PN} {stop : Int} {w w' : World} {nA : Option Addr} {nc kb : Nat} {kA : Option Addr} {kc nn : Nat} {names : List ByteArray} {ask : List (List PK)} (h : LdE LB A n c l stop w nA nc kb kA kc nn names ask) (hb : Below w.heap.size w w') : LdE LB A n c l stop w' nA nc kb kA kc nn names ask :=
  ⟨h.blk.below hb h.blk.lt, h.ns.below hb, h.nl, h.al, fun i hi => by
    obtain ⟨e, xA, xc, h1, h2, h3, h4⟩ := h.el i hi
    exact ⟨e, xA, xc, (hb.cell h2).trans h1, Nat.lt_of_lt_of_le h2 hb.size, h3.bel hb, h4⟩⟩
theorem LInv.out {LB : Nat} {A : Option Addr} {n c : Nat} {l : List PN} {stop : Int} {w : World} {S : Nat → Prop} {vis : List ByteArray} {ask : List (List PK)} (h : LInv LB A n c l stop w S vis ask) : ∃ nA nc kb kA kc, LdE LB A n c l stop w nA nc kb kA kc ask.length vis.tail ask := by
  obtain ⟨nv, kv, kvs, h, _, _, h2⟩ := h
  have hkl := h.len
  obtain ⟨nA, nc, rfl, _, _, hr, _⟩ := OG.form h.on
  obtain ⟨kA, kc, rfl, _, _, hq, ha⟩ := OG.form h.ok
  have hb := h.blk
  rw [hkl, ← h2] at hb
  refine ⟨nA, nc, (match kA with | some ad => ad.block | none => 0), kA, kc, hb, ?_, h2.symm, rfl, fun i hi => ?_⟩
  · have := hr
    unfold SS
    exact hr
  · obtain ⟨v, h3, h4, h5⟩ := h.el i hi
    cases kA with
    | none =>
      obtain ⟨ad, e, _⟩ := hq.2 (by omega)
      cases e
    | some ad =>
      obtain ⟨g1, g2, g3, g4, _⟩ := ha ad rfl
      obtain ⟨b, o, sp⟩ := ad
      simp only at g1 g2 g3 g4
      subst g3; subst g4
      obtain ⟨xA, xc, rfl, _⟩ := OG.form h4
      obtain ⟨ad', e', q1, q2⟩ := hq.2 (by omega)
      cases e'
      have h6 := q2 i _ h3
      rw [Addr.add_mid, Nat.zero_add] at h6
      exact ⟨rfl, xA, xc, h6, g2, KR.of_own h5 h4, h5⟩
end Go.Proofs.YthidjdjcjjbpbaaGreatDoor
