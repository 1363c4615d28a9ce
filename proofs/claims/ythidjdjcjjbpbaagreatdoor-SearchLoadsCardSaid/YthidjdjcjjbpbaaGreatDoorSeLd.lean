/-
  The law's own loader: it keeps what it was asked, and stops at the so many-th question.
-/
import Derived.Test.YthidjdjcjjbpbaaGreatDoorSeF1
import Derived.Test.YthidjdjcjjbpbaaGreatDoorSeR1
import Derived.Test.YthidjdjcjjbpbaaGreatDoorSeR5
import Derived.BigQuiet
namespace Go.Proofs.YthidjdjcjjbpbaaGreatDoor
open Go.RowKit Sea Glob
set_option linter.unusedVariables false
set_option linter.unusedSimpArgs false

theorem infoKR : (Tryz.prog.info? 23).map (fun i => (i.zero.map (fun z => z.cells.size), i.size, i.bytes)) = some (some 1, 1, 24) := by kernel_rfl
/-- what the loader keeps -/
structure LdS (LB : Nat) (A : Option Addr) (n c : Nat) (l : List PN) (stop : Int) (w : World) (nv kv : Value) (names : List ByteArray) (kvs : List Value) (ask : List (List PK)) : Prop where
  blk : Blk w LB 41 #[.slice A n c, nv, kv, .int .i64 stop]
  on : OG 9 1 w LB nv names.length (names.map Value.string)
  ok : OG 23 1 w LB kv kvs.length kvs
  len : kvs.length = ask.length
  el : ∀ i (h : i < ask.length), ∃ v, kvs[i]? = some v ∧ OG 78 35 w 0 v ask[i].length ask[i].flatten ∧ ∀ k ∈ ask[i], k.length = 35
  ns : NsR (fun b => LB ≤ b) w A l
def SofL (LB : Nat) (nv kv : Value) (b : Nat) : Prop := b = LB ∨ nv.ownBlock = some b ∨ kv.ownBlock = some b
section
variable {LB : Nat} {A : Option Addr} {n c : Nat} {l : List PN} {stop : Int} {w w' w4 : World} {nv kv nv' kv' : Value} {names : List ByteArray} {kvs : List Value} {ask : List (List PK)}
theorem LdS.fr (h : LdS LB A n c l stop w nv kv names kvs ask) {T : Nat → Prop} (hf : Fr T w w') (hT : ∀ b, b < w.heap.size → T b → LB ≤ b ∧ ¬ SofL LB nv kv b ∧ ∀ cs, ¬ Blk w b 78 cs) : LdS LB A n c l stop w' nv kv names kvs ask where
  blk := h.blk.fr hf (fun q => (hT _ h.blk.lt q).2.1 (.inl rfl))
  on := OG.fr h.on hf (fun g hg q => (hT g (OG.lt h.on g hg) q).2.1 (.inr (.inl hg)))
  ok := OG.fr h.ok hf (fun g hg q => (hT g (OG.lt h.ok g hg) q).2.1 (.inr (.inr hg)))
  len := h.len
  el := fun i hi => by
    obtain ⟨v, h1, h2, h3⟩ := h.el i hi
    exact ⟨v, h1, OG.frT h2 hf (fun g cs hb q => (hT g hb.lt q).2.2 cs hb), h3⟩
  ns := h.ns.fr (hf.mono (fun b hb q => (hT b hb q).1))
theorem LdS.bel (h : LdS LB A n c l stop w nv kv names kvs ask) (hb : Below w.heap.size w w') : LdS LB A n c l stop w' nv kv names kvs ask := h.fr (T := fun _ => False) (Fr.of_below hb) (fun _ _ e => e.elim)
/-- a name is kept -/
theorem LdS.app1 (h : LdS LB A n c l stop w nv kv names kvs ask) {x : ByteArray} (ho : OG 9 1 w4 LB nv' (names.length + 1) (names.map Value.string ++ [.string x])) (hg : w.grownBy w4 nv.ownBlock) : LdS LB A n c l stop (w4.setCell ⟨LB, 1, none⟩ nv') nv' kv (names ++ [x]) kvs ask ∧ Fr (SofL LB nv kv) w (w4.setCell ⟨LB, 1, none⟩ nv') := by
  have hf : Fr (fun g => nv.ownBlock = some g) w w4 := Fr.of_grown hg (fun g e => e)
  have hs : Fr (· = LB) w4 (w4.setCell ⟨LB, 1, none⟩ nv') := (Fr.refl (· = LB) w4).setCell (p := ⟨LB, 1, none⟩) (fun _ => rfl) nv'
  have hb := h.blk.fr hf (OG.far h.on h.blk (by decide))
  refine ⟨⟨?_, ?_, ?_, h.len, ?_, ?_⟩, (hf.mono (fun b _ e => .inr (.inl e))).trans (hs.mono (fun b _ e => .inl e))⟩
  · have := hb.set_ 1 nv'
    simpa using this
  · rw [List.length_append, List.map_append]
    exact OG.fr ho hs (fun g hg e => OG.far ho hb (by decide) (e ▸ hg))
  · exact OG.frT (OG.frT h.ok hf (fun g cs hb => OG.far h.on hb (by decide))) hs (fun g cs hb' e => hb'.ne_ hb (by decide) e)
  · intro i hi
    obtain ⟨v, h1, h2, h3⟩ := h.el i hi
    exact ⟨v, h1, OG.frT (OG.frT h2 hf (fun g cs hb => OG.far h.on hb (by decide))) hs (fun g cs hb' e => hb'.ne_ hb (by decide) e), h3⟩
  · exact (h.ns.fr (hf.mono (fun b _ e => OG.ge h.on b e))).fr (hs.mono (fun b _ e => by rw [e]; exact Nat.le_refl _))
/-- keys are kept -/
theorem LdS.app2 (h : LdS LB A n c l stop w nv kv names kvs ask) {v : Value} {ks : List PK} {base : Nat} (hv : OG 78 35 w base v ks.length ks.flatten) (h35 : ∀ k ∈ ks, k.length = 35) (ho : OG 23 1 w4 LB kv' (kvs.length + 1) (kvs ++ [v])) (hg : w.grownBy w4 kv.ownBlock) : LdS LB A n c l stop (w4.setCell ⟨LB, 2, none⟩ kv') nv kv' names (kvs ++ [v]) (ask ++ [ks]) ∧ Fr (SofL LB nv kv) w (w4.setCell ⟨LB, 2, none⟩ kv') := by
  have hf : Fr (fun g => kv.ownBlock = some g) w w4 := Fr.of_grown hg (fun g e => e)
  have hs : Fr (· = LB) w4 (w4.setCell ⟨LB, 2, none⟩ kv') := (Fr.refl (· = LB) w4).setCell (p := ⟨LB, 2, none⟩) (fun _ => rfl) kv'
  have hb := h.blk.fr hf (OG.far h.ok h.blk (by decide))
  have hK : ∀ {v' : Value} {b' m : Nat} {xs : List Value}, OG 78 35 w b' v' m xs → OG 78 35 (w4.setCell ⟨LB, 2, none⟩ kv') b' v' m xs := fun h2 => OG.frT (OG.frT h2 hf (fun g cs hb => OG.far h.ok hb (by decide))) hs (fun g cs hb' e => hb'.ne_ hb (by decide) e)
  refine ⟨⟨?_, ?_, ?_, by simp [h.len], ?_, ?_⟩, (hf.mono (fun b _ e => .inr (.inr e))).trans (hs.mono (fun b _ e => .inl e))⟩
  · have := hb.set_ 2 kv'
    simpa using this
  · exact OG.frT (OG.frT h.on hf (fun g cs hb => OG.far h.ok hb (by decide))) hs (fun g cs hb' e => hb'.ne_ hb (by decide) e)
  · rw [List.length_append]
    exact OG.fr ho hs (fun g hg e => OG.far ho hb (by decide) (e ▸ hg))
  · intro i hi
    rw [List.length_append, List.length_singleton] at hi
    rcases (by omega : i < ask.length ∨ i = ask.length) with hlt | heq
    · obtain ⟨v', h1, h2, h3⟩ := h.el i hlt
      rw [List.getElem_append_left hlt]
      exact ⟨v', by rw [List.getElem?_append_left (by rw [h.len]; exact hlt)]; exact h1, hK h2, h3⟩
    · subst heq
      rw [List.getElem_append_right (Nat.le_refl _)]
      simp only [Nat.sub_self, List.getElem_singleton]
      exact ⟨v, by rw [← h.len, List.getElem?_append_right (Nat.le_refl _), Nat.sub_self]; rfl, hK (OG.mono hv (Nat.zero_le _)), h35⟩
  · exact (h.ns.fr (hf.mono (fun b _ e => OG.ge h.ok b e))).fr (hs.mono (fun b _ e => by rw [e]; exact Nat.le_refl _))
end
theorem LdS.far {LB : Nat} {A : Option Addr} {n c : Nat} {l : List PN} {stop : Int} {w : World} {nv kv : Value} {names : List ByteArray} {kvs : List Value} {ask : List (List PK)} (h : LdS LB A n c l stop w nv kv names kvs ask) {g : Nat} {t : TypeId} {cs : Array Value} (hb : Blk w g t cs) (ht : t ≠ 41 ∧ t ≠ 9 ∧ t ≠ 23) : ¬ SofL LB nv kv g := by
  rintro (e | e | e)
  · exact hb.ne_ h.blk ht.1 e
  · exact OG.far h.on hb ht.2.1 e
  · exact OG.far h.ok hb ht.2.2 e
theorem fr5 {w : World} {g : Nat} {a b c d e : Value} : Fr (· = g) w (((((w.setCell ⟨g, 0, none⟩ a).setCell ⟨g, 1, none⟩ b).setCell ⟨g, 2, none⟩ c).setCell ⟨g, 3, none⟩ d).setCell ⟨g, 4, none⟩ e) :=
  (((((Fr.refl (· = g) w).setCell (p := ⟨g, 0, none⟩) (fun _ => rfl) _).setCell (p := ⟨g, 1, none⟩) (fun _ => rfl) _).setCell (p := ⟨g, 2, none⟩) (fun _ => rfl) _).setCell (p := ⟨g, 3, none⟩) (fun _ => rfl) _).setCell (p := ⟨g, 4, none⟩) (fun _ => rfl) _
theorem blk5 {w : World} {g : Nat} {t : TypeId} {a b c d e v0 v1 v2 v3 v4 : Value} (h : Blk w g t #[v0, v1, v2, v3, v4]) : Blk (((((w.setCell ⟨g, 0, none⟩ a).setCell ⟨g, 1, none⟩ b).setCell ⟨g, 2, none⟩ c).setCell ⟨g, 3, none⟩ d).setCell ⟨g, 4, none⟩ e) g t #[a, b, c, d, e] :=
  ((((h.set_ 0 _).set_ 1 _).set_ 2 _).set_ 3 _).set_ 4 _
/-- what the loader answers -/
def LoP (LB : Nat) (A : Option Addr) (n c : Nat) (l : List PN) (stop : Int) (r : Except Int PM) (nv kv : Value) (names : List ByteArray) (ask : List (List PK)) (w : World) (e : Ending) (w' : World) : Prop :=
  ∃ (t : PM) (a : MA) (en : Int), e = .returned (.tuple #[t.val a, .int .i64 en]) ∧ (match r with | .ok t' => t = t' ∧ en = 0 | .error x => en = x) ∧ MOk (fun b => LB ≤ b) w' t a ∧
    (∃ nv' kv' kvs', LdS LB A n c l stop w' nv' kv' names kvs' ask ∧ ∀ b, SofL LB nv' kv' b → SofL LB nv kv b ∨ w.heap.size ≤ b) ∧ Fr (SofL LB nv kv) w w'
theorem lo_end {LB : Nat} {A : Option Addr} {n c : Nat} {l : List PN} {stop : Int} {w wC wr w' : World} {nv kv nv' kv' : Value} {names : List ByteArray} {kvs : List Value} {ask : List (List PK)} {r : Except Int PM} {q6 : Nat} {cs : Array Value} {t : PM} {a : MA} {en : Int} (hC : LdS LB A n c l stop wC nv' kv' names kvs ask) (hS : ∀ b, SofL LB nv' kv' b → SofL LB nv kv b ∨ w.heap.size ≤ b) (hF : Fr (SofL LB nv kv) w wC) (hb : Below wC.heap.size wC wr) (hk : Blk wr q6 26 cs) (hq : w.heap.size ≤ q6) (hL : LB ≤ w.heap.size) (hf : Fr (· = q6) wr w') (hm : MOk (fun b => LB ≤ b) wr t a) (hr : match r with | .ok t' => t = t' ∧ en = 0 | .error x => en = x) :
    LoP LB A n c l stop r nv kv names ask w (.returned (.tuple #[t.val a, .int .i64 en])) w' := by
  have hr2 := hC.bel hb
  refine ⟨t, a, en, rfl, hr, hm.fr (hf.mono (fun b _ e => by rw [e]; omega)), ⟨nv', kv', kvs, hr2.fr hf (fun b _ e => ?_), hS⟩, (hF.trans (Fr.of_below hb)).trans_new hf (fun j hj e => by omega)⟩
  subst e
  exact ⟨by omega, hr2.far hk (by decide), fun cs' hb' => hk.ne_ hb' (by decide) rfl⟩
set_option maxRecDepth 100000 in
set_option maxHeartbeats 8000000 in
theorem lload_any (LB : Nat) (A : Option Addr) (n c : Nat) (l : List PN) (stop : Int) (vA kA : Option Addr) (vc kc : Nat) (names : List ByteArray) (kvs : List Value) (ask : List (List PK)) (d : PD) (da : DA) (ks : List PK) (xA : Option Addr) (xc : Nat) (base : Nat) (w : World) (hn : l.length = n) (hs : n ≤ 30) (h63 : -9223372036854775808 ≤ stop ∧ stop ≤ 9223372036854775807) (hv : names.length ≤ 32) (hk : kvs.length ≤ 32)
    (h : LdS LB A n c l stop w (.slice vA names.length vc) (.slice kA kvs.length kc) names kvs ask) (ho : OG 78 35 w base (.slice xA ks.length xc) ks.length ks.flatten) (h35 : ∀ k ∈ ks, k.length = 35) :
    Calls Tryz.prog 13 #[.pointer (some ⟨LB, 0, none⟩), d.val da, .slice xA ks.length xc] w fun e w' => PF (LoP LB A n c l stop (ldStop l 4 180 stop (names.length + 1) d.name) (.slice vA names.length vc) (.slice kA kvs.length kc) (names ++ [d.name]) (ask ++ [ks]) w) e w' := by
  obtain ⟨q4, hq4⟩ : ∃ q4, q4 = w.heap.size := ⟨_, rfl⟩
  obtain ⟨q6, hq6⟩ : ∃ q6, q6 = w.heap.size + 1 := ⟨_, rfl⟩
  obtain ⟨WZ, hWZ⟩ : ∃ WZ, WZ = (w.alloc (.cells #[.string d.name, .slice da.kA d.rk.length da.kc, .int .i64 d.thr, .bool d.term, .slice da.pA d.paths.length da.pc, .slice da.xA d.prefs.length da.xc] 59)).alloc (.cells #[.int .i64 0, .int .i64 0, .slice none 0 0, .slice none 0 0, .slice none 0 0] 26) := ⟨_, rfl⟩
  have hbz : Below w.heap.size w WZ := by rw [hWZ]; exact ((Below.refl _ _).alloc (Nat.le_refl _) _).alloc (by simp) _
  have hk4 : Blk WZ q4 59 #[.string d.name, .slice da.kA d.rk.length da.kc, .int .i64 d.thr, .bool d.term, .slice da.pA d.paths.length da.pc, .slice da.xA d.prefs.length da.xc] := by rw [hWZ, hq4]; exact (Blk.new _ _ _).alloc _
  have hk6 : Blk WZ q6 26 #[.int .i64 0, .int .i64 0, .slice none 0 0, .slice none 0 0, .slice none 0 0] := by
    rw [hWZ, hq6]
    have h2 := Blk.new (w.alloc (.cells #[.string d.name, .slice da.kA d.rk.length da.kc, .int .i64 d.thr, .bool d.term, .slice da.pA d.paths.length da.pc, .slice da.xA d.prefs.length da.xc] 59)) 26 #[.int .i64 0, .int .i64 0, .slice none 0 0, .slice none 0 0, .slice none 0 0]
    simpa using h2
  have hlz := h.bel hbz
  have HLZ := Lib.hid hlz
  have HLBW : Hid (LB < w.heap.size) := Lib.hid h.blk.lt
  have HBZ := Lib.hid hbz
  have HK6 := Lib.hid hk6
  have HK4 := Lib.hid hk4
  have HWZ := Lib.hid hWZ
  have HQ4 := Lib.hid hq4
  have HQ6 := Lib.hid hq6
  have HVL : Hid (names.length + 1 ≤ 1000000000) := Lib.hid (by omega)
  obtain ⟨nn, hnn⟩ : ∃ nn, names.length + 1 = nn := ⟨_, rfl⟩
  obtain ⟨mm, hmm⟩ : ∃ mm, kvs.length + 1 = mm := ⟨_, rfl⟩
  have hnn9 : (nn : Int) ≤ 33 := by omega
  rw [hnn]
  obtain ⟨r, hr⟩ : ∃ r, r = ldStop l 4 180 stop nn d.name := ⟨_, rfl⟩
  rw [← hr]
  have HR := Lib.hid hr
  clear hr
  have HNN := Lib.hid hnn
  have HMM := Lib.hid hmm
  have HKL : Hid (kvs.length + 1 ≤ 1000000000) := Lib.hid (by omega)
  have HV := Lib.hid hv
  have HNS := Lib.hid hs
  have HN := Lib.hid hn
  have H63 := Lib.hid h63
  have HXO := Lib.hid (OG.below ho hbz)
  have H35 := Lib.hid h35
  have HS0 : (fun V => Blk V LB 41 #[.slice A n c, .slice vA names.length vc, .slice kA kvs.length kc, .int .i64 stop] ∧ Blk V q4 59 #[.string d.name, .slice da.kA d.rk.length da.kc, .int .i64 d.thr, .bool d.term, .slice da.pA d.paths.length da.pc, .slice da.xA d.prefs.length da.xc]) WZ.drew := ⟨hlz.blk, hk4⟩
  unfold Sea.PD.val Sea.PD.cs
  clear hlz hbz hk4 hk6 hWZ hq4 hq6 hv hk hs hn h63 ho h35 h hnn hmm
  go_enter Tryz.func13, Tryz.ntmps13
  go_wp2_with fail
  rw [← HWZ.out, ← HQ6.out, ← HQ4.out]
  refine wp_region_heldT (S := fun V => Blk V LB 41 #[.slice A n c, .slice vA names.length vc, .slice kA kvs.length kc, .int .i64 stop] ∧ Blk V q4 59 #[.string d.name, .slice da.kA d.rk.length da.kc, .int .i64 d.thr, .bool d.term, .slice da.pA d.paths.length da.pc, .slice da.xA d.prefs.length da.xc]) 11 (by kernel_rfl) (HS0) (fun hS1 => ?_)
  obtain ⟨WD, hWD⟩ : ∃ WD, WD = WZ.drew := ⟨_, rfl⟩
  rw [← hWD] at hS1 ⊢
  have HBD : Hid (Below WZ.heap.size WZ WD) := Lib.hid (by rw [hWD]; exact (Below.refl _ _).drew)
  clear hWD
  refine wpAnyT_pure (i := 0) (oi := ⟨some 9, _, _, _, _, _⟩) (v := .pointer (some ⟨LB, 0, none⟩)) rfl (by kernel_rfl) (by kernel_rfl) (by kernel_rfl) (by decide) (fun _ _ _ h => h) (.inl ⟨by kernel_rfl, fun V hS => by go_simp⟩) hS1 ?_
  simp only [Act.put, List.setIfInBounds_toArray, List.set_cons_zero, List.set_cons_succ]
  refine wpAnyT_pure (i := 1) (oi := ⟨some 10, _, _, _, _, _⟩) (v := .pointer (some ⟨LB, 0, none⟩)) rfl (by kernel_rfl) (by kernel_rfl) (by kernel_rfl) (by decide) (fun _ _ _ h => h) (.inl ⟨by kernel_rfl, fun V hS => by go_simp⟩) hS1 ?_
  simp only [Act.put, List.setIfInBounds_toArray, List.set_cons_zero, List.set_cons_succ]
  refine wpAnyT_pure (i := 2) (oi := ⟨some 11, _, _, _, _, _⟩) (v := .pointer (some ⟨LB, 0, none⟩)) rfl (by kernel_rfl) (by kernel_rfl) (by kernel_rfl) (by decide) (fun _ _ _ h => h) (.inl ⟨by kernel_rfl, fun V hS => by go_simp⟩) hS1 ?_
  simp only [Act.put, List.setIfInBounds_toArray, List.set_cons_zero, List.set_cons_succ]
  refine wpAnyT_pure (i := 3) (oi := ⟨some 12, _, _, _, _, _⟩) (v := .pointer (some ⟨LB, 1, none⟩)) rfl (by kernel_rfl) (by kernel_rfl) (by kernel_rfl) (by decide) (fun _ _ _ h => h) (.inl ⟨by kernel_rfl, fun V hS => by go_simp⟩) hS1 ?_
  simp only [Act.put, List.setIfInBounds_toArray, List.set_cons_zero, List.set_cons_succ]
  refine wpAnyT_take (i := 4) (oi := ⟨some 13, _, _, _, _, _⟩) (v := .slice vA names.length vc) rfl (by kernel_rfl) (by kernel_rfl) (by kernel_rfl) (by kernel_rfl) (by kernel_rfl) (fun _ _ _ h => h) (.inl ⟨by kernel_rfl, fun V hS => by have sc := hS.1.cell 1; simp at sc; go_simp⟩) hS1 ?_
  simp only [Act.put, List.setIfInBounds_toArray, List.set_cons_zero, List.set_cons_succ]
  refine wpAnyT_pure (i := 5) (oi := ⟨some 14, _, _, _, _, _⟩) (v := .pointer (some ⟨q4, 0, none⟩)) rfl (by kernel_rfl) (by kernel_rfl) (by kernel_rfl) (by decide) (fun _ _ _ h => h) (.inl ⟨by kernel_rfl, fun V hS => by go_simp⟩) hS1 ?_
  simp only [Act.put, List.setIfInBounds_toArray, List.set_cons_zero, List.set_cons_succ]
  refine wpAnyT_take (i := 6) (oi := ⟨some 15, _, _, _, _, _⟩) (v := .string d.name) rfl (by kernel_rfl) (by kernel_rfl) (by kernel_rfl) (by kernel_rfl) (by kernel_rfl) (fun _ _ _ h => h) (.inl ⟨by kernel_rfl, fun V hS => by have sc := hS.2.cell 0; simp at sc; go_simp⟩) hS1 ?_
  simp only [Act.put, List.setIfInBounds_toArray, List.set_cons_zero, List.set_cons_succ]
  refine wpAnyT_ready (rs := [7]) (by kernel_rfl) (by simp) ?_
  refine AllReadyT.cons rfl (fun K' hK => ?_) AllReadyT.nil
  go_simp
  have HN7 := Lib.hid (reads_new WD 9 #[.string d.name])
  have HA7 : Hid (Below WZ.heap.size WZ (WD.alloc (.cells #[.string d.name] 9))) := Lib.hid (HBD.out.alloc HBD.out.size _)
  have HL7 := Lib.hid (HLZ.out.bel HA7.out)
  have hz7 : LB ≤ (WD.alloc (.cells #[.string d.name] 9)).heap.size := Nat.le_of_lt HL7.out.blk.lt
  refine hK.out _ _ (⟨(hS1).1.alloc _, (hS1).2.alloc _⟩) (fun hS2 => ?_)
  clear hK K' hS1
  refine wpAnyT_ready (rs := [8]) (by kernel_rfl) (by simp) ?_
  refine AllReadyT.cons rfl (fun K' hK => ?_) AllReadyT.nil
  generalize WD.alloc (.cells #[.string d.name] 9) = w3 at HN7 HL7 HA7 hz7 hS2 ⊢
  refine step_raw w3 infoStrG Tryz.underlying32 (by omega) (by omega) rfl _ _ rfl LB (.slice vA names.length vc) names.length _ rfl HL7.out.on _ 1 1 _ rfl HN7.out (by simp [Value.oneCell']) HVL.out hz7 ?_
  intro v4 w4' hrow hg hat
  have HP9 := Lib.hid (HL7.out.app1 hrow hg)
  rw [HNN.out] at hrow
  obtain ⟨A9, c9, rfl, _⟩ := OG.form hrow
  have HF9 : Hid (Fr (fun g => (Value.slice vA names.length vc).ownBlock = some g) w3 w4') := Lib.hid (Fr.of_grown hg (fun g e => e))
  have HM9 := Lib.hid (Blk.fr (hS2).1 HF9.out (OG.far HL7.out.on (hS2).1 (by decide)))
  have HQ9 := Lib.hid (Blk.fr (hS2).2 HF9.out (OG.far HL7.out.on (hS2).2 (by decide)))
  have HAT : Hid ((Value.slice A9 nn c9).ownBlock = (Value.slice vA names.length vc).ownBlock ∨ ∃ g, (Value.slice A9 nn c9).ownBlock = some g ∧ w3.heap.size ≤ g) := Lib.hid (hat.imp id (fun e => ⟨_, e, Nat.le_refl _⟩))
  clear hrow hg hat hz7
  refine hK.out _ _ (⟨HM9.out, HQ9.out⟩) (fun hS3 => ?_)
  clear hK K' hS2
  simp only [Act.put, List.setIfInBounds_toArray, List.set_cons_zero, List.set_cons_succ]
  refine wpAnyT_pure (i := 9) (oi := ⟨some 18, _, _, _, _, _⟩) (v := .pointer (some ⟨LB, 0, none⟩)) rfl (by kernel_rfl) (by kernel_rfl) (by kernel_rfl) (by decide) (fun _ _ _ h => h) (.inl ⟨by kernel_rfl, fun V hS => by go_simp⟩) hS3 ?_
  simp only [Act.put, List.setIfInBounds_toArray, List.set_cons_zero, List.set_cons_succ]
  refine wpAnyT_pure (i := 10) (oi := ⟨some 19, _, _, _, _, _⟩) (v := .pointer (some ⟨LB, 1, none⟩)) rfl (by kernel_rfl) (by kernel_rfl) (by kernel_rfl) (by decide) (fun _ _ _ h => h) (.inl ⟨by kernel_rfl, fun V hS => by go_simp⟩) hS3 ?_
  simp only [Act.put, List.setIfInBounds_toArray, List.set_cons_zero, List.set_cons_succ]
  refine wpAnyT_T (by kernel_rfl) rfl (by kernel_rfl) (fun K' hK => ?_)
  have sc := HM9.out.cell 1
  have sf := HM9.out.frozen 1
  simp at sc sf
  go_simp
  clear sc sf
  refine hK.out _ _ ?_
  clear hK K' hS3
  refine wpAnyH_done (by kernel_rfl) ?_ _
  have HLA := Lib.hid HP9.out.1
  have HFA0 := Lib.hid HP9.out.2
  obtain ⟨wA, hwA⟩ : ∃ wA, wA = w4'.setCell ⟨LB, 1, none⟩ (.slice A9 nn c9) := ⟨_, rfl⟩
  rw [← hwA] at HLA HFA0 ⊢
  have HK6A : Hid (Blk wA q6 26 #[.int .i64 0, .int .i64 0, .slice none 0 0, .slice none 0 0, .slice none 0 0]) := Lib.hid ((HK6.out.below HA7.out HK6.out.lt).fr HFA0.out (HL7.out.far (HK6.out.below HA7.out HK6.out.lt) (by decide)))
  have HK4A : Hid (Blk wA q4 59 #[.string d.name, .slice da.kA d.rk.length da.kc, .int .i64 d.thr, .bool d.term, .slice da.pA d.paths.length da.pc, .slice da.xA d.prefs.length da.xc]) := Lib.hid ((HK4.out.below HA7.out HK4.out.lt).fr HFA0.out (HL7.out.far (HK4.out.below HA7.out HK4.out.lt) (by decide)))
  have HFA : Hid (Fr (SofL LB (.slice vA names.length vc) (.slice kA kvs.length kc)) w wA) := Lib.hid ((Fr.of_below (HBZ.out.trans (HA7.out.mono HBZ.out.size))).trans_new HFA0.out (fun j hj e => e))
  have HXA : Hid (OG 78 35 wA base (.slice xA ks.length xc) ks.length ks.flatten) := Lib.hid (OG.frT (OG.below HXO.out HA7.out) HFA0.out (fun g cs hb => HL7.out.far hb (by decide)))
  have HSA : Hid (∀ b, SofL LB (.slice A9 nn c9) (.slice kA kvs.length kc) b → SofL LB (.slice vA names.length vc) (.slice kA kvs.length kc) b ∨ w.heap.size ≤ b) := Lib.hid (by
    rintro b (e | e | e)
    · exact .inl (.inl e)
    · rcases HAT.out with q | ⟨g, q, q2⟩
      · exact .inl (.inr (.inl (q ▸ e)))
      · rw [q] at e; injection e with e; rw [← e]; exact .inr (Nat.le_trans (Nat.le_trans HBZ.out.size HA7.out.size) q2)
    · exact .inl (.inr (.inr e)))
  clear hwA HP9 HF9 HM9 HQ9 HAT HN7 HA7 HL7 HFA0 HBD
  obtain ⟨wB, hwB⟩ : ∃ wB, wB = wA.alloc (.cells #[.slice xA ks.length xc] 23) := ⟨_, rfl⟩
  have hbB : Below wA.heap.size wA wB := by rw [hwB]; exact (Below.refl _ _).alloc (Nat.le_refl _) _
  have HLB := Lib.hid (HLA.out.bel hbB)
  have HBB := Lib.hid hbB
  have HN8 : Hid (Reads wB wB.heap.size 1 (some ⟨wA.heap.size, 0, none⟩) 1 [.slice xA ks.length xc]) := Lib.hid (by rw [hwB]; exact reads_new _ _ _)
  have HONE : Hid (∀ u ∈ [Value.slice xA ks.length xc], u.oneCell' = true) := Lib.hid (by simp [Value.oneCell'])
  have HOKB := Lib.hid HLB.out.ok
  have hszB : LB ≤ wB.heap.size := Nat.le_of_lt HLB.out.blk.lt
  have hln : kvs.length + 1 ≤ 1000000000 := HKL.out
  have HPOST : Hid (∀ v9 w5, OG 23 1 w5 LB v9 (kvs.length + 1) (kvs ++ [.slice xA ks.length xc]) → wB.grownBy w5 (Value.slice kA kvs.length kc).ownBlock → (v9.ownBlock = (Value.slice kA kvs.length kc).ownBlock ∨ v9.ownBlock = some wB.heap.size) →
      w5.cell? ⟨LB, 2, none⟩ = some (.slice kA kvs.length kc) ∧ w5.frozen? ⟨LB, 2, none⟩ = false ∧ Hid (LdS LB A n c l stop (w5.setCell ⟨LB, 2, none⟩ v9) (.slice A9 nn c9) v9 (names ++ [d.name]) (kvs ++ [.slice xA ks.length xc]) (ask ++ [ks])) ∧ Hid (Fr (SofL LB (.slice vA names.length vc) (.slice kA kvs.length kc)) w (w5.setCell ⟨LB, 2, none⟩ v9)) ∧ Hid (Blk (w5.setCell ⟨LB, 2, none⟩ v9) q6 26 #[.int .i64 0, .int .i64 0, .slice none 0 0, .slice none 0 0, .slice none 0 0]) ∧ Hid (Blk (w5.setCell ⟨LB, 2, none⟩ v9) q4 59 #[.string d.name, .slice da.kA d.rk.length da.kc, .int .i64 d.thr, .bool d.term, .slice da.pA d.paths.length da.pc, .slice da.xA d.prefs.length da.xc]) ∧ Hid (∀ b, SofL LB (.slice A9 nn c9) v9 b → SofL LB (.slice vA names.length vc) (.slice kA kvs.length kc) b ∨ w.heap.size ≤ b)) := Lib.hid (by
    intro v9 w5 ho hg hat
    have hX : OG 78 35 wB base (.slice xA ks.length xc) ks.length ks.flatten := OG.below HXA.out HBB.out
    obtain ⟨h1, h2⟩ := HLB.out.app2 hX H35.out ho hg
    have hf : Fr (fun g => (Value.slice kA kvs.length kc).ownBlock = some g) wB w5 := Fr.of_grown hg (fun g e => e)
    have hb5 := HLB.out.blk.fr hf (OG.far HLB.out.ok HLB.out.blk (by decide))
    refine ⟨hb5.cell 2, hb5.frozen 2, Lib.hid h1, Lib.hid ?_, Lib.hid ((HK6A.out.below HBB.out HK6A.out.lt).fr h2 (HLB.out.far (HK6A.out.below HBB.out HK6A.out.lt) (by decide))), Lib.hid ((HK4A.out.below HBB.out HK4A.out.lt).fr h2 (HLB.out.far (HK4A.out.below HBB.out HK4A.out.lt) (by decide))), Lib.hid ?_⟩
    · refine (HFA.out.trans (Fr.of_below HBB.out)).trans_new h2 (fun j hj e => ?_)
      rcases HSA.out j e with q | q
      · exact q
      · omega
    · rintro b (e | e | e)
      · exact .inl (.inl e)
      · exact HSA.out b (.inr (.inl e))
      · rcases hat with q | q
        · exact .inl (.inr (.inr (q ▸ e)))
        · rw [q] at e; injection e with e; rw [← e]; exact .inr (Nat.le_trans HFA.out.size HBB.out.size))
  have HWB := Lib.hid hwB
  have sc := HLA.out.blk.cell 2
  simp at sc
  clear hbB hwB
  go_wp2_with (at_builtin; rw [← HWB.out]; refine app_raw _ infoKR Tryz.underlying39 (by omega) (by omega) rfl _ _ rfl LB (.slice kA kvs.length kc) kvs.length _ rfl HOKB.out _ 1 1 _ rfl HN8.out HONE.out hln hszB ?_; clear sc HN8 HONE HOKB hln hszB; intro v9 w5 hown hg hat; obtain ⟨y4, f4, HLC, HFC, HK6C, HK4C, HSC⟩ := HPOST.out v9 w5 hown hg hat; rw [HMM.out] at hown; obtain ⟨B9, c8, rfl, _⟩ := OG.form hown; clear hown hg hat HPOST)
  obtain ⟨wC, hwC⟩ : ∃ wC, wC = w5.setCell ⟨LB, 2, none⟩ (.slice B9 mm c8) := ⟨_, rfl⟩
  rw [← hwC] at HLC HFC HK6C HK4C ⊢
  have HLBS : Hid (LB ≤ w.heap.size ∧ w.heap.size ≤ q6) := Lib.hid ⟨by have := HLZ.out.blk.lt; have := HLBW.out; omega, by rw [HQ6.out]; omega⟩
  have c1 : wC.cell? ⟨LB, 1, none⟩ = some (.slice A9 nn c9) := by have := HLC.out.blk.cell 1; simpa using this
  have c3 : wC.cell? ⟨LB, 3, none⟩ = some (.int .i64 stop) := by have := HLC.out.blk.cell 3; simpa using this
  clear hwC HLA HFA HXA HSA HK6A HK4A HLB HBB HWB HXO H35 HK6 HK4 HLZ y4 f4
  rcases (by omega : (nn : Int) = stop ∨ (nn : Int) ≠ stop) with he | he
  · have r1 : ((nn : Int) == stop) = true := by rw [beq_iff_eq]; exact he
    have r1' : decide ((nn : Int) = stop) = true := decide_eq_true he
    have HI : Hid (r = .error 180) := Lib.hid (by rw [HR.out]; unfold ldStop; rw [if_pos he])
    have z0 : wC.cell? ⟨q6, 0, none⟩ = some (.int .i64 0) := HK6C.out.cell 0
    have f0 : wC.frozen? ⟨q6, 0, none⟩ = false := HK6C.out.frozen 0
    have z1 : wC.cell? ⟨q6, 1, none⟩ = some (.int .i64 0) := HK6C.out.cell 1
    have f1 : wC.frozen? ⟨q6, 1, none⟩ = false := HK6C.out.frozen 1
    have z2 : wC.cell? ⟨q6, 2, none⟩ = some (.slice none 0 0) := HK6C.out.cell 2
    have f2 : wC.frozen? ⟨q6, 2, none⟩ = false := HK6C.out.frozen 2
    have z3 : wC.cell? ⟨q6, 3, none⟩ = some (.slice none 0 0) := HK6C.out.cell 3
    have f3 : wC.frozen? ⟨q6, 3, none⟩ = false := HK6C.out.frozen 3
    have z4 : wC.cell? ⟨q6, 4, none⟩ = some (.slice none 0 0) := HK6C.out.cell 4
    have f4 : wC.frozen? ⟨q6, 4, none⟩ = false := HK6C.out.frozen 4
    clear he
    go_wp2_with (go_quiet (fail))
    have HQ := Lib.hid (HK6C.out.drewN nq)
    have k := blk5 (a := .int .i64 0) (b := .int .i64 0) (c := .slice none 0 0) (d := .slice none 0 0) (e := .slice none 0 0) HQ.out
    have k0 := k.cell 0
    have k1 := k.cell 1
    have k2 := k.cell 2
    have k3 := k.cell 3
    have k4 := k.cell 4
    simp at k0 k1 k2 k3 k4
    refine bodyPost_ret (v := .tuple #[noM.val ⟨none, 0, none, 0, none, 0⟩, .int .i64 180]) (by simp [results, Tryz.results13, go_sem, k0, k1, k2, k3, k4, Sea.PM.val, Sea.PM.cs, noM]) rfl ?_
    exact lo_end HLC.out HSC.out HFC.out (below_drwN (Below.refl _ _) _) HQ.out HLBS.out.2 HLBS.out.1 fr5 (noM_ok _ _) (by rw [HI.out])
  · have r1 : ((nn : Int) == stop) = false := by rw [beq_eq_false_iff_ne]; exact he
    have r1' : decide ((nn : Int) = stop) = false := decide_eq_false he
    have HI : Hid (r = ldOf l 4 0 d.name) := Lib.hid (by rw [HR.out]; unfold ldStop; rw [if_neg he]; rfl)
    clear he
    go_wp2_with (go_quiet (fail))
    clear c1 c3
    go_loopw [8] (fun iv wr => ∃ k : Nat, k ≤ n ∧ iv = .int .i64 k ∧ Hid (∀ j (hj : j < l.length), j < k → decide (l[j].name = d.name) = false) ∧ Hid (Below wC.heap.size wC wr)) (fun iv _ => n - (intOf iv).toNat)
    case atStart => exact ⟨0, Nat.zero_le _, rfl, Lib.hid (fun j hj h => by omega), Lib.hid (below_drwN (Below.refl _ _) _)⟩
    case round =>
      obtain ⟨k, hk, rfl, HB, HW⟩ := hrel
      have HLR := Lib.hid (HLC.out.bel HW.out)
      have c0 : wr.cell? ⟨LB, 0, none⟩ = some (.slice A n c) := by have := HLR.out.blk.cell 0; simpa using this
      have HQR := Lib.hid (HK6C.out.below HW.out HK6C.out.lt)
      rcases (by omega : k < n ∨ k = n) with hlt | heq
      · have q5 : decide ((k : Int) < (n : Int)) = true := by rw [decide_eq_true_iff]; omega
        have q5' : decide (k < n) = true := by rw [decide_eq_true_iff]; omega
        have dn : wr.cell? ⟨q4, 0, none⟩ = some (.string d.name) := (HK4C.out.below HW.out HK4C.out.lt).cell 0
        have hll : k < l.length := by rw [HN.out]; exact hlt
        obtain ⟨b, o, hA, hbl, hbx, hc⟩ := HLR.out.ns (by omega)
        have HLT := Lib.hid hll
        have HLTN := Lib.hid hlt
        obtain ⟨x, hx, hck⟩ : ∃ x, x = l[k] ∧ NB (fun b => LB ≤ b) wr b (o + k * 6) x := ⟨_, rfl, hc k hll⟩
        obtain ⟨a, hcs, hok⟩ := hck
        have HCS := Lib.hid hcs
        have HOK := Lib.hid hok
        have d0 : wr.cell? ⟨b, o + k * 6, none⟩ = some (.string x.name) := HCS.out 0 (by omega)
        have d1 : wr.cell? ⟨b, o + k * 6 + 1, none⟩ = some (.int .i64 x.t.ver) := HCS.out 1 (by omega)
        have d2 : wr.cell? ⟨b, o + k * 6 + 1 + 1, none⟩ = some (.int .i64 x.t.exp) := HCS.out 2 (by omega)
        have d3 : wr.cell? ⟨b, o + k * 6 + 1 + 2, none⟩ = some (.slice a.tA x.t.ts.length a.tc) := HCS.out 3 (by omega)
        have d4 : wr.cell? ⟨b, o + k * 6 + 1 + 3, none⟩ = some (.slice a.kA x.t.ks.length a.kc) := HCS.out 4 (by omega)
        have d5 : wr.cell? ⟨b, o + k * 6 + 1 + 4, none⟩ = some (.slice a.dA x.t.ds.length a.dc) := HCS.out 5 (by omega)
        rw [hA] at c0
        have hki : (k : Int) < (n : Int) := by omega
        have hn30 : (n : Int) ≤ 30 := by have := HNS.out; omega
        have hk0 : (0 : Int) ≤ (k : Int) := by omega
        have hq := nm_beq x.name d.name
        have HX := Lib.hid hx
        clear hA hbl hbx hc hx hcs hok hll
        cases hd : decide (x.name = d.name) with
        | true =>
          rw [hd] at hq
          have HJ : Hid (r = .ok x.t) := Lib.hid (by
            rw [HI.out]
            unfold ldOf
            rw [show loadP l d.name = some x.t from by rw [HX.out]; exact loadP_hit HLT.out (by have h0 := HX.out; subst h0; exact hd) HB.out])
          clear hd
          have z0 : wr.cell? ⟨q6, 0, none⟩ = some (.int .i64 0) := HQR.out.cell 0
          have f0 : wr.frozen? ⟨q6, 0, none⟩ = false := HQR.out.frozen 0
          have z1 : wr.cell? ⟨q6, 1, none⟩ = some (.int .i64 0) := HQR.out.cell 1
          have f1 : wr.frozen? ⟨q6, 1, none⟩ = false := HQR.out.frozen 1
          have z2 : wr.cell? ⟨q6, 2, none⟩ = some (.slice none 0 0) := HQR.out.cell 2
          have f2 : wr.frozen? ⟨q6, 2, none⟩ = false := HQR.out.frozen 2
          have z3 : wr.cell? ⟨q6, 3, none⟩ = some (.slice none 0 0) := HQR.out.cell 3
          have f3 : wr.frozen? ⟨q6, 3, none⟩ = false := HQR.out.frozen 3
          have z4 : wr.cell? ⟨q6, 4, none⟩ = some (.slice none 0 0) := HQR.out.cell 4
          have f4 : wr.frozen? ⟨q6, 4, none⟩ = false := HQR.out.frozen 4
          go_wp2_with (go_quiet (fail))
          have HQ := Lib.hid (HQR.out.drewN nq)
          have k := blk5 (a := .int .i64 x.t.ver) (b := .int .i64 x.t.exp) (c := .slice a.tA x.t.ts.length a.tc) (d := .slice a.kA x.t.ks.length a.kc) (e := .slice a.dA x.t.ds.length a.dc) HQ.out
          have k0 := k.cell 0
          have k1 := k.cell 1
          have k2 := k.cell 2
          have k3 := k.cell 3
          have k4 := k.cell 4
          simp at k0 k1 k2 k3 k4
          refine bodyPost_ret (v := .tuple #[x.t.val a, .int .i64 0]) (by simp [results, Tryz.results13, go_sem, k0, k1, k2, k3, k4, Sea.PM.val, Sea.PM.cs, noM]) rfl ?_
          exact lo_end HLC.out HSC.out HFC.out (below_drwN HW.out _) HQ.out HLBS.out.2 HLBS.out.1 fr5 (HOK.out.bel (below_drwN (Below.refl _ _) _)) (by rw [HJ.out]; exact ⟨rfl, rfl⟩)
        | false =>
          rw [hd] at hq
          have HD := Lib.hid hd
          clear hd
          go_wp2_with (go_quiet (fail))
          go_roundw
          case rel => exact ⟨k + 1, by have := HLTN.out; omega, by go_num, Lib.hid (fun j hj h => by
            rcases (by omega : j < k ∨ j = k) with h1 | h1
            · exact HB.out j hj h1
            · subst h1; have h0 := HX.out; have h9 := HD.out; subst h0; exact h9), Lib.hid (below_drwN HW.out _)⟩
          case measure => have := HLTN.out; simp [intOf]; omega
      · have q5 : decide ((k : Int) < (n : Int)) = false := by rw [decide_eq_false_iff_not]; omega
        have q5' : decide (k < n) = false := by rw [decide_eq_false_iff_not]; omega
        have HJ : Hid (r = .error 4) := Lib.hid (by
          rw [HI.out]
          unfold ldOf
          rw [loadP_miss (fun j hj => HB.out j hj (by have := HN.out; omega))])
        clear heq
        have z0 : wr.cell? ⟨q6, 0, none⟩ = some (.int .i64 0) := HQR.out.cell 0
        have f0 : wr.frozen? ⟨q6, 0, none⟩ = false := HQR.out.frozen 0
        have z1 : wr.cell? ⟨q6, 1, none⟩ = some (.int .i64 0) := HQR.out.cell 1
        have f1 : wr.frozen? ⟨q6, 1, none⟩ = false := HQR.out.frozen 1
        have z2 : wr.cell? ⟨q6, 2, none⟩ = some (.slice none 0 0) := HQR.out.cell 2
        have f2 : wr.frozen? ⟨q6, 2, none⟩ = false := HQR.out.frozen 2
        have z3 : wr.cell? ⟨q6, 3, none⟩ = some (.slice none 0 0) := HQR.out.cell 3
        have f3 : wr.frozen? ⟨q6, 3, none⟩ = false := HQR.out.frozen 3
        have z4 : wr.cell? ⟨q6, 4, none⟩ = some (.slice none 0 0) := HQR.out.cell 4
        have f4 : wr.frozen? ⟨q6, 4, none⟩ = false := HQR.out.frozen 4
        go_wp2
        have HQ := Lib.hid HQR.out
        have k := blk5 (a := .int .i64 0) (b := .int .i64 0) (c := .slice none 0 0) (d := .slice none 0 0) (e := .slice none 0 0) HQ.out
        have k0 := k.cell 0
        have k1 := k.cell 1
        have k2 := k.cell 2
        have k3 := k.cell 3
        have k4 := k.cell 4
        simp at k0 k1 k2 k3 k4
        refine bodyPost_ret (v := .tuple #[noM.val ⟨none, 0, none, 0, none, 0⟩, .int .i64 4]) (by simp [results, Tryz.results13, go_sem, k0, k1, k2, k3, k4, Sea.PM.val, Sea.PM.cs, noM]) rfl ?_
        exact lo_end HLC.out HSC.out HFC.out HW.out HQ.out HLBS.out.2 HLBS.out.1 fr5 (noM_ok _ _) (by rw [HJ.out])
end Go.Proofs.YthidjdjcjjbpbaaGreatDoor
