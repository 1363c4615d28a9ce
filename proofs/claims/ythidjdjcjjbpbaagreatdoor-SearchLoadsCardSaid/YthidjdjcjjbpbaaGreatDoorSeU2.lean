/-
  search: what metadata adds to what is to be visited.
-/
import Derived.OrdersIn
import Derived.Test.YthidjdjcjjbpbaaGreatDoorSeU1
import Derived.Test.YthidjdjcjjbpbaaGreatDoorSeT
import Derived.Test.YthidjdjcjjbpbaaGreatDoorHeldT
import Derived.Test.YthidjdjcjjbpbaaGreatDoorInRound
namespace Go.Proofs.YthidjdjcjjbpbaaGreatDoor
open Go.RowKit Go.Shelf Sea
attribute [local go_sem] Oper.semAt_some
set_option linter.unusedVariables false
set_option linter.unusedSimpArgs false

/-- a region in a round, with stores at its end -/
theorem wpIn_region_roundT {P : Program} {ops : Array Oper} {Q : Exit → Act → World → Prop} {l n id : Nat} {a : Act} {w : World} (S : World → Prop) (T : Nat) (hm : P.follows .mixedOrders = true) (hd : noDefer ops = true) (hS : S w.drew)
    (h : S w.drew → wpAnyT P .any ops (OnlyNormal Q) S T ops.size (Array.replicate ops.size false) a w.drew) : (Code.region id ops true).wpIn (Fence.wide.inRound l) n P Q a w :=
  wpIn_mono (wpIn_region_any (Q := OnlyNormal Q) hm (wpAnyIn_of hd _ _ _ _ (wpAny_of_T _ _ _ _ (h hS)))) (fun e a w h => h.1 ▸ h.2)
/-- a region outside of rounds, with stores at its end; it ends as it should -/
theorem wpIn_region_wideT {P : Program} {ops : Array Oper} {Q : Exit → Act → World → Prop} {n id : Nat} {a : Act} {w : World} (S : World → Prop) (T : Nat) (hm : P.follows .mixedOrders = true) (hS : S w.drew)
    (h : S w.drew → wpAnyT P .any ops (OnlyNormal Q) S T ops.size (Array.replicate ops.size false) a w.drew) : (Code.region id ops true).wpIn Fence.wide n P Q a w :=
  wpIn_mono (wpIn_wide.2 (wp_region_heldT (Q := OnlyNormal Q) T hm hS h)) (fun e a w h => h.1 ▸ h.2)
theorem blk_kept {W W' : World} {row : Option Nat} {g : Nat} {t : TypeId} {cs : Array Value} (h : Blk W g t cs) (hg : W.grownBy W' row) (hr : ∀ r, row = some r → ∃ o : Obj, W.heap[r]? = some o ∧ o.isCells = false) : Blk W' g t cs :=
  (grownBy_keeps_cells hg hr h rfl).trans h
theorem fr_at (w : World) (g o : Nat) (v : Value) : Fr (fun b => b = g) w (w.setCell ⟨g, o, none⟩ v) := Fr.setCell (S := fun b => b = g) (Fr.refl _ w) (p := ⟨g, o, none⟩) (fun _ => rfl) v
theorem not_row {W : World} {row : Option Nat} {g : Nat} {t : TypeId} {cs : Array Value} (h : Blk W g t cs) (hr : ∀ r, row = some r → ∃ o : Obj, W.heap[r]? = some o ∧ o.isCells = false) : ¬ row = some g := fun e => by
  obtain ⟨o, ho, hc⟩ := hr g e
  have h' : W.heap[g]? = some (.cells cs t) := h
  rw [h'] at ho
  cases ho
  cases hc
/-- keys' rows: their cells -/
def PKo (t : PM) : Prop := ∀ k ∈ t.ks, k.length = 35 ∧ ∀ u ∈ k, u.oneCell' = true
theorem flat35 : ∀ {ks : List PK}, (∀ k ∈ ks, k.length = 35) → ks.flatten.length = ks.length * 35
  | [], _ => rfl
  | k :: ks, h => by
    rw [List.flatten_cons, List.length_append, flat35 (fun x hx => h x (List.mem_cons_of_mem _ hx)), h k List.mem_cons_self, List.length_cons]
    omega
theorem flat35_at : ∀ {ks : List PK}, (∀ k ∈ ks, k.length = 35) → ∀ {i : Nat} (hi : i < ks.length) {j : Nat}, j < 35 → ks.flatten[i * 35 + j]? = ks[i][j]?
  | k :: ks, h, 0, hi, j, hj => by
    rw [List.flatten_cons, List.getElem?_append_left (by rw [h k List.mem_cons_self]; omega)]
    simp
  | k :: ks, h, i + 1, hi, j, hj => by
    have hk := h k List.mem_cons_self
    have ih := flat35_at (ks := ks) (fun x hx => h x (List.mem_cons_of_mem _ hx)) (i := i) (by simpa using hi) hj
    rw [List.flatten_cons, List.getElem?_append_right (by rw [hk]; omega), hk, show (i + 1) * 35 + j - 35 = i * 35 + j by omega, ih]
    rfl
/-- a row of keys, read cell by cell -/
theorem keys_reads {X : Nat → Prop} {w : World} {A : Option Addr} {ks : List PK} (h : RowE (KyB w) 35 X w A ks) (h35 : ∀ k ∈ ks, k.length = 35) : Reads w w.heap.size 35 A ks.length ks.flatten := by
  refine ⟨flat35 h35, fun h0 => ?_⟩
  obtain ⟨B, o, hA, hB, hX, hc⟩ := h h0
  refine ⟨_, hA, hB, fun j u hu => ?_⟩
  have hj : j < ks.length * 35 := by
    rw [← flat35 h35]
    exact (List.getElem?_eq_some_iff.1 hu).1
  have hq : j / 35 < ks.length := by omega
  have he : j = j / 35 * 35 + j % 35 := by omega
  have hm : j % 35 < 35 := Nat.mod_lt _ (by omega)
  have h1 := (hc (j / 35) hq).2 (j % 35) hm
  rw [he, flat35_at h35 hq hm] at hu
  rw [hu] at h1
  rw [Addr.add_lit, he, ← Nat.add_assoc]
  exact h1
/-- between two rounds -/
structure PuI (w : World) (m : Nat) (t : PM) (a : MA) (pre : List (PD × DA)) (W : World) : Prop where
  more : ∃ A c, ∃ L : List TE, Blk W (w.heap.size + 1) 65 #[.slice A pre.length c] ∧ OG 70 7 W w.heap.size (.slice A pre.length c) pre.length (L.flatMap TE.cs) ∧ L.map (fun e => (e.d, e.a)) = pre ∧ ∀ e ∈ L, e.ks = t.ks ∧ TOk W w.heap.size e
  last : Blk W (w.heap.size + 1 + 1) 4 #[.bool (lastTerm (pre.map (·.1)))]
  box : Blk W w.heap.size 26 #[.int .i64 t.ver, .int .i64 t.exp, .slice a.tA t.ts.length a.tc, .slice a.kA t.ks.length a.kc, .slice a.dA t.ds.length a.dc]
  bel : Below w.heap.size w W
  siz : w.heap.size + 5 ≤ W.heap.size
theorem PuI.kept {w : World} {m : Nat} {t : PM} {a : MA} {pre : List (PD × DA)} {W W' : World} {row : Option Nat} (h : PuI w m t a pre W) (hg : W.grownBy W' row) (hr : ∀ r, row = some r → w.heap.size ≤ r ∧ ∃ o : Obj, W.heap[r]? = some o ∧ o.isCells = false) : PuI w m t a pre W' := by
  have hr' : ∀ r, row = some r → ∃ o : Obj, W.heap[r]? = some o ∧ o.isCells = false := fun r e => (hr r e).2
  have hf : Fr (fun k => row = some k) W W' := Fr.of_grown hg (fun k e => e)
  obtain ⟨⟨A, c, L, h1, h2, h3, h4⟩, h5, h6, h7, h8⟩ := h
  refine ⟨⟨A, c, L, blk_kept h1 hg hr', OG.frT h2 hf (fun g cs hb => not_row hb hr'), h3, fun e he => ⟨(h4 e he).1, (h4 e he).2.frT hf (fun g cs hb => not_row hb hr')⟩⟩, blk_kept h5 hg hr', blk_kept h6 hg hr', h7.grown hg h7.size (fun k e => (hr k e).1), Nat.le_trans h8 hg.size⟩
theorem PuI.own (w : World) (m : Nat) (t : PM) (a : MA) (B : Nat) (hB : w.heap.size ≤ B) : OwnFrom B (fun pre W => PuI w m t a pre W) := fun pre W W' row h hg hr => h.kept hg (fun r e => ⟨Nat.le_trans hB (hr r e).1, (hr r e).2⟩)
/-- Covering makes two boxes and its closure -/
theorem covering_fn (t : PM) (a : MA) (path : ByteArray) (w : World) : Calls Tryz.prog 37 #[t.val a, .string path] w fun e w' => e = .returned (.func (.func 47) #[] #[.pointer (some ⟨w.heap.size, 0, none⟩), .pointer (some ⟨w.heap.size + 1, 0, none⟩)]) ∧ w' = (w.alloc (.cells #[.int .i64 t.ver, .int .i64 t.exp, .slice a.tA t.ts.length a.tc, .slice a.kA t.ks.length a.kc, .slice a.dA t.ds.length a.dc] 26)).alloc (.cells #[.string path] 9) := by
  unfold Sea.PM.val Sea.PM.cs
  go_enter Tryz.func37, Tryz.ntmps37
  go_wp2
  go_ret
  exact ⟨rfl, rfl⟩
theorem covering_len {cov : PD → Bool} : ∀ (l : List PD), (covering cov l).length ≤ l.length
  | [] => Nat.le_refl _
  | d :: l => by
    have := covering_len (cov := cov) l
    unfold covering
    split
    · split
      · simp
      · simp; exact this
    · simp; omega
theorem todo_map {L : List TE} {ks : List PK} (h : ∀ e ∈ L, e.ks = ks) : L.map TE.todo = (L.map (fun e => e.d)).map (fun d => (d, ks)) := by
  rw [List.map_map]
  refine List.map_congr_left fun e he => ?_
  show (e.d, e.ks) = (e.d, ks)
  rw [h e he]
theorem blk_eq {w : World} {g : Nat} {t : TypeId} {cs cs' : Array Value} (h : Blk w g t cs) (h' : Blk w g t cs') : cs = cs' := by
  have q1 : w.heap[g]? = some (.cells cs t) := h
  have q2 : w.heap[g]? = some (.cells cs' t) := h'
  rw [q1] at q2
  injection q2 with q2
  injection q2 with q2
/-- the row of those visited stays the one it is -/
def SameV (m : Nat) (w w' : World) : Prop := ∀ x vv, Blk w m 67 #[x, vv] → ∃ x', Blk w' m 67 #[x', vv]
theorem SameV.of {m : Nat} {w w' : World} {x x' vv : Value} (h : Blk w m 67 #[x, vv]) (h' : Blk w' m 67 #[x', vv]) : SameV m w w' := fun y vv' hy => by
  have e := blk_eq h hy
  simp only [Array.mk.injEq, List.cons.injEq, and_true] at e
  rw [← e.2]
  exact ⟨x', h'⟩
theorem push_end {w W w6 : World} {m base D n : Nat} {vis : List ByteArray} {s s2 L : List TE} {v v9 x0 vv : Value} {dd : Option (List Deferred)} (hst : StkAt w m base vis s) (hbase : base ≤ w.heap.size) (hm0 : Blk w m 67 #[x0, vv]) (hvv : OG 9 1 w base vv vis.length (vis.map Value.string)) (hbel : Below w.heap.size w W) (ho : OG 70 7 W w.heap.size v n (L.flatMap TE.cs)) (hLk : ∀ e ∈ L, TOk W w.heap.size e)
    (hD : W.heap[D]? = some (.deferred dd)) (hDw : w.heap.size ≤ D) (hs2 : s2 = s ∨ s2 = []) (hf : Fr (fun g => g = m ∨ v.ownBlock = some g ∨ g = D) W w6) (ho6 : OG 70 7 w6 w.heap.size v9 (L ++ s2).length ((L ++ s2).flatMap TE.cs)) (hm6 : Blk w6 m 67 #[v9, vv]) :
    StkAt w6 m base vis (L ++ s2) ∧ Fr (· = m) w w6 ∧ SameV m w w6 := by
  have hmW := hm0.below hbel hm0.lt
  have key : ∀ (t : TypeId), t ≠ 67 → t ≠ 70 → ∀ g cs, Blk W g t cs → ¬ (g = m ∨ v.ownBlock = some g ∨ g = D) := fun t h1 h2 g cs hb e => by
    rcases e with e | e | e
    · subst e; exact hb.ne_ hmW h1 rfl
    · exact OG.far ho hb h2 e
    · subst e
      have hb' : W.heap[g]? = some (.cells cs t) := hb
      rw [hD] at hb'
      cases hb'
  obtain ⟨A9, c9, e9, g1, g2, g3, g4⟩ := OG.form ho6
  refine ⟨⟨⟨A9, c9, vv, by rw [← e9]; exact hm6, g1, g2, g3, fun ad e => ?_, OG.frT (OG.below hvv hbel) hf (key _ (by decide) (by decide))⟩, fun e he => ?_⟩, ?_, SameV.of hm0 hm6⟩
  · obtain ⟨h1, h2, h3, h4, h5, h6⟩ := g4 ad e
    exact ⟨Nat.le_trans hbase h1, h4, h6⟩
  · rcases List.mem_append.1 he with he | he
    · exact ((hLk e he).frT hf (key _ (by decide) (by decide))).mono hbase
    · rcases hs2 with rfl | rfl
      · exact ((hst.ok e he).below hbel).frT hf (key _ (by decide) (by decide))
      · cases he
  · refine (Fr.of_below hbel).trans_new hf (fun j hj e => ?_)
    rcases e with e | e | e
    · exact e
    · have := OG.ge ho j e; omega
    · omega
def PushP (X : Nat → Prop) (w : World) (m base : Nat) (vis : List ByteArray) (s : List TE) (t : PM) (path : ByteArray) (e : Ending) (w' : World) : Prop :=
  ∃ s', (∃ v, e = .returned v) ∧ StkAt w' m base vis s' ∧ s'.map TE.todo = pushP (covP path) t (s.map TE.todo) ∧ Fr (· = m) w w' ∧ SameV m w w'
set_option maxRecDepth 100000 in
set_option maxHeartbeats 8000000 in
theorem push_any (X : Nat → Prop) (m base : Nat) (vis : List ByteArray) (s : List TE) (t : PM) (a : MA) (path : ByteArray) (w : World) (hst : StkAt w m base vis s) (h : MOk X w t a) (hs : PMs t) (hz : PMz t) (hko : PKo t) (hp : path.size ≤ 1000) (hT : Tbs w) (hsl : s.length ≤ 100000) (hbase : base ≤ w.heap.size) :
    Calls Tryz.prog 27 #[.pointer (some ⟨m, 0, none⟩), t.val a, .string path] w fun e w' => PF (PushP X w m base vis s t path) e w' := by
  have hmx : Tryz.prog.follows .mixedOrders = true := by kernel_rfl
  have hcv := fun W => covering_fn t a path W
  unfold Sea.PM.val Sea.PM.cs at hcv ⊢
  refine (callsIn_wide (n := 4)).1 ?_
  refine callsIn_of_wp_marks Tryz.func27 rfl trivial ?_ rfl
  simp only [Tryz.ntmps27, List.size_toArray, List.length_cons, List.length_nil, Nat.reduceAdd, Nat.reduceSub, Array.replicate_succ, Array.replicate_zero, List.push_toArray, List.append_toArray, List.nil_append, List.cons_append]
  gi_wp2_with (refine ⟨trivial, ?_⟩; gi_at_call 37; refine (callsIn_wide.2 (hcv _)).mono ?_; rintro e w' ⟨rfl, rfl⟩)
  have hW5 : Below w.heap.size w (((((w.alloc (.cells #[.int .i64 t.ver, .int .i64 t.exp, .slice a.tA t.ts.length a.tc, .slice a.kA t.ks.length a.kc, .slice a.dA t.ds.length a.dc] 26)).alloc (.cells #[.slice none 0 0] 65)).alloc (.cells #[.bool false] 4)).alloc (.cells #[.int .i64 t.ver, .int .i64 t.exp, .slice a.tA t.ts.length a.tc, .slice a.kA t.ks.length a.kc, .slice a.dA t.ds.length a.dc] 26)).alloc (.cells #[.string path] 9)) := (((((Below.refl _ _).alloc (Nat.le_refl _) _).alloc (by simp) _).alloc (by simp; omega) _).alloc (by simp; omega) _).alloc (by simp; omega) _
  have b0 : Blk (((((w.alloc (.cells #[.int .i64 t.ver, .int .i64 t.exp, .slice a.tA t.ts.length a.tc, .slice a.kA t.ks.length a.kc, .slice a.dA t.ds.length a.dc] 26)).alloc (.cells #[.slice none 0 0] 65)).alloc (.cells #[.bool false] 4)).alloc (.cells #[.int .i64 t.ver, .int .i64 t.exp, .slice a.tA t.ts.length a.tc, .slice a.kA t.ks.length a.kc, .slice a.dA t.ds.length a.dc] 26)).alloc (.cells #[.string path] 9)) w.heap.size 26 #[.int .i64 t.ver, .int .i64 t.exp, .slice a.tA t.ts.length a.tc, .slice a.kA t.ks.length a.kc, .slice a.dA t.ds.length a.dc] := ((((Blk.new _ _ _).alloc _).alloc _).alloc _).alloc _
  have b1 : Blk (((((w.alloc (.cells #[.int .i64 t.ver, .int .i64 t.exp, .slice a.tA t.ts.length a.tc, .slice a.kA t.ks.length a.kc, .slice a.dA t.ds.length a.dc] 26)).alloc (.cells #[.slice none 0 0] 65)).alloc (.cells #[.bool false] 4)).alloc (.cells #[.int .i64 t.ver, .int .i64 t.exp, .slice a.tA t.ts.length a.tc, .slice a.kA t.ks.length a.kc, .slice a.dA t.ds.length a.dc] 26)).alloc (.cells #[.string path] 9)) (w.heap.size + 1) 65 #[.slice none 0 0] := by
    have := (((Blk.new (w.alloc (.cells #[.int .i64 t.ver, .int .i64 t.exp, .slice a.tA t.ts.length a.tc, .slice a.kA t.ks.length a.kc, .slice a.dA t.ds.length a.dc] 26)) 65 #[.slice none 0 0]).alloc (.cells #[.bool false] 4)).alloc (.cells #[.int .i64 t.ver, .int .i64 t.exp, .slice a.tA t.ts.length a.tc, .slice a.kA t.ks.length a.kc, .slice a.dA t.ds.length a.dc] 26)).alloc (.cells #[.string path] 9)
    simpa using this
  have b2 : Blk (((((w.alloc (.cells #[.int .i64 t.ver, .int .i64 t.exp, .slice a.tA t.ts.length a.tc, .slice a.kA t.ks.length a.kc, .slice a.dA t.ds.length a.dc] 26)).alloc (.cells #[.slice none 0 0] 65)).alloc (.cells #[.bool false] 4)).alloc (.cells #[.int .i64 t.ver, .int .i64 t.exp, .slice a.tA t.ts.length a.tc, .slice a.kA t.ks.length a.kc, .slice a.dA t.ds.length a.dc] 26)).alloc (.cells #[.string path] 9)) (w.heap.size + 1 + 1) 4 #[.bool false] := by
    have := ((Blk.new ((w.alloc (.cells #[.int .i64 t.ver, .int .i64 t.exp, .slice a.tA t.ts.length a.tc, .slice a.kA t.ks.length a.kc, .slice a.dA t.ds.length a.dc] 26)).alloc (.cells #[.slice none 0 0] 65)) 4 #[.bool false]).alloc (.cells #[.int .i64 t.ver, .int .i64 t.exp, .slice a.tA t.ts.length a.tc, .slice a.kA t.ks.length a.kc, .slice a.dA t.ds.length a.dc] 26)).alloc (.cells #[.string path] 9)
    simpa using this
  have b3 : Blk (((((w.alloc (.cells #[.int .i64 t.ver, .int .i64 t.exp, .slice a.tA t.ts.length a.tc, .slice a.kA t.ks.length a.kc, .slice a.dA t.ds.length a.dc] 26)).alloc (.cells #[.slice none 0 0] 65)).alloc (.cells #[.bool false] 4)).alloc (.cells #[.int .i64 t.ver, .int .i64 t.exp, .slice a.tA t.ts.length a.tc, .slice a.kA t.ks.length a.kc, .slice a.dA t.ds.length a.dc] 26)).alloc (.cells #[.string path] 9)) (w.heap.size + 1 + 1 + 1) 26 #[.int .i64 t.ver, .int .i64 t.exp, .slice a.tA t.ts.length a.tc, .slice a.kA t.ks.length a.kc, .slice a.dA t.ds.length a.dc] := by
    have := (Blk.new (((w.alloc (.cells #[.int .i64 t.ver, .int .i64 t.exp, .slice a.tA t.ts.length a.tc, .slice a.kA t.ks.length a.kc, .slice a.dA t.ds.length a.dc] 26)).alloc (.cells #[.slice none 0 0] 65)).alloc (.cells #[.bool false] 4)) 26 #[.int .i64 t.ver, .int .i64 t.exp, .slice a.tA t.ts.length a.tc, .slice a.kA t.ks.length a.kc, .slice a.dA t.ds.length a.dc]).alloc (.cells #[.string path] 9)
    simpa using this
  have b4 : Blk (((((w.alloc (.cells #[.int .i64 t.ver, .int .i64 t.exp, .slice a.tA t.ts.length a.tc, .slice a.kA t.ks.length a.kc, .slice a.dA t.ds.length a.dc] 26)).alloc (.cells #[.slice none 0 0] 65)).alloc (.cells #[.bool false] 4)).alloc (.cells #[.int .i64 t.ver, .int .i64 t.exp, .slice a.tA t.ts.length a.tc, .slice a.kA t.ks.length a.kc, .slice a.dA t.ds.length a.dc] 26)).alloc (.cells #[.string path] 9)) (w.heap.size + 1 + 1 + 1 + 1) 9 #[.string path] := by
    have := Blk.new ((((w.alloc (.cells #[.int .i64 t.ver, .int .i64 t.exp, .slice a.tA t.ts.length a.tc, .slice a.kA t.ks.length a.kc, .slice a.dA t.ds.length a.dc] 26)).alloc (.cells #[.slice none 0 0] 65)).alloc (.cells #[.bool false] 4)).alloc (.cells #[.int .i64 t.ver, .int .i64 t.exp, .slice a.tA t.ts.length a.tc, .slice a.kA t.ks.length a.kc, .slice a.dA t.ds.length a.dc] 26)) 9 #[.string path]
    simpa using this
  have hz5 : ((((((w.alloc (.cells #[.int .i64 t.ver, .int .i64 t.exp, .slice a.tA t.ts.length a.tc, .slice a.kA t.ks.length a.kc, .slice a.dA t.ds.length a.dc] 26)).alloc (.cells #[.slice none 0 0] 65)).alloc (.cells #[.bool false] 4)).alloc (.cells #[.int .i64 t.ver, .int .i64 t.exp, .slice a.tA t.ts.length a.tc, .slice a.kA t.ks.length a.kc, .slice a.dA t.ds.length a.dc] 26)).alloc (.cells #[.string path] 9))).heap.size = w.heap.size + 5 := by simp
  generalize (((((w.alloc (.cells #[.int .i64 t.ver, .int .i64 t.exp, .slice a.tA t.ts.length a.tc, .slice a.kA t.ks.length a.kc, .slice a.dA t.ds.length a.dc] 26)).alloc (.cells #[.slice none 0 0] 65)).alloc (.cells #[.bool false] 4)).alloc (.cells #[.int .i64 t.ver, .int .i64 t.exp, .slice a.tA t.ts.length a.tc, .slice a.kA t.ks.length a.kc, .slice a.dA t.ds.length a.dc] 26)).alloc (.cells #[.string path] 9)) = W5 at hW5 b0 b1 b2 b3 b4 hz5 ⊢
  have hI0 : PuI w m t a [] W5 := ⟨⟨none, 0, [], b1, OG.nil _ _ _ _, rfl, fun e he => by cases he⟩, b2, b0, hW5, by omega⟩
  refine wpIn_rangeFunc_ownH (α := PD × DA) rfl (by omega) (gf := 47) (lb := #[.pointer (some ⟨w.heap.size + 1 + 1 + 1, 0, none⟩), .pointer (some ⟨w.heap.size + 1 + 1 + 1 + 1, 0, none⟩)]) rfl trivial (enters_of Tryz.func47 (by kernel_rfl) rfl)
    (F := Fence.wide) (n := 4) (cov_stops X (w.heap.size + 1 + 1 + 1) (w.heap.size + 1 + 1 + 1 + 1) (w.heap.size + 1) (w.heap.size + 1 + 1) t a path w W5 h hs hz hp hT hW5 ⟨by omega, by omega⟩ ⟨by omega, by omega⟩ ⟨by omega, by omega⟩ ⟨by omega, by omega⟩ b3 b4) (fun h k => h.trans k)
    (fun W l o o' hl ho hc hw => KpC.put w.heap.size (w.heap.size + 1) (w.heap.size + 1 + 1) (N := W5.heap.size) (by omega) W l o o' hl ho hc hw) (Below.refl _ _) (fun _ => rfl)
    (fun pre W => PuI w m t a pre W) (fun _ _ _ => False) (PuI.own w m t a _ (by omega)) (fun _ _ _ _ _ hs _ _ => hs) hI0
    (fun x a' W => ∃ Bx, w.heap.size + 5 ≤ Bx ∧ Blk W Bx 59 #[.string x.1.name, .slice x.2.kA x.1.rk.length x.2.kc, .int .i64 x.1.thr, .bool x.1.term, .slice x.2.pA x.1.paths.length x.2.pc, .slice x.2.xA x.1.prefs.length x.2.xc] ∧ a' = { tmps := #[.pointer (some ⟨m, 0, none⟩), .agg #[.int .i64 t.ver, .int .i64 t.exp, .slice a.tA t.ts.length a.tc, .slice a.kA t.ks.length a.kc, .slice a.dA t.ds.length a.dc], .string path, undef, .pointer (some ⟨w.heap.size, 0, none⟩), undef, .pointer (some ⟨w.heap.size + 1, 0, none⟩), .pointer (some ⟨w.heap.size + 1 + 1, 0, none⟩), .pointer (some ⟨Bx, 0, none⟩), .agg #[.int .i64 t.ver, .int .i64 t.exp, .slice a.tA t.ts.length a.tc, .slice a.kA t.ks.length a.kc, .slice a.dA t.ds.length a.dc], .string path, .func (.func 47) #[] #[.pointer (some ⟨w.heap.size + 1 + 1 + 1, 0, none⟩), .pointer (some ⟨w.heap.size + 1 + 1 + 1 + 1, 0, none⟩)], .agg #[.string x.1.name, .slice x.2.kA x.1.rk.length x.2.kc, .int .i64 x.1.thr, .bool x.1.term, .slice x.2.pA x.1.paths.length x.2.pc, .slice x.2.xA x.1.prefs.length x.2.xc], undef, undef, undef, undef, undef, undef, undef, undef, undef, undef, undef, undef, undef, undef, undef, undef, undef, undef, undef, undef, undef, undef, undef], defers := [] })
    (fun x a' _ X Y row hs hg hr => by obtain ⟨Bx, h1, h2, h3⟩ := hs; exact ⟨Bx, h1, blk_kept h2 hg (fun r e => (hr r e).2), h3⟩)
    ?assign ?body ?done ?stop
  case assign =>
    rintro l pre x W K hI hK
    unfold encD
    gi_wp2
    have hg := World.grownBy_alloc W (.cells #[.string x.1.name, .slice x.2.kA x.1.rk.length x.2.kc, .int .i64 x.1.thr, .bool x.1.term, .slice x.2.pA x.1.paths.length x.2.pc, .slice x.2.xA x.1.prefs.length x.2.xc] 59) none
    exact hK _ _ ((KeepsOthers.alloc _ _).from _) (KpC.of_below ((Below.refl _ W).alloc (Nat.le_refl _) _)) (hI.kept hg (fun r e => by cases e)) ⟨W.heap.size, hI.siz, Blk.new W 59 _, rfl⟩
  case body =>
    rintro l pre x a' W hl _ hI ⟨Bx, hBx, bX, rfl⟩ hlt
    obtain ⟨⟨A, c, L, hm, ho, hL, hLk⟩, hlast, hbox, hbel, hsz⟩ := hI
    obtain ⟨n, hn⟩ : ∃ n, n = pre.length := ⟨_, rfl⟩
    rw [← hn] at hm ho
    have HN := Lib.hid hn
    have HOW := Lib.hid ho
    have HSZ := Lib.hid hsz
    have HL := Lib.hid hL
    have HLK := Lib.hid hLk
    have HLA := Lib.hid hlast
    have HBEL := Lib.hid hbel
    have HBXX := Lib.hid hBx
    have HNL : Hid (n + 1 ≤ 1000000000) := Lib.hid (by have := hs.ds; omega)
    have HONE : Hid (∀ (A1 : Option Addr) (n1 c1 : Nat), ∀ u ∈ (#[.string x.1.name, .slice x.2.kA x.1.rk.length x.2.kc, .int .i64 x.1.thr, .bool x.1.term, .slice x.2.pA x.1.paths.length x.2.pc, .slice x.2.xA x.1.prefs.length x.2.xc, .slice A1 n1 c1] : Array Value).toList, u.oneCell' = true) := Lib.hid (fun A1 n1 c1 u hu => by
      simp only [List.mem_cons, List.not_mem_nil, or_false] at hu
      rcases hu with rfl | rfl | rfl | rfl | rfl | rfl | rfl <;> rfl)
    have HCL := Lib.hid (cloneK_own a.kA t.ks.length a.kc t.ks.flatten W.drew (by have := hs.ks; omega) (keys_reads ((h.bel hbel.drew).rk) (fun k hk => (hko k hk).1)) (fun u hu => by
      obtain ⟨k, hk, hu⟩ := List.mem_flatten.1 hu
      exact (hko k hk).2 u hu))
    have HS0 : (fun V => Blk V (w.heap.size + 1) 65 #[.slice A n c] ∧ Blk V Bx 59 #[.string x.1.name, .slice x.2.kA x.1.rk.length x.2.kc, .int .i64 x.1.thr, .bool x.1.term, .slice x.2.pA x.1.paths.length x.2.pc, .slice x.2.xA x.1.prefs.length x.2.xc] ∧ Blk V w.heap.size 26 #[.int .i64 t.ver, .int .i64 t.exp, .slice a.tA t.ts.length a.tc, .slice a.kA t.ks.length a.kc, .slice a.dA t.ds.length a.dc]) W.drew := ⟨hm, bX, hbox⟩
    have HM0 := Lib.hid hm
    clear hn hm ho hL hLk hlast hbox hbel hsz bX hlt hBx hst
    gi_wp2
    refine wpIn_region_roundT (fun V => Blk V (w.heap.size + 1) 65 #[.slice A n c] ∧ Blk V Bx 59 #[.string x.1.name, .slice x.2.kA x.1.rk.length x.2.kc, .int .i64 x.1.thr, .bool x.1.term, .slice x.2.pA x.1.paths.length x.2.pc, .slice x.2.xA x.1.prefs.length x.2.xc] ∧ Blk V w.heap.size 26 #[.int .i64 t.ver, .int .i64 t.exp, .slice a.tA t.ts.length a.tc, .slice a.kA t.ks.length a.kc, .slice a.dA t.ds.length a.dc]) 8 hmx (by kernel_rfl) HS0 (fun hS1 => ?_)
    refine wpAnyT_take (i := 0) (oi := ⟨some 13, _, _, _, _, _⟩) (v := .slice A n c) rfl (by kernel_rfl) (by kernel_rfl) (by kernel_rfl) (by kernel_rfl) (by kernel_rfl) (fun _ _ _ h => onlyNormal_panic h) (.inl ⟨by kernel_rfl, fun V hS => by have sc := hS.1.cell 0; simp at sc; go_simp⟩) hS1 ?_
    simp only [Act.put, List.setIfInBounds_toArray, List.set_cons_zero, List.set_cons_succ]
    refine wpAnyT_take (i := 1) (oi := ⟨some 14, _, _, _, _, _⟩) (v := .agg #[.string x.1.name, .slice x.2.kA x.1.rk.length x.2.kc, .int .i64 x.1.thr, .bool x.1.term, .slice x.2.pA x.1.paths.length x.2.pc, .slice x.2.xA x.1.prefs.length x.2.xc]) rfl (by kernel_rfl) (by kernel_rfl) (by kernel_rfl) (by kernel_rfl) (by kernel_rfl) (fun _ _ _ h => onlyNormal_panic h) (.inl ⟨by kernel_rfl, fun V hS => by have s0 := hS.2.1.cell 0; have s1 := hS.2.1.cell 1; have s2 := hS.2.1.cell 2; have s3 := hS.2.1.cell 3; have s4 := hS.2.1.cell 4; have s5 := hS.2.1.cell 5; simp at s0 s1 s2 s3 s4 s5; go_simp⟩) hS1 ?_
    simp only [Act.put, List.setIfInBounds_toArray, List.set_cons_zero, List.set_cons_succ]
    refine wpAnyT_pure (i := 2) (oi := ⟨some 15, _, _, _, _, _⟩) (v := .pointer (some ⟨w.heap.size, 3, none⟩)) rfl (by kernel_rfl) (by kernel_rfl) (by kernel_rfl) (by decide) (fun _ _ _ h => onlyNormal_panic h) (.inl ⟨by kernel_rfl, fun V hS => by go_simp⟩) hS1 ?_
    simp only [Act.put, List.setIfInBounds_toArray, List.set_cons_zero, List.set_cons_succ]
    refine wpAnyT_take (i := 3) (oi := ⟨some 16, _, _, _, _, _⟩) (v := .slice a.kA t.ks.length a.kc) rfl (by kernel_rfl) (by kernel_rfl) (by kernel_rfl) (by kernel_rfl) (by kernel_rfl) (fun _ _ _ h => onlyNormal_panic h) (.inl ⟨by kernel_rfl, fun V hS => by have sc := hS.2.2.cell 3; simp at sc; go_simp⟩) hS1 ?_
    simp only [Act.put, List.setIfInBounds_toArray, List.set_cons_zero, List.set_cons_succ]
    refine wpAnyT_ready (rs := [4]) (by kernel_rfl) (by simp) ?_
    refine AllReadyT.cons rfl (fun K' hK => ?_) AllReadyT.nil
    go_simp
    refine HCL.out.mono ?_
    rintro e w2 ⟨kv, rfl, ho2, hb2⟩
    obtain ⟨A1, c1, rfl, _⟩ := OG.form ho2
    have HO2 := Lib.hid ho2
    have HB2 : Hid (Below W.heap.size W w2) := Lib.hid (((Below.refl _ W).drew).trans hb2)
    have HB2d := Lib.hid hb2
    clear ho2 hb2
    go_simp
    refine hK.out _ _ (⟨Blk.below (hS1).1 HB2d.out (hS1).1.lt, Blk.below (hS1).2.1 HB2d.out (hS1).2.1.lt, Blk.below (hS1).2.2 HB2d.out (hS1).2.2.lt⟩) (fun hS2 => ?_)
    clear hK K' hS1
    refine wpAnyT_pure (i := 5) (oi := ⟨some 18, _, _, _, _, _⟩) (v := .agg #[.string x.1.name, .slice x.2.kA x.1.rk.length x.2.kc, .int .i64 x.1.thr, .bool x.1.term, .slice x.2.pA x.1.paths.length x.2.pc, .slice x.2.xA x.1.prefs.length x.2.xc, .slice A1 t.ks.length c1]) rfl (by kernel_rfl) (by kernel_rfl) (by kernel_rfl) (by decide) (fun _ _ _ h => onlyNormal_panic h) (.inl ⟨by kernel_rfl, fun V hS => by go_simp⟩) hS2 ?_
    simp only [Act.put, List.setIfInBounds_toArray, List.set_cons_zero, List.set_cons_succ]
    refine wpAnyT_ready (rs := [6]) (by kernel_rfl) (by simp) ?_
    refine AllReadyT.cons rfl (fun K' hK => ?_) AllReadyT.nil
    go_simp
    have HK7 := Lib.hid (reads_new w2 70 #[.string x.1.name, .slice x.2.kA x.1.rk.length x.2.kc, .int .i64 x.1.thr, .bool x.1.term, .slice x.2.pA x.1.paths.length x.2.pc, .slice x.2.xA x.1.prefs.length x.2.xc, .slice A1 t.ks.length c1])
    have HM7 : Hid (Blk w2 (w.heap.size + 1) 65 #[.slice A n c]) := Lib.hid (hS2).1
    have HX7 : Hid (Blk w2 Bx 59 #[.string x.1.name, .slice x.2.kA x.1.rk.length x.2.kc, .int .i64 x.1.thr, .bool x.1.term, .slice x.2.pA x.1.paths.length x.2.pc, .slice x.2.xA x.1.prefs.length x.2.xc]) := Lib.hid (hS2).2.1
    have HT7 : Hid (Blk w2 w.heap.size 26 #[.int .i64 t.ver, .int .i64 t.exp, .slice a.tA t.ts.length a.tc, .slice a.kA t.ks.length a.kc, .slice a.dA t.ds.length a.dc]) := Lib.hid (hS2).2.2
    refine hK.out _ _ (⟨(hS2).1.alloc _, (hS2).2.1.alloc _, (hS2).2.2.alloc _⟩) (fun hS3 => ?_)
    clear hK K' hS2
    refine wpAnyT_ready (rs := [7]) (by kernel_rfl) (by simp) ?_
    refine AllReadyT.cons rfl (fun K' hK => ?_) AllReadyT.nil
    have HO7 : Hid (OG 70 7 (w2.alloc (.cells #[.string x.1.name, .slice x.2.kA x.1.rk.length x.2.kc, .int .i64 x.1.thr, .bool x.1.term, .slice x.2.pA x.1.paths.length x.2.pc, .slice x.2.xA x.1.prefs.length x.2.xc, .slice A1 t.ks.length c1] 70)) w.heap.size (.slice A n c) n (L.flatMap TE.cs)) := Lib.hid ((OG.below HOW.out HB2.out).alloc _)
    have HA7 : Hid (Below w2.heap.size w2 (w2.alloc (.cells #[.string x.1.name, .slice x.2.kA x.1.rk.length x.2.kc, .int .i64 x.1.thr, .bool x.1.term, .slice x.2.pA x.1.paths.length x.2.pc, .slice x.2.xA x.1.prefs.length x.2.xc, .slice A1 t.ks.length c1] 70))) := Lib.hid ((Below.refl _ _).alloc (Nat.le_refl _) _)
    have hz7 : w.heap.size ≤ (w2.alloc (.cells #[.string x.1.name, .slice x.2.kA x.1.rk.length x.2.kc, .int .i64 x.1.thr, .bool x.1.term, .slice x.2.pA x.1.paths.length x.2.pc, .slice x.2.xA x.1.prefs.length x.2.xc, .slice A1 t.ks.length c1] 70)).heap.size := by have := HB2.out.size; have := HSZ.out; simp; omega
    generalize w2.alloc (.cells #[.string x.1.name, .slice x.2.kA x.1.rk.length x.2.kc, .int .i64 x.1.thr, .bool x.1.term, .slice x.2.pA x.1.paths.length x.2.pc, .slice x.2.xA x.1.prefs.length x.2.xc, .slice A1 t.ks.length c1] 70) = w3 at HK7 HO7 HA7 hz7 hS3 ⊢
    refine step_raw w3 infoTodo Tryz.underlying65 (by omega) (by omega) rfl _ _ rfl w.heap.size (.slice A n c) n _ rfl HO7.out _ 1 1 _ rfl HK7.out (HONE.out A1 t.ks.length c1) HNL.out hz7 ?_
    intro v4 w4 hrow hg hat
    obtain ⟨A9, c9, rfl, _⟩ := OG.form hrow
    have HR9 := Lib.hid hrow
    have HF9 : Hid (Fr (fun g => (Value.slice A n c).ownBlock = some g) w3 w4) := Lib.hid (Fr.of_grown hg (fun g e => e))
    have HM8 := Lib.hid (HM7.out.below HA7.out HM7.out.lt)
    have HX8 := Lib.hid (HX7.out.below HA7.out HX7.out.lt)
    have HT8 := Lib.hid (HT7.out.below HA7.out HT7.out.lt)
    have HM9 := Lib.hid (HM8.out.fr HF9.out (OG.far HO7.out HM8.out (by decide)))
    have HX9 := Lib.hid (HX8.out.fr HF9.out (OG.far HO7.out HX8.out (by decide)))
    have HT9 := Lib.hid (HT8.out.fr HF9.out (OG.far HO7.out HT8.out (by decide)))
    clear hrow hg hat hz7
    refine hK.out _ _ (⟨HM9.out, HX9.out, HT9.out⟩) (fun hS4 => ?_)
    clear hK K' hS3
    simp only [Act.put, List.setIfInBounds_toArray, List.set_cons_zero, List.set_cons_succ]
    refine wpAnyT_T (by kernel_rfl) rfl (by kernel_rfl) (fun K' hK => ?_)
    have sc := HM9.out.cell 0
    have sf := HM9.out.frozen 0
    simp at sc sf
    go_simp
    clear sc sf
    refine hK.out _ _ ?_
    clear hK K' hS4
    refine wpAnyH_done (by kernel_rfl) ⟨rfl, ?_⟩ _
    have HA0 := Lib.hid (HLA.out.below HB2.out HLA.out.lt)
    have HA3 := Lib.hid (HA0.out.below HA7.out HA0.out.lt)
    have HA4 := Lib.hid (HA3.out.fr HF9.out (OG.far HO7.out HA3.out (by decide)))
    have HFM : Hid (Fr (fun b => b = w.heap.size + 1) w4 (w4.setCell ⟨w.heap.size + 1, 0, none⟩ (.slice A9 (n + 1) c9))) := Lib.hid (fr_at _ _ _ _)
    have HX10 := Lib.hid (HX9.out.fr HFM.out (by have := HBXX.out; omega))
    have HA10 := Lib.hid (HA4.out.fr HFM.out (by omega))
    have y3 : (w4.setCell ⟨w.heap.size + 1, 0, none⟩ (.slice A9 (n + 1) c9)).cell? ⟨Bx, 3, none⟩ = some (.bool x.1.term) := HX10.out.cell 3
    have y3' : (w4.setCell ⟨w.heap.size + 1, 0, none⟩ (.slice A9 (n + 1) c9)).cell? ⟨Bx, 2 + 1, none⟩ = some (.bool x.1.term) := HX10.out.cell 3
    have z0 := HA10.out.cell 0
    have z1 := HA10.out.frozen 0
    simp at z0
    have HEND : Hid (KeepsFrom (w.heap.size + 5) W ((w4.setCell ⟨w.heap.size + 1, 0, none⟩ (.slice A9 (n + 1) c9)).setCell ⟨w.heap.size + 1 + 1, 0, none⟩ (.bool x.1.term)) ∧ KpC w.heap.size (w.heap.size + 1) (w.heap.size + 1 + 1) W ((w4.setCell ⟨w.heap.size + 1, 0, none⟩ (.slice A9 (n + 1) c9)).setCell ⟨w.heap.size + 1 + 1, 0, none⟩ (.bool x.1.term)) ∧ PuI w m t a (pre ++ [x]) ((w4.setCell ⟨w.heap.size + 1, 0, none⟩ (.slice A9 (n + 1) c9)).setCell ⟨w.heap.size + 1 + 1, 0, none⟩ (.bool x.1.term))) := by
      obtain ⟨w9, hw9⟩ : ∃ w9, w9 = (w4.setCell ⟨w.heap.size + 1, 0, none⟩ (.slice A9 (n + 1) c9)).setCell ⟨w.heap.size + 1 + 1, 0, none⟩ (.bool x.1.term) := ⟨_, rfl⟩
      have hf49 : Fr (fun b => b = w.heap.size + 1 ∨ b = w.heap.size + 1 + 1) w4 w9 := by
        rw [hw9]
        exact ((HFM.out.mono (fun k _ e => .inl e))).setCell (p := ⟨w.heap.size + 1 + 1, 0, none⟩) (fun _ => .inr rfl) _
      have hbm : Blk w9 (w.heap.size + 1) 65 #[.slice A9 (n + 1) c9] := by
        rw [hw9]
        have q := HM9.out.set_ 0 (.slice A9 (n + 1) c9)
        exact q.fr (S := fun b => b = w.heap.size + 1 + 1) (fr_at _ _ _ _) (by omega)
      have hbl : Blk w9 (w.heap.size + 1 + 1) 4 #[.bool x.1.term] := by
        rw [hw9]
        have q := HA10.out.set_ 0 (.bool x.1.term)
        exact q
      have hbt : Blk w9 w.heap.size 26 #[.int .i64 t.ver, .int .i64 t.exp, .slice a.tA t.ts.length a.tc, .slice a.kA t.ks.length a.kc, .slice a.dA t.ds.length a.dc] := HT9.out.fr hf49 (by omega)
      have hb23 : Below W.heap.size W w3 := HB2.out.trans (HA7.out.mono HB2.out.size)
      have hown3 := OG.blk HO7.out
      have hfW : Fr (fun g => g = w.heap.size + 1 ∨ g = w.heap.size + 1 + 1 ∨ (Value.slice A n c).ownBlock = some g) W w9 := ((Fr.of_below hb23).trans (HF9.out.mono (fun k _ e => .inr (.inr e)))).trans (hf49.mono (fun k _ e => by rcases e with e | e; exact .inl e; exact .inr (.inl e)))
      rw [← hw9]
      refine Lib.hid ⟨⟨hfW.size, fun k o _ hk hc => ?_⟩, hfW.mono (fun k _ e => ?_), ⟨⟨A9, c9, L ++ [⟨x.1, x.2, t.ks, .slice A1 t.ks.length c1⟩], ?_, ?_, ?_, ?_⟩, ?_, hbt, ?_, ?_⟩⟩
      · refine (hfW.block k (Array.getElem?_eq_some_iff.1 hk).1 (fun e => ?_)).trans hk
        rcases e with e | e | e
        · have q : W.heap[w.heap.size + 1]? = _ := HM0.out
          rw [e, q] at hk; cases hk; cases hc
        · have q : W.heap[w.heap.size + 1 + 1]? = _ := HLA.out
          rw [e, q] at hk; cases hk; cases hc
        · obtain ⟨cu, q⟩ := OG.blk HOW.out k e
          have q : W.heap[k]? = _ := q
          rw [q] at hk; cases hk; cases hc
      · rcases e with e | e | e
        · exact .inl e
        · exact .inr (.inl e)
        · obtain ⟨cu, q⟩ := OG.blk HOW.out k e
          exact .inr (.inr ⟨OG.ge HOW.out k e, _, q, .inr ⟨_, rfl⟩⟩)
      · rw [List.length_append, ← HN.out]; exact hbm
      · rw [List.length_append, ← HN.out, List.flatMap_append]
        exact OG.frT HR9.out hf49 (fun g cs hb e => by
          rcases e with rfl | rfl
          · exact hb.ne_ HM9.out (by decide) rfl
          · exact hb.ne_ HA4.out (by decide) rfl)
      · rw [List.map_append, HL.out]; rfl
      · intro e he
        rcases List.mem_append.1 he with he | he
        · refine ⟨(HLK.out e he).1, (HLK.out e he).2.frT hfW (fun g cs hb e => ?_)⟩
          rcases e with rfl | rfl | e
          · exact hb.ne_ HM0.out (by decide) rfl
          · exact hb.ne_ HLA.out (by decide) rfl
          · exact OG.far HOW.out hb (by decide) e
        · rw [List.mem_singleton] at he
          subst he
          refine ⟨rfl, ⟨?_, fun k hk => (hko k hk).1⟩⟩
          have o2 : OG 78 35 w3 w.heap.size (.slice A1 t.ks.length c1) t.ks.length t.ks.flatten := OG.mono (OG.below HO2.out HA7.out) (by have := HSZ.out; show w.heap.size ≤ W.heap.size; omega)
          have o4 := OG.frT o2 HF9.out (fun g cs hb e => OG.far HO7.out hb (by decide) e)
          exact OG.frT o4 hf49 (fun g cs hb e => by
            rcases e with rfl | rfl
            · exact hb.ne_ HM9.out (by decide) rfl
            · exact hb.ne_ HA4.out (by decide) rfl)
      · rw [List.map_append]
        have : lastTerm (pre.map (·.1) ++ [x].map (·.1)) = x.1.term := by unfold lastTerm; simp
        rw [this]; exact hbl
      · exact Fr.below_trans HBEL.out hfW HBEL.out.size (fun k e => by
          rcases e with e | e | e
          · omega
          · omega
          · exact OG.ge HOW.out k e)
      · exact Nat.le_trans HSZ.out hfW.size
    clear HM9 HX9 HT9 HX10 HA10 HA0 HA3 HA4 HFM
    gi_wp2
    exact HEND.out
  case done =>
    rintro D ys W hD hys ⟨⟨A, c, L, hm, ho, hL, hLk⟩, hlast, hbox, hbel, hsz⟩ hK
    obtain ⟨n, hn⟩ : ∃ n, n = ys.length := ⟨_, rfl⟩
    rw [← hn] at hm ho
    rw [hys] at hlast
    obtain ⟨A0, c0, vv, hk0, hn0, hc0, hr0, hb0, hv0⟩ := hst.blk
    have hn30 : n ≤ 30 := by
      have h1 := covering_len (cov := covP path) t.ds
      rw [← hys, List.length_map, ← hn] at h1
      have := hs.ds
      omega
    have hLn : L.length = n := by rw [hn, ← hL, List.length_map]
    have hkW := hk0.below hbel hk0.lt
    have hLmap : L.map TE.todo = (covering (covP path) t.ds).map (fun d => (d, t.ks)) := by
      rw [todo_map (fun e he => (hLk e he).1), ← hys, ← hL, List.map_map, List.map_map, List.map_map]
      rfl
    have HLMAP := Lib.hid hLmap
    have HLN := Lib.hid hLn
    obtain ⟨bb, hbb⟩ : ∃ bb, bb = lastTerm (covering (covP path) t.ds) := ⟨_, rfl⟩
    rw [← hbb] at hlast
    have HBB := Lib.hid hbb
    have l0 := hlast.cell 0
    have m0 := hkW.cell 0
    have m1 := hkW.frozen 0
    simp at l0 m0
    have hDw : w.heap.size ≤ D := by omega
    have HPE0 : Hid (∀ s2, (s2 = s ∨ s2 = []) → ∀ v9 w6, Fr (fun g => g = m ∨ (Value.slice A n c).ownBlock = some g ∨ g = D) W w6 → OG 70 7 w6 w.heap.size v9 (L ++ s2).length ((L ++ s2).flatMap TE.cs) → Blk w6 m 67 #[v9, vv] → StkAt w6 m base vis (L ++ s2) ∧ Fr (· = m) w w6 ∧ SameV m w w6) :=
      Lib.hid (fun s2 hs2 v9 w6 h1 h2 h3 => push_end hst hbase hk0 hv0 hbel ho (fun e he => (hLk e he).2) hK hDw hs2 h1 h2 h3)
    have HKW := Lib.hid hkW
    have HM1 := Lib.hid hm
    have HO1 := Lib.hid ho
    have HONE : Hid (∀ u ∈ s.flatMap TE.cs, u.oneCell' = true) := Lib.hid (fun u hu => by
      obtain ⟨e, he, hu⟩ := List.mem_flatMap.1 hu
      exact (hst.ok e he).one u hu)
    have HR0 : Hid (Reads W W.heap.size 7 A0 s.length (s.flatMap TE.cs)) := Lib.hid ((Reads.fr hr0 (Fr.of_below (S := fun _ => False) hbel) (Nat.le_refl _) (fun _ _ e => e)).more hbel.size)
    have HDK := Lib.hid hK
    have HSZ := Lib.hid (show w.heap.size ≤ W.heap.size from hbel.size)
    have hDW : D < W.heap.size := (Array.getElem?_eq_some_iff.1 hK).1
    have HSL : Hid (n + s.length ≤ 1000000000) := Lib.hid (by omega)
    have HDL0 := Lib.hid hDW
    clear hm ho hL hLk hlast hbox hbel hsz hK hst hbase hk0 hv0 hr0 hb0 hkW hLmap hLn hn hn30 hn0 hc0 hys hDW hsl hbb
    cases bb with
    | false =>
      clear m0 m1
      gi_wp2
      obtain ⟨W1, hW1⟩ : ∃ W1, W1 = W := ⟨_, rfl⟩
      have HS0 : (fun V => Blk V (w.heap.size + 1) 65 #[.slice A n c] ∧ Blk V m 67 #[.slice A0 s.length c0, vv]) W.drew := ⟨HM1.out, HKW.out⟩
      have HFW : Hid (Fr (fun g => g = m) W W.drew) := Lib.hid ((Fr.refl _ _).drew)
      have HR1 : Hid (Reads W.drew W.drew.heap.size 7 A0 s.length (s.flatMap TE.cs)) := Lib.hid HR0.out
      have HDL : Hid (D < W.drew.heap.size) := Lib.hid HDL0.out
      have HSZ1 : Hid (w.heap.size ≤ W.drew.heap.size) := Lib.hid HSZ.out
      have HNL := HSL
      have HPE : Hid (∀ v9 w6, Fr (fun g => g = m ∨ (Value.slice A n c).ownBlock = some g ∨ g = D) W w6 → OG 70 7 w6 w.heap.size v9 (n + s.length) (L.flatMap TE.cs ++ s.flatMap TE.cs) → Blk w6 m 67 #[v9, vv] → StkAt w6 m base vis (L ++ s) ∧ Fr (· = m) w w6 ∧ SameV m w w6) := Lib.hid (fun v9 w6 h1 h2 h3 => HPE0.out s (.inl rfl) v9 w6 h1 (by rw [List.length_append, HLN.out, List.flatMap_append]; exact h2) h3)
      have HMAP : Hid ((L ++ s).map TE.todo = pushP (covP path) t (s.map TE.todo)) := Lib.hid (by rw [List.map_append, HLMAP.out]; unfold pushP; rw [← HBB.out]; rfl)
      clear l0 HPE0
      refine wpIn_region_wideT (fun V => Blk V (w.heap.size + 1) 65 #[.slice A n c] ∧ Blk V m 67 #[.slice A0 s.length c0, vv]) 9 hmx HS0 (fun hS1 => ?_)
      refine wpAnyT_pure (i := 0) (oi := ⟨some 27, _, _, _, _, _⟩) (v := .pointer (some ⟨m, 0, none⟩)) rfl (by kernel_rfl) (by kernel_rfl) (by kernel_rfl) (by decide) (fun _ _ _ h => onlyNormal_panic h) (.inl ⟨by kernel_rfl, fun V hS => by go_simp⟩) hS1 ?_
      simp only [Act.put, List.setIfInBounds_toArray, List.set_cons_zero, List.set_cons_succ]
      refine wpAnyT_take (i := 1) (oi := ⟨some 28, _, _, _, _, _⟩) (v := .slice A n c) rfl (by kernel_rfl) (by kernel_rfl) (by kernel_rfl) (by kernel_rfl) (by kernel_rfl) (fun _ _ _ h => onlyNormal_panic h) (.inl ⟨by kernel_rfl, fun V hS => by have sc := hS.1.cell 0; simp at sc; go_simp⟩) hS1 ?_
      simp only [Act.put, List.setIfInBounds_toArray, List.set_cons_zero, List.set_cons_succ]
      refine wpAnyT_pure (i := 2) (oi := ⟨some 29, _, _, _, _, _⟩) (v := .pointer (some ⟨m, 0, none⟩)) rfl (by kernel_rfl) (by kernel_rfl) (by kernel_rfl) (by decide) (fun _ _ _ h => onlyNormal_panic h) (.inl ⟨by kernel_rfl, fun V hS => by go_simp⟩) hS1 ?_
      simp only [Act.put, List.setIfInBounds_toArray, List.set_cons_zero, List.set_cons_succ]
      refine wpAnyT_pure (i := 3) (oi := ⟨some 30, _, _, _, _, _⟩) (v := .pointer (some ⟨m, 0, none⟩)) rfl (by kernel_rfl) (by kernel_rfl) (by kernel_rfl) (by decide) (fun _ _ _ h => onlyNormal_panic h) (.inl ⟨by kernel_rfl, fun V hS => by go_simp⟩) hS1 ?_
      simp only [Act.put, List.setIfInBounds_toArray, List.set_cons_zero, List.set_cons_succ]
      refine wpAnyT_pure (i := 4) (oi := ⟨some 31, _, _, _, _, _⟩) (v := .pointer (some ⟨m, 0, none⟩)) rfl (by kernel_rfl) (by kernel_rfl) (by kernel_rfl) (by decide) (fun _ _ _ h => onlyNormal_panic h) (.inl ⟨by kernel_rfl, fun V hS => by go_simp⟩) hS1 ?_
      simp only [Act.put, List.setIfInBounds_toArray, List.set_cons_zero, List.set_cons_succ]
      refine wpAnyT_take (i := 5) (oi := ⟨some 32, _, _, _, _, _⟩) (v := .slice A0 s.length c0) rfl (by kernel_rfl) (by kernel_rfl) (by kernel_rfl) (by kernel_rfl) (by kernel_rfl) (fun _ _ _ h => onlyNormal_panic h) (.inl ⟨by kernel_rfl, fun V hS => by have sc := hS.2.cell 0; simp at sc; go_simp⟩) hS1 ?_
      simp only [Act.put, List.setIfInBounds_toArray, List.set_cons_zero, List.set_cons_succ]
      refine wpAnyT_ready (rs := [6]) (by kernel_rfl) (by simp) ?_
      refine AllReadyT.cons rfl (fun K' hK => ?_) AllReadyT.nil
      refine step_raw W.drew infoTodo Tryz.underlying65 (by omega) (by omega) rfl _ _ rfl w.heap.size (.slice A n c) n _ rfl HO1.out _ s.length c0 _ rfl HR1.out HONE.out HNL.out HSZ1.out ?_
      intro v4 w4 hrow hg hat
      obtain ⟨A9, c9, rfl, _⟩ := OG.form hrow
      have HR9 := Lib.hid hrow
      have HF9 : Hid (Fr (fun g => (Value.slice A n c).ownBlock = some g) W.drew w4) := Lib.hid (Fr.of_grown hg (fun g e => e))
      have HM9 := Lib.hid (Blk.fr (hS1).1 HF9.out (OG.far HO1.out (hS1).1 (by decide)))
      have HK9 := Lib.hid (Blk.fr (hS1).2 HF9.out (OG.far HO1.out (hS1).2 (by decide)))
      have HD9 : Hid (w4.heap[D]? = some (.deferred (some []))) := Lib.hid ((HF9.out.block D HDL.out (fun e => by obtain ⟨cu, hcu⟩ := OG.blk HO1.out D e; have hcu : W.heap[D]? = some (.cells cu 70) := hcu; rw [HDK.out] at hcu; cases hcu)).trans HDK.out)
      clear hrow hg hat
      refine hK.out _ _ (⟨HM9.out, HK9.out⟩) (fun hS2 => ?_)
      clear hK K' hS1
      simp only [Act.put, List.setIfInBounds_toArray, List.set_cons_zero, List.set_cons_succ]
      refine wpAnyT_pure (i := 7) (oi := ⟨some 34, _, _, _, _, _⟩) (v := .pointer (some ⟨m, 0, none⟩)) rfl (by kernel_rfl) (by kernel_rfl) (by kernel_rfl) (by decide) (fun _ _ _ h => onlyNormal_panic h) (.inl ⟨by kernel_rfl, fun V hS => by go_simp⟩) hS2 ?_
      simp only [Act.put, List.setIfInBounds_toArray, List.set_cons_zero, List.set_cons_succ]
      refine wpAnyT_pure (i := 8) (oi := ⟨some 35, _, _, _, _, _⟩) (v := .pointer (some ⟨m, 0, none⟩)) rfl (by kernel_rfl) (by kernel_rfl) (by kernel_rfl) (by decide) (fun _ _ _ h => onlyNormal_panic h) (.inl ⟨by kernel_rfl, fun V hS => by go_simp⟩) hS2 ?_
      simp only [Act.put, List.setIfInBounds_toArray, List.set_cons_zero, List.set_cons_succ]
      refine wpAnyT_T (by kernel_rfl) rfl (by kernel_rfl) (fun K' hK => ?_)
      have sc := HK9.out.cell 0
      have sf := HK9.out.frozen 0
      simp at sc sf
      go_simp
      clear sc sf
      refine hK.out _ _ ?_
      clear hK K' hS2
      refine wpAnyH_done (by kernel_rfl) ⟨rfl, ?_⟩ _
      have HK10 := Lib.hid (HK9.out.set_ 0 (.slice A9 (n + s.length) c9))
      have hK' := (KeepsOthers.setCell w4 ⟨m, 0, none⟩ (.slice A9 (n + s.length) c9)).same D _ HD9.out rfl
      have hg' := grownBy_putObj' (w4.setCell ⟨m, 0, none⟩ (.slice A9 (n + s.length) c9)) D (.deferred none)
      have HF10 : Hid (Fr (fun g => g = m ∨ (Value.slice A n c).ownBlock = some g ∨ g = D) W ((w4.setCell ⟨m, 0, none⟩ (.slice A9 (n + s.length) c9)).putObj D (.deferred none))) := Lib.hid ((((HFW.out.mono (fun k _ e => .inl e)).trans (HF9.out.mono (fun k _ e => .inr (.inl e)))).setCell (p := ⟨m, 0, none⟩) (fun _ => .inl rfl) _).grown hg' (fun k e _ => by cases e; exact .inr (.inr rfl)))
      have hnr : ∀ r, (some D) = some r → ∃ o : Obj, (w4.setCell ⟨m, 0, none⟩ (.slice A9 (n + s.length) c9)).heap[r]? = some o ∧ o.isCells = false := fun r e => by cases e; exact ⟨_, hK', rfl⟩
      have HM10 := Lib.hid (blk_kept HK10.out hg' hnr)
      have HO10 : Hid (OG 70 7 ((w4.setCell ⟨m, 0, none⟩ (.slice A9 (n + s.length) c9)).putObj D (.deferred none)) w.heap.size (.slice A9 (n + s.length) c9) (n + s.length) _) := Lib.hid (OG.frT (OG.frT HR9.out (fr_at _ _ _ _) (fun g cs hb e => by subst e; exact HK9.out.ne_ hb (by decide) rfl)) (Fr.of_grown hg' (fun k e => e)) (fun g cs hb => not_row hb hnr))
      have HKK := Lib.hid hK'
      clear hg' hnr hK'
      gi_wp2
      refine ⟨by simp, .inl ⟨_, _, rfl, run_takeDeferred HKK.out, ?_⟩⟩
      obtain ⟨q1, q2, q3⟩ := HPE.out _ _ HF10.out HO10.out HM10.out
      exact ⟨_, results_none rfl _ _ _, _, ⟨_, rfl⟩, q1, HMAP.out, q2, q3⟩
    | true =>
      gi_wp2
      have HKW1 := Lib.hid (HKW.out.set_ 0 (.slice none 0 0))
      have hfm : Fr (fun b => b = m) W (W.setCell ⟨m, 0, none⟩ (.slice none 0 0)) := fr_at _ _ _ _
      have HM11 := Lib.hid (HM1.out.fr hfm (HM1.out.ne_ HKW.out (by decide)))
      have HO11 := Lib.hid (OG.frT HO1.out hfm (fun g cs hb e => hb.ne_ HKW.out (by decide) e))
      have HDK1 : Hid ((W.setCell ⟨m, 0, none⟩ (.slice none 0 0)).heap[D]? = some (.deferred (some []))) := Lib.hid ((KeepsOthers.setCell W ⟨m, 0, none⟩ (.slice none 0 0)).same D _ HDK.out rfl)
      obtain ⟨W1, hW1⟩ : ∃ W1, W1 = W.setCell ⟨m, 0, none⟩ (.slice none 0 0) := ⟨_, rfl⟩
      rw [← hW1] at HKW1 HM11 HO11 HDK1 hfm ⊢
      have HS0 : (fun V => Blk V (w.heap.size + 1) 65 #[.slice A n c] ∧ Blk V m 67 #[.slice none 0 0, vv]) W1.drew := ⟨HM11.out, by have := HKW1.out; simp at this; exact this⟩
      have HFW : Hid (Fr (fun g => g = m) W W1.drew) := Lib.hid (hfm.drew)
      have HR1 : Hid (Reads W1.drew W1.drew.heap.size 7 none 0 []) := Lib.hid Reads.none_
      have HDL : Hid (D < W1.drew.heap.size) := Lib.hid (Nat.lt_of_lt_of_le HDL0.out hfm.size)
      have HSZ1 : Hid (w.heap.size ≤ W1.drew.heap.size) := Lib.hid (Nat.le_trans HSZ.out hfm.size)
      have HNL : Hid (n + 0 ≤ 1000000000) := Lib.hid (by have := HSL.out; omega)
      have HPE : Hid (∀ v9 w6, Fr (fun g => g = m ∨ (Value.slice A n c).ownBlock = some g ∨ g = D) W w6 → OG 70 7 w6 w.heap.size v9 (n + 0) (L.flatMap TE.cs ++ []) → Blk w6 m 67 #[v9, vv] → StkAt w6 m base vis (L ++ []) ∧ Fr (· = m) w w6 ∧ SameV m w w6) := Lib.hid (fun v9 w6 h1 h2 h3 => HPE0.out [] (.inr rfl) v9 w6 h1 (by rw [List.length_append, HLN.out, List.flatMap_append]; exact h2) h3)
      have HMAP : Hid ((L ++ []).map TE.todo = pushP (covP path) t (s.map TE.todo)) := Lib.hid (by rw [List.map_append, HLMAP.out]; unfold pushP; rw [← HBB.out]; rfl)
      have HONE0 := HONE
      have HONE : Hid (∀ u ∈ ([] : List Value), u.oneCell' = true) := Lib.hid (fun u hu => by cases hu)
      have HO10 := HO1
      have HO1 := HO11
      have HDK := HDK1
      clear l0 m0 m1 HPE0 HKW HM1 HO10 hW1 HONE0 HR0 hfm
      refine wpIn_region_wideT (fun V => Blk V (w.heap.size + 1) 65 #[.slice A n c] ∧ Blk V m 67 #[.slice none 0 0, vv]) 9 hmx HS0 (fun hS1 => ?_)
      refine wpAnyT_pure (i := 0) (oi := ⟨some 27, _, _, _, _, _⟩) (v := .pointer (some ⟨m, 0, none⟩)) rfl (by kernel_rfl) (by kernel_rfl) (by kernel_rfl) (by decide) (fun _ _ _ h => onlyNormal_panic h) (.inl ⟨by kernel_rfl, fun V hS => by go_simp⟩) hS1 ?_
      simp only [Act.put, List.setIfInBounds_toArray, List.set_cons_zero, List.set_cons_succ]
      refine wpAnyT_take (i := 1) (oi := ⟨some 28, _, _, _, _, _⟩) (v := .slice A n c) rfl (by kernel_rfl) (by kernel_rfl) (by kernel_rfl) (by kernel_rfl) (by kernel_rfl) (fun _ _ _ h => onlyNormal_panic h) (.inl ⟨by kernel_rfl, fun V hS => by have sc := hS.1.cell 0; simp at sc; go_simp⟩) hS1 ?_
      simp only [Act.put, List.setIfInBounds_toArray, List.set_cons_zero, List.set_cons_succ]
      refine wpAnyT_pure (i := 2) (oi := ⟨some 29, _, _, _, _, _⟩) (v := .pointer (some ⟨m, 0, none⟩)) rfl (by kernel_rfl) (by kernel_rfl) (by kernel_rfl) (by decide) (fun _ _ _ h => onlyNormal_panic h) (.inl ⟨by kernel_rfl, fun V hS => by go_simp⟩) hS1 ?_
      simp only [Act.put, List.setIfInBounds_toArray, List.set_cons_zero, List.set_cons_succ]
      refine wpAnyT_pure (i := 3) (oi := ⟨some 30, _, _, _, _, _⟩) (v := .pointer (some ⟨m, 0, none⟩)) rfl (by kernel_rfl) (by kernel_rfl) (by kernel_rfl) (by decide) (fun _ _ _ h => onlyNormal_panic h) (.inl ⟨by kernel_rfl, fun V hS => by go_simp⟩) hS1 ?_
      simp only [Act.put, List.setIfInBounds_toArray, List.set_cons_zero, List.set_cons_succ]
      refine wpAnyT_pure (i := 4) (oi := ⟨some 31, _, _, _, _, _⟩) (v := .pointer (some ⟨m, 0, none⟩)) rfl (by kernel_rfl) (by kernel_rfl) (by kernel_rfl) (by decide) (fun _ _ _ h => onlyNormal_panic h) (.inl ⟨by kernel_rfl, fun V hS => by go_simp⟩) hS1 ?_
      simp only [Act.put, List.setIfInBounds_toArray, List.set_cons_zero, List.set_cons_succ]
      refine wpAnyT_take (i := 5) (oi := ⟨some 32, _, _, _, _, _⟩) (v := .slice none 0 0) rfl (by kernel_rfl) (by kernel_rfl) (by kernel_rfl) (by kernel_rfl) (by kernel_rfl) (fun _ _ _ h => onlyNormal_panic h) (.inl ⟨by kernel_rfl, fun V hS => by have sc := hS.2.cell 0; simp at sc; go_simp⟩) hS1 ?_
      simp only [Act.put, List.setIfInBounds_toArray, List.set_cons_zero, List.set_cons_succ]
      refine wpAnyT_ready (rs := [6]) (by kernel_rfl) (by simp) ?_
      refine AllReadyT.cons rfl (fun K' hK => ?_) AllReadyT.nil
      refine step_raw W1.drew infoTodo Tryz.underlying65 (by omega) (by omega) rfl _ _ rfl w.heap.size (.slice A n c) n _ rfl HO1.out _ 0 0 _ rfl HR1.out HONE.out HNL.out HSZ1.out ?_
      intro v4 w4 hrow hg hat
      obtain ⟨A9, c9, rfl, _⟩ := OG.form hrow
      have HR9 := Lib.hid hrow
      have HF9 : Hid (Fr (fun g => (Value.slice A n c).ownBlock = some g) W1.drew w4) := Lib.hid (Fr.of_grown hg (fun g e => e))
      have HM9 := Lib.hid (Blk.fr (hS1).1 HF9.out (OG.far HO1.out (hS1).1 (by decide)))
      have HK9 := Lib.hid (Blk.fr (hS1).2 HF9.out (OG.far HO1.out (hS1).2 (by decide)))
      have HD9 : Hid (w4.heap[D]? = some (.deferred (some []))) := Lib.hid ((HF9.out.block D HDL.out (fun e => by obtain ⟨cu, hcu⟩ := OG.blk HO1.out D e; have hcu : W1.heap[D]? = some (.cells cu 70) := hcu; rw [HDK.out] at hcu; cases hcu)).trans HDK.out)
      clear hrow hg hat
      refine hK.out _ _ (⟨HM9.out, HK9.out⟩) (fun hS2 => ?_)
      clear hK K' hS1
      simp only [Act.put, List.setIfInBounds_toArray, List.set_cons_zero, List.set_cons_succ]
      refine wpAnyT_pure (i := 7) (oi := ⟨some 34, _, _, _, _, _⟩) (v := .pointer (some ⟨m, 0, none⟩)) rfl (by kernel_rfl) (by kernel_rfl) (by kernel_rfl) (by decide) (fun _ _ _ h => onlyNormal_panic h) (.inl ⟨by kernel_rfl, fun V hS => by go_simp⟩) hS2 ?_
      simp only [Act.put, List.setIfInBounds_toArray, List.set_cons_zero, List.set_cons_succ]
      refine wpAnyT_pure (i := 8) (oi := ⟨some 35, _, _, _, _, _⟩) (v := .pointer (some ⟨m, 0, none⟩)) rfl (by kernel_rfl) (by kernel_rfl) (by kernel_rfl) (by decide) (fun _ _ _ h => onlyNormal_panic h) (.inl ⟨by kernel_rfl, fun V hS => by go_simp⟩) hS2 ?_
      simp only [Act.put, List.setIfInBounds_toArray, List.set_cons_zero, List.set_cons_succ]
      refine wpAnyT_T (by kernel_rfl) rfl (by kernel_rfl) (fun K' hK => ?_)
      have sc := HK9.out.cell 0
      have sf := HK9.out.frozen 0
      simp at sc sf
      go_simp
      clear sc sf
      refine hK.out _ _ ?_
      clear hK K' hS2
      refine wpAnyH_done (by kernel_rfl) ⟨rfl, ?_⟩ _
      have HK10 := Lib.hid (HK9.out.set_ 0 (.slice A9 (n + 0) c9))
      have hK' := (KeepsOthers.setCell w4 ⟨m, 0, none⟩ (.slice A9 (n + 0) c9)).same D _ HD9.out rfl
      have hg' := grownBy_putObj' (w4.setCell ⟨m, 0, none⟩ (.slice A9 (n + 0) c9)) D (.deferred none)
      have HF10 : Hid (Fr (fun g => g = m ∨ (Value.slice A n c).ownBlock = some g ∨ g = D) W ((w4.setCell ⟨m, 0, none⟩ (.slice A9 (n + 0) c9)).putObj D (.deferred none))) := Lib.hid ((((HFW.out.mono (fun k _ e => .inl e)).trans (HF9.out.mono (fun k _ e => .inr (.inl e)))).setCell (p := ⟨m, 0, none⟩) (fun _ => .inl rfl) _).grown hg' (fun k e _ => by cases e; exact .inr (.inr rfl)))
      have hnr : ∀ r, (some D) = some r → ∃ o : Obj, (w4.setCell ⟨m, 0, none⟩ (.slice A9 (n + 0) c9)).heap[r]? = some o ∧ o.isCells = false := fun r e => by cases e; exact ⟨_, hK', rfl⟩
      have HM10 := Lib.hid (blk_kept HK10.out hg' hnr)
      have HO10 : Hid (OG 70 7 ((w4.setCell ⟨m, 0, none⟩ (.slice A9 (n + 0) c9)).putObj D (.deferred none)) w.heap.size (.slice A9 (n + 0) c9) (n + 0) _) := Lib.hid (OG.frT (OG.frT HR9.out (fr_at _ _ _ _) (fun g cs hb e => by subst e; exact HK9.out.ne_ hb (by decide) rfl)) (Fr.of_grown hg' (fun k e => e)) (fun g cs hb => not_row hb hnr))
      have HKK := Lib.hid hK'
      clear hg' hnr hK'
      gi_wp2
      refine ⟨by simp, .inl ⟨_, _, rfl, run_takeDeferred HKK.out, ?_⟩⟩
      obtain ⟨q1, q2, q3⟩ := HPE.out _ _ HF10.out HO10.out HM10.out
      exact ⟨_, results_none rfl _ _ _, _, ⟨_, rfl⟩, q1, HMAP.out, q2, q3⟩
  case stop =>
    rintro D cc pre W hD _ hx hK
    exact hx.elim
end Go.Proofs.YthidjdjcjjbpbaaGreatDoor
