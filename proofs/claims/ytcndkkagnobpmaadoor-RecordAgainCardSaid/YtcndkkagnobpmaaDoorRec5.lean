/-
  record: the blocks of a text are written.
-/
import Derived.Test.YtcndkkagnobpmaaDoorChunk
import Derived.Test.YtcndkkagnobpmaaDoorInRound
import Derived.Test.YtcndkkagnobpmaaDoorRec4
namespace Go.Proofs.YtcndkkagnobpmaaDoor
open Go.RowKit Go.Shelf
attribute [local go_sem] Oper.semAt_some
set_option linter.unusedVariables false

theorem dwrite_any {d s M n : Nat} {K : Dk} (i : Nat) (A : Option Addr) (c : Nat) (b : List UInt8) (w : World) (h : DiskAt w d s M n K) (ho : K.off = false) (hi : i < K.sure.length) (hn : n < 1000000) (hb : RB w A b) (hbl : b.length = 64) (hc : 64 ≤ c) (hcm : c ≤ 9223372036854775807) :
    Calls Tryd.prog 17 #[.pointer (some ⟨d, 0, none⟩), .int .i64 (i : Int), .slice A 64 c] w fun e w' => e = .returned (.int .i64 (offE (K.write i b))) ∧ DiskAt w' d s M (n + 1) (K.write i b) ∧ Fr (DS d s M) w w' := by
  have he : offE (K.write i b) = if K.go.off then 210 else 0 := by unfold offE; rw [write_off_eq]
  cases hg : K.go.off with
  | true =>
    rw [he, hg]
    exact write_off i A c b w h ho hi hn hb hbl hc hcm hg
  | false =>
    rw [he, hg]
    exact write_on i A c b w h ho hi hn hb hbl hc hcm hg
/-- the disk behind the writes of some chunks -/
def stepB (a : Nat) (T : List UInt8) (p : Dk × Nat) (x : Nat) : Dk × Nat := (if p.1.off then p.1 else p.1.write (a + 1 + p.2) (pad64 (chunk T x)), p.2 + 1)
def bodyOn (K : Dk) (a : Nat) (T : List UInt8) (pre : List Nat) : Dk := (pre.foldl (stepB a T) (K, 0)).1
theorem bodyOn_two (K : Dk) (a : Nat) (T : List UInt8) (pre : List Nat) (i : Nat) : (pre.foldl (stepB a T) (K, i)).2 = i + pre.length := by
  induction pre generalizing K i with
  | nil => rfl
  | cons x pre ih => rw [List.foldl_cons]; unfold stepB at ih ⊢; rw [ih, List.length_cons]; omega
theorem bodyOn_snoc (K : Dk) (a : Nat) (T : List UInt8) (pre : List Nat) (x : Nat) : bodyOn K a T (pre ++ [x]) = if (bodyOn K a T pre).off then bodyOn K a T pre else (bodyOn K a T pre).write (a + 1 + pre.length) (pad64 (chunk T x)) := by
  unfold bodyOn
  rw [List.foldl_append, List.foldl_cons, List.foldl_nil]
  have := bodyOn_two K a T pre 0
  generalize pre.foldl (stepB a T) (K, 0) = q at this ⊢
  unfold stepB
  rw [this, Nat.zero_add]
theorem bodyOn_range (K : Dk) (a : Nat) (T : List UInt8) (k : Nat) : bodyOn K a T (List.range k) = bodyK K a T k := by
  induction k with
  | zero => rfl
  | succ k ih => rw [List.range_succ, bodyOn_snoc, ih, List.length_range, bodyK]
theorem body_stays (K : Dk) (a : Nat) (T : List UInt8) (k m : Nat) (h : (bodyK K a T k).off = true) : bodyK K a T (k + m) = bodyK K a T k := by
  induction m with
  | zero => rfl
  | succ m ih => rw [← Nat.add_assoc, bodyK, ih, h]; rfl
theorem bodyOn_len (K : Dk) (a : Nat) (T : List UInt8) (pre : List Nat) : (bodyOn K a T pre).sure.length = K.sure.length := by
  unfold bodyOn
  suffices h : ∀ (p : Dk × Nat), (pre.foldl (stepB a T) p).1.sure.length = p.1.sure.length from h (K, 0)
  induction pre with
  | nil => intro p; rfl
  | cons x pre ih =>
    intro p
    rw [List.foldl_cons, ih]
    unfold stepB
    dsimp only
    split
    · rfl
    · exact write_len _ _ _
/-- between two rounds -/
structure BodyI (w : World) (d s M n r a : Nat) (K : Dk) (T : List UInt8) (pre : List Nat) (W : World) : Prop where
  disk : ∃ n', n' ≤ n + pre.length ∧ DiskAt W d s M n' (bodyOn K a T pre)
  fr : Fr (DS d s M) w W
  rec_ : Blk W w.heap.size 23 #[.pointer (some ⟨r, 0, none⟩)]
  at_ : Blk W (w.heap.size + 1) 3 #[.int .i64 ((a + pre.length : Nat) : Int)]
  res : ∃ x, Blk W (w.heap.size + 1 + 1) 24 #[.int .i64 x]
  siz : w.heap.size + 5 ≤ W.heap.size
theorem nonCell {W : World} {g : Nat} {o : Obj} (h : W.heap[g]? = some o) (hc : o.isCells = false) : NoBy W g := by
  intro k x e
  obtain ⟨o', ho, hc'⟩ := cells_of_cell e
  rw [h] at ho
  cases ho
  rw [hc] at hc'
  cases hc'
theorem blk_kept {W W' : World} {row : Option Nat} {g : Nat} {t : TypeId} {cs : Array Value} (h : Blk W g t cs) (hg : W.grownBy W' row) (hr : ∀ r, row = some r → ∃ o : Obj, W.heap[r]? = some o ∧ o.isCells = false) : Blk W' g t cs :=
  (grownBy_keeps_cells hg hr h rfl).trans h
theorem BodyI.own (w : World) (d s M n r a : Nat) (K : Dk) (T : List UInt8) (B : Nat) (hB : w.heap.size + 2 < B) (hd : d < w.heap.size) (hs : s < w.heap.size) (hM : M < w.heap.size) : OwnFrom B (fun pre W => BodyI w d s M n r a K T pre W) := by
  intro pre W W' row h hg hr
  have hf : Fr (fun k => row = some k) W W' := Fr.of_grown hg (fun k e => e)
  have hge : ∀ k, row = some k → B ≤ k := fun k e => (hr k e).1
  have hno : ∀ k, row = some k → k < W.heap.size → NoBy W k := fun k e _ => by
    obtain ⟨_, o, ho, hc⟩ := hr k e
    exact nonCell ho hc
  have hr' : ∀ r, row = some r → ∃ o : Obj, W.heap[r]? = some o ∧ o.isCells = false := fun r e => (hr r e).2
  obtain ⟨⟨n', h1, h2⟩, h3, h4, h5, ⟨x, h8⟩, h9⟩ := h
  refine ⟨⟨n', h1, h2.fr hf (fun k hk e => ?_) hno⟩, h3.trans_new hf (fun j hj e => ?_), blk_kept h4 hg hr', blk_kept h5 hg hr', ⟨x, blk_kept h8 hg hr'⟩, Nat.le_trans h9 hg.size⟩
  · have := hge k e
    rcases hk with rfl | rfl | rfl <;> omega
  · have := hge j e
    omega
theorem one_noBy {W : World} {g : Nat} {t : TypeId} {x : Int} (h : Blk W g t #[.int .i64 x]) : NoBy W g := by
  refine NoBy.of_blk h (fun k y => ?_)
  rcases Nat.eq_zero_or_pos k with rfl | hk
  · intro e; cases e
  · rw [Array.getElem?_eq_none (by simp; omega)]; intro e; cases e
theorem BodyI.setRes {w : World} {d s M n r a : Nat} {K : Dk} {T : List UInt8} {pre : List Nat} {W : World} (h : BodyI w d s M n r a K T pre W) (hd : d < w.heap.size) (hs : s < w.heap.size) (hM : M < w.heap.size) (y : Int) :
    BodyI w d s M n r a K T pre (W.setCell ⟨w.heap.size + 1 + 1, 0, none⟩ (.int .i64 y)) ∧ Blk (W.setCell ⟨w.heap.size + 1 + 1, 0, none⟩ (.int .i64 y)) (w.heap.size + 1 + 1) 24 #[.int .i64 y] := by
  obtain ⟨⟨n', h1, h2⟩, h3, h4, h5, ⟨x, h8⟩, h9⟩ := h
  have hf : Fr (· = w.heap.size + 1 + 1) W (W.setCell ⟨w.heap.size + 1 + 1, 0, none⟩ (.int .i64 y)) := fr_cell _
  have hb : Blk (W.setCell ⟨w.heap.size + 1 + 1, 0, none⟩ (.int .i64 y)) (w.heap.size + 1 + 1) 24 #[.int .i64 y] := h8.set_ 0 _
  refine ⟨⟨⟨n', h1, h2.fr hf (fun k hk e => ?_) (fun g e _ => e ▸ one_noBy h8)⟩, h3.trans_new hf (fun j hj e => by omega), h4.fr hf (by omega), h5.fr hf (by omega), ⟨y, hb⟩, Nat.le_trans h9 hf.size⟩, hb⟩
  rcases hk with rfl | rfl | rfl <;> omega
theorem keepsFrom_of_fr {S : Nat → Prop} {B : Nat} {W W' : World} (h : Fr S W W') (hS : ∀ k, S k → k < B) : KeepsFrom B W W' :=
  ⟨h.size, fun k o hB hk _ => (h.block k (Array.getElem?_eq_some_iff.1 hk).1 (fun e => by have := hS k e; omega)).trans hk⟩
set_option maxRecDepth 100000 in
set_option maxHeartbeats 4000000 in
theorem body_any {r d s M nn first half num : Nat} {t : Value} {dead : Bool} {K : Dk} (a n c : Nat) (A : Option Addr) (T : List UInt8) (w : World) (h : DiskAt w d s M nn K) (hr : Blk w r 55 (recV d first half t num dead)) (ho : K.off = false)
    (hT : RB w A T) (hTn : T.length = n) (hn : n ≤ 35184372088832) (hc : n ≤ c) (hcm : c ≤ 9223372036854775807) (hin : a + 1 + chunksN T ≤ K.sure.length) (hnn : nn + chunksN T < 1000000) :
    Calls Tryd.prog 32 #[.pointer (some ⟨r, 0, none⟩), .int .i64 (a : Int), .slice A n c] w fun e w' => e = .returned (.int .i64 (offE (bodyK K a T (chunksN T)))) ∧ (∃ n', n' ≤ nn + chunksN T ∧ DiskAt w' d s M n' (bodyK K a T (chunksN T))) ∧ Fr (DS d s M) w w' := by
  have hmx : Tryd.prog.follows .mixedOrders = true := by kernel_rfl
  refine (callsIn_wide (n := 4)).1 ?_
  refine callsIn_of_wp_marks Tryd.func32 rfl trivial ?_ rfl
  simp only [Tryd.ntmps32, List.size_toArray, List.length_cons, List.length_nil, Nat.reduceAdd, Nat.reduceSub, Array.replicate_succ, Array.replicate_zero, List.push_toArray, List.append_toArray, List.nil_append, List.cons_append]
  gi_wp2_with (refine ⟨trivial, ?_⟩; gi_at_call 64; refine (callsIn_wide.2 (chunk_any _ _ _ _)).mono ?_; rintro e w' ⟨rfl, rfl⟩)
  have hd := h.lt
  have hrd : ¬ DS d s M r := by
    rintro (e | e | e)
    · obtain ⟨cap, hb, _⟩ := h.blk
      exact hr.ne_ hb (by decide) e
    · obtain ⟨cs, hb, _⟩ := h.row
      exact hr.ne_ hb (by decide) e
    · obtain ⟨f, hm, _⟩ := h.map
      exact hm.not_blk hr e
  have hW5 : Below w.heap.size w (((((w.alloc (.cells #[.pointer (some ⟨r, 0, none⟩)] 23)).alloc (.cells #[.int .i64 (a : Int)] 3)).alloc (.cells #[.int .i64 0] 24)).alloc (.cells #[.slice A n c] 22)).alloc (.cells #[.int .i64 64] 3)) :=
    (((((Below.refl _ _).alloc (Nat.le_refl _) _).alloc (by simp) _).alloc (by simp; omega) _).alloc (by simp; omega) _).alloc (by simp; omega) _
  have b0 : Blk (((((w.alloc (.cells #[.pointer (some ⟨r, 0, none⟩)] 23)).alloc (.cells #[.int .i64 (a : Int)] 3)).alloc (.cells #[.int .i64 0] 24)).alloc (.cells #[.slice A n c] 22)).alloc (.cells #[.int .i64 64] 3)) w.heap.size 23 #[.pointer (some ⟨r, 0, none⟩)] := ((((Blk.new _ _ _).alloc _).alloc _).alloc _).alloc _
  have b1 : Blk (((((w.alloc (.cells #[.pointer (some ⟨r, 0, none⟩)] 23)).alloc (.cells #[.int .i64 (a : Int)] 3)).alloc (.cells #[.int .i64 0] 24)).alloc (.cells #[.slice A n c] 22)).alloc (.cells #[.int .i64 64] 3)) (w.heap.size + 1) 3 #[.int .i64 (a : Int)] := by
    have := (((Blk.new (w.alloc (.cells #[.pointer (some ⟨r, 0, none⟩)] 23)) 3 #[.int .i64 (a : Int)]).alloc (.cells #[.int .i64 0] 24)).alloc (.cells #[.slice A n c] 22)).alloc (.cells #[.int .i64 64] 3)
    simpa using this
  have b2 : Blk (((((w.alloc (.cells #[.pointer (some ⟨r, 0, none⟩)] 23)).alloc (.cells #[.int .i64 (a : Int)] 3)).alloc (.cells #[.int .i64 0] 24)).alloc (.cells #[.slice A n c] 22)).alloc (.cells #[.int .i64 64] 3)) (w.heap.size + 1 + 1) 24 #[.int .i64 0] := by
    have := ((Blk.new ((w.alloc (.cells #[.pointer (some ⟨r, 0, none⟩)] 23)).alloc (.cells #[.int .i64 (a : Int)] 3)) 24 #[.int .i64 0]).alloc (.cells #[.slice A n c] 22)).alloc (.cells #[.int .i64 64] 3)
    simpa using this
  have b3 : Blk (((((w.alloc (.cells #[.pointer (some ⟨r, 0, none⟩)] 23)).alloc (.cells #[.int .i64 (a : Int)] 3)).alloc (.cells #[.int .i64 0] 24)).alloc (.cells #[.slice A n c] 22)).alloc (.cells #[.int .i64 64] 3)) (w.heap.size + 1 + 1 + 1) 22 #[.slice A n c] := by
    have := (Blk.new (((w.alloc (.cells #[.pointer (some ⟨r, 0, none⟩)] 23)).alloc (.cells #[.int .i64 (a : Int)] 3)).alloc (.cells #[.int .i64 0] 24)) 22 #[.slice A n c]).alloc (.cells #[.int .i64 64] 3)
    simpa using this
  have b4 : Blk (((((w.alloc (.cells #[.pointer (some ⟨r, 0, none⟩)] 23)).alloc (.cells #[.int .i64 (a : Int)] 3)).alloc (.cells #[.int .i64 0] 24)).alloc (.cells #[.slice A n c] 22)).alloc (.cells #[.int .i64 64] 3)) (w.heap.size + 1 + 1 + 1 + 1) 3 #[.int .i64 64] := by
    have := Blk.new ((((w.alloc (.cells #[.pointer (some ⟨r, 0, none⟩)] 23)).alloc (.cells #[.int .i64 (a : Int)] 3)).alloc (.cells #[.int .i64 0] 24)).alloc (.cells #[.slice A n c] 22)) 3 #[.int .i64 64]
    simpa using this
  have hz : (((((w.alloc (.cells #[.pointer (some ⟨r, 0, none⟩)] 23)).alloc (.cells #[.int .i64 (a : Int)] 3)).alloc (.cells #[.int .i64 0] 24)).alloc (.cells #[.slice A n c] 22)).alloc (.cells #[.int .i64 64] 3)).heap.size = w.heap.size + 5 := by simp
  generalize (((((w.alloc (.cells #[.pointer (some ⟨r, 0, none⟩)] 23)).alloc (.cells #[.int .i64 (a : Int)] 3)).alloc (.cells #[.int .i64 0] 24)).alloc (.cells #[.slice A n c] 22)).alloc (.cells #[.int .i64 64] 3)) = W5 at hW5 b0 b1 b2 b3 b4 hz ⊢
  have hI0 : BodyI w d s M nn r a K T [] W5 := by
    refine ⟨⟨nn, by omega, h.below hW5⟩, Fr.of_below hW5, b0, b1, ⟨0, b2⟩, by omega⟩
  refine wpIn_rangeFunc_ownG (α := Nat) rfl (by omega) (gf := 89) (lb := #[.pointer (some ⟨w.heap.size + 1 + 1 + 1, 0, none⟩), .pointer (some ⟨w.heap.size + 1 + 1 + 1 + 1, 0, none⟩)]) rfl trivial (enters_of Tryd.func89 (by kernel_rfl) rfl)
    (F := Fence.wide) (n := 4) (chunk_stops (w.heap.size + 1 + 1 + 1) (w.heap.size + 1 + 1 + 1 + 1) n c A T W5 (hT.below hW5) hTn hn hc b3 b4) (fun h k => h.trans k)
    (fun W l o o' hl _ _ _ => ⟨World.putObj_heap_other (by omega), World.putObj_heap_other (by omega)⟩) (Below.refl _ _) (fun _ => rfl)
    (fun pre W => BodyI w d s M nn r a K T pre W ∧ (bodyOn K a T pre).off = false)
    (fun c pre W => (BodyI w d s M nn r a K T pre W ∧ Blk W (w.heap.size + 1 + 1) 24 #[.int .i64 210]) ∧ c = .ret ∧ (bodyOn K a T pre).off = true)
    ?_ ?_ ⟨hI0, ho⟩
    (fun x => { tmps := #[.pointer (some ⟨r, 0, none⟩), .int .i64 (a : Int), .slice A n c, .pointer (some ⟨w.heap.size, 0, none⟩), .pointer (some ⟨w.heap.size + 1, 0, none⟩), undef, .pointer (some ⟨w.heap.size + 1 + 1, 0, none⟩), chunkA A n x, undef, .slice A n c, .func (.func 89) #[] #[.pointer (some ⟨w.heap.size + 1 + 1 + 1, 0, none⟩), .pointer (some ⟨w.heap.size + 1 + 1 + 1 + 1, 0, none⟩)], chunkA A n x, undef, undef, undef, undef, undef, undef, undef, undef, undef, undef, undef, undef, undef, undef, undef, undef, undef, undef], defers := [] }) ?assign ?body ?done ?stop
  · exact OwnFrom.and (BodyI.own w d s M nn r a K T W5.heap.size (by omega) hd.1 hd.2.1 hd.2.2) (ownFrom_pure _ _)
  · intro c
    exact OwnFrom.and (OwnFrom.and (BodyI.own w d s M nn r a K T W5.heap.size (by omega) hd.1 hd.2.1 hd.2.2) (Own.from (fun s A B row hs hg hr => blk_kept hs hg hr) _)) (ownFrom_pure _ _)
  case assign =>
    intro l x W KK hK
    gi_wp2
    exact hK
  case body =>
    rintro l pre x W ⟨hB, hoff⟩ hlen
    have hpos : 0 < n := by omega
    obtain ⟨ad, rfl, hadl, hcell⟩ := hT.at_ (k := 0) (by omega)
    have hsp := cell_spot hcell
    obtain ⟨b, o, sp⟩ := ad
    obtain rfl : sp = none := by
      cases sp with
      | none => rfl
      | some s => simp [Addr.add] at hsp
    obtain ⟨⟨n', hn1, hn2⟩, hF, hrec, hat, ⟨xr, hres⟩, hsz5⟩ := hB
    obtain ⟨j, hj⟩ : ∃ j, j = a + pre.length := ⟨_, rfl⟩
    rw [← hj] at hat
    obtain ⟨m, hm⟩ : ∃ m, m = min 64 (n - 64 * x) := ⟨_, rfl⟩
    obtain ⟨o2, ho2⟩ : ∃ o2, o2 = o + 64 * x := ⟨_, rfl⟩
    have hcx : chunkA (some ⟨b, o, none⟩) n x = .slice (some ⟨b, o2, none⟩) m m := by rw [ho2, hm]; rfl
    have hml : (chunk T x).length = m := by unfold chunk; rw [List.length_take, List.length_drop, hTn, hm]
    have hm64 : m ≤ 64 := by omega
    -- the chunk is read
    have hchk : RB W (some ⟨b, o2, none⟩) (chunk T x) := by
      have hTW : RB W (some ⟨b, o, none⟩) T := hT.fr2 hF (fun g e _ => h.noBy g e)
      rcases Nat.lt_or_ge (64 * x) n with hx | hx
      · have h1 := hTW.cut (k := 64 * x) (cap := c) (by omega) (by omega)
        rw [if_neg (by omega), Option.map_some, Addr.add_lit, ← ho2] at h1
        have h2 := h1.take (k := m) (by rw [List.length_drop, hTn]; omega)
        have h3 : chunk T x = (T.drop (64 * x)).take m := by
          unfold chunk
          rcases Nat.le_total 64 (n - 64 * x) with h | h
          · rw [show m = 64 from by omega]
          · rw [List.take_of_length_le (by rw [List.length_drop, hTn]; omega), List.take_of_length_le (by rw [List.length_drop, hTn]; omega)]
        rw [h3]
        exact h2
      · have : chunk T x = [] := by unfold chunk; rw [List.drop_eq_nil_of_le (by omega)]; rfl
        rw [this]
        exact ⟨by simp [Lib.byteCells], fun h => by simp at h⟩
    rw [hcx]
    have cr : W.cell? ⟨r, 0, none⟩ = some (.pointer (some ⟨d, 0, none⟩)) := by
      rw [hF.cell (p := ⟨r, 0, none⟩) hr.lt hrd]
      exact hr.cell 0
    have c0 := hrec.cell 0
    have c1 := hat.cell 0
    have f1 := hat.frozen 0
    have c2 := hres.cell 0
    have f2 := hres.frozen 0
    simp only [List.getElem?_toArray, List.getElem?_cons_zero] at c0 c1 c2
    have hcn : (n + 63) / 64 = chunksN T := by unfold chunksN; rw [hTn]
    have hjin : j + 1 < K.sure.length := by omega
    have hjb : j ≤ 1000000 := by
      have := h.few.2
      omega
    have hd' : d < W.heap.size ∧ w.heap.size + 1 + 1 < W.heap.size := ⟨hn2.lt.1, hres.lt⟩
    obtain ⟨Q, hQ⟩ : ∃ Q, Q = (Lib.byteCells (List.replicate (64 - m) 0)).toArray := ⟨_, rfl⟩
    have RM : ∀ w, (Instr.makeSlice 22 (.int .i64 (64 - (m : Int))) (.int .i64 (64 - (m : Int)))).run Tryd.prog w = .ok (.slice (some ⟨w.heap.size, 0, none⟩) (64 - m) (64 - m)) (w.alloc (.cells Q 5)) := fun w => by
      have := run_make_bytes (64 - m) (by omega) w
      rw [made_zeros, show ((64 - m : Nat) : Int) = 64 - (m : Int) from by omega] at this
      rw [hQ]
      exact this
    have wm : IntKind.i64.wrap (64 - (m : Int)) = 64 - (m : Int) := IntWalk.i64_in _ (by omega)
    -- the box of at is turned
    have hfa : Fr (fun k => DS d s M k ∨ k = w.heap.size + 1) W (W.setCell ⟨w.heap.size + 1, 0, none⟩ (.int .i64 ((j : Int) + 1))) := (Fr.refl _ _).setCell (p := ⟨w.heap.size + 1, 0, none⟩) (fun _ => .inr rfl) _
    have hfa1 : Fr (fun k => k = w.heap.size + 1) W (W.setCell ⟨w.heap.size + 1, 0, none⟩ (.int .i64 ((j : Int) + 1))) := fr_cell _
    have hnat : ∀ g, g = w.heap.size + 1 → g < W.heap.size → NoBy W g := fun g e _ => by
      subst e
      refine NoBy.of_blk hat (fun k y => ?_)
      rcases Nat.eq_zero_or_pos k with rfl | hk
      · intro e; cases e
      · rw [Array.getElem?_eq_none (by simp; omega)]; intro e; cases e
    have hda := hn2.fr hfa1 (fun k hk e => by rcases hk with rfl | rfl | rfl <;> omega) hnat
    have hca := hchk.fr2 hfa1 hnat
    have hra := hrec.fr hfa1 (by omega)
    have hsa := hres.fr hfa1 (by omega)
    have hta : Blk (W.setCell ⟨w.heap.size + 1, 0, none⟩ (.int .i64 ((j : Int) + 1))) (w.heap.size + 1) 3 #[.int .i64 ((j : Int) + 1)] := hat.set_ 0 _
    have cra : (W.setCell ⟨w.heap.size + 1, 0, none⟩ (.int .i64 ((j : Int) + 1))).cell? ⟨r, 0, none⟩ = some (.pointer (some ⟨d, 0, none⟩)) := by
      have hrl := hr.lt
      rw [hfa1.cell (p := ⟨r, 0, none⟩) (Nat.lt_of_lt_of_le hrl hF.size) (by show ¬ r = _; omega)]
      exact cr
    have HJ := Lib.hid hj
    have HNN : Hid (n' + 1 < 1000000) := by show _ < _; omega
    have HAJ : Hid (a + 1 + pre.length = j + 1) := by show _ = _; omega
    have HNP : Hid (n' + 1 ≤ nn + (pre ++ [x]).length) := by show _ ≤ _; rw [List.length_append, List.length_singleton]; omega
    have HJP : Hid ((j : Int) + 1 = ((a + (pre ++ [x]).length : Nat) : Int)) := by show _ = _; rw [List.length_append, List.length_singleton, hj]; omega
    have hza : (W.setCell ⟨w.heap.size + 1, 0, none⟩ (.int .i64 ((j : Int) + 1))).heap.size = W.heap.size := by simp
    have HM := Lib.hid hm
    clear hj hm ho2 hcx hn1
    gi_wp2
    clear c0 c1 f1 c2 f2 cr hat hrec hn2 hchk hfa1 hnat
    generalize W.setCell ⟨w.heap.size + 1, 0, none⟩ (.int .i64 ((j : Int) + 1)) = W1 at *
    have ha1 : Below W1.heap.size W1 (W1.alloc (.cells Q 5)) := (Below.refl _ _).alloc (Nat.le_refl _) _
    have ha2 : ∀ o, Below (W1.alloc (.cells Q 5)).heap.size (W1.alloc (.cells Q 5)) ((W1.alloc (.cells Q 5)).alloc o).drew := fun o => ((Below.refl _ _).alloc (Nat.le_refl _) o).drew
    have hza2 : (W1.alloc (.cells Q 5)).heap.size = W1.heap.size + 1 := World.size_alloc _ _
    have hpad : chunk T x ++ List.replicate (64 - m) 0 = pad64 (chunk T x) := by unfold pad64; rw [hml]
    have HCC := Lib.hid (concat2 (W1.heap.size + 1) (some ⟨b, o2, none⟩) (some ⟨W1.heap.size, 0, none⟩) m (64 - m) m (64 - m) (chunk T x) (List.replicate (64 - m) 0) (((W1.alloc (.cells Q 5)).alloc (.cells #[.slice (some ⟨b, o2, none⟩) m m, .slice (some ⟨W1.heap.size, 0, none⟩) (64 - m) (64 - m)] 22)).drew)
      (by rw [← hza2]; exact (Blk.new _ _ _).drew) ((hca.below ha1).below (ha2 _)) ((RB.of_blk (t := 5) (by rw [← hQ]; exact Blk.new W1 5 Q)).below (ha2 _)) hml (by simp) (by omega))
    rw [hpad] at HCC
    have hWc : Below W1.heap.size W1 (((W1.alloc (.cells Q 5)).alloc (.cells #[.slice (some ⟨b, o2, none⟩) m m, .slice (some ⟨W1.heap.size, 0, none⟩) (64 - m) (64 - m)] 22)).drew) := ha1.trans ((ha2 _).mono (by rw [hza2]; omega))
    have HL : Hid (∀ V, Below W1.heap.size W1 V → V.cell? ⟨w.heap.size, 0, none⟩ = some (.pointer (some ⟨r, 0, none⟩)) ∧ V.cell? ⟨r, 0, none⟩ = some (.pointer (some ⟨d, 0, none⟩)) ∧ V.cell? ⟨w.heap.size + 1, 0, none⟩ = some (.int .i64 ((j : Int) + 1))) := by
      refine Lib.hid (fun V hb => ⟨?_, ?_, ?_⟩)
      · exact (hb.cell (p := ⟨w.heap.size, 0, none⟩) hra.lt).trans (hra.cell 0)
      · refine (hb.cell (p := ⟨r, 0, none⟩) ?_).trans cra
        rw [hza]; exact Nat.lt_of_lt_of_le hr.lt hF.size
      · exact (hb.cell (p := ⟨w.heap.size + 1, 0, none⟩) hta.lt).trans (hta.cell 0)
    obtain ⟨l0, l1, l2⟩ := HL.out W1 (Below.refl _ _)
    obtain ⟨l3, l4, l5⟩ := HL.out (W1.alloc (.cells Q 5)) ha1
    obtain ⟨l6, l7, l8⟩ := HL.out _ (ha1.trans (((Below.refl _ _).alloc (Nat.le_refl _) (.cells #[.slice (some ⟨b, o2, none⟩) m m, .slice (some ⟨W1.heap.size, 0, none⟩) (64 - m) (64 - m)] 22)).mono (by rw [hza2]; omega)))
    have HW : Hid (∀ w2 A5 c5, Below (((W1.alloc (.cells Q 5)).alloc (.cells #[.slice (some ⟨b, o2, none⟩) m m, .slice (some ⟨W1.heap.size, 0, none⟩) (64 - m) (64 - m)] 22)).drew).heap.size (((W1.alloc (.cells Q 5)).alloc (.cells #[.slice (some ⟨b, o2, none⟩) m m, .slice (some ⟨W1.heap.size, 0, none⟩) (64 - m) (64 - m)] 22)).drew) w2 → RB w2 A5 (pad64 (chunk T x)) → 64 ≤ c5 → c5 ≤ 9223372036854775807 →
        Calls Tryd.prog 17 #[.pointer (some ⟨d, 0, none⟩), .int .i64 ((j : Int) + 1), .slice A5 64 c5] w2 fun e w' => e = .returned (.int .i64 (offE (bodyOn K a T (pre ++ [x])))) ∧ DiskAt w' d s M (n' + 1) (bodyOn K a T (pre ++ [x])) ∧ Fr (DS d s M) w2 w') := by
      refine Lib.hid (fun w2 A5 c5 hb2 hr2 k1 k2 => ?_)
      rw [bodyOn_snoc, hoff, if_neg (by simp), HAJ.out, show (j : Int) + 1 = ((j + 1 : Nat) : Int) from by simp]
      exact dwrite_any (j + 1) A5 c5 _ w2 ((hda.below hWc).below hb2) hoff (by rw [bodyOn_len]; exact hjin) (by have := HNN.out; omega) hr2 (pad64_len _ _) k1 k2
    have HL6 : Hid (∀ V V', Below W1.heap.size W1 V → Fr (DS d s M) V V' → V'.cell? ⟨w.heap.size, 0, none⟩ = some (.pointer (some ⟨r, 0, none⟩)) ∧ V'.cell? ⟨r, 0, none⟩ = some (.pointer (some ⟨d, 0, none⟩)) ∧ V'.cell? ⟨w.heap.size + 1, 0, none⟩ = some (.int .i64 ((j : Int) + 1))) := by
      refine Lib.hid (fun V V' hb hv => ?_)
      obtain ⟨a0, a1, a2⟩ := HL.out V hb
      have hz1 := hb.size
      refine ⟨(hv.cell (p := ⟨w.heap.size, 0, none⟩) (Nat.lt_of_lt_of_le hra.lt hz1) ?_).trans a0, (hv.cell (p := ⟨r, 0, none⟩) ?_ hrd).trans a1, (hv.cell (p := ⟨w.heap.size + 1, 0, none⟩) (Nat.lt_of_lt_of_le hta.lt hz1) ?_).trans a2⟩
      · rintro (e | e | e) <;> (dsimp only at e; omega)
      · rw [hza] at hz1
        exact Nat.lt_of_lt_of_le (Nat.lt_of_lt_of_le hr.lt hF.size) hz1
      · rintro (e | e | e) <;> (dsimp only at e; omega)
    have HL7 : Hid (∀ V V', Below W1.heap.size W1 V → Fr (DS d s M) V V' → DiskAt V' d s M (n' + 1) (bodyOn K a T (pre ++ [x])) → BodyI w d s M nn r a K T (pre ++ [x]) V' ∧ Fr (fun k => DS d s M k ∨ k = w.heap.size + 1) W V') := by
      refine Lib.hid (fun V V' hb hv hD => ?_)
      have hWV : Fr (fun k => DS d s M k ∨ k = w.heap.size + 1) W V' := (hfa.below hb).trans (hv.mono (fun k _ e => .inl e))
      have hbl : ∀ g, w.heap.size ≤ g → ¬ DS d s M g := fun g hg e => by rcases e with rfl | rfl | rfl <;> omega
      refine ⟨⟨⟨n' + 1, HNP.out, hD⟩, hF.trans_new hWV (fun j hj e => ?_), (hra.below hb hra.lt).fr hv (hbl _ (by omega)), ?_, ⟨xr, (hsa.below hb hsa.lt).fr hv (hbl _ (by omega))⟩, Nat.le_trans hsz5 hWV.size⟩, hWV⟩
      · rcases e with e | e
        · exact e
        · omega
      · rw [← HJP.out]
        exact (hta.below hb hta.lt).fr hv (hbl _ (by omega))
    have HWC := Lib.hid hWc
    have HZA := Lib.hid hza
    have HQ := Lib.hid hQ
    have HOFF := Lib.hid hoff
    clear hWc hda hca hra hsa hta cra ha1 ha2 hza2 hpad hza hQ hml hoff
    have hS1 : (fun V : World => V.cell? ⟨w.heap.size, 0, none⟩ = some (.pointer (some ⟨r, 0, none⟩)) ∧ V.cell? ⟨r, 0, none⟩ = some (.pointer (some ⟨d, 0, none⟩)) ∧ V.cell? ⟨w.heap.size + 1, 0, none⟩ = some (.int .i64 ((j : Int) + 1))) W1.drew := ⟨l0, l1, l2⟩
    refine wpIn_region_round (fun V : World => V.cell? ⟨w.heap.size, 0, none⟩ = some (.pointer (some ⟨r, 0, none⟩)) ∧ V.cell? ⟨r, 0, none⟩ = some (.pointer (some ⟨d, 0, none⟩)) ∧ V.cell? ⟨w.heap.size + 1, 0, none⟩ = some (.int .i64 ((j : Int) + 1))) hmx (by kernel_rfl) ?_
    refine wpAnyH_take (i := 0) (v := .pointer (some ⟨r, 0, none⟩)) rfl (by kernel_rfl) (by kernel_rfl) (by kernel_rfl) (fun _ _ _ h => onlyNormal_panic h) (.inl ⟨by rfl, fun V hS => by obtain ⟨s0, s1, s2⟩ := hS; go_simp⟩) hS1 ?_
    refine wpAnyH_take (i := 1) (v := .pointer (some ⟨r, 0, none⟩)) rfl (by kernel_rfl) (by kernel_rfl) (by kernel_rfl) (fun _ _ _ h => onlyNormal_panic h) (.inl ⟨by rfl, fun V _ => by go_simp⟩) hS1 ?_
    refine wpAnyH_take (i := 2) (v := .pointer (some ⟨r, 0, none⟩)) rfl (by kernel_rfl) (by kernel_rfl) (by kernel_rfl) (fun _ _ _ h => onlyNormal_panic h) (.inl ⟨by rfl, fun V _ => by go_simp⟩) hS1 ?_
    refine wpAnyH_take (i := 3) (v := .pointer (some ⟨d, 0, none⟩)) rfl (by kernel_rfl) (by kernel_rfl) (by kernel_rfl) (fun _ _ _ h => onlyNormal_panic h) (.inl ⟨by rfl, fun V hS => by obtain ⟨s0, s1, s2⟩ := hS; go_simp⟩) hS1 ?_
    refine wpAnyH_take (i := 4) (v := .int .i64 ((j : Int) + 1)) rfl (by kernel_rfl) (by kernel_rfl) (by kernel_rfl) (fun _ _ _ h => onlyNormal_panic h) (.inl ⟨by rfl, fun V hS => by obtain ⟨s0, s1, s2⟩ := hS; go_simp⟩) hS1 ?_
    refine wpAnyH_take (i := 5) (v := .slice (some ⟨b, o2, none⟩) m m) rfl (by kernel_rfl) (by kernel_rfl) (by kernel_rfl) (fun _ _ _ h => onlyNormal_panic h) (.inl ⟨by rfl, fun V _ => by go_simp⟩) hS1 ?_
    refine wpAnyH_take (i := 6) (v := .slice (some ⟨b, o2, none⟩) m m) rfl (by kernel_rfl) (by kernel_rfl) (by kernel_rfl) (fun _ _ _ h => onlyNormal_panic h) (.inl ⟨by rfl, fun V _ => by go_simp⟩) hS1 ?_
    refine wpAnyH_take (i := 7) (v := .int .i64 (m : Int)) rfl (by kernel_rfl) (by kernel_rfl) (by kernel_rfl) (fun _ _ _ h => onlyNormal_panic h) (.inl ⟨by rfl, fun V _ => by go_simp⟩) hS1 ?_
    refine wpAnyH_take (i := 8) (v := .int .i64 (64 - (m : Int))) rfl (by kernel_rfl) (by kernel_rfl) (by kernel_rfl) (fun _ _ _ h => onlyNormal_panic h) (.inl ⟨by rfl, fun V _ => by go_simp⟩) hS1 ?_
    refine wpAnyH_ready (rs := [9]) (by kernel_rfl) (by simp) ?_
    refine AllReadyH.cons rfl (fun K' hK => ?_) AllReadyH.nil
    go_simp
    refine hK.out _ _ ⟨l3, l4, l5⟩ (fun _ => ?_)
    clear hK K'
    refine wpAnyH_ready (rs := [10]) (by kernel_rfl) (by simp) ?_
    refine AllReadyH.cons rfl (fun K' hK => ?_) AllReadyH.nil
    go_simp
    refine hK.out _ _ ⟨l6, l7, l8⟩ (fun _ => ?_)
    clear hK K'
    refine wpAnyH_ready (rs := [11]) (by kernel_rfl) (by simp) ?_
    refine AllReadyH.cons rfl (fun K' hK => ?_) AllReadyH.nil
    go_simp
    refine HCC.out.mono ?_
    rintro e w2 ⟨A5, c5, rfl, k1, k2, k3, k4, k5⟩
    have HW2 := Lib.hid (HW.out w2 A5 c5 k5 k3 k1 k2)
    have HF5 := Lib.hid (HWC.out.trans (k5.mono HWC.out.size))
    obtain ⟨l9, l10, l11⟩ := HL.out w2 HF5.out
    clear k3 k4 k5
    go_simp
    refine hK.out _ _ ⟨l9, l10, l11⟩ (fun _ => ?_)
    clear hK K'
    refine wpAnyH_ready (rs := [12]) (by kernel_rfl) (by simp) ?_
    refine AllReadyH.cons rfl (fun K' hK => ?_) AllReadyH.nil
    go_simp
    refine HW2.out.mono ?_
    rintro e w6 ⟨rfl, hd6, hf6⟩
    have HD6 := Lib.hid hd6
    have HF6 := Lib.hid hf6
    clear hd6 hf6
    obtain ⟨l12, l13, l14⟩ := HL6.out w2 w6 HF5.out HF6.out
    go_simp
    refine hK.out _ _ ⟨l12, l13, l14⟩ (fun _ => ?_)
    clear hK K'
    refine wpAnyH_ready (rs := [13]) (by kernel_rfl) (by simp) ?_
    refine AllReadyH.cons rfl (fun K' hK => ?_) AllReadyH.nil
    go_simp
    refine hK.out _ _ ⟨l12, l13, l14⟩ (fun _ => ?_)
    clear hK K'
    refine wpAnyH_done (by kernel_rfl) ⟨rfl, ?_⟩ _
    obtain ⟨hBI, hW6⟩ := HL7.out w2 w6 HF5.out HF6.out HD6.out
    have hdl := hd
    cases ho6 : (bodyOn K a T (pre ++ [x])).off with
    | false =>
      have hE : offE (bodyOn K a T (pre ++ [x])) = 0 := by unfold offE; rw [ho6]; rfl
      have HEND : Hid (KeepsFrom (w.heap.size + 5) W w6 ∧ KeepTwo (w.heap.size + 1 + 1 + 1) (w.heap.size + 1 + 1 + 1 + 1) W w6 ∧ BodyI w d s M nn r a K T (pre ++ [x]) w6 ∧ (bodyOn K a T (pre ++ [x])).off = false) := by
        refine Lib.hid ⟨keepsFrom_of_fr hW6 (fun k e => ?_), ⟨hW6.block _ (by omega) (fun e => ?_), hW6.block _ (by omega) (fun e => ?_)⟩, hBI, ho6⟩
        · rcases e with (rfl | rfl | rfl) | rfl <;> omega
        · rcases e with (e | e | e) | e <;> omega
        · rcases e with (e | e | e) | e <;> omega
      rw [hE]
      clear hBI hW6 ho6 hE
      gi_wp2
      exact HEND.out
    | true =>
      have hE : offE (bodyOn K a T (pre ++ [x])) = 210 := by unfold offE; rw [ho6]; rfl
      obtain ⟨y0, hy0⟩ := hBI.res
      have e0 := hy0.cell 0
      have e1 := hy0.frozen 0
      simp only [List.getElem?_toArray, List.getElem?_cons_zero] at e0
      obtain ⟨hBS, hB210⟩ := hBI.setRes hd.1 hd.2.1 hd.2.2 210
      have HEND : Hid (KeepsFrom (w.heap.size + 5) W (w6.setCell ⟨w.heap.size + 1 + 1, 0, none⟩ (.int .i64 210)) ∧ (BodyI w d s M nn r a K T (pre ++ [x]) (w6.setCell ⟨w.heap.size + 1 + 1, 0, none⟩ (.int .i64 210)) ∧ Blk (w6.setCell ⟨w.heap.size + 1 + 1, 0, none⟩ (.int .i64 210)) (w.heap.size + 1 + 1) 24 #[.int .i64 210]) ∧ Code.ret = Code.ret ∧ (bodyOn K a T (pre ++ [x])).off = true) := by
        refine Lib.hid ⟨?_, ⟨hBS, hB210⟩, rfl, ho6⟩
        have hW7 : Fr (fun k => (DS d s M k ∨ k = w.heap.size + 1) ∨ k = w.heap.size + 1 + 1) W (w6.setCell ⟨w.heap.size + 1 + 1, 0, none⟩ (.int .i64 210)) := (hW6.mono (fun k _ e => .inl e)).setCell (p := ⟨w.heap.size + 1 + 1, 0, none⟩) (fun _ => .inr rfl) _
        exact keepsFrom_of_fr hW7 (fun k e => by rcases e with ((rfl | rfl | rfl) | rfl) | rfl <;> omega)
      rw [hE]
      clear hBI hW6 ho6 hE hBS hB210 hy0
      gi_wp2
      exact ⟨HEND.out.1, HEND.out.2.1, rfl, HEND.out.2.2.2⟩
  case done =>
    rintro D ys W hD rfl ⟨hB, hoff⟩ hK
    obtain ⟨⟨n', hn1, hn2⟩, hF, hrec, hat, ⟨x, hres⟩, hsz5⟩ := hB
    rw [bodyOn_range] at hn2 hoff
    have hcn : (n + 63) / 64 = chunksN T := by unfold chunksN; rw [hTn]
    rw [List.length_range, hcn] at hn1
    rw [hcn] at hn2 hoff
    have f0 := hres.frozen 0
    have c0 := hres.cell 0
    simp only [List.getElem?_toArray, List.getElem?_cons_zero] at c0
    have hb' := hres.set_ 0 (.int .i64 0)
    have hK' := (KeepsOthers.setCell W ⟨w.heap.size + 1 + 1, 0, none⟩ (.int .i64 0)).same D _ hK rfl
    have hg' := grownBy_putObj' (W.setCell ⟨w.heap.size + 1 + 1, 0, none⟩ (.int .i64 0)) D (.deferred none)
    have hf : Fr (fun k => k = w.heap.size + 1 + 1 ∨ k = D) W ((W.setCell ⟨w.heap.size + 1 + 1, 0, none⟩ (.int .i64 0)).putObj D (.deferred none)) :=
      ((Fr.refl (fun k => k = w.heap.size + 1 + 1 ∨ k = D) W).setCell (p := ⟨w.heap.size + 1 + 1, 0, none⟩) (fun _ => .inl rfl) _).grown hg' (fun k e _ => by cases e; exact .inr rfl)
    have hc5 := (blk_kept hb' hg' (fun r e => by cases e; exact ⟨_, hK', rfl⟩)).cell 0
    have HD2 : Hid (DiskAt ((W.setCell ⟨w.heap.size + 1 + 1, 0, none⟩ (.int .i64 0)).putObj D (.deferred none)) d s M n' (bodyK K a T (chunksN T))) := by
      refine Lib.hid (hn2.fr hf (fun k hk e => ?_) (fun g e _ => ?_))
      · rcases hk with rfl | rfl | rfl <;> omega
      · rcases e with rfl | rfl
        · refine NoBy.of_blk hres (fun k y => ?_)
          rcases Nat.eq_zero_or_pos k with rfl | hk
          · intro e; cases e
          · rw [Array.getElem?_eq_none (by simp; omega)]; intro e; cases e
        · exact nonCell hK rfl
    have HF2 := Lib.hid (hF.trans_new hf (fun j hj e => by omega))
    have HOFF : Hid (offE (bodyK K a T (chunksN T)) = 0) := by show _ = _; unfold offE; rw [hoff]; rfl
    have HN1 := Lib.hid hn1
    simp at hc5
    clear hn1 hn2 hoff hF hf hres hb'
    gi_wp2
    refine ⟨by simp, .inl ⟨_, _, rfl, run_takeDeferred hK', ?_⟩⟩
    refine ⟨.int .i64 0, ?_, by rw [HOFF.out], ⟨n', HN1.out, HD2.out⟩, HF2.out⟩
    simp [results, Tryd.f32, go_sem, hc5]
  case stop =>
    rintro D cc pre W hD ⟨k, hk, rfl⟩ ⟨⟨hB, h210⟩, rfl, hoff⟩ hK
    obtain ⟨⟨n', hn1, hn2⟩, hF, hrec, hat, ⟨x, hres⟩, hsz5⟩ := hB
    have hcn : (n + 63) / 64 = chunksN T := by unfold chunksN; rw [hTn]
    have hfin : bodyK K a T (chunksN T) = bodyOn K a T (List.range k) := by
      rw [bodyOn_range]
      rw [bodyOn_range] at hoff
      rw [hcn] at hk
      obtain ⟨m, hm⟩ := Nat.le.dest hk
      rw [← hm, body_stays K a T k m hoff]
    rw [List.length_range] at hn1
    rw [← hfin] at hn2 hoff
    have hg' := grownBy_putObj' W D (.deferred none)
    have hf : Fr (fun k => k = D) W (W.putObj D (.deferred none)) := Fr.of_grown hg' (fun k e => by cases e; rfl)
    have hc5 := (blk_kept h210 hg' (fun r e => by cases e; exact ⟨_, hK, rfl⟩)).cell 0
    have HD2 : Hid (DiskAt (W.putObj D (.deferred none)) d s M n' (bodyK K a T (chunksN T))) := by
      refine Lib.hid (hn2.fr hf (fun k hk e => ?_) (fun g e _ => ?_))
      · rcases hk with rfl | rfl | rfl <;> omega
      · subst e
        exact nonCell hK rfl
    have HF2 := Lib.hid (hF.trans_new hf (fun j hj e => by omega))
    have HOFF : Hid (offE (bodyK K a T (chunksN T)) = 210) := by show _ = _; unfold offE; rw [hoff]; rfl
    have HN1 : Hid (n' ≤ nn + chunksN T) := by show _ ≤ _; omega
    simp at hc5
    clear hn1 hn2 hoff hF hf hres hfin hk h210
    gi_wp2
    refine ⟨by simp, .inl ⟨_, _, rfl, run_takeDeferred hK, ?_⟩⟩
    refine ⟨.int .i64 210, ?_, by rw [HOFF.out], ⟨n', HN1.out, HD2.out⟩, HF2.out⟩
    simp [results, Tryd.f32, go_sem, hc5]
end Go.Proofs.YtcndkkagnobpmaaDoor
