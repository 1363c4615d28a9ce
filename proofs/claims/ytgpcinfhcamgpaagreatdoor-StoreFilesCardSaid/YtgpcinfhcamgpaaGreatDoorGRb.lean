/-
  record: the blocks of a text are written.
  record: what a commit does, step by step.
-/
import Derived.Test.YtgpcinfhcamgpaaGreatDoorGRa
import Derived.Deep.RegionHeld3
namespace Go.Proofs.YtgpcinfhcamgpaaGreatDoor
open Go.RowKit Go.Shelf
attribute [local go_sem] Oper.semAt_some
set_option linter.unusedVariables false

theorem dwrite_any {d s M n : Nat} {K : Dk} (i : Nat) (A : Option Addr) (c : Nat) (b : List UInt8) (w : World) (h : DiskAt w d s M n K) (ho : K.off = false) (hi : i < K.sure.length) (hn : n < 1000000) (hb : RB w A b) (hbl : b.length = 64) (hc : 64 ≤ c) (hcm : c ≤ 9223372036854775807) :
    Calls Tryz.prog 93 #[.pointer (some ⟨d, 0, none⟩), .int .i64 (i : Int), .slice A 64 c] w fun e w' => e = .returned (.int .i64 (offE (K.write i b))) ∧ DiskAt w' d s M (n + 1) (K.write i b) ∧ Fr (DS d s M) w w' := by
  have he : offE (K.write i b) = if K.go.off then 210 else 0 := by unfold offE; rw [write_off_eq]
  cases hg : K.go.off with
  | true =>
    rw [he, hg]
    exact write_off i A c b w h ho hi hn hb hbl hc hcm hg
  | false =>
    rw [he, hg]
    exact write_on i A c b w h ho hi hn hb hbl hc hcm hg
/-- the disk behind the writes of some chunks -/
def stepB (a : Nat) (T : List UInt8) (p : Dk × Nat) (x : Nat) : Dk × Nat := (if p.1.off then p.1 else p.1.write (a + 1 + p.2) (pad64 (chunk T x)), p.2 + 1)
def bodyOn (K : Dk) (a : Nat) (T : List UInt8) (pre : List Nat) : Dk := (pre.foldl (stepB a T) (K, 0)).1
theorem bodyOn_two (K : Dk) (a : Nat) (T : List UInt8) (pre : List Nat) (i : Nat) : (pre.foldl (stepB a T) (K, i)).2 = i + pre.length := by
  induction pre generalizing K i with
  | nil => rfl
  | cons x pre ih => rw [List.foldl_cons]; unfold stepB at ih ⊢; rw [ih, List.length_cons]; omega
theorem bodyOn_snoc (K : Dk) (a : Nat) (T : List UInt8) (pre : List Nat) (x : Nat) : bodyOn K a T (pre ++ [x]) = if (bodyOn K a T pre).off then bodyOn K a T pre else (bodyOn K a T pre).write (a + 1 + pre.length) (pad64 (chunk T x)) := by
  unfold bodyOn
  rw [List.foldl_append, List.foldl_cons, List.foldl_nil]
  have := bodyOn_two K a T pre 0
  generalize pre.foldl (stepB a T) (K, 0) = q at this ⊢
  unfold stepB
  rw [this, Nat.zero_add]
theorem bodyOn_range (K : Dk) (a : Nat) (T : List UInt8) (k : Nat) : bodyOn K a T (List.range k) = bodyK K a T k := by
  induction k with
  | zero => rfl
  | succ k ih => rw [List.range_succ, bodyOn_snoc, ih, List.length_range, bodyK]
theorem body_stays (K : Dk) (a : Nat) (T : List UInt8) (k m : Nat) (h : (bodyK K a T k).off = true) : bodyK K a T (k + m) = bodyK K a T k := by
  induction m with
  | zero => rfl
  | succ m ih => rw [← Nat.add_assoc, bodyK, ih, h]; rfl
theorem bodyOn_len (K : Dk) (a : Nat) (T : List UInt8) (pre : List Nat) : (bodyOn K a T pre).sure.length = K.sure.length := by
  unfold bodyOn
  suffices h : ∀ (p : Dk × Nat), (pre.foldl (stepB a T) p).1.sure.length = p.1.sure.length from h (K, 0)
  induction pre with
  | nil => intro p; rfl
  | cons x pre ih =>
    intro p
    rw [List.foldl_cons, ih]
    unfold stepB
    dsimp only
    split
    · rfl
    · exact write_len _ _ _
/-- between two rounds -/
structure BodyI (w : World) (d s M n r a : Nat) (K : Dk) (T : List UInt8) (pre : List Nat) (W : World) : Prop where
  disk : ∃ n', n' ≤ n + pre.length ∧ DiskAt W d s M n' (bodyOn K a T pre)
  fr : Fr (DS d s M) w W
  rec_ : Blk W w.heap.size 85 #[.pointer (some ⟨r, 0, none⟩)]
  at_ : Blk W (w.heap.size + 1) 3 #[.int .i64 ((a + pre.length : Nat) : Int)]
  res : ∃ x, Blk W (w.heap.size + 1 + 1) 28 #[.int .i64 x]
  siz : w.heap.size + 5 ≤ W.heap.size
theorem nonCell {W : World} {g : Nat} {o : Obj} (h : W.heap[g]? = some o) (hc : o.isCells = false) : NoBy W g := by
  intro k x e
  obtain ⟨o', ho, hc'⟩ := cells_of_cell e
  rw [h] at ho
  cases ho
  rw [hc] at hc'
  cases hc'
theorem blk_kept {W W' : World} {row : Option Nat} {g : Nat} {t : TypeId} {cs : Array Value} (h : Blk W g t cs) (hg : W.grownBy W' row) (hr : ∀ r, row = some r → ∃ o : Obj, W.heap[r]? = some o ∧ o.isCells = false) : Blk W' g t cs :=
  (grownBy_keeps_cells hg hr h rfl).trans h
theorem BodyI.own (w : World) (d s M n r a : Nat) (K : Dk) (T : List UInt8) (B : Nat) (hB : w.heap.size + 2 < B) (hd : d < w.heap.size) (hs : s < w.heap.size) (hM : M < w.heap.size) : OwnFrom B (fun pre W => BodyI w d s M n r a K T pre W) := by
  intro pre W W' row h hg hr
  have hf : Fr (fun k => row = some k) W W' := Fr.of_grown hg (fun k e => e)
  have hge : ∀ k, row = some k → B ≤ k := fun k e => (hr k e).1
  have hno : ∀ k, row = some k → k < W.heap.size → NoBy W k := fun k e _ => by
    obtain ⟨_, o, ho, hc⟩ := hr k e
    exact nonCell ho hc
  have hr' : ∀ r, row = some r → ∃ o : Obj, W.heap[r]? = some o ∧ o.isCells = false := fun r e => (hr r e).2
  obtain ⟨⟨n', h1, h2⟩, h3, h4, h5, ⟨x, h8⟩, h9⟩ := h
  refine ⟨⟨n', h1, h2.fr hf (fun k hk e => ?_) hno⟩, h3.trans_new hf (fun j hj e => ?_), blk_kept h4 hg hr', blk_kept h5 hg hr', ⟨x, blk_kept h8 hg hr'⟩, Nat.le_trans h9 hg.size⟩
  · have := hge k e
    rcases hk with rfl | rfl | rfl <;> omega
  · have := hge j e
    omega
theorem one_noBy {W : World} {g : Nat} {t : TypeId} {x : Int} (h : Blk W g t #[.int .i64 x]) : NoBy W g := by
  refine NoBy.of_blk h (fun k y => ?_)
  rcases Nat.eq_zero_or_pos k with rfl | hk
  · intro e; cases e
  · rw [Array.getElem?_eq_none (by simp; omega)]; intro e; cases e
theorem BodyI.setRes {w : World} {d s M n r a : Nat} {K : Dk} {T : List UInt8} {pre : List Nat} {W : World} (h : BodyI w d s M n r a K T pre W) (hd : d < w.heap.size) (hs : s < w.heap.size) (hM : M < w.heap.size) (y : Int) :
    BodyI w d s M n r a K T pre (W.setCell ⟨w.heap.size + 1 + 1, 0, none⟩ (.int .i64 y)) ∧ Blk (W.setCell ⟨w.heap.size + 1 + 1, 0, none⟩ (.int .i64 y)) (w.heap.size + 1 + 1) 28 #[.int .i64 y] := by
  obtain ⟨⟨n', h1, h2⟩, h3, h4, h5, ⟨x, h8⟩, h9⟩ := h
  have hf : Fr (· = w.heap.size + 1 + 1) W (W.setCell ⟨w.heap.size + 1 + 1, 0, none⟩ (.int .i64 y)) := fr_cell _
  have hb : Blk (W.setCell ⟨w.heap.size + 1 + 1, 0, none⟩ (.int .i64 y)) (w.heap.size + 1 + 1) 28 #[.int .i64 y] := h8.set_ 0 _
  refine ⟨⟨⟨n', h1, h2.fr hf (fun k hk e => ?_) (fun g e _ => e ▸ one_noBy h8)⟩, h3.trans_new hf (fun j hj e => by omega), h4.fr hf (by omega), h5.fr hf (by omega), ⟨y, hb⟩, Nat.le_trans h9 hf.size⟩, hb⟩
  rcases hk with rfl | rfl | rfl <;> omega
theorem keepsFrom_of_fr {S : Nat → Prop} {B : Nat} {W W' : World} (h : Fr S W W') (hS : ∀ k, S k → k < B) : KeepsFrom B W W' :=
  ⟨h.size, fun k o hB hk _ => (h.block k (Array.getElem?_eq_some_iff.1 hk).1 (fun e => by have := hS k e; omega)).trans hk⟩
set_option maxRecDepth 100000 in
set_option maxHeartbeats 4000000 in
theorem body_any {r d s M nn first half num : Nat} {t : Value} {dead : Bool} {K : Dk} (a n c : Nat) (A : Option Addr) (T : List UInt8) (w : World) (h : DiskAt w d s M nn K) (hr : Blk w r 119 (recV d first half t num dead)) (ho : K.off = false)
    (hT : RB w A T) (hTn : T.length = n) (hn : n ≤ 35184372088832) (hc : n ≤ c) (hcm : c ≤ 9223372036854775807) (hin : a + 1 + chunksN T ≤ K.sure.length) (hnn : nn + chunksN T < 1000000) :
    Calls Tryz.prog 91 #[.pointer (some ⟨r, 0, none⟩), .int .i64 (a : Int), .slice A n c] w fun e w' => e = .returned (.int .i64 (offE (bodyK K a T (chunksN T)))) ∧ (∃ n', n' ≤ nn + chunksN T ∧ DiskAt w' d s M n' (bodyK K a T (chunksN T))) ∧ Fr (DS d s M) w w' := by
  have hmx : Tryz.prog.follows .mixedOrders = true := by kernel_rfl
  refine (callsIn_wide (n := 4)).1 ?_
  refine callsIn_of_wp_marks Tryz.func91 rfl trivial ?_ rfl
  simp only [Tryz.ntmps91, List.size_toArray, List.length_cons, List.length_nil, Nat.reduceAdd, Nat.reduceSub, Array.replicate_succ, Array.replicate_zero, List.push_toArray, List.append_toArray, List.nil_append, List.cons_append]
  gi_wp2_with (refine ⟨trivial, ?_⟩; gi_at_call 116; refine (callsIn_wide.2 (chunk_any _ _ _ _)).mono ?_; rintro e w' ⟨rfl, rfl⟩)
  have hd := h.lt
  have hrd : ¬ DS d s M r := by
    rintro (e | e | e)
    · obtain ⟨cap, hb, _⟩ := h.blk
      exact hr.ne_ hb (by decide) e
    · obtain ⟨cs, hb, _⟩ := h.row
      exact hr.ne_ hb (by decide) e
    · obtain ⟨f, hm, _⟩ := h.map
      exact hm.not_blk hr e
  have hW5 : Below w.heap.size w (((((w.alloc (.cells #[.pointer (some ⟨r, 0, none⟩)] 85)).alloc (.cells #[.int .i64 (a : Int)] 3)).alloc (.cells #[.int .i64 0] 28)).alloc (.cells #[.slice A n c] 22)).alloc (.cells #[.int .i64 64] 3)) :=
    (((((Below.refl _ _).alloc (Nat.le_refl _) _).alloc (by simp) _).alloc (by simp; omega) _).alloc (by simp; omega) _).alloc (by simp; omega) _
  have b0 : Blk (((((w.alloc (.cells #[.pointer (some ⟨r, 0, none⟩)] 85)).alloc (.cells #[.int .i64 (a : Int)] 3)).alloc (.cells #[.int .i64 0] 28)).alloc (.cells #[.slice A n c] 22)).alloc (.cells #[.int .i64 64] 3)) w.heap.size 85 #[.pointer (some ⟨r, 0, none⟩)] := ((((Blk.new _ _ _).alloc _).alloc _).alloc _).alloc _
  have b1 : Blk (((((w.alloc (.cells #[.pointer (some ⟨r, 0, none⟩)] 85)).alloc (.cells #[.int .i64 (a : Int)] 3)).alloc (.cells #[.int .i64 0] 28)).alloc (.cells #[.slice A n c] 22)).alloc (.cells #[.int .i64 64] 3)) (w.heap.size + 1) 3 #[.int .i64 (a : Int)] := by
    have := (((Blk.new (w.alloc (.cells #[.pointer (some ⟨r, 0, none⟩)] 85)) 3 #[.int .i64 (a : Int)]).alloc (.cells #[.int .i64 0] 28)).alloc (.cells #[.slice A n c] 22)).alloc (.cells #[.int .i64 64] 3)
    simpa using this
  have b2 : Blk (((((w.alloc (.cells #[.pointer (some ⟨r, 0, none⟩)] 85)).alloc (.cells #[.int .i64 (a : Int)] 3)).alloc (.cells #[.int .i64 0] 28)).alloc (.cells #[.slice A n c] 22)).alloc (.cells #[.int .i64 64] 3)) (w.heap.size + 1 + 1) 28 #[.int .i64 0] := by
    have := ((Blk.new ((w.alloc (.cells #[.pointer (some ⟨r, 0, none⟩)] 85)).alloc (.cells #[.int .i64 (a : Int)] 3)) 28 #[.int .i64 0]).alloc (.cells #[.slice A n c] 22)).alloc (.cells #[.int .i64 64] 3)
    simpa using this
  have b3 : Blk (((((w.alloc (.cells #[.pointer (some ⟨r, 0, none⟩)] 85)).alloc (.cells #[.int .i64 (a : Int)] 3)).alloc (.cells #[.int .i64 0] 28)).alloc (.cells #[.slice A n c] 22)).alloc (.cells #[.int .i64 64] 3)) (w.heap.size + 1 + 1 + 1) 22 #[.slice A n c] := by
    have := (Blk.new (((w.alloc (.cells #[.pointer (some ⟨r, 0, none⟩)] 85)).alloc (.cells #[.int .i64 (a : Int)] 3)).alloc (.cells #[.int .i64 0] 28)) 22 #[.slice A n c]).alloc (.cells #[.int .i64 64] 3)
    simpa using this
  have b4 : Blk (((((w.alloc (.cells #[.pointer (some ⟨r, 0, none⟩)] 85)).alloc (.cells #[.int .i64 (a : Int)] 3)).alloc (.cells #[.int .i64 0] 28)).alloc (.cells #[.slice A n c] 22)).alloc (.cells #[.int .i64 64] 3)) (w.heap.size + 1 + 1 + 1 + 1) 3 #[.int .i64 64] := by
    have := Blk.new ((((w.alloc (.cells #[.pointer (some ⟨r, 0, none⟩)] 85)).alloc (.cells #[.int .i64 (a : Int)] 3)).alloc (.cells #[.int .i64 0] 28)).alloc (.cells #[.slice A n c] 22)) 3 #[.int .i64 64]
    simpa using this
  have hz : (((((w.alloc (.cells #[.pointer (some ⟨r, 0, none⟩)] 85)).alloc (.cells #[.int .i64 (a : Int)] 3)).alloc (.cells #[.int .i64 0] 28)).alloc (.cells #[.slice A n c] 22)).alloc (.cells #[.int .i64 64] 3)).heap.size = w.heap.size + 5 := by simp
  generalize (((((w.alloc (.cells #[.pointer (some ⟨r, 0, none⟩)] 85)).alloc (.cells #[.int .i64 (a : Int)] 3)).alloc (.cells #[.int .i64 0] 28)).alloc (.cells #[.slice A n c] 22)).alloc (.cells #[.int .i64 64] 3)) = W5 at hW5 b0 b1 b2 b3 b4 hz ⊢
  have hI0 : BodyI w d s M nn r a K T [] W5 := by
    refine ⟨⟨nn, by omega, h.below hW5⟩, Fr.of_below hW5, b0, b1, ⟨0, b2⟩, by omega⟩
  refine wpIn_rangeFunc_ownG (α := Nat) rfl (by omega) (gf := 130) (lb := #[.pointer (some ⟨w.heap.size + 1 + 1 + 1, 0, none⟩), .pointer (some ⟨w.heap.size + 1 + 1 + 1 + 1, 0, none⟩)]) rfl trivial (enters_of Tryz.func130 (by kernel_rfl) rfl)
    (F := Fence.wide) (n := 4) (chunk_stops (w.heap.size + 1 + 1 + 1) (w.heap.size + 1 + 1 + 1 + 1) n c A T W5 (hT.below hW5) hTn hn hc b3 b4) (fun h k => h.trans k)
    (fun W l o o' hl _ _ _ => ⟨World.putObj_heap_other (by omega), World.putObj_heap_other (by omega)⟩) (Below.refl _ _) (fun _ => rfl)
    (fun pre W => BodyI w d s M nn r a K T pre W ∧ (bodyOn K a T pre).off = false)
    (fun c pre W => (BodyI w d s M nn r a K T pre W ∧ Blk W (w.heap.size + 1 + 1) 28 #[.int .i64 210]) ∧ c = .ret ∧ (bodyOn K a T pre).off = true)
    ?_ ?_ ⟨hI0, ho⟩
    (fun x => { tmps := #[.pointer (some ⟨r, 0, none⟩), .int .i64 (a : Int), .slice A n c, .pointer (some ⟨w.heap.size, 0, none⟩), .pointer (some ⟨w.heap.size + 1, 0, none⟩), undef, .pointer (some ⟨w.heap.size + 1 + 1, 0, none⟩), chunkA A n x, undef, .slice A n c, .func (.func 130) #[] #[.pointer (some ⟨w.heap.size + 1 + 1 + 1, 0, none⟩), .pointer (some ⟨w.heap.size + 1 + 1 + 1 + 1, 0, none⟩)], chunkA A n x, undef, undef, undef, undef, undef, undef, undef, undef, undef, undef, undef, undef, undef, undef, undef, undef, undef, undef], defers := [] }) ?assign ?body ?done ?stop
  · exact OwnFrom.and (BodyI.own w d s M nn r a K T W5.heap.size (by omega) hd.1 hd.2.1 hd.2.2) (ownFrom_pure _ _)
  · intro c
    exact OwnFrom.and (OwnFrom.and (BodyI.own w d s M nn r a K T W5.heap.size (by omega) hd.1 hd.2.1 hd.2.2) (Own.from (fun s A B row hs hg hr => blk_kept hs hg hr) _)) (ownFrom_pure _ _)
  case assign =>
    intro l x W KK hK
    gi_wp2
    exact hK
  case body =>
    rintro l pre x W ⟨hB, hoff⟩ hlen
    have hpos : 0 < n := by omega
    obtain ⟨ad, rfl, hadl, hcell⟩ := hT.at_ (k := 0) (by omega)
    have hsp := cell_spot hcell
    obtain ⟨b, o, sp⟩ := ad
    obtain rfl : sp = none := by
      cases sp with
      | none => rfl
      | some s => simp [Addr.add] at hsp
    obtain ⟨⟨n', hn1, hn2⟩, hF, hrec, hat, ⟨xr, hres⟩, hsz5⟩ := hB
    obtain ⟨j, hj⟩ : ∃ j, j = a + pre.length := ⟨_, rfl⟩
    rw [← hj] at hat
    obtain ⟨m, hm⟩ : ∃ m, m = min 64 (n - 64 * x) := ⟨_, rfl⟩
    obtain ⟨o2, ho2⟩ : ∃ o2, o2 = o + 64 * x := ⟨_, rfl⟩
    have hcx : chunkA (some ⟨b, o, none⟩) n x = .slice (some ⟨b, o2, none⟩) m m := by rw [ho2, hm]; rfl
    have hml : (chunk T x).length = m := by unfold chunk; rw [List.length_take, List.length_drop, hTn, hm]
    have hm64 : m ≤ 64 := by omega
    -- the chunk is read
    have hchk : RB W (some ⟨b, o2, none⟩) (chunk T x) := by
      have hTW : RB W (some ⟨b, o, none⟩) T := hT.fr2 hF (fun g e _ => h.noBy g e)
      rcases Nat.lt_or_ge (64 * x) n with hx | hx
      · have h1 := hTW.cut (k := 64 * x) (cap := c) (by omega) (by omega)
        rw [if_neg (by omega), Option.map_some, Addr.add_lit, ← ho2] at h1
        have h2 := h1.take (k := m) (by rw [List.length_drop, hTn]; omega)
        have h3 : chunk T x = (T.drop (64 * x)).take m := by
          unfold chunk
          rcases Nat.le_total 64 (n - 64 * x) with h | h
          · rw [show m = 64 from by omega]
          · rw [List.take_of_length_le (by rw [List.length_drop, hTn]; omega), List.take_of_length_le (by rw [List.length_drop, hTn]; omega)]
        rw [h3]
        exact h2
      · have : chunk T x = [] := by unfold chunk; rw [List.drop_eq_nil_of_le (by omega)]; rfl
        rw [this]
        exact ⟨by simp [Lib.byteCells], fun h => by simp at h⟩
    rw [hcx]
    have cr : W.cell? ⟨r, 0, none⟩ = some (.pointer (some ⟨d, 0, none⟩)) := by
      rw [hF.cell (p := ⟨r, 0, none⟩) hr.lt hrd]
      exact hr.cell 0
    have c0 := hrec.cell 0
    have c1 := hat.cell 0
    have f1 := hat.frozen 0
    have c2 := hres.cell 0
    have f2 := hres.frozen 0
    simp only [List.getElem?_toArray, List.getElem?_cons_zero] at c0 c1 c2
    have hcn : (n + 63) / 64 = chunksN T := by unfold chunksN; rw [hTn]
    have hjin : j + 1 < K.sure.length := by omega
    have hjb : j ≤ 1000000 := by
      have := h.few.2
      omega
    have hd' : d < W.heap.size ∧ w.heap.size + 1 + 1 < W.heap.size := ⟨hn2.lt.1, hres.lt⟩
    obtain ⟨Q, hQ⟩ : ∃ Q, Q = (Lib.byteCells (List.replicate (64 - m) 0)).toArray := ⟨_, rfl⟩
    have RM : ∀ w, (Instr.makeSlice 22 (.int .i64 (64 - (m : Int))) (.int .i64 (64 - (m : Int)))).run Tryz.prog w = .ok (.slice (some ⟨w.heap.size, 0, none⟩) (64 - m) (64 - m)) (w.alloc (.cells Q 5)) := fun w => by
      have := run_make_bytes (64 - m) (by omega) w
      rw [made_zeros, show ((64 - m : Nat) : Int) = 64 - (m : Int) from by omega] at this
      rw [hQ]
      exact this
    have wm : IntKind.i64.wrap (64 - (m : Int)) = 64 - (m : Int) := IntWalk.i64_in _ (by omega)
    -- the box of at is turned
    have hfa : Fr (fun k => DS d s M k ∨ k = w.heap.size + 1) W (W.setCell ⟨w.heap.size + 1, 0, none⟩ (.int .i64 ((j : Int) + 1))) := (Fr.refl _ _).setCell (p := ⟨w.heap.size + 1, 0, none⟩) (fun _ => .inr rfl) _
    have hfa1 : Fr (fun k => k = w.heap.size + 1) W (W.setCell ⟨w.heap.size + 1, 0, none⟩ (.int .i64 ((j : Int) + 1))) := fr_cell _
    have hnat : ∀ g, g = w.heap.size + 1 → g < W.heap.size → NoBy W g := fun g e _ => by
      subst e
      refine NoBy.of_blk hat (fun k y => ?_)
      rcases Nat.eq_zero_or_pos k with rfl | hk
      · intro e; cases e
      · rw [Array.getElem?_eq_none (by simp; omega)]; intro e; cases e
    have hda := hn2.fr hfa1 (fun k hk e => by rcases hk with rfl | rfl | rfl <;> omega) hnat
    have hca := hchk.fr2 hfa1 hnat
    have hra := hrec.fr hfa1 (by omega)
    have hsa := hres.fr hfa1 (by omega)
    have hta : Blk (W.setCell ⟨w.heap.size + 1, 0, none⟩ (.int .i64 ((j : Int) + 1))) (w.heap.size + 1) 3 #[.int .i64 ((j : Int) + 1)] := hat.set_ 0 _
    have cra : (W.setCell ⟨w.heap.size + 1, 0, none⟩ (.int .i64 ((j : Int) + 1))).cell? ⟨r, 0, none⟩ = some (.pointer (some ⟨d, 0, none⟩)) := by
      have hrl := hr.lt
      rw [hfa1.cell (p := ⟨r, 0, none⟩) (Nat.lt_of_lt_of_le hrl hF.size) (by show ¬ r = _; omega)]
      exact cr
    have HJ := Lib.hid hj
    have HNN : Hid (n' + 1 < 1000000) := by show _ < _; omega
    have HAJ : Hid (a + 1 + pre.length = j + 1) := by show _ = _; omega
    have HNP : Hid (n' + 1 ≤ nn + (pre ++ [x]).length) := by show _ ≤ _; rw [List.length_append, List.length_singleton]; omega
    have HJP : Hid ((j : Int) + 1 = ((a + (pre ++ [x]).length : Nat) : Int)) := by show _ = _; rw [List.length_append, List.length_singleton, hj]; omega
    have hza : (W.setCell ⟨w.heap.size + 1, 0, none⟩ (.int .i64 ((j : Int) + 1))).heap.size = W.heap.size := by simp
    have HM := Lib.hid hm
    clear hj hm ho2 hcx hn1
    gi_wp2
    clear c0 c1 f1 c2 f2 cr hat hrec hn2 hchk hfa1 hnat
    generalize W.setCell ⟨w.heap.size + 1, 0, none⟩ (.int .i64 ((j : Int) + 1)) = W1 at *
    have ha1 : Below W1.heap.size W1 (W1.alloc (.cells Q 5)) := (Below.refl _ _).alloc (Nat.le_refl _) _
    have ha2 : ∀ o, Below (W1.alloc (.cells Q 5)).heap.size (W1.alloc (.cells Q 5)) ((W1.alloc (.cells Q 5)).alloc o).drew := fun o => ((Below.refl _ _).alloc (Nat.le_refl _) o).drew
    have hza2 : (W1.alloc (.cells Q 5)).heap.size = W1.heap.size + 1 := World.size_alloc _ _
    have hpad : chunk T x ++ List.replicate (64 - m) 0 = pad64 (chunk T x) := by unfold pad64; rw [hml]
    have HCC := Lib.hid (concat2 (W1.heap.size + 1) (some ⟨b, o2, none⟩) (some ⟨W1.heap.size, 0, none⟩) m (64 - m) m (64 - m) (chunk T x) (List.replicate (64 - m) 0) (((W1.alloc (.cells Q 5)).alloc (.cells #[.slice (some ⟨b, o2, none⟩) m m, .slice (some ⟨W1.heap.size, 0, none⟩) (64 - m) (64 - m)] 22)).drew)
      (by rw [← hza2]; exact (Blk.new _ _ _).drew) ((hca.below ha1).below (ha2 _)) ((RB.of_blk (t := 5) (by rw [← hQ]; exact Blk.new W1 5 Q)).below (ha2 _)) hml (by simp) (by omega))
    rw [hpad] at HCC
    have hWc : Below W1.heap.size W1 (((W1.alloc (.cells Q 5)).alloc (.cells #[.slice (some ⟨b, o2, none⟩) m m, .slice (some ⟨W1.heap.size, 0, none⟩) (64 - m) (64 - m)] 22)).drew) := ha1.trans ((ha2 _).mono (by rw [hza2]; omega))
    have HL : Hid (∀ V, Below W1.heap.size W1 V → V.cell? ⟨w.heap.size, 0, none⟩ = some (.pointer (some ⟨r, 0, none⟩)) ∧ V.cell? ⟨r, 0, none⟩ = some (.pointer (some ⟨d, 0, none⟩)) ∧ V.cell? ⟨w.heap.size + 1, 0, none⟩ = some (.int .i64 ((j : Int) + 1))) := by
      refine Lib.hid (fun V hb => ⟨?_, ?_, ?_⟩)
      · exact (hb.cell (p := ⟨w.heap.size, 0, none⟩) hra.lt).trans (hra.cell 0)
      · refine (hb.cell (p := ⟨r, 0, none⟩) ?_).trans cra
        rw [hza]; exact Nat.lt_of_lt_of_le hr.lt hF.size
      · exact (hb.cell (p := ⟨w.heap.size + 1, 0, none⟩) hta.lt).trans (hta.cell 0)
    obtain ⟨l0, l1, l2⟩ := HL.out W1 (Below.refl _ _)
    obtain ⟨l3, l4, l5⟩ := HL.out (W1.alloc (.cells Q 5)) ha1
    obtain ⟨l6, l7, l8⟩ := HL.out _ (ha1.trans (((Below.refl _ _).alloc (Nat.le_refl _) (.cells #[.slice (some ⟨b, o2, none⟩) m m, .slice (some ⟨W1.heap.size, 0, none⟩) (64 - m) (64 - m)] 22)).mono (by rw [hza2]; omega)))
    have HW : Hid (∀ w2 A5 c5, Below (((W1.alloc (.cells Q 5)).alloc (.cells #[.slice (some ⟨b, o2, none⟩) m m, .slice (some ⟨W1.heap.size, 0, none⟩) (64 - m) (64 - m)] 22)).drew).heap.size (((W1.alloc (.cells Q 5)).alloc (.cells #[.slice (some ⟨b, o2, none⟩) m m, .slice (some ⟨W1.heap.size, 0, none⟩) (64 - m) (64 - m)] 22)).drew) w2 → RB w2 A5 (pad64 (chunk T x)) → 64 ≤ c5 → c5 ≤ 9223372036854775807 →
        Calls Tryz.prog 93 #[.pointer (some ⟨d, 0, none⟩), .int .i64 ((j : Int) + 1), .slice A5 64 c5] w2 fun e w' => e = .returned (.int .i64 (offE (bodyOn K a T (pre ++ [x])))) ∧ DiskAt w' d s M (n' + 1) (bodyOn K a T (pre ++ [x])) ∧ Fr (DS d s M) w2 w') := by
      refine Lib.hid (fun w2 A5 c5 hb2 hr2 k1 k2 => ?_)
      rw [bodyOn_snoc, hoff, if_neg (by simp), HAJ.out, show (j : Int) + 1 = ((j + 1 : Nat) : Int) from by simp]
      exact dwrite_any (j + 1) A5 c5 _ w2 ((hda.below hWc).below hb2) hoff (by rw [bodyOn_len]; exact hjin) (by have := HNN.out; omega) hr2 (pad64_len _ _) k1 k2
    have HL6 : Hid (∀ V V', Below W1.heap.size W1 V → Fr (DS d s M) V V' → V'.cell? ⟨w.heap.size, 0, none⟩ = some (.pointer (some ⟨r, 0, none⟩)) ∧ V'.cell? ⟨r, 0, none⟩ = some (.pointer (some ⟨d, 0, none⟩)) ∧ V'.cell? ⟨w.heap.size + 1, 0, none⟩ = some (.int .i64 ((j : Int) + 1))) := by
      refine Lib.hid (fun V V' hb hv => ?_)
      obtain ⟨a0, a1, a2⟩ := HL.out V hb
      have hz1 := hb.size
      refine ⟨(hv.cell (p := ⟨w.heap.size, 0, none⟩) (Nat.lt_of_lt_of_le hra.lt hz1) ?_).trans a0, (hv.cell (p := ⟨r, 0, none⟩) ?_ hrd).trans a1, (hv.cell (p := ⟨w.heap.size + 1, 0, none⟩) (Nat.lt_of_lt_of_le hta.lt hz1) ?_).trans a2⟩
      · rintro (e | e | e) <;> (dsimp only at e; omega)
      · rw [hza] at hz1
        exact Nat.lt_of_lt_of_le (Nat.lt_of_lt_of_le hr.lt hF.size) hz1
      · rintro (e | e | e) <;> (dsimp only at e; omega)
    have HL7 : Hid (∀ V V', Below W1.heap.size W1 V → Fr (DS d s M) V V' → DiskAt V' d s M (n' + 1) (bodyOn K a T (pre ++ [x])) → BodyI w d s M nn r a K T (pre ++ [x]) V' ∧ Fr (fun k => DS d s M k ∨ k = w.heap.size + 1) W V') := by
      refine Lib.hid (fun V V' hb hv hD => ?_)
      have hWV : Fr (fun k => DS d s M k ∨ k = w.heap.size + 1) W V' := (hfa.below hb).trans (hv.mono (fun k _ e => .inl e))
      have hbl : ∀ g, w.heap.size ≤ g → ¬ DS d s M g := fun g hg e => by rcases e with rfl | rfl | rfl <;> omega
      refine ⟨⟨⟨n' + 1, HNP.out, hD⟩, hF.trans_new hWV (fun j hj e => ?_), (hra.below hb hra.lt).fr hv (hbl _ (by omega)), ?_, ⟨xr, (hsa.below hb hsa.lt).fr hv (hbl _ (by omega))⟩, Nat.le_trans hsz5 hWV.size⟩, hWV⟩
      · rcases e with e | e
        · exact e
        · omega
      · rw [← HJP.out]
        exact (hta.below hb hta.lt).fr hv (hbl _ (by omega))
    have HWC := Lib.hid hWc
    have HZA := Lib.hid hza
    have HQ := Lib.hid hQ
    have HOFF := Lib.hid hoff
    clear hWc hda hca hra hsa hta cra ha1 ha2 hza2 hpad hza hQ hml hoff
    have hS1 : (fun V : World => V.cell? ⟨w.heap.size, 0, none⟩ = some (.pointer (some ⟨r, 0, none⟩)) ∧ V.cell? ⟨r, 0, none⟩ = some (.pointer (some ⟨d, 0, none⟩)) ∧ V.cell? ⟨w.heap.size + 1, 0, none⟩ = some (.int .i64 ((j : Int) + 1))) W1.drew := ⟨l0, l1, l2⟩
    refine wpIn_region_round (fun V : World => V.cell? ⟨w.heap.size, 0, none⟩ = some (.pointer (some ⟨r, 0, none⟩)) ∧ V.cell? ⟨r, 0, none⟩ = some (.pointer (some ⟨d, 0, none⟩)) ∧ V.cell? ⟨w.heap.size + 1, 0, none⟩ = some (.int .i64 ((j : Int) + 1))) hmx (by kernel_rfl) ?_
    refine wpAnyH_take (i := 0) (v := .pointer (some ⟨r, 0, none⟩)) rfl (by kernel_rfl) (by kernel_rfl) (by kernel_rfl) (fun _ _ _ h => onlyNormal_panic h) (.inl ⟨by rfl, fun V hS => by obtain ⟨s0, s1, s2⟩ := hS; go_simp⟩) hS1 ?_
    refine wpAnyH_take (i := 1) (v := .pointer (some ⟨r, 0, none⟩)) rfl (by kernel_rfl) (by kernel_rfl) (by kernel_rfl) (fun _ _ _ h => onlyNormal_panic h) (.inl ⟨by rfl, fun V _ => by go_simp⟩) hS1 ?_
    refine wpAnyH_take (i := 2) (v := .pointer (some ⟨r, 0, none⟩)) rfl (by kernel_rfl) (by kernel_rfl) (by kernel_rfl) (fun _ _ _ h => onlyNormal_panic h) (.inl ⟨by rfl, fun V _ => by go_simp⟩) hS1 ?_
    refine wpAnyH_take (i := 3) (v := .pointer (some ⟨d, 0, none⟩)) rfl (by kernel_rfl) (by kernel_rfl) (by kernel_rfl) (fun _ _ _ h => onlyNormal_panic h) (.inl ⟨by rfl, fun V hS => by obtain ⟨s0, s1, s2⟩ := hS; go_simp⟩) hS1 ?_
    refine wpAnyH_take (i := 4) (v := .int .i64 ((j : Int) + 1)) rfl (by kernel_rfl) (by kernel_rfl) (by kernel_rfl) (fun _ _ _ h => onlyNormal_panic h) (.inl ⟨by rfl, fun V hS => by obtain ⟨s0, s1, s2⟩ := hS; go_simp⟩) hS1 ?_
    refine wpAnyH_take (i := 5) (v := .slice (some ⟨b, o2, none⟩) m m) rfl (by kernel_rfl) (by kernel_rfl) (by kernel_rfl) (fun _ _ _ h => onlyNormal_panic h) (.inl ⟨by rfl, fun V _ => by go_simp⟩) hS1 ?_
    refine wpAnyH_take (i := 6) (v := .slice (some ⟨b, o2, none⟩) m m) rfl (by kernel_rfl) (by kernel_rfl) (by kernel_rfl) (fun _ _ _ h => onlyNormal_panic h) (.inl ⟨by rfl, fun V _ => by go_simp⟩) hS1 ?_
    refine wpAnyH_take (i := 7) (v := .int .i64 (m : Int)) rfl (by kernel_rfl) (by kernel_rfl) (by kernel_rfl) (fun _ _ _ h => onlyNormal_panic h) (.inl ⟨by rfl, fun V _ => by go_simp⟩) hS1 ?_
    refine wpAnyH_take (i := 8) (v := .int .i64 (64 - (m : Int))) rfl (by kernel_rfl) (by kernel_rfl) (by kernel_rfl) (fun _ _ _ h => onlyNormal_panic h) (.inl ⟨by rfl, fun V _ => by go_simp⟩) hS1 ?_
    refine wpAnyH_ready (rs := [9]) (by kernel_rfl) (by simp) ?_
    refine AllReadyH.cons rfl (fun K' hK => ?_) AllReadyH.nil
    go_simp
    refine hK.out _ _ ⟨l3, l4, l5⟩ (fun _ => ?_)
    clear hK K'
    refine wpAnyH_ready (rs := [10]) (by kernel_rfl) (by simp) ?_
    refine AllReadyH.cons rfl (fun K' hK => ?_) AllReadyH.nil
    go_simp
    refine hK.out _ _ ⟨l6, l7, l8⟩ (fun _ => ?_)
    clear hK K'
    refine wpAnyH_ready (rs := [11]) (by kernel_rfl) (by simp) ?_
    refine AllReadyH.cons rfl (fun K' hK => ?_) AllReadyH.nil
    go_simp
    refine HCC.out.mono ?_
    rintro e w2 ⟨A5, c5, rfl, k1, k2, k3, k4, k5⟩
    have HW2 := Lib.hid (HW.out w2 A5 c5 k5 k3 k1 k2)
    have HF5 := Lib.hid (HWC.out.trans (k5.mono HWC.out.size))
    obtain ⟨l9, l10, l11⟩ := HL.out w2 HF5.out
    clear k3 k4 k5
    go_simp
    refine hK.out _ _ ⟨l9, l10, l11⟩ (fun _ => ?_)
    clear hK K'
    refine wpAnyH_ready (rs := [12]) (by kernel_rfl) (by simp) ?_
    refine AllReadyH.cons rfl (fun K' hK => ?_) AllReadyH.nil
    go_simp
    refine HW2.out.mono ?_
    rintro e w6 ⟨rfl, hd6, hf6⟩
    have HD6 := Lib.hid hd6
    have HF6 := Lib.hid hf6
    clear hd6 hf6
    obtain ⟨l12, l13, l14⟩ := HL6.out w2 w6 HF5.out HF6.out
    go_simp
    refine hK.out _ _ ⟨l12, l13, l14⟩ (fun _ => ?_)
    clear hK K'
    refine wpAnyH_ready (rs := [13]) (by kernel_rfl) (by simp) ?_
    refine AllReadyH.cons rfl (fun K' hK => ?_) AllReadyH.nil
    go_simp
    refine hK.out _ _ ⟨l12, l13, l14⟩ (fun _ => ?_)
    clear hK K'
    refine wpAnyH_done (by kernel_rfl) ⟨rfl, ?_⟩ _
    obtain ⟨hBI, hW6⟩ := HL7.out w2 w6 HF5.out HF6.out HD6.out
    have hdl := hd
    cases ho6 : (bodyOn K a T (pre ++ [x])).off with
    | false =>
      have hE : offE (bodyOn K a T (pre ++ [x])) = 0 := by unfold offE; rw [ho6]; rfl
      have HEND : Hid (KeepsFrom (w.heap.size + 5) W w6 ∧ KeepTwo (w.heap.size + 1 + 1 + 1) (w.heap.size + 1 + 1 + 1 + 1) W w6 ∧ BodyI w d s M nn r a K T (pre ++ [x]) w6 ∧ (bodyOn K a T (pre ++ [x])).off = false) := by
        refine Lib.hid ⟨keepsFrom_of_fr hW6 (fun k e => ?_), ⟨hW6.block _ (by omega) (fun e => ?_), hW6.block _ (by omega) (fun e => ?_)⟩, hBI, ho6⟩
        · rcases e with (rfl | rfl | rfl) | rfl <;> omega
        · rcases e with (e | e | e) | e <;> omega
        · rcases e with (e | e | e) | e <;> omega
      rw [hE]
      clear hBI hW6 ho6 hE
      gi_wp2
      exact HEND.out
    | true =>
      have hE : offE (bodyOn K a T (pre ++ [x])) = 210 := by unfold offE; rw [ho6]; rfl
      obtain ⟨y0, hy0⟩ := hBI.res
      have e0 := hy0.cell 0
      have e1 := hy0.frozen 0
      simp only [List.getElem?_toArray, List.getElem?_cons_zero] at e0
      obtain ⟨hBS, hB210⟩ := hBI.setRes hd.1 hd.2.1 hd.2.2 210
      have HEND : Hid (KeepsFrom (w.heap.size + 5) W (w6.setCell ⟨w.heap.size + 1 + 1, 0, none⟩ (.int .i64 210)) ∧ (BodyI w d s M nn r a K T (pre ++ [x]) (w6.setCell ⟨w.heap.size + 1 + 1, 0, none⟩ (.int .i64 210)) ∧ Blk (w6.setCell ⟨w.heap.size + 1 + 1, 0, none⟩ (.int .i64 210)) (w.heap.size + 1 + 1) 28 #[.int .i64 210]) ∧ Code.ret = Code.ret ∧ (bodyOn K a T (pre ++ [x])).off = true) := by
        refine Lib.hid ⟨?_, ⟨hBS, hB210⟩, rfl, ho6⟩
        have hW7 : Fr (fun k => (DS d s M k ∨ k = w.heap.size + 1) ∨ k = w.heap.size + 1 + 1) W (w6.setCell ⟨w.heap.size + 1 + 1, 0, none⟩ (.int .i64 210)) := (hW6.mono (fun k _ e => .inl e)).setCell (p := ⟨w.heap.size + 1 + 1, 0, none⟩) (fun _ => .inr rfl) _
        exact keepsFrom_of_fr hW7 (fun k e => by rcases e with ((rfl | rfl | rfl) | rfl) | rfl <;> omega)
      rw [hE]
      clear hBI hW6 ho6 hE hBS hB210 hy0
      gi_wp2
      exact ⟨HEND.out.1, HEND.out.2.1, rfl, HEND.out.2.2.2⟩
  case done =>
    rintro D ys W hD rfl ⟨hB, hoff⟩ hK
    obtain ⟨⟨n', hn1, hn2⟩, hF, hrec, hat, ⟨x, hres⟩, hsz5⟩ := hB
    rw [bodyOn_range] at hn2 hoff
    have hcn : (n + 63) / 64 = chunksN T := by unfold chunksN; rw [hTn]
    rw [List.length_range, hcn] at hn1
    rw [hcn] at hn2 hoff
    have f0 := hres.frozen 0
    have c0 := hres.cell 0
    simp only [List.getElem?_toArray, List.getElem?_cons_zero] at c0
    have hb' := hres.set_ 0 (.int .i64 0)
    have hK' := (KeepsOthers.setCell W ⟨w.heap.size + 1 + 1, 0, none⟩ (.int .i64 0)).same D _ hK rfl
    have hg' := grownBy_putObj' (W.setCell ⟨w.heap.size + 1 + 1, 0, none⟩ (.int .i64 0)) D (.deferred none)
    have hf : Fr (fun k => k = w.heap.size + 1 + 1 ∨ k = D) W ((W.setCell ⟨w.heap.size + 1 + 1, 0, none⟩ (.int .i64 0)).putObj D (.deferred none)) :=
      ((Fr.refl (fun k => k = w.heap.size + 1 + 1 ∨ k = D) W).setCell (p := ⟨w.heap.size + 1 + 1, 0, none⟩) (fun _ => .inl rfl) _).grown hg' (fun k e _ => by cases e; exact .inr rfl)
    have hc5 := (blk_kept hb' hg' (fun r e => by cases e; exact ⟨_, hK', rfl⟩)).cell 0
    have HD2 : Hid (DiskAt ((W.setCell ⟨w.heap.size + 1 + 1, 0, none⟩ (.int .i64 0)).putObj D (.deferred none)) d s M n' (bodyK K a T (chunksN T))) := by
      refine Lib.hid (hn2.fr hf (fun k hk e => ?_) (fun g e _ => ?_))
      · rcases hk with rfl | rfl | rfl <;> omega
      · rcases e with rfl | rfl
        · refine NoBy.of_blk hres (fun k y => ?_)
          rcases Nat.eq_zero_or_pos k with rfl | hk
          · intro e; cases e
          · rw [Array.getElem?_eq_none (by simp; omega)]; intro e; cases e
        · exact nonCell hK rfl
    have HF2 := Lib.hid (hF.trans_new hf (fun j hj e => by omega))
    have HOFF : Hid (offE (bodyK K a T (chunksN T)) = 0) := by show _ = _; unfold offE; rw [hoff]; rfl
    have HN1 := Lib.hid hn1
    simp at hc5
    clear hn1 hn2 hoff hF hf hres hb'
    gi_wp2
    refine ⟨by simp, .inl ⟨_, _, rfl, run_takeDeferred hK', ?_⟩⟩
    refine ⟨.int .i64 0, ?_, by rw [HOFF.out], ⟨n', HN1.out, HD2.out⟩, HF2.out⟩
    simp [results, Tryz.f91, go_sem, hc5]
  case stop =>
    rintro D cc pre W hD ⟨k, hk, rfl⟩ ⟨⟨hB, h210⟩, rfl, hoff⟩ hK
    obtain ⟨⟨n', hn1, hn2⟩, hF, hrec, hat, ⟨x, hres⟩, hsz5⟩ := hB
    have hcn : (n + 63) / 64 = chunksN T := by unfold chunksN; rw [hTn]
    have hfin : bodyK K a T (chunksN T) = bodyOn K a T (List.range k) := by
      rw [bodyOn_range]
      rw [bodyOn_range] at hoff
      rw [hcn] at hk
      obtain ⟨m, hm⟩ := Nat.le.dest hk
      rw [← hm, body_stays K a T k m hoff]
    rw [List.length_range] at hn1
    rw [← hfin] at hn2 hoff
    have hg' := grownBy_putObj' W D (.deferred none)
    have hf : Fr (fun k => k = D) W (W.putObj D (.deferred none)) := Fr.of_grown hg' (fun k e => by cases e; rfl)
    have hc5 := (blk_kept h210 hg' (fun r e => by cases e; exact ⟨_, hK, rfl⟩)).cell 0
    have HD2 : Hid (DiskAt (W.putObj D (.deferred none)) d s M n' (bodyK K a T (chunksN T))) := by
      refine Lib.hid (hn2.fr hf (fun k hk e => ?_) (fun g e _ => ?_))
      · rcases hk with rfl | rfl | rfl <;> omega
      · subst e
        exact nonCell hK rfl
    have HF2 := Lib.hid (hF.trans_new hf (fun j hj e => by omega))
    have HOFF : Hid (offE (bodyK K a T (chunksN T)) = 210) := by show _ = _; unfold offE; rw [hoff]; rfl
    have HN1 : Hid (n' ≤ nn + chunksN T) := by show _ ≤ _; omega
    simp at hc5
    clear hn1 hn2 hoff hF hf hres hfin hk h210
    gi_wp2
    refine ⟨by simp, .inl ⟨_, _, rfl, run_takeDeferred hK, ?_⟩⟩
    refine ⟨.int .i64 210, ?_, by rw [HOFF.out], ⟨n', HN1.out, HD2.out⟩, HF2.out⟩
    simp [results, Tryz.f91, go_sem, hc5]
end Go.Proofs.YtgpcinfhcamgpaaGreatDoor

namespace Go.Proofs.YtgpcinfhcamgpaaGreatDoor
open Go.RowKit
attribute [local go_sem ↓] Go.wp_at_zero Go.wp_at_succ
set_option linter.unusedVariables false

theorem dsync_any {d s M n : Nat} {K : Dk} (w : World) (h : DiskAt w d s M n K) (ho : K.off = false) : Calls Tryz.prog 96 #[.pointer (some ⟨d, 0, none⟩)] w fun e w' => e = .returned (.int .i64 (offE K.syncK)) ∧ (∃ n', n' ≤ n ∧ (K.syncK.off = false → n' = 0) ∧ DiskAt w' d s M n' K.syncK) ∧ Fr (DS d s M) w w' := by
  have he : offE K.syncK = if K.go.off then 210 else 0 := by unfold offE; rw [syncK_off]
  cases hg : K.go.off with
  | true =>
    have e2 : K.syncK = K.go := by unfold Dk.syncK; rw [hg]; rfl
    rw [he, hg, e2]
    refine (sync_off w h ho hg).mono ?_
    rintro e w' ⟨rfl, h1, h2⟩
    exact ⟨rfl, ⟨n, Nat.le_refl _, (fun h => by rw [hg] at h; cases h), h1⟩, h2⟩
  | false =>
    have e2 : K.syncK = K.sync := by unfold Dk.syncK; rw [hg]; rfl
    rw [he, hg, e2]
    refine (sync_on w h ho hg).mono ?_
    rintro e w' ⟨rfl, h1, h2⟩
    exact ⟨rfl, ⟨0, Nat.zero_le _, fun _ => rfl, h1⟩, h2⟩
theorem DiskAt.tab {w : World} {d s M n : Nat} {K : Dk} (h : DiskAt w d s M n K) (hK : TabK w) : ¬ DS d s M (3 : Nat) := by
  obtain ⟨ty, fr, hk⟩ := hK
  have hc : w.cell? ⟨(3 : Nat), 0, none⟩ = kV[0]? := cell_of_row w _ 0 kV ty fr hk
  have h0 : ∃ x, kV[0]? = some (.int .u32 x) := ⟨_, kV_at 0 (by omega)⟩
  obtain ⟨x, h0⟩ := h0
  rw [h0] at hc
  rintro (e | e | e)
  · obtain ⟨cap, hb, _⟩ := h.blk
    subst e
    rw [hb.cell 0] at hc
    cases hc
  · obtain ⟨cs, hb, hcs, _⟩ := h.row
    obtain ⟨v, hv, A, c, rfl, _⟩ := hcs 0 h.few.1
    subst e
    rw [hb.cell 0, hv] at hc
    cases hc
  · obtain ⟨f, hm, _⟩ := h.map
    subst e
    rw [hm.noCell 0] at hc
    cases hc
theorem DiskAt.tabFr {w w' : World} {d s M n : Nat} {K : Dk} (h : DiskAt w d s M n K) (hK : TabK w) (hf : Fr (DS d s M) w w') : TabK w' := hK.fr hf (h.tab hK)
/-- what a commit needs in memory -/
structure ComAt (B0 d s M : Nat) (r first half num : Nat) (t : Value) (B2 B3 B5 B6 g a N n c : Nat) (A : Option Addr) (T : List UInt8) (q nn : Nat) (K : Dk) (w : World) : Prop where
  disk : DiskAt w d s M nn K
  tab : TabK w
  rec_ : Blk w r 119 (recV d first half t num false)
  b2 : Blk w B2 85 #[.pointer (some ⟨r, 0, none⟩)]
  b3 : Blk w B3 22 #[.slice A n c]
  b5 : Blk w B5 3 #[.int .i64 (N : Int)]
  b6 : Blk w B6 3 #[.int .i64 (a : Int)]
  gl : Blk w g 72 #[.func (.func 90) #[] #[.pointer (some ⟨B2, 0, none⟩), .pointer (some ⟨B6, 0, none⟩), .pointer (some ⟨B3, 0, none⟩)], .func (.func 96) #[.pointer (some ⟨d, 0, none⟩)] #[], .func (.func 92) #[] #[.pointer (some ⟨B2, 0, none⟩), .pointer (some ⟨B6, 0, none⟩), .pointer (some ⟨B5, 0, none⟩), .pointer (some ⟨B3, 0, none⟩)], .func (.func 96) #[.pointer (some ⟨d, 0, none⟩)] #[]]
  txt : RB w A T
  len : T.length = n
  few : n ≤ 35184372088832
  cap : n ≤ c ∧ c ≤ 9223372036854775807
  inn : a + 1 + chunksN T ≤ K.sure.length
  nnb : nn + 20000 * q < 1000000
  num : N < 9223372036854775808
  low : d < B0 ∧ s < B0 ∧ M < B0
  hi : B0 ≤ B2 ∧ B0 ≤ B3 ∧ B0 ≤ B5 ∧ B0 ≤ B6 ∧ B0 ≤ g
  tt : ∀ x : Int, t ≠ .int .u8 x
theorem ComAt.notDS {B0 d s M : Nat} {r first half num : Nat} {t : Value} {B2 B3 B5 B6 g a N n c : Nat} {A : Option Addr} {T : List UInt8} {q nn : Nat} {K : Dk} {w : World} (h : ComAt B0 d s M r first half num t B2 B3 B5 B6 g a N n c A T q nn K w) {k : Nat} (hk : B0 ≤ k) : ¬ DS d s M k := by
  have := h.low
  rintro (rfl | rfl | rfl) <;> omega
theorem ComAt.recDS {B0 d s M : Nat} {r first half num : Nat} {t : Value} {B2 B3 B5 B6 g a N n c : Nat} {A : Option Addr} {T : List UInt8} {q nn : Nat} {K : Dk} {w : World} (h : ComAt B0 d s M r first half num t B2 B3 B5 B6 g a N n c A T q nn K w) : ¬ DS d s M r := by
  rintro (e | e | e)
  · obtain ⟨cap, hb, _⟩ := h.disk.blk
    exact h.rec_.ne_ hb (by decide) e
  · obtain ⟨cs, hb, _⟩ := h.disk.row
    exact h.rec_.ne_ hb (by decide) e
  · obtain ⟨f, hm, _⟩ := h.disk.map
    exact hm.not_blk h.rec_ e
theorem ComAt.next {B0 d s M : Nat} {r first half num : Nat} {t : Value} {B2 B3 B5 B6 g a N n c : Nat} {A : Option Addr} {T : List UInt8} {q nn : Nat} {K : Dk} {w : World} (h : ComAt B0 d s M r first half num t B2 B3 B5 B6 g a N n c A T q nn K w) {q' nn' : Nat} {K' : Dk} {w' : World} (hf : Fr (DS d s M) w w') (hd : DiskAt w' d s M nn' K') (hl : K'.sure.length = K.sure.length) (hq : nn' + 20000 * q' < 1000000) : ComAt B0 d s M r first half num t B2 B3 B5 B6 g a N n c A T q' nn' K' w' := by
  have hno : ∀ k, DS d s M k → k < w.heap.size → NoBy w k := fun k hk _ => h.disk.noBy k hk
  exact ⟨hd, h.disk.tabFr h.tab hf, h.rec_.fr hf h.recDS, h.b2.fr hf (h.notDS h.hi.1), h.b3.fr hf (h.notDS h.hi.2.1), h.b5.fr hf (h.notDS h.hi.2.2.1), h.b6.fr hf (h.notDS h.hi.2.2.2.1), h.gl.fr hf (h.notDS h.hi.2.2.2.2), h.txt.fr2 hf hno, h.len, h.few, h.cap, by rw [hl]; exact h.inn, hq, h.num, h.low, h.hi, h.tt⟩
set_option maxRecDepth 100000 in
set_option maxHeartbeats 1000000 in
theorem commit1_any {B0 d s M : Nat} {r first half num : Nat} {t : Value} {B2 B3 B5 B6 g a N n c : Nat} {A : Option Addr} {T : List UInt8} {q nn : Nat} {K : Dk} (w : World) (h : ComAt B0 d s M r first half num t B2 B3 B5 B6 g a N n c A T (q + 1) nn K w) (ho : K.off = false) :
    Calls Tryz.prog 90 #[.pointer (some ⟨B2, 0, none⟩), .pointer (some ⟨B6, 0, none⟩), .pointer (some ⟨B3, 0, none⟩)] w fun e w' => e = .returned (.int .i64 (offE (bodyK K a T (chunksN T)))) ∧ (∃ n', ComAt B0 d s M r first half num t B2 B3 B5 B6 g a N n c A T q n' (bodyK K a T (chunksN T)) w') ∧ Fr (DS d s M) w w' := by
  have hcn : chunksN T ≤ 16384 := by
    have := h.inn
    have := h.disk.few.2
    omega
  have HB := Lib.hid (body_any a n c A T w h.disk h.rec_ ho h.txt h.len h.few h.cap.1 h.cap.2 h.inn (by have := h.nnb; omega))
  have c2 := h.b2.cell 0
  have c6 := h.b6.cell 0
  have c3 := h.b3.cell 0
  simp only [List.getElem?_toArray, List.getElem?_cons_zero] at c2 c6 c3
  have HC := Lib.hid h
  have HCN := Lib.hid hcn
  clear h ho hcn
  go_enter Tryz.func90, Tryz.ntmps90
  go_wp2_with fail
  refine HB.out.mono ?_
  rintro e w1 ⟨rfl, ⟨n', h1, h2⟩, h3⟩
  have HE := Lib.hid (HC.out.next (q' := q) h3 h2 (body_len _ _ _ _) (by have := HC.out.nnb; have := HCN.out; omega))
  have HF := Lib.hid h3
  clear h1 h2 h3
  go_wp2
  go_ret
  exact ⟨rfl, ⟨n', HE.out⟩, HF.out⟩
set_option maxRecDepth 100000 in
set_option maxHeartbeats 2000000 in
theorem commit2_any {B0 d s M : Nat} {r first half num : Nat} {t : Value} {B2 B3 B5 B6 g a N n c : Nat} {A : Option Addr} {T : List UInt8} {q nn : Nat} {K : Dk} (w : World) (h : ComAt B0 d s M r first half num t B2 B3 B5 B6 g a N n c A T (q + 1) nn K w) (ho : K.off = false) :
    Calls Tryz.prog 92 #[.pointer (some ⟨B2, 0, none⟩), .pointer (some ⟨B6, 0, none⟩), .pointer (some ⟨B5, 0, none⟩), .pointer (some ⟨B3, 0, none⟩)] w fun e w' => e = .returned (.int .i64 (offE (K.write a (hdL N T)))) ∧ (∃ n', ComAt B0 d s M r first half num t B2 B3 B5 B6 g a N n c A T q n' (K.write a (hdL N T)) w') ∧ Fr (DS d s M) w w' := by
  have HH := Lib.hid (head_any N A n c T w.drew (TabK.below h.tab ⟨rfl, rfl, rfl, Nat.le_refl _, fun _ _ => rfl⟩) h.num h.txt.drew' h.len h.few h.cap.1 h.cap.2)
  have c0 := h.rec_.cell 0
  have c2 := h.b2.cell 0
  have c6 := h.b6.cell 0
  have c5 := h.b5.cell 0
  have c3 := h.b3.cell 0
  simp only [recV, List.getElem?_toArray, List.getElem?_cons_zero] at c0 c2 c6 c5 c3
  have HC := Lib.hid h
  have HO := Lib.hid ho
  have HCC : Hid (∀ V V', Below w.drew.heap.size w.drew V → Fr (DS d s M) V V' → V'.cell? ⟨B2, 0, none⟩ = some (.pointer (some ⟨r, 0, none⟩)) ∧ V'.cell? ⟨r, 0, none⟩ = some (.pointer (some ⟨d, 0, none⟩)) ∧ V'.cell? ⟨B6, 0, none⟩ = some (.int .i64 (a : Int)) ∧ V'.cell? ⟨B5, 0, none⟩ = some (.int .i64 (N : Int)) ∧ V'.cell? ⟨B3, 0, none⟩ = some (.slice A n c)) := by
    refine Lib.hid (fun V V' hb hf => ?_)
    have e2 := ((h.b2.drew.below hb h.b2.lt).fr hf (h.notDS h.hi.1)).cell 0
    have e3 := ((h.b3.drew.below hb h.b3.lt).fr hf (h.notDS h.hi.2.1)).cell 0
    have e5 := ((h.b5.drew.below hb h.b5.lt).fr hf (h.notDS h.hi.2.2.1)).cell 0
    have e6 := ((h.b6.drew.below hb h.b6.lt).fr hf (h.notDS h.hi.2.2.2.1)).cell 0
    have e0 := ((h.rec_.drew.below hb h.rec_.lt).fr hf h.recDS).cell 0
    exact ⟨e2, e0, e6, e5, e3⟩
  clear h ho
  go_enter Tryz.func92, Tryz.ntmps92
  go_wp2
  go_region_held3 (fun V => V.cell? ⟨B2, 0, none⟩ = some (.pointer (some ⟨r, 0, none⟩)) ∧ V.cell? ⟨r, 0, none⟩ = some (.pointer (some ⟨d, 0, none⟩)) ∧ V.cell? ⟨B6, 0, none⟩ = some (.int .i64 (a : Int)) ∧ V.cell? ⟨B5, 0, none⟩ = some (.int .i64 (N : Int)) ∧ V.cell? ⟨B3, 0, none⟩ = some (.slice A n c))
    (first | exact ⟨c2, c0, c6, c5, c3⟩ | exact hc1 | exact hc2)
    (first
      | (go_at_call 94; refine HH.out.mono ?_; rintro e w1 ⟨v, rfl, hv, hb⟩; obtain ⟨A9, c9, rfl, k1, k2, k3, _⟩ := hv.shape_n (hdL_len _ _); have hc1 := HCC.out w1 w1 hb (Fr.refl _ _); have HWR := Lib.hid (dwrite_any a A9 c9 (hdL N T) w1 (HC.out.disk.drew.below hb) HO.out (by have := HC.out.inn; omega) (by have := HC.out.nnb; omega) k3 (hdL_len _ _) k1 (by unfold maxLen at k2; omega)); have HB1 := Lib.hid hb; clear k3 hv hb)
      | (go_at_call 93; refine HWR.out.mono ?_; rintro e w2 ⟨rfl, hd2, hf2⟩; have hc2 := HCC.out w1 w2 HB1.out hf2; have HD2 := Lib.hid hd2; have HF2 := Lib.hid hf2; clear hd2 hf2))
  have HF : Hid (Fr (DS d s M) w w2) := Lib.hid ((((Fr.refl (DS d s M) w).drew).below HB1.out).trans HF2.out)
  have HE := Lib.hid (HC.out.next (q' := q) HF.out HD2.out (write_len _ _ _) (by have := HC.out.nnb; omega))
  clear hc1 hc2
  go_wp2
  go_ret
  exact ⟨rfl, ⟨_, HE.out⟩, HF.out⟩
/-- the disk behind so many steps -/
def stageK (K : Dk) (a N : Nat) (T : List UInt8) : Nat → Dk
  | 0 => K
  | 1 => bodyK K a T (chunksN T)
  | 2 => (bodyK K a T (chunksN T)).syncK
  | 3 => (bodyK K a T (chunksN T)).syncK.write a (hdL N T)
  | _ => ((bodyK K a T (chunksN T)).syncK.write a (hdL N T)).syncK
theorem commitK_of (K : Dk) (a N : Nat) (T : List UInt8) (k : Nat) (hk : k < 4) (hon : ∀ i, i ≤ k → 1 ≤ i → (stageK K a N T i).off = false) (hoff : (stageK K a N T (k + 1)).off = true ∨ k = 3) : commitK K a N T = stageK K a N T (k + 1) := by
  rcases (by omega : k = 0 ∨ k = 1 ∨ k = 2 ∨ k = 3) with rfl | rfl | rfl | rfl
  · have h1 : (bodyK K a T (chunksN T)).off = true := by rcases hoff with h | h; exact h; omega
    simp only [commitK, ifOn, h1, if_true, stageK]
  · have h1 : (bodyK K a T (chunksN T)).off = false := hon 1 (by omega) (by omega)
    have h2 : (bodyK K a T (chunksN T)).syncK.off = true := by rcases hoff with h | h; exact h; omega
    simp only [commitK, ifOn, h1, h2, if_true, Bool.false_eq_true, if_false, stageK]
  · have h1 : (bodyK K a T (chunksN T)).off = false := hon 1 (by omega) (by omega)
    have h2 : (bodyK K a T (chunksN T)).syncK.off = false := hon 2 (by omega) (by omega)
    have h3 : ((bodyK K a T (chunksN T)).syncK.write a (hdL N T)).off = true := by rcases hoff with h | h; exact h; omega
    simp only [commitK, ifOn, h1, h2, h3, if_true, Bool.false_eq_true, if_false, stageK]
  · have h1 : (bodyK K a T (chunksN T)).off = false := hon 1 (by omega) (by omega)
    have h2 : (bodyK K a T (chunksN T)).syncK.off = false := hon 2 (by omega) (by omega)
    have h3 : ((bodyK K a T (chunksN T)).syncK.write a (hdL N T)).off = false := hon 3 (by omega) (by omega)
    simp only [commitK, ifOn, h1, h2, h3, Bool.false_eq_true, if_false, stageK]
/-- what is behind the steps -/
def StepsPost (d s M r first half num : Nat) (t : Value) (w : World) (Kc : Dk) (w' : World) : Prop :=
  (∃ n', (Kc.off = false → n' = 0) ∧ DiskAt w' d s M n' Kc) ∧ Blk w' r 119 (recV d first half t num Kc.off) ∧ Fr (fun k => DS d s M k ∨ k = r) w w'
theorem ComAt.recNoBy {B0 d s M : Nat} {r first half num : Nat} {t : Value} {B2 B3 B5 B6 g a N n c : Nat} {A : Option Addr} {T : List UInt8} {q nn : Nat} {K : Dk} {w : World} (h : ComAt B0 d s M r first half num t B2 B3 B5 B6 g a N n c A T q nn K w) : NoBy w r := by
  refine NoBy.of_blk h.rec_ (fun k x => ?_)
  unfold recV
  rcases (by omega : k = 0 ∨ k = 1 ∨ k = 2 ∨ k = 3 ∨ k = 4 ∨ k = 5 ∨ 6 ≤ k) with rfl | rfl | rfl | rfl | rfl | rfl | hk
  case inr.inr.inr.inl =>
    intro e
    simp only [List.getElem?_toArray, List.getElem?_cons_succ, List.getElem?_cons_zero] at e
    injection e with e
    exact h.tt x e
  all_goals first | (intro h; cases h) | (rw [Array.getElem?_eq_none (by simpa using hk)]; intro h; cases h)
theorem ComAt.ends {B0 d s M : Nat} {r first half num : Nat} {t : Value} {B2 B3 B5 B6 g a N n c : Nat} {A : Option Addr} {T : List UInt8} {q nn : Nat} {K : Dk} {w0 w : World} (h : ComAt B0 d s M r first half num t B2 B3 B5 B6 g a N n c A T q nn K w) (hf : Fr (DS d s M) w0 w) (hoff : K.off = true) :
    StepsPost d s M r first half num t w0 K (w.setCell ⟨r, 5, none⟩ (.bool true)) := by
  have hf2 : Fr (· = r) w (w.setCell ⟨r, 5, none⟩ (.bool true)) := fr_cell _
  have hb : Blk (w.setCell ⟨r, 5, none⟩ (.bool true)) r 119 (recV d first half t num true) := h.rec_.set_ 5 _
  refine ⟨⟨nn, fun e => (by rw [hoff] at e; cases e), h.disk.fr hf2 (fun k hk e => h.recDS (e ▸ hk)) (fun g e _ => e ▸ h.recNoBy)⟩, by rw [hoff]; exact hb, (hf.mono (fun k _ e => .inl e)).trans (hf2.mono (fun k _ e => .inr e))⟩
set_option maxRecDepth 100000 in
set_option maxHeartbeats 4000000 in
theorem steps_any {B0 d s M : Nat} {r first half num : Nat} {t : Value} {B2 B3 B5 B6 g a N n c : Nat} {A : Option Addr} {T : List UInt8} {nn : Nat} {K : Dk} (w : World) (h : ComAt B0 d s M r first half num t B2 B3 B5 B6 g a N n c A T 4 nn K w) (ho : K.off = false) :
    Calls Tryz.prog 95 #[.pointer (some ⟨r, 0, none⟩), .slice (some ⟨g, 0, none⟩) 4 4] w fun e w' => e = .returned (.int .i64 (offE (commitK K a N T))) ∧ StepsPost d s M r first half num t w (commitK K a N T) w' := by
  have HC := Lib.hid h
  have HO := Lib.hid ho
  clear h ho
  go_enter Tryz.func95, Tryz.ntmps95
  go_wp2
  have H0 : Hid (∀ i, i ≤ 0 → (stageK K a N T i).off = false) := Lib.hid (fun i hi => by
    have : i = 0 := by omega
    subst this
    exact HO.out)
  go_loopw [10] (fun i wr => ∃ k : Nat, k ≤ 4 ∧ i = .int .i64 (k : Int) ∧ (∃ n', Hid (ComAt B0 d s M r first half num t B2 B3 B5 B6 g a N n c A T (4 - k) n' (stageK K a N T k) wr) ∧ (k = 4 → n' = 0)) ∧ Hid (Fr (DS d s M) w wr) ∧ Hid (∀ i, i ≤ k → (stageK K a N T i).off = false)) (fun i _ => 4 - (intOf i).toNat)
  case atStart => exact ⟨0, by omega, rfl, ⟨nn, HC, by omega⟩, Lib.hid (Fr.refl _ _), H0⟩
  case round =>
    obtain ⟨k, hk, rfl, ⟨n', HK, hn4⟩, HF, HON⟩ := hrel
    have c5 := HK.out.rec_.cell 5
    have f5 := HK.out.rec_.frozen 5
    simp only [recV, List.getElem?_toArray, List.getElem?_cons_succ, List.getElem?_cons_zero] at c5
    have g0 := HK.out.gl.cell 0
    have g1 := HK.out.gl.cell 1
    have g2 := HK.out.gl.cell 2
    have g3 := HK.out.gl.cell 3
    simp only [List.getElem?_toArray, List.getElem?_cons_succ, List.getElem?_cons_zero] at g0 g1 g2 g3
    rcases (by omega : k = 0 ∨ k = 1 ∨ k = 2 ∨ k = 3 ∨ k = 4) with rfl | rfl | rfl | rfl | rfl
    · have HS : Hid (Calls Tryz.prog 90 #[.pointer (some ⟨B2, 0, none⟩), .pointer (some ⟨B6, 0, none⟩), .pointer (some ⟨B3, 0, none⟩)] wr fun e w' => e = .returned (.int .i64 (offE (stageK K a N T 1))) ∧ (∃ n', ComAt B0 d s M r first half num t B2 B3 B5 B6 g a N n c A T 3 n' (stageK K a N T 1) w' ∧ ((stageK K a N T 1).off = false → 1 = 4 → n' = 0)) ∧ Fr (DS d s M) wr w') := by
        refine Lib.hid ((commit1_any (q := 3) wr HK.out (HON.out 0 (by omega))).mono ?_)
        rintro e w' ⟨rfl, ⟨n', h1⟩, h2⟩
        exact ⟨rfl, ⟨n', h1, fun _ h => by omega⟩, h2⟩
      clear H0
      go_wp2_with fail
      refine HS.out.mono ?_
      rintro e w1 ⟨rfl, ⟨n1, h1, h2⟩, h3⟩
      have HC1 := Lib.hid h1
      have HN1 := Lib.hid h2
      have HF1 := Lib.hid (HF.out.trans h3)
      have d5 := HC1.out.rec_.cell 5
      have e5 := HC1.out.rec_.frozen 5
      simp only [recV, List.getElem?_toArray, List.getElem?_cons_succ, List.getElem?_cons_zero] at d5
      clear h1 h2 h3 HS hn4
      cases hoff : (stageK K a N T 1).off with
      | true =>
        have HE : offE (stageK K a N T 1) = 210 := by unfold offE; rw [hoff]; rfl
        have HCK : Hid (commitK K a N T = stageK K a N T 1) := Lib.hid (commitK_of K a N T 0 (by omega) (fun i hi _ => HON.out i hi) (.inl hoff))
        have HEN := Lib.hid (HC1.out.ends HF1.out hoff)
        have HEO : Hid (offE (commitK K a N T) = 210) := by show _ = _; rw [HCK.out, HE]
        rw [HE]
        clear hoff HE
        go_wp2
        go_ret
        exact ⟨by rw [HEO.out]; rfl, by rw [HCK.out]; exact HEN.out⟩
      | false =>
        have HE : offE (stageK K a N T 1) = 0 := by unfold offE; rw [hoff]; rfl
        have HON1 : Hid (∀ i, i ≤ 1 → (stageK K a N T i).off = false) := Lib.hid (fun i hi => by
          rcases (by omega : i ≤ 0 ∨ i = 1) with h | h
          · exact HON.out i h
          · rw [h]; exact hoff)
        have HN2 : 1 = 4 → n1 = 0 := HN1.out hoff
        have HN3 := Lib.hid HN2
        rw [HE]
        clear hoff HE HN2
        go_wp2
        go_roundw
        case rel => exact ⟨1, by omega, by go_num, ⟨n1, HC1, HN3.out⟩, HF1, HON1⟩
        case measure => simp [intOf]
    · have HS : Hid (Calls Tryz.prog 96 #[.pointer (some ⟨d, 0, none⟩)] wr fun e w' => e = .returned (.int .i64 (offE (stageK K a N T 2))) ∧ (∃ n', ComAt B0 d s M r first half num t B2 B3 B5 B6 g a N n c A T 2 n' (stageK K a N T 2) w' ∧ ((stageK K a N T 2).off = false → 2 = 4 → n' = 0)) ∧ Fr (DS d s M) wr w') := by
        refine Lib.hid ((dsync_any wr HK.out.disk (HON.out 1 (by omega))).mono ?_)
        rintro e w' ⟨rfl, ⟨n2, h0, _, h1⟩, h2⟩
        exact ⟨rfl, ⟨n2, HK.out.next (q' := 2) h2 h1 (syncK_len _) (by have := HK.out.nnb; omega), fun _ h => by omega⟩, h2⟩
      clear H0
      go_wp2_with fail
      refine HS.out.mono ?_
      rintro e w1 ⟨rfl, ⟨n1, h1, h2⟩, h3⟩
      have HC1 := Lib.hid h1
      have HN1 := Lib.hid h2
      have HF1 := Lib.hid (HF.out.trans h3)
      have d5 := HC1.out.rec_.cell 5
      have e5 := HC1.out.rec_.frozen 5
      simp only [recV, List.getElem?_toArray, List.getElem?_cons_succ, List.getElem?_cons_zero] at d5
      clear h1 h2 h3 HS hn4
      cases hoff : (stageK K a N T 2).off with
      | true =>
        have HE : offE (stageK K a N T 2) = 210 := by unfold offE; rw [hoff]; rfl
        have HCK : Hid (commitK K a N T = stageK K a N T 2) := Lib.hid (commitK_of K a N T 1 (by omega) (fun i hi _ => HON.out i hi) (.inl hoff))
        have HEN := Lib.hid (HC1.out.ends HF1.out hoff)
        have HEO : Hid (offE (commitK K a N T) = 210) := by show _ = _; rw [HCK.out, HE]
        rw [HE]
        clear hoff HE
        go_wp2
        go_ret
        exact ⟨by rw [HEO.out]; rfl, by rw [HCK.out]; exact HEN.out⟩
      | false =>
        have HE : offE (stageK K a N T 2) = 0 := by unfold offE; rw [hoff]; rfl
        have HON1 : Hid (∀ i, i ≤ 2 → (stageK K a N T i).off = false) := Lib.hid (fun i hi => by
          rcases (by omega : i ≤ 1 ∨ i = 2) with h | h
          · exact HON.out i h
          · rw [h]; exact hoff)
        have HN2 : 2 = 4 → n1 = 0 := HN1.out hoff
        have HN3 := Lib.hid HN2
        rw [HE]
        clear hoff HE HN2
        go_wp2
        go_roundw
        case rel => exact ⟨2, by omega, by go_num, ⟨n1, HC1, HN3.out⟩, HF1, HON1⟩
        case measure => simp [intOf]
    · have HS : Hid (Calls Tryz.prog 92 #[.pointer (some ⟨B2, 0, none⟩), .pointer (some ⟨B6, 0, none⟩), .pointer (some ⟨B5, 0, none⟩), .pointer (some ⟨B3, 0, none⟩)] wr fun e w' => e = .returned (.int .i64 (offE (stageK K a N T 3))) ∧ (∃ n', ComAt B0 d s M r first half num t B2 B3 B5 B6 g a N n c A T 1 n' (stageK K a N T 3) w' ∧ ((stageK K a N T 3).off = false → 3 = 4 → n' = 0)) ∧ Fr (DS d s M) wr w') := by
        refine Lib.hid ((commit2_any (q := 1) wr HK.out (HON.out 2 (by omega))).mono ?_)
        rintro e w' ⟨rfl, ⟨n', h1⟩, h2⟩
        exact ⟨rfl, ⟨n', h1, fun _ h => by omega⟩, h2⟩
      clear H0
      go_wp2_with fail
      refine HS.out.mono ?_
      rintro e w1 ⟨rfl, ⟨n1, h1, h2⟩, h3⟩
      have HC1 := Lib.hid h1
      have HN1 := Lib.hid h2
      have HF1 := Lib.hid (HF.out.trans h3)
      have d5 := HC1.out.rec_.cell 5
      have e5 := HC1.out.rec_.frozen 5
      simp only [recV, List.getElem?_toArray, List.getElem?_cons_succ, List.getElem?_cons_zero] at d5
      clear h1 h2 h3 HS hn4
      cases hoff : (stageK K a N T 3).off with
      | true =>
        have HE : offE (stageK K a N T 3) = 210 := by unfold offE; rw [hoff]; rfl
        have HCK : Hid (commitK K a N T = stageK K a N T 3) := Lib.hid (commitK_of K a N T 2 (by omega) (fun i hi _ => HON.out i hi) (.inl hoff))
        have HEN := Lib.hid (HC1.out.ends HF1.out hoff)
        have HEO : Hid (offE (commitK K a N T) = 210) := by show _ = _; rw [HCK.out, HE]
        rw [HE]
        clear hoff HE
        go_wp2
        go_ret
        exact ⟨by rw [HEO.out]; rfl, by rw [HCK.out]; exact HEN.out⟩
      | false =>
        have HE : offE (stageK K a N T 3) = 0 := by unfold offE; rw [hoff]; rfl
        have HON1 : Hid (∀ i, i ≤ 3 → (stageK K a N T i).off = false) := Lib.hid (fun i hi => by
          rcases (by omega : i ≤ 2 ∨ i = 3) with h | h
          · exact HON.out i h
          · rw [h]; exact hoff)
        have HN2 : 3 = 4 → n1 = 0 := HN1.out hoff
        have HN3 := Lib.hid HN2
        rw [HE]
        clear hoff HE HN2
        go_wp2
        go_roundw
        case rel => exact ⟨3, by omega, by go_num, ⟨n1, HC1, HN3.out⟩, HF1, HON1⟩
        case measure => simp [intOf]
    · have HS : Hid (Calls Tryz.prog 96 #[.pointer (some ⟨d, 0, none⟩)] wr fun e w' => e = .returned (.int .i64 (offE (stageK K a N T 4))) ∧ (∃ n', ComAt B0 d s M r first half num t B2 B3 B5 B6 g a N n c A T 0 n' (stageK K a N T 4) w' ∧ ((stageK K a N T 4).off = false → 4 = 4 → n' = 0)) ∧ Fr (DS d s M) wr w') := by
        refine Lib.hid ((dsync_any wr HK.out.disk (HON.out 3 (by omega))).mono ?_)
        rintro e w' ⟨rfl, ⟨n2, h0, h9, h1⟩, h2⟩
        exact ⟨rfl, ⟨n2, HK.out.next (q' := 0) h2 h1 (syncK_len _) (by have := HK.out.nnb; omega), fun h _ => h9 h⟩, h2⟩
      clear H0
      go_wp2_with fail
      refine HS.out.mono ?_
      rintro e w1 ⟨rfl, ⟨n1, h1, h2⟩, h3⟩
      have HC1 := Lib.hid h1
      have HN1 := Lib.hid h2
      have HF1 := Lib.hid (HF.out.trans h3)
      have d5 := HC1.out.rec_.cell 5
      have e5 := HC1.out.rec_.frozen 5
      simp only [recV, List.getElem?_toArray, List.getElem?_cons_succ, List.getElem?_cons_zero] at d5
      clear h1 h2 h3 HS hn4
      cases hoff : (stageK K a N T 4).off with
      | true =>
        have HE : offE (stageK K a N T 4) = 210 := by unfold offE; rw [hoff]; rfl
        have HCK : Hid (commitK K a N T = stageK K a N T 4) := Lib.hid (commitK_of K a N T 3 (by omega) (fun i hi _ => HON.out i hi) (.inl hoff))
        have HEN := Lib.hid (HC1.out.ends HF1.out hoff)
        have HEO : Hid (offE (commitK K a N T) = 210) := by show _ = _; rw [HCK.out, HE]
        rw [HE]
        clear hoff HE
        go_wp2
        go_ret
        exact ⟨by rw [HEO.out]; rfl, by rw [HCK.out]; exact HEN.out⟩
      | false =>
        have HE : offE (stageK K a N T 4) = 0 := by unfold offE; rw [hoff]; rfl
        have HON1 : Hid (∀ i, i ≤ 4 → (stageK K a N T i).off = false) := Lib.hid (fun i hi => by
          rcases (by omega : i ≤ 3 ∨ i = 4) with h | h
          · exact HON.out i h
          · rw [h]; exact hoff)
        have HN3 : Hid (n1 = 0) := Lib.hid (HN1.out hoff trivial)
        rw [HE]
        clear hoff HE
        go_wp2
        go_roundw
        case rel => exact ⟨4, by omega, by go_num, ⟨n1, HC1, fun _ => HN3.out⟩, HF1, HON1⟩
        case measure => simp [intOf]
    · have HCK : Hid (commitK K a N T = stageK K a N T 4) := Lib.hid (commitK_of K a N T 3 (by omega) (fun i hi _ => HON.out i (by omega)) (.inr rfl))
      have hoff := HON.out 4 (by omega)
      have hn0 := hn4 rfl
      have HEO : Hid (offE (commitK K a N T) = 0) := by show _ = _; rw [HCK.out]; unfold offE; rw [hoff]; rfl
      have HEN : Hid (StepsPost d s M r first half num t w (stageK K a N T 4) wr) := Lib.hid ⟨⟨n', fun _ => hn0, HK.out.disk⟩, by rw [hoff]; exact HK.out.rec_, HF.out.mono (fun k _ e => .inl e)⟩
      clear hoff hn0 hn4 H0
      go_wp2
      go_ret
      exact ⟨by rw [HEO.out]; rfl, by rw [HCK.out]; exact HEN.out⟩
end Go.Proofs.YtgpcinfhcamgpaaGreatDoor
