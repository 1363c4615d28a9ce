/-
  block.Disk: Crash.
-/
import Derived.Test.YtcndkkagnobpmaaDoorDisk7
import Derived.Deep.RegionHeld3
namespace Go.Proofs.YtcndkkagnobpmaaDoor
open Go.RowKit
set_option linter.unusedVariables false

/-- what may stand at a place behind a crash: what was sure there, or a piece of what was loose and the rest of it -/
def Took (K : Dk) (i : Nat) (b : List UInt8) : Prop := b = K.sure.getD i [] ∨ ∃ (l : List UInt8) (n : Nat), K.loose i = some l ∧ n ≤ 64 ∧ b = l.take n ++ (K.sure.getD i []).drop n
theorem take_twice (l S : List UInt8) (n m : Nat) (hl : l.length = 64) (hn : n ≤ 64) (hm : m ≤ 64) : ∃ q, q ≤ 64 ∧ l.take m ++ (l.take n ++ S.drop n).drop m = l.take q ++ S.drop q := by
  rcases Nat.le_total m n with h | h
  · refine ⟨n, hn, ?_⟩
    rw [List.drop_append, ← List.append_assoc]
    have h1 : m - (l.take n).length = 0 := by rw [List.length_take]; omega
    rw [h1, List.drop_zero]
    congr 1
    have : l.take m = (l.take n).take m := by rw [List.take_take, Nat.min_eq_left h]
    rw [this, List.take_append_drop]
  · refine ⟨m, hm, ?_⟩
    rw [List.drop_append]
    have h1 : (l.take n).drop m = [] := List.drop_eq_nil_of_le (by rw [List.length_take]; omega)
    have h2 : (l.take n).length = n := by rw [List.length_take]; omega
    rw [h1, h2, List.nil_append, List.drop_drop]
    congr 2
    omega
theorem Took.step {K : Dk} {i : Nat} {b l : List UInt8} (h : Took K i b) (hl : K.loose i = some l) (h64 : l.length = 64) {m : Nat} (hm : m ≤ 64) : Took K i (l.take m ++ b.drop m) := by
  rcases h with rfl | ⟨l', n, e, hn, rfl⟩
  · exact .inr ⟨l, m, hl, hm, rfl⟩
  · rw [hl] at e
    cases e
    obtain ⟨q, hq, e⟩ := take_twice l (K.sure.getD i []) n m h64 hn hm
    exact .inr ⟨l, q, hl, hq, e⟩
theorem DiskAt.setSure {w : World} {d s M n : Nat} {K : Dk} (h : DiskAt w d s M n K) {i : Nat} (hi : i < K.sure.length) {v : Value} {b : List UInt8} (hv : SlB w v b) : DiskAt (w.setCell ⟨s, i, none⟩ v) d s M n { K with sure := K.sure.set i b } := by
  have hne := h.ne
  have hn : NoBy w s := h.noBy s (.inr (.inl rfl))
  have hf : Fr (· = s) w (w.setCell ⟨s, i, none⟩ v) := fr_cell v
  obtain ⟨⟨cap, hb, hb2⟩, ⟨cs, hr, hr2, hr3⟩, ⟨f, hm, hm2, hm3⟩, h4, h5, h6, h7⟩ := h
  refine ⟨⟨cap, ?_, by simpa using hb2⟩, ⟨cs.setIfInBounds i v, hr.set_ i v, fun j hj => ?_, fun k x e => ?_⟩, ⟨f, hm.fr hf (fun e => hne.2.2 e.symm), hm2, fun j b hb => ?_⟩, by simpa using h4, fun j b hb => by simpa using h5 j b hb, h6, h7⟩
  · have := hb.fr hf hne.1
    simpa using this
  · have hj' : j < K.sure.length := by simpa using hj
    by_cases e : i = j
    · subst e
      refine ⟨v, ?_, ?_⟩
      · obtain ⟨u, hu, _⟩ := hr2 i hj'
        have : i < cs.size := (Array.getElem?_eq_some_iff.1 hu).1
        simp [this]
      · have : (K.sure.set i b).getD i [] = b := by simp [List.getD_eq_getElem?_getD, hj']
        show SlB _ _ ((K.sure.set i b).getD i [])
        rw [this]
        exact hv.fr2 hf (fun g e _ => by subst e; exact hn)
    · obtain ⟨u, hu, hs⟩ := hr2 j hj'
      refine ⟨u, by rw [Array.getElem?_setIfInBounds_ne e]; exact hu, ?_⟩
      show SlB _ _ ((K.sure.set i b).getD j [])
      have : (K.sure.set i b).getD j [] = K.sure.getD j [] := by simp [List.getD_eq_getElem?_getD, List.getElem?_set_ne e]
      rw [this]
      exact hs.fr2 hf (fun g e _ => by subst e; exact hn)
  · rw [Array.getElem?_setIfInBounds] at e
    split at e
    · split at e
      · obtain ⟨A, c, rfl, _⟩ := hv
        cases e
      · cases e
    · exact hr3 k x e
  · obtain ⟨u, hu, hs⟩ := hm3 j b hb
    exact ⟨u, hu, hs.fr2 hf (fun g e _ => by subst e; exact hn)⟩
/-- a disk behind a crash -/
def Dk.crashed (K : Dk) (sure : List (List UInt8)) : Dk := { sure := sure, loose := fun _ => none, left := -1, bytes := K.bytes, off := false }
def CrashPost (d s M n : Nat) (K : Dk) (l : List (Int × Int)) (w : World) (e : Ending) (w' : World) : Prop :=
  (l ≠ [] ∧ e = .returned (.int .i64 1) ∧ Below w.heap.size w w') ∨
  (∃ (sure : List (List UInt8)) (M' : Nat), e = .returned (.int .i64 0) ∧ sure.length = K.sure.length ∧ (∀ i, i < K.sure.length → Took K i (sure.getD i [])) ∧ w.heap.size ≤ M' ∧ DiskAt w' d s M' 0 (K.crashed sure) ∧ Fr (DS d s M) w w')
theorem KptAt.fr {S : Nat → Prop} {w w' : World} {B : Nat} {A : Option Addr} {l : List (Int × Int)} (h : KptAt w B A l) (hf : Fr S w w') (hB : B ≤ w.heap.size) (hS : ∀ ad, A = some ad → ¬ S ad.block) : KptAt w' B A l := by
  intro i p hp
  obtain ⟨ad, e, hlt, h1, h2, h3⟩ := h i p hp
  have hs := hS ad e
  refine ⟨ad, e, hlt, ?_, ?_, h3⟩
  · rw [hf.cell (by rw [block_of_add]; omega) (by rw [block_of_add]; exact hs)]; exact h1
  · rw [hf.cell (by show (ad.add (i * 2)).block < _; rw [block_of_add]; omega) (by show ¬ S (ad.add (i * 2)).block; rw [block_of_add]; exact hs)]; exact h2
/-- between two rounds of a crash -/
def CrashI (d s M n : Nat) (K : Dk) (w wr : World) : Prop :=
  ∃ sure : List (List UInt8), DiskAt wr d s M n { K with sure := sure } ∧ sure.length = K.sure.length ∧ (∀ i, i < K.sure.length → Took K i (sure.getD i [])) ∧ Fr (DS d s M) w wr
set_option maxRecDepth 100000 in
set_option maxHeartbeats 1000000 in
theorem crash_any {d s M n : Nat} {K : Dk} (A : Option Addr) (c : Nat) (l : List (Int × Int)) (w : World) (h : DiskAt w d s M n K) (hl : l.length ≤ 1000) (hA : KptAt w w.heap.size A l) (hB : ∀ ad, A = some ad → l ≠ [] → ¬ DS d s M ad.block) :
    Calls Tryd.prog 21 #[.pointer (some ⟨d, 0, none⟩), .slice A l.length c] w fun e w' => CrashPost d s M n K l w e w' := by
  have HD := Lib.hid h
  have HA := Lib.hid hA
  have HBl := Lib.hid hB
  obtain ⟨N, hN⟩ : ∃ N, N = l.length := ⟨_, rfl⟩
  have HN := Lib.hid hN
  have HK := Lib.hid (keeps_any A c l w h hl hA)
  rw [← hN] at hl HK ⊢
  clear h hA hN hB
  go_enter Tryd.func21, Tryd.ntmps21
  go_wp2_with fail
  refine HK.out.mono ?_
  rintro e w1 ⟨r, rfl, hr0, hr1, hb⟩
  have HR0 := Lib.hid hr0
  have HR1 := Lib.hid hr1
  have HB := Lib.hid hb
  clear hr0 hr1 hb HK
  cases r with
  | false =>
    go_wp2
    go_ret
    exact .inl ⟨fun e => absurd (HR0.out e) (by simp), rfl, HB.out⟩
  | true =>
    have HI0 : Hid (CrashI d s M n K w w1) := Lib.hid ⟨K.sure, HD.out.below HB.out, rfl, fun i _ => .inl rfl, Fr.of_below HB.out⟩
    go_wp2
    go_loopw [17] (fun v wr => ∃ k : Nat, k ≤ N ∧ v = .int .i64 (k : Int) ∧ Hid (CrashI d s M n K w wr)) (fun v _ => N - (intOf v).toNat)
    case atStart => exact ⟨0, Nat.zero_le _, rfl, HI0⟩
    case round =>
      obtain ⟨k, hk, rfl, HI⟩ := hrel
      clear HI0
      obtain ⟨sure, hD, hlen, htook, hfr⟩ := HI.out
      rcases (by omega : k < N ∨ k = N) with hlt | heq
      · have hki : decide ((k : Int) < (N : Int)) = true := by rw [decide_eq_true_iff]; omega
        have hkn : decide (k < N) = true := by rw [decide_eq_true_iff]; omega
        obtain ⟨p, hp⟩ : ∃ p, l[k]? = some p := ⟨l[k]'(by have := HN.out; omega), List.getElem?_eq_getElem _⟩
        obtain ⟨ad, hA, hB', c1, c2, wf1, wf2⟩ := (HA.out.fr hfr (Nat.le_refl _) (fun ad e => HBl.out ad e (fun e2 => by rw [e2] at hp; simp at hp))) k p hp
        have hmay := HR1.out trivial p (List.mem_of_getElem? hp)
        obtain ⟨y1, y2, y3, y4⟩ := hmay
        obtain ⟨i, hi⟩ : ∃ i : Nat, p.1 = (i : Int) := ⟨p.1.toNat, by omega⟩
        obtain ⟨m, hm⟩ : ∃ m : Nat, p.2 = (m : Int) := ⟨p.2.toNat, by omega⟩
        rw [hi, Int.toNat_natCast] at y2
        obtain ⟨b, hb⟩ := Option.isSome_iff_exists.1 y2
        have hil : i < sure.length := by rw [hlen]; exact HD.out.inn i b hb
        have hm64 : m ≤ 64 := by omega
        rw [hi] at c1
        rw [hm] at c2
        subst hA
        clear hp wf1 wf2 hi hm y1 y2 y3 y4
        go_wp2_with fail
        have hal : Below wr.heap.size wr (wr.alloc (.cells #[.int .i64 (i : Int), .int .i64 (m : Int)] 69)) := (Below.refl _ _).alloc (Nat.le_refl _) _
        have hD4 := hD.below hal
        have hz := Blk.new wr 69 #[.int .i64 (i : Int), .int .i64 (m : Int)]
        obtain ⟨L, hL⟩ : ∃ L, L = sure.length := ⟨_, rfl⟩
        rw [← hL] at hil
        obtain ⟨cap, hdb, hcap, hcapm⟩ := hD4.blk
        have hdb2 : Blk (wr.alloc (.cells #[.int .i64 (i : Int), .int .i64 (m : Int)] 69)) d 63 (diskV s M L cap K.left K.bytes K.off) := by rw [hL]; exact hdb
        obtain ⟨cd0, cd1, _, _, _⟩ := disk_cells hdb2
        have cz0 := hz.cell 0
        have cz1 := hz.cell 1
        simp only [List.getElem?_toArray, List.getElem?_cons_zero, List.getElem?_cons_succ] at cz0 cz1
        obtain ⟨f, hmp, _, hmf⟩ := hD4.map
        obtain ⟨v, hv, Av, cv, rfl, v1, v2, v3, v4⟩ := hmf i b hb
        have hiN : i < 1000000 := by
          have := hD4.few.2
          show i < _
          have h2 : sure.length ≤ 16384 := this
          omega
        have HFI := Lib.hid hv
        have HMP := Lib.hid hmp
        obtain ⟨cs, hrb, hrs, _⟩ := hD4.row
        obtain ⟨u, hu, Au, cu, rfl, u1, u2, u3, u4⟩ := hrs i (by show i < sure.length; omega)
        have cs0 := hrb.cell i
        rw [hu] at cs0
        have fs0 := hrb.frozen i
        have HSC : Hid (∀ V, Below (wr.alloc (.cells #[.int .i64 (i : Int), .int .i64 (m : Int)] 69)).heap.size (wr.alloc (.cells #[.int .i64 (i : Int), .int .i64 (m : Int)] 69)) V → V.cell? ⟨d, 0, none⟩ = some (.slice (some ⟨s, 0, none⟩) L cap) ∧ V.cell? ⟨d, 1, none⟩ = some (.map (some M)) ∧ V.cell? ⟨wr.heap.size, 0, none⟩ = some (.int .i64 (i : Int)) ∧ V.cell? ⟨wr.heap.size, 1, none⟩ = some (.int .i64 (m : Int))) :=
          Lib.hid (fun V hb => ⟨(hb.cell (p := ⟨d, 0, none⟩) hdb2.lt).trans cd0, (hb.cell (p := ⟨d, 1, none⟩) hdb2.lt).trans cd1, (hb.cell (p := ⟨wr.heap.size, 0, none⟩) hz.lt).trans cz0, (hb.cell (p := ⟨wr.heap.size, 1, none⟩) hz.lt).trans cz1⟩)
        have HRW : Hid (∀ V, Below (wr.alloc (.cells #[.int .i64 (i : Int), .int .i64 (m : Int)] 69)).heap.size (wr.alloc (.cells #[.int .i64 (i : Int), .int .i64 (m : Int)] 69)) V → V.cell? ⟨s, i, none⟩ = some (.slice Au 64 cu) ∧ V.frozen? ⟨s, i, none⟩ = false) :=
          Lib.hid (fun V hb => ⟨(hb.cell (p := ⟨s, i, none⟩) hrb.lt).trans cs0, (World.frozen?_of_block (hb.block s hrb.lt)).trans fs0⟩)
        have HD4 := Lib.hid hD4
        have HV := Lib.hid v3
        have HVL := Lib.hid v4
        have HU := Lib.hid u3
        have HUL := Lib.hid u4
        have HFR := Lib.hid hfr
        have HAL := Lib.hid hal
        have HTK := Lib.hid htook
        have HLN := Lib.hid hlen
        have HBB := Lib.hid hb
        have HLL := Lib.hid hL
        have HMS : Hid (M ≠ s) := Lib.hid (fun e => hD4.ne.2.2 e.symm)
        have hsd : s ≠ d := fun e => hD4.ne.1 e.symm
        have hsz : s ≠ wr.heap.size := fun e => by
          have := hD.lt
          omega
        have q1 : (0 : Int) ≤ (m : Int) := by omega
        have q2 : (m : Int) ≤ 64 := by omega
        have q3 : (m : Int) ≤ (cv : Int) := by omega
        have q4 : (m : Int) ≤ (cu : Int) := by omega
        have q5 : (0 : Int) ≤ (i : Int) := by omega
        have q6 : (i : Int) < (L : Int) := by omega
        clear hdb hdb2 hmp hmf hv v3 v4 u3 u4 hrb hrs hu cs0 fs0 hD4 hfr hal htook hlen hb hL hD hz cd0 cd1 cz0 cz1
        generalize hW4 : wr.alloc (.cells #[.int .i64 (i : Int), .int .i64 (m : Int)] 69) = W4 at HMP HSC HRW HD4 HV HU HAL ⊢
        have HALO : Hid (∀ (o : Obj) V, Below ((W4.alloc o).drew).heap.size ((W4.alloc o).drew) V → Below W4.heap.size W4 V) := Lib.hid (fun o V hb => ((((Below.refl W4.heap.size W4).alloc (Nat.le_refl _) o).drew).trans (hb.mono (by show W4.heap.size ≤ (W4.alloc o).heap.size; rw [World.size_alloc]; omega))))
        have HRV : Hid (∀ V : World, V.heap[M]? = W4.heap[M]? → (Instr.lookup 61 (.map (some M)) (.int .i64 (i : Int)) false).run Tryd.prog V = .ok (.slice Av 64 cv) V) := Lib.hid (fun V hV => by
          have := (HMP.out.of_block hV).look1 hiN
          rw [HFI.out, Option.getD_some] at this
          exact this)
        obtain ⟨s0, s1, s2, s3⟩ := HSC.out W4 (Below.refl _ _)
        obtain ⟨r0, r1⟩ := HRW.out W4 (Below.refl _ _)
        clear hW4
        have HSB : Hid (∀ V : World, Below W4.heap.size W4 V → V.cell? ⟨d, 0, none⟩ = some (.slice (some ⟨s, 0, none⟩) L cap) ∧ V.cell? ⟨d, 1, none⟩ = some (.map (some M)) ∧ V.cell? ⟨wr.heap.size, 0, none⟩ = some (.int .i64 (i : Int)) ∧ V.cell? ⟨wr.heap.size, 1, none⟩ = some (.int .i64 (m : Int)) ∧ V.heap[M]? = W4.heap[M]?) := Lib.hid (fun V hb => by
          obtain ⟨t0, t1, t2, t3⟩ := HSC.out V hb
          exact ⟨t0, t1, t2, t3, hb.block M HMP.out.lt⟩)
        have HSS : Hid (∀ (V : World) (v : Value), (V.cell? ⟨d, 0, none⟩ = some (.slice (some ⟨s, 0, none⟩) L cap) ∧ V.cell? ⟨d, 1, none⟩ = some (.map (some M)) ∧ V.cell? ⟨wr.heap.size, 0, none⟩ = some (.int .i64 (i : Int)) ∧ V.cell? ⟨wr.heap.size, 1, none⟩ = some (.int .i64 (m : Int)) ∧ V.heap[M]? = W4.heap[M]?) → (fun V : World => V.cell? ⟨d, 0, none⟩ = some (.slice (some ⟨s, 0, none⟩) L cap) ∧ V.cell? ⟨d, 1, none⟩ = some (.map (some M)) ∧ V.cell? ⟨wr.heap.size, 0, none⟩ = some (.int .i64 (i : Int)) ∧ V.cell? ⟨wr.heap.size, 1, none⟩ = some (.int .i64 (m : Int)) ∧ V.heap[M]? = W4.heap[M]?) (V.setCell ⟨s, i, none⟩ v)) := Lib.hid (fun V v h => by
          obtain ⟨t0, t1, t2, t3, t4⟩ := h
          have hf : Fr (· = s) V (V.setCell ⟨s, i, none⟩ v) := fr_cell v
          refine ⟨?_, ?_, ?_, ?_, ?_⟩
          · rw [World.cell?_setCell_far _ _ _ _ (by exact hsd)]; exact t0
          · rw [World.cell?_setCell_far _ _ _ _ (by exact hsd)]; exact t1
          · rw [World.cell?_setCell_far _ _ _ _ (by exact hsz)]; exact t2
          · rw [World.cell?_setCell_far _ _ _ _ (by exact hsz)]; exact t3
          · rw [hf.block M (Nat.lt_of_not_le (fun hge => by have h1 := HMP.out.lt; have h2 : V.heap[M]? = none := Array.getElem?_eq_none hge; rw [h2] at t4; have h3 := Array.getElem?_eq_none_iff.1 t4.symm; omega)) (fun e => HMS.out e)]; exact t4)
        have HS1 : (fun V : World => V.cell? ⟨d, 0, none⟩ = some (.slice (some ⟨s, 0, none⟩) L cap) ∧ V.cell? ⟨d, 1, none⟩ = some (.map (some M)) ∧ V.cell? ⟨wr.heap.size, 0, none⟩ = some (.int .i64 (i : Int)) ∧ V.cell? ⟨wr.heap.size, 1, none⟩ = some (.int .i64 (m : Int)) ∧ V.heap[M]? = W4.heap[M]?) W4.drew := ⟨s0, s1, s2, s3, rfl⟩
        refine wp_region_held_drew (S := fun V : World => V.cell? ⟨d, 0, none⟩ = some (.slice (some ⟨s, 0, none⟩) L cap) ∧ V.cell? ⟨d, 1, none⟩ = some (.map (some M)) ∧ V.cell? ⟨wr.heap.size, 0, none⟩ = some (.int .i64 (i : Int)) ∧ V.cell? ⟨wr.heap.size, 1, none⟩ = some (.int .i64 (m : Int)) ∧ V.heap[M]? = W4.heap[M]?) (by kernel_rfl) HS1 (fun hS1 => ?_)
        refine wpAnyH_take (i := 0) (v := .pointer (some ⟨d, 0, none⟩)) rfl (by kernel_rfl) (by kernel_rfl) (by kernel_rfl) (fun _ _ _ h => h) (.inl ⟨by rfl, fun V _ => by go_simp⟩) hS1 ?_
        refine wpAnyH_take (i := 1) (v := .pointer (some ⟨d, 0, none⟩)) rfl (by kernel_rfl) (by kernel_rfl) (by kernel_rfl) (fun _ _ _ h => h) (.inl ⟨by rfl, fun V _ => by go_simp⟩) hS1 ?_
        refine wpAnyH_take (i := 2) (v := .pointer (some ⟨d, 0, none⟩)) rfl (by kernel_rfl) (by kernel_rfl) (by kernel_rfl) (fun _ _ _ h => h) (.inl ⟨by rfl, fun V _ => by go_simp⟩) hS1 ?_
        refine wpAnyH_take (i := 3) (v := .slice (some ⟨s, 0, none⟩) L cap) rfl (by kernel_rfl) (by kernel_rfl) (by kernel_rfl) (fun _ _ _ h => h) (.inl ⟨by rfl, fun V hS => by obtain ⟨t0, t1, t2, t3, t4⟩ := hS; go_simp⟩) hS1 ?_
        refine wpAnyH_take (i := 4) (v := .pointer (some ⟨wr.heap.size, 0, none⟩)) rfl (by kernel_rfl) (by kernel_rfl) (by kernel_rfl) (fun _ _ _ h => h) (.inl ⟨by rfl, fun V _ => by go_simp⟩) hS1 ?_
        refine wpAnyH_take (i := 5) (v := .int .i64 (i : Int)) rfl (by kernel_rfl) (by kernel_rfl) (by kernel_rfl) (fun _ _ _ h => h) (.inl ⟨by rfl, fun V hS => by obtain ⟨t0, t1, t2, t3, t4⟩ := hS; go_simp⟩) hS1 ?_
        refine wpAnyH_take (i := 6) (v := .pointer (some ⟨d, 0, none⟩)) rfl (by kernel_rfl) (by kernel_rfl) (by kernel_rfl) (fun _ _ _ h => h) (.inl ⟨by rfl, fun V _ => by go_simp⟩) hS1 ?_
        refine wpAnyH_take (i := 7) (v := .pointer (some ⟨d, 0, none⟩)) rfl (by kernel_rfl) (by kernel_rfl) (by kernel_rfl) (fun _ _ _ h => h) (.inl ⟨by rfl, fun V _ => by go_simp⟩) hS1 ?_
        refine wpAnyH_take (i := 8) (v := .pointer (some ⟨d, 1, none⟩)) rfl (by kernel_rfl) (by kernel_rfl) (by kernel_rfl) (fun _ _ _ h => h) (.inl ⟨by rfl, fun V _ => by go_simp⟩) hS1 ?_
        refine wpAnyH_take (i := 9) (v := .map (some M)) rfl (by kernel_rfl) (by kernel_rfl) (by kernel_rfl) (fun _ _ _ h => h) (.inl ⟨by rfl, fun V hS => by obtain ⟨t0, t1, t2, t3, t4⟩ := hS; go_simp⟩) hS1 ?_
        refine wpAnyH_take (i := 10) (v := .pointer (some ⟨wr.heap.size, 0, none⟩)) rfl (by kernel_rfl) (by kernel_rfl) (by kernel_rfl) (fun _ _ _ h => h) (.inl ⟨by rfl, fun V _ => by go_simp⟩) hS1 ?_
        refine wpAnyH_take (i := 11) (v := .int .i64 (i : Int)) rfl (by kernel_rfl) (by kernel_rfl) (by kernel_rfl) (fun _ _ _ h => h) (.inl ⟨by rfl, fun V hS => by obtain ⟨t0, t1, t2, t3, t4⟩ := hS; go_simp⟩) hS1 ?_
        refine wpAnyH_take (i := 12) (v := .slice Av 64 cv) rfl (by kernel_rfl) (by kernel_rfl) (by kernel_rfl) (fun _ _ _ h => h) (.inl ⟨by rfl, fun V hS => by have RV := HRV.out V hS.2.2.2.2; go_simp⟩) hS1 ?_
        refine wpAnyH_take (i := 13) (v := .pointer (some ⟨wr.heap.size, 1, none⟩)) rfl (by kernel_rfl) (by kernel_rfl) (by kernel_rfl) (fun _ _ _ h => h) (.inl ⟨by rfl, fun V _ => by go_simp⟩) hS1 ?_
        refine wpAnyH_take (i := 14) (v := .int .i64 (m : Int)) rfl (by kernel_rfl) (by kernel_rfl) (by kernel_rfl) (fun _ _ _ h => h) (.inl ⟨by rfl, fun V hS => by obtain ⟨t0, t1, t2, t3, t4⟩ := hS; go_simp⟩) hS1 ?_
        refine wpAnyH_take (i := 15) (v := .slice Av m cv) rfl (by kernel_rfl) (by kernel_rfl) (by kernel_rfl) (fun _ _ _ h => h) (.inl ⟨by rfl, fun V _ => by go_simp⟩) hS1 ?_
        refine wpAnyH_take (i := 16) (v := .pointer (some ⟨d, 0, none⟩)) rfl (by kernel_rfl) (by kernel_rfl) (by kernel_rfl) (fun _ _ _ h => h) (.inl ⟨by rfl, fun V _ => by go_simp⟩) hS1 ?_
        refine wpAnyH_take (i := 17) (v := .pointer (some ⟨d, 0, none⟩)) rfl (by kernel_rfl) (by kernel_rfl) (by kernel_rfl) (fun _ _ _ h => h) (.inl ⟨by rfl, fun V _ => by go_simp⟩) hS1 ?_
        refine wpAnyH_take (i := 18) (v := .pointer (some ⟨d, 0, none⟩)) rfl (by kernel_rfl) (by kernel_rfl) (by kernel_rfl) (fun _ _ _ h => h) (.inl ⟨by rfl, fun V _ => by go_simp⟩) hS1 ?_
        refine wpAnyH_take (i := 19) (v := .slice (some ⟨s, 0, none⟩) L cap) rfl (by kernel_rfl) (by kernel_rfl) (by kernel_rfl) (fun _ _ _ h => h) (.inl ⟨by rfl, fun V hS => by obtain ⟨t0, t1, t2, t3, t4⟩ := hS; go_simp⟩) hS1 ?_
        refine wpAnyH_take (i := 20) (v := .pointer (some ⟨wr.heap.size, 0, none⟩)) rfl (by kernel_rfl) (by kernel_rfl) (by kernel_rfl) (fun _ _ _ h => h) (.inl ⟨by rfl, fun V _ => by go_simp⟩) hS1 ?_
        refine wpAnyH_take (i := 21) (v := .int .i64 (i : Int)) rfl (by kernel_rfl) (by kernel_rfl) (by kernel_rfl) (fun _ _ _ h => h) (.inl ⟨by rfl, fun V hS => by obtain ⟨t0, t1, t2, t3, t4⟩ := hS; go_simp⟩) hS1 ?_
        refine wpAnyH_take (i := 22) (v := .pointer (some ⟨s, i, none⟩)) rfl (by kernel_rfl) (by kernel_rfl) (by kernel_rfl) (fun _ _ _ h => h) (.inl ⟨by rfl, fun V _ => by go_simp⟩) hS1 ?_
        refine wpAnyH_take (i := 24) (v := .pointer (some ⟨wr.heap.size, 1, none⟩)) rfl (by kernel_rfl) (by kernel_rfl) (by kernel_rfl) (fun _ _ _ h => h) (.inl ⟨by rfl, fun V _ => by go_simp⟩) hS1 ?_
        refine wpAnyH_take (i := 25) (v := .int .i64 (m : Int)) rfl (by kernel_rfl) (by kernel_rfl) (by kernel_rfl) (fun _ _ _ h => h) (.inl ⟨by rfl, fun V hS => by obtain ⟨t0, t1, t2, t3, t4⟩ := hS; go_simp⟩) hS1 ?_
        refine wpAnyH_ready (rs := [23]) (by kernel_rfl) (by simp) ?_
        refine AllReadyH.cons rfl (fun K' hK => ?_) AllReadyH.nil
        go_simp
        refine hK.out _ _ (hS1) (fun _ => ?_)
        clear hK K'
        refine wpAnyH_ready (rs := [26]) (by kernel_rfl) (by simp) ?_
        refine AllReadyH.cons rfl (fun K' hK => ?_) AllReadyH.nil
        go_simp
        refine hK.out _ _ (hS1) (fun _ => ?_)
        clear hK K'
        refine wpAnyH_ready (rs := [27]) (by kernel_rfl) (by simp) ?_
        refine AllReadyH.cons rfl (fun K' hK => ?_) AllReadyH.nil
        go_simp
        refine hK.out _ _ (HSB.out _ (HALO.out _ _ (Below.refl _ _))) (fun _ => ?_)
        clear hK K'
        refine wpAnyH_ready (rs := [28]) (by kernel_rfl) (by simp) ?_
        refine AllReadyH.cons rfl (fun K' hK => ?_) AllReadyH.nil
        go_simp
        refine (concat2 W4.heap.size _ _ m (64 - m) _ _ (b.take m) ((sure.getD i []).drop m) _ (Blk.new W4 22 _).drew (((HV.out.take (by rw [HVL.out]; exact hm64)).below ((Below.refl _ _).alloc (Nat.le_refl _) _)).drew') (((HU.out.cut (k := m) (cap := cu) (by rw [HUL.out]; exact hm64) (by rw [HUL.out]; exact u1)).below ((Below.refl _ _).alloc (Nat.le_refl _) _)).drew') (by rw [List.length_take, HVL.out]; omega) (by rw [List.length_drop, HUL.out]) (by omega)).mono ?_
        rintro e w5 ⟨A5, c5, rfl, p1, p2, p3, p4, p5⟩
        have hb5 := Lib.hid (HALO.out _ _ p5)
        obtain ⟨r2, r3⟩ := HRW.out w5 hb5.out
        have HP3 := Lib.hid p3
        have HP4 := Lib.hid p4
        clear p3 p4 p5
        go_simp
        refine hK.out _ _ (HSB.out w5 hb5.out) (fun _ => ?_)
        clear hK K'
        refine wpAnyH_ready (rs := [29]) (by kernel_rfl) (by simp) ?_
        refine AllReadyH.cons rfl (fun K' hK => ?_) AllReadyH.nil
        go_simp
        refine hK.out _ _ (HSB.out w5 hb5.out) (fun _ => ?_)
        clear hK K'
        refine wpAnyH_ready (rs := [30]) (by kernel_rfl) (by simp) ?_
        refine AllReadyH.cons rfl (fun K' hK => ?_) AllReadyH.nil
        go_simp
        refine hK.out _ _ (HSS.out _ _ (HSB.out w5 hb5.out)) (fun _ => ?_)
        clear hK K'
        refine wpAnyH_done (by kernel_rfl) ?_ _
        all_goals
          have HX5 : Hid (CrashI d s M n K w (w5.setCell ⟨s, i, none⟩ (.slice A5 64 c5))) := by
            have hset := (HD4.out.below hb5.out).setSure (i := i) (v := .slice A5 64 c5) (b := b.take m ++ (sure.getD i []).drop m) (by rw [HLL.out] at q6; show i < sure.length; omega) ⟨A5, c5, rfl, p1, p2, HP3.out, HP4.out⟩
            refine Lib.hid ⟨sure.set i (b.take m ++ (sure.getD i []).drop m), hset, by rw [List.length_set, HLN.out], fun j hj => ?_, (((HFR.out.below HAL.out).below hb5.out).setCell (p := ⟨s, i, none⟩) (fun _ => .inr (.inl rfl)) _)⟩
            by_cases e : i = j
            · subst e
              have : (sure.set i (b.take m ++ (sure.getD i []).drop m)).getD i [] = b.take m ++ (sure.getD i []).drop m := by
                have : i < sure.length := by rw [HLN.out]; exact hj
                simp [List.getD_eq_getElem?_getD, this]
              rw [this]
              exact (HTK.out i hj).step HBB.out HVL.out hm64
            · have : (sure.set i (b.take m ++ (sure.getD i []).drop m)).getD j [] = sure.getD j [] := by simp [List.getD_eq_getElem?_getD, List.getElem?_set_ne e]
              rw [this]
              exact HTK.out j hj
          clear HP3 HP4
          go_wp2
        all_goals go_roundw
        all_goals first
          | exact ⟨k + 1, by omega, by go_num, HX5⟩
          | (simp [intOf]; omega)
      · have hki : decide ((k : Int) < (N : Int)) = false := by rw [decide_eq_false_iff_not]; omega
        have hkn : decide (k < N) = false := by rw [decide_eq_false_iff_not]; omega
        have hmm := @run_makeMap Tryd.prog
        have hal : Below wr.heap.size wr (wr.alloc (.map #[] 0)) := (Below.refl _ _).alloc (Nat.le_refl _) _
        have hD2 := hD.below hal
        obtain ⟨cap, hdb, hcap, hcapm⟩ := hD2.blk
        obtain ⟨cd0, cd1, cd2, cd3, cd4⟩ := disk_cells hdb
        have f1 := hdb.frozen 1
        have f2 := hdb.frozen 2
        have f4 := hdb.frozen 4
        have HEND : Hid (DiskAt ((((wr.alloc (.map #[] 0)).setCell ⟨d, 1, none⟩ (.map (some wr.heap.size))).setCell ⟨d, 2, none⟩ (.int .i64 (-1))).setCell ⟨d, 4, none⟩ (.bool false)) d s wr.heap.size 0 (K.crashed sure) ∧ Fr (DS d s M) w ((((wr.alloc (.map #[] 0)).setCell ⟨d, 1, none⟩ (.map (some wr.heap.size))).setCell ⟨d, 2, none⟩ (.int .i64 (-1))).setCell ⟨d, 4, none⟩ (.bool false))) := by
          have hfd : Fr (· = d) (wr.alloc (.map #[] 0)) ((((wr.alloc (.map #[] 0)).setCell ⟨d, 1, none⟩ (.map (some wr.heap.size))).setCell ⟨d, 2, none⟩ (.int .i64 (-1))).setCell ⟨d, 4, none⟩ (.bool false)) := (((Fr.refl (fun x => x = d) _).setCell (p := ⟨d, 1, none⟩) (fun _ => rfl) _).setCell (p := ⟨d, 2, none⟩) (fun _ => rfl) _).setCell (p := ⟨d, 4, none⟩) (fun _ => rfl) _
          have hno : ∀ g, g = d → g < (wr.alloc (.map #[] 0)).heap.size → NoBy (wr.alloc (.map #[] 0)) g := fun g e _ => e ▸ hD2.noBy d (.inl rfl)
          have hblk : Blk ((((wr.alloc (.map #[] 0)).setCell ⟨d, 1, none⟩ (.map (some wr.heap.size))).setCell ⟨d, 2, none⟩ (.int .i64 (-1))).setCell ⟨d, 4, none⟩ (.bool false)) d 63 (diskV s wr.heap.size sure.length cap (-1) K.bytes false) := ((hdb.set_ 1 (.map (some wr.heap.size))).set_ 2 (.int .i64 (-1))).set_ 4 (.bool false)
          obtain ⟨cs, hr, hr2, hr3⟩ := hD2.row
          have hlt := hD.lt
          refine Lib.hid ⟨⟨⟨cap, hblk, hcap, hcapm⟩, ⟨cs, hr.fr hfd (fun e => hD.ne.1 e.symm), fun j hj => ?_, hr3⟩, ⟨_, (LMap.new wr).fr hfd (fun e => by omega), fun _ _ => rfl, fun j b e => by cases e⟩, hD.few, fun j b e => (by cases e), ⟨by show (-1 : Int) ≤ -1; omega, by show (-1 : Int) ≤ _; omega⟩, hD.byt⟩, ((hfr.below hal).trans (hfd.mono (fun k _ e => .inl e)))⟩
          obtain ⟨u, hu, hs⟩ := hr2 j hj
          exact ⟨u, hu, hs.fr2 hfd hno⟩
        have HL2 := Lib.hid hlen
        have HT2 := Lib.hid htook
        have HSZ : Hid (w.heap.size ≤ wr.heap.size) := Lib.hid hfr.size
        clear hD2 hdb hcap hcapm cd0 cd3 hal hlen htook hfr hD heq
        go_wp2
        go_ret
        exact .inr ⟨sure, wr.heap.size, rfl, HL2.out, HT2.out, HSZ.out, HEND.out.1, HEND.out.2⟩
theorem KptAt.mono {w : World} {B B' : Nat} {A : Option Addr} {l : List (Int × Int)} (h : KptAt w B A l) (hB : B ≤ B') : KptAt w B' A l := fun i p hp => by
  obtain ⟨ad, e, hlt, h1⟩ := h i p hp
  exact ⟨ad, e, by omega, h1⟩
/-- a crash that is told what came in -/
theorem crash_in {d s M n : Nat} {K : Dk} (B : Nat) (A : Option Addr) (m c : Nat) (l : List (Int × Int)) (w : World) (h : DiskAt w d s M n K) (hm : l.length = m) (hl : m ≤ 1000) (hA : KptAt w B A l) (hB : B ≤ w.heap.size) (hd : ∀ k, DS d s M k → B ≤ k) :
    Calls Tryd.prog 21 #[.pointer (some ⟨d, 0, none⟩), .slice A m c] w fun e w' => CrashPost d s M n K l w e w' := by
  subst hm
  refine crash_any A c l w h hl (hA.mono hB) (fun ad e hne hs => ?_)
  obtain ⟨p, l', rfl⟩ : ∃ p l', l = p :: l' := by
    cases l with
    | nil => exact absurd rfl hne
    | cons p l' => exact ⟨p, l', rfl⟩
  obtain ⟨ad', e', hlt, _⟩ := hA 0 p rfl
  rw [e] at e'
  cases e'
  have := hd _ hs
  omega
end Go.Proofs.YtcndkkagnobpmaaDoor
