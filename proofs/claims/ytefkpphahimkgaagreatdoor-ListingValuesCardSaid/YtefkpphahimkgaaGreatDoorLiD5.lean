/-
 A listing's value, plainly: it is right, and is as the document's, sorted.
-/
import Derived.Test.YtefkpphahimkgaaGreatDoorLiD4
import Derived.Test.YtefkpphahimkgaaGreatDoorLiR6
import Derived.Test.YtefkpphahimkgaaGreatDoorGH
import Derived.Test.YtefkpphahimkgaaGreatDoorGR
import Derived.Lib.ValidLaws
namespace Go.Proofs.YtefkpphahimkgaaGreatDoor
open Go.RowKit
set_option linter.unusedVariables false
set_option linter.unusedSimpArgs false
theorem valid_asc {l : List UInt8} (h : ∀ c ∈ l, c.toNat < 128) : Lib.validD l = true := by
 have := Lib.validD_ascii l.length l (by rw [List.take_length]; exact h)
 rw [this, List.drop_length]
 rfl
theorem valid_fname {l : List UInt8} (h : fnameL l = true) : Lib.validD l = true := by
 unfold fnameL at h
 simp only [Bool.and_eq_true] at h
 refine valid_asc (fun c hc => ?_)
 have h1 := List.all_eq_true.1 h.2.2.2 c hc
 unfold signB signZ at h1
 simp only [Bool.or_eq_true, Bool.and_eq_true, decide_eq_true_eq, beq_iff_eq] at h1
 omega
theorem valid_id {l : List UInt8} (h : idL l = true) : Lib.validD l = true := by
 unfold idL okHex at h
 simp only [Bool.and_eq_true] at h
 refine valid_asc (fun c hc => ?_)
 have h1 := List.all_eq_true.1 h.1.2 c hc
 unfold isHex at h1
 simp only [Bool.or_eq_true, Bool.and_eq_true, decide_eq_true_eq, UInt8.le_iff_toNat_le] at h1
 have e1 : (57 : UInt8).toNat = 57 := rfl
 have e2 : (102 : UInt8).toNat = 102 := rfl
 omega
theorem dig2_asc {n : Nat} (h : n < 100) : ∀ c ∈ dig2 n, c.toNat < 128 := by
 intro c hc
 simp only [dig2, List.mem_cons, List.not_mem_nil, or_false] at hc
 rcases hc with rfl | rfl
 ·rw [UInt8.toNat_ofNat']; omega
 ·rw [UInt8.toNat_ofNat']; omega
theorem valid_dt {e : Int} {tx : ByteArray} (h : DT e tx) : Lib.validD tx.data.toList = true := by
 obtain ⟨hm, y, m, d, hc, rfl⟩ := h
 obtain ⟨i1, i2, i3, i4, i5, i6⟩ := civ_dim hc
 obtain ⟨j1, j2, j3, j4, j5, j6⟩ := hms_bd e
 rw [strL_list]
 refine valid_asc (fun c hc => ?_)
 have h0 := dig2_asc (n := y.toNat / 100) (by omega)
 have h1 := dig2_asc (n := y.toNat % 100) (by omega)
 have h2 := dig2_asc (n := m.toNat) (by omega)
 have h3 := dig2_asc (n := d.toNat) (by omega)
 have h4 := dig2_asc (n := (hhT e).toNat) (by omega)
 have h5 := dig2_asc (n := (mmT e).toNat) (by omega)
 have h6 := dig2_asc (n := (ssT e).toNat) (by omega)
 simp only [txtL, dig4, List.mem_append, List.mem_singleton] at hc
 rcases hc with (((((((((((hc | hc) | rfl) | hc) | rfl) | hc) | rfl) | hc) | rfl) | hc) | rfl) | hc) | rfl
 all_goals first | exact h0 c hc | exact h1 c hc | exact h2 c hc | exact h3 c hc | exact h4 c hc | exact h5 c hc | exact h6 c hc | decide
theorem right_mp {ks : List ByteArray} {ps : List PV} (hl : ks.length = ps.length) (hk : keysB ks = true) (hp : ∀ p ∈ ps, p.right = true) : (mpV ks ps).right = true := by
 unfold mpV
 rw [PV.right]
 have h1 : ownF 6 0 ⟨#[]⟩ ([] : List PV).length ps.length = true := rfl
 have h2 : PV.rightL ps = true := by
  clear hl hk h1
  induction ps with
  | nil => rfl
  | cons p r ih => rw [PV.rightL, hp p (List.mem_cons_self ..), ih (fun q hq => hp q (List.mem_cons_of_mem _ hq))]; rfl
 rw [h1, hk, h2, decide_eq_true hl]
 rfl
theorem right_tx {s : ByteArray} (h : Lib.validD s.data.toList = true) : (txV s).right = true := by
 unfold txV
 rw [PV.right]
 have h1 : ownF 4 0 s ([] : List PV).length ([] : List PV).length = true := by unfold ownF; simp [h]
 rw [h1]
 rfl
theorem right_in {n : Int} (h1 : -9007199254740991 ≤ n) (h2 : n ≤ 9007199254740991) : (inV n).right = true := by
 unfold inV
 rw [PV.right]
 have h1 : ownF 3 n ⟨#[]⟩ ([] : List PV).length ([] : List PV).length = true := by unfold ownF; rw [if_neg (by decide), if_neg (by decide), if_pos rfl, decide_eq_true ⟨h1, h2⟩]; rfl
 rw [h1]
 rfl
theorem me_ok {m : ME} (h : m.ok = true) : fnameL m.name.data.toList = true ∧ 1 ≤ m.ver ∧ m.ver ≤ 1099511627776 ∧ -1 ≤ m.len ∧ m.len ≤ 1048576 ∧ (m.hash = ⟨#[]⟩ ∨ idL m.hash.data.toList = true) := by
 unfold ME.ok at h
 simp only [Bool.and_eq_true, decide_eq_true_eq, Bool.or_eq_true] at h
 exact h
theorem keysB_const : keysB [veK] = true ∧ keysB [veK, lnK] = true ∧ keysB [veK, haK] = true ∧ keysB [veK, lnK, haK] = true ∧ keysB [shK] = true ∧ keysB [tyK, spK, veK, exK, meK] = true ∧ keysB [tyK, exK, spK, veK, meK] = true := by
 decide +kernel
theorem right_file {m : ME} (h : m.ok = true) : (fileP m).right = true := by
 obtain ⟨h1, h2, h3, h4, h5, h6⟩ := me_ok h
 obtain ⟨k1, k2, k3, k4, k5, -, -⟩ := keysB_const
 have hv : (inV m.ver).right = true := right_in (by omega) (by omega)
 have hl : (inV m.len).right = true := right_in (by omega) (by omega)
 have hh : m.hash ≠ ⟨#[]⟩ → (mpV [shK] [txV m.hash]).right = true := fun hne => right_mp rfl k5 (fun p hp => by
  rw [List.mem_singleton] at hp
  rw [hp]
  rcases h6 with h6 | h6
  ·exact absurd h6 hne
  ·exact right_tx (valid_id h6))
 rw [file_form]
 split
 ·split
  ·refine right_mp rfl k2 (fun p hp => ?_)
   simp only [List.mem_cons, List.not_mem_nil, or_false] at hp
   rcases hp with rfl | rfl <;> assumption
  ·refine right_mp rfl k1 (fun p hp => ?_)
   rw [List.mem_singleton] at hp
   rw [hp]; exact hv
 ·rename_i hne
  have hh := hh hne
  split
  ·refine right_mp rfl k4 (fun p hp => ?_)
   simp only [List.mem_cons, List.not_mem_nil, or_false] at hp
   rcases hp with rfl | rfl | rfl <;> assumption
  ·refine right_mp rfl k3 (fun p hp => ?_)
   simp only [List.mem_cons, List.not_mem_nil, or_false] at hp
   rcases hp with rfl | rfl <;> assumption
theorem names_nodup {l : List ME} (h : allB l = true) : (l.map ME.name).Nodup := by
 show List.Pairwise (· ≠ ·) _
 rw [List.pairwise_iff_getElem]
 intro i j hi hj hij e
 rw [List.length_map] at hi hj
 have e2 : (l[i]).name = (l[j]).name := by simpa using e
 have := allB_inj h hi hj e2
 omega
theorem right_meta {l : List ME} (h : allB l = true) : (metaL l).right = true := by
 refine right_mp (by simp) ?_ (fun p hp => ?_)
 ·unfold keysB
  rw [decide_eq_true (names_nodup h), Bool.and_true, List.all_eq_true]
  intro k hk
  obtain ⟨m, hm, rfl⟩ := List.mem_map.1 hk
  exact valid_fname (me_ok (allB_ok h m hm)).1
 ·obtain ⟨m, hm, rfl⟩ := List.mem_map.1 hp
  exact right_file (allB_ok h m hm)
theorem dep_mp {ks : List ByteArray} {ps : List PV} {d : Nat} (h : ∀ p ∈ ps, p.dep ≤ d) : (mpV ks ps).dep ≤ d + 1 := by
 unfold mpV
 rw [PV.dep, PV.depL]
 have : PV.depL ps ≤ d := by
  induction ps with
  | nil => rw [PV.depL]; omega
  | cons p r ih => rw [PV.depL]; have h1 := h p (List.mem_cons_self ..); have h2 := ih (fun q hq => h q (List.mem_cons_of_mem _ hq)); omega
 omega
theorem dep_file (m : ME) : (fileP m).dep ≤ 3 := by
 have h1 : (mpV [shK] [txV m.hash]).dep ≤ 2 := dep_mp (d := 1) (fun p hp => by rw [List.mem_singleton] at hp; rw [hp]; simp [txV, PV.dep, PV.depL])
 have h2 : ∀ n, (inV n).dep ≤ 2 := fun n => by simp [inV, PV.dep, PV.depL]
 rw [file_form]
 split <;> split
 all_goals
  refine dep_mp (d := 2) (fun p hp => ?_)
  simp only [List.mem_cons, List.not_mem_nil, or_false] at hp
 ·rcases hp with rfl | rfl <;> exact h2 _
 ·rw [hp]; exact h2 _
 ·rcases hp with rfl | rfl | rfl
  ·exact h2 _
  ·exact h2 _
  ·exact h1
 ·rcases hp with rfl | rfl
  ·exact h2 _
  ·exact h1
theorem dep_meta (l : List ME) : (metaL l).dep ≤ 4 := dep_mp (d := 3) (fun p hp => by
 obtain ⟨m, _, rfl⟩ := List.mem_map.1 hp
 exact dep_file m)
theorem five_all {P : PV → Prop} {a b c d e : PV} (ha : P a) (hb : P b) (hc : P c) (hd : P d) (he : P e) : ∀ p ∈ [a, b, c, d, e], P p := fun p hp => by
 simp only [List.mem_cons, List.not_mem_nil, or_false] at hp
 rcases hp with h | h | h | h | h <;> rw [h] <;> assumption
theorem kind_valid {kind : ByteArray} {v e : Int} {l : List ME} (h : mayL kind v e l = true) : Lib.validD kind.data.toList = true := by
 obtain ⟨_, _, h3⟩ := may_all h
 unfold headOk at h3
 simp only [Bool.and_eq_true, decide_eq_true_eq] at h3
 exact h3.2.2.2.2
theorem val_chk {kind tx : ByteArray} {v e : Int} {l : List ME} (h : mayL kind v e l = true) (hd : DT e tx) : (valP kind v tx l).chk = 0 ∧ (refP kind v tx l).chk = 0 := by
 obtain ⟨hall, hl64, -⟩ := may_all h
 obtain ⟨n1, n2, -, -⟩ := may_nums h
 obtain ⟨-, -, -, -, -, k6, k7⟩ := keysB_const
 have hk := right_tx (kind_valid h)
 have ht := right_tx (valid_dt hd)
 have hs : (txV spT).right = true := right_tx (by decide +kernel)
 have hv : (inV v).right = true := right_in (by omega) (by omega)
 have hm := right_meta hall
 have d1 : ∀ s, (txV s).dep ≤ 4 := fun s => by simp [txV, PV.dep, PV.depL]
 have d2 : (inV v).dep ≤ 4 := by simp [inV, PV.dep, PV.depL]
 have d3 := dep_meta l
 have c1 : (valP kind v tx l).cnt ≤ 3000 := cnt_val hl64
 have c2 : (refP kind v tx l).cnt = (valP kind v tx l).cnt := by
  unfold refP valP mpV
  rw [PV.cnt, PV.cnt]
  simp only [PV.cntL]
  omega
 refine ⟨chk_zero.2 ⟨Nat.le_trans (dep_mp (d := 4) (five_all (d1 _) (d1 _) d2 (d1 _) d3)) (by omega), by omega, right_mp rfl k6 (five_all hk hs hv ht hm)⟩, chk_zero.2 ⟨Nat.le_trans (dep_mp (d := 4) (five_all (d1 _) (d1 _) (d1 _) d2 d3)) (by omega), by omega, right_mp rfl k7 (five_all hk ht hs hv hm)⟩⟩
theorem bl_const : bl tyK exK = true ∧ bl tyK meK = true ∧ bl tyK spK = true ∧ bl tyK veK = true ∧ bl exK meK = true ∧ bl exK spK = true ∧ bl exK veK = true ∧ bl meK spK = true ∧ bl meK veK = true ∧ bl spK veK = true ∧ bl veK exK = false ∧ bl veK meK = false ∧ bl spK exK = false ∧ bl spK meK = false ∧ bl veK spK = false ∧ bl spK veK = true := by
 decide +kernel
theorem sort_five {kind tx : ByteArray} {v : Int} {l : List ME} : (valP kind v tx l).sort = (refP kind v tx l).sort := by
 obtain ⟨b1, b2, b3, b4, b5, b6, b7, b8, b9, b10, b11, b12, b13, b14, b15, b16⟩ := bl_const
 unfold valP refP mpV
 rw [PV.sort, PV.sort]
 simp only [PV.sortL, List.zip_cons_cons, List.zip_nil_left, isortP, insP, b1, b2, b3, b4, b5, b6, b7, b8, b9, b10, b11, b12, b13, b14, b15, if_true, if_false, Bool.false_eq_true]
theorem ok_mp {ks : List ByteArray} {ps : List PV} (hl : ks.length = ps.length) (hn : ps.length ≤ 3000) (hk : ∀ k ∈ ks, k.size ≤ 140737488351232) (hp : ∀ p ∈ ps, OkP p) : OkP (mpV ks ps) :=
 .mk (by show 0 ≤ _; omega) (by simp; omega) hl hk (fun x hx => by cases hx) hp
theorem ok_tx {s : ByteArray} (h : s.size ≤ 140737488351232) : OkP (txV s) := .mk h (by simp) rfl (fun x hx => by cases hx) (fun x hx => by cases hx) (fun x hx => by cases hx)
theorem ok_in (n : Int) : OkP (inV n) := .mk (by show 0 ≤ _; omega) (by simp) rfl (fun x hx => by cases hx) (fun x hx => by cases hx) (fun x hx => by cases hx)
theorem ok_file {m : ME} (h : m.hash.size ≤ 140737488351232) : OkP (fileP m) := by
  have hh : OkP (mpV [shK] [txV m.hash]) := ok_mp rfl (by simp) (fun k hk => by rw [List.mem_singleton] at hk; rw [hk]; decide) (fun p hp => by rw [List.mem_singleton] at hp; rw [hp]; exact ok_tx h)
  rw [file_form]
  split <;> split
  all_goals
    refine ok_mp rfl (by simp) (fun k hk => ?_) (fun p hp => ?_)
    · simp only [List.mem_cons, List.not_mem_nil, or_false] at hk
      first
        | (rcases hk with rfl | rfl | rfl <;> decide)
        | (rcases hk with rfl | rfl <;> decide)
        | (rw [hk]; decide)
    · simp only [List.mem_cons, List.not_mem_nil, or_false] at hp
      first
        | (rcases hp with rfl | rfl | rfl <;> first | exact ok_in _ | exact hh)
        | (rcases hp with rfl | rfl <;> first | exact ok_in _ | exact hh)
        | (rw [hp]; exact ok_in _)
theorem ok_meta {l : List ME} (hl : l.length ≤ 64) (hsz : ∀ m ∈ l, m.name.size ≤ 140737488351232 ∧ m.hash.size ≤ 140737488351232) : OkP (metaL l) :=
 ok_mp (by simp) (by simp; omega) (fun k hk => by obtain ⟨m, hm, rfl⟩ := List.mem_map.1 hk; exact (hsz m hm).1) (fun p hp => by obtain ⟨m, hm, rfl⟩ := List.mem_map.1 hp; exact ok_file (hsz m hm).2)
theorem key_sz : tyK.size ≤ 140737488351232 ∧ spK.size ≤ 140737488351232 ∧ veK.size ≤ 140737488351232 ∧ exK.size ≤ 140737488351232 ∧ meK.size ≤ 140737488351232 ∧ spT.size ≤ 140737488351232 := by decide
theorem val_ok {kind tx : ByteArray} {v e : Int} {l : List ME} (h : mayL kind v e l = true) (hd : DT e tx) (hsz : ∀ m ∈ l, m.name.size ≤ 140737488351232 ∧ m.hash.size ≤ 140737488351232) : OkP (valP kind v tx l) ∧ OkP (refP kind v tx l) := by
 obtain ⟨hall, hl64, -⟩ := may_all h
 obtain ⟨-, -, -, n4⟩ := may_nums h
 obtain ⟨s1, s2, s3, s4, s5, s6⟩ := key_sz
 have hts := hd.size
 have hk := ok_tx (s := kind) (by omega)
 have ht := ok_tx (s := tx) (by omega)
 have hs := ok_tx s6
 have hm := ok_meta hl64 hsz
 refine ⟨ok_mp rfl (by simp) (fun k hk => ?_) (five_all hk hs (ok_in v) ht hm), ok_mp rfl (by simp) (fun k hk => ?_) (five_all hk ht hs (ok_in v) hm)⟩
 ·simp only [List.mem_cons, List.not_mem_nil, or_false] at hk
  rcases hk with rfl | rfl | rfl | rfl | rfl <;> assumption
 ·simp only [List.mem_cons, List.not_mem_nil, or_false] at hk
  rcases hk with rfl | rfl | rfl | rfl | rfl <;> assumption
theorem val_same {kind tx : ByteArray} {v e : Int} {l : List ME} (h : mayL kind v e l = true) (hd : DT e tx) : sameP (valP kind v tx l) (refP kind v tx l) = true := by
 obtain ⟨h1, h2⟩ := val_chk h hd
 unfold sameP
 rw [decide_eq_true h1, decide_eq_true h2, decide_eq_true sort_five]
 rfl
theorem val_fine {w : World} {x : MV} {kind tx : ByteArray} {v e : Int} {l : List ME} (hx : VAt w x) (h : mayL kind v e l = true) (hd : DT e tx) (hsz : ∀ m ∈ l, m.name.size ≤ 140737488351232 ∧ m.hash.size ≤ 140737488351232) (hp : x.pv = valP kind v tx l ∨ x.pv = refP kind v tx l) : Fine w x := by
 obtain ⟨h1, h2⟩ := val_ok h hd hsz
 obtain ⟨c1, c2⟩ := val_chk h hd
 refine ⟨hx, ?_, ?_⟩
 ·rcases hp with hp | hp <;> rw [hp] <;> assumption
 ·rw [cnt_pv]
  rcases hp with hp | hp
  ·rw [hp]; have := (chk_zero.1 c1).2.1; omega
  ·rw [hp]; have := (chk_zero.1 c2).2.1; omega
end Go.Proofs.YtefkpphahimkgaaGreatDoor
