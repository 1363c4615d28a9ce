/-
  glob.one: a segment's pattern, piece by piece.
-/
import Derived.Test.YtcndkkagnobpmaaDoorGlobW5
namespace Go.Proofs.YtcndkkagnobpmaaDoor
open Go.RowKit Glob
set_option linter.unusedVariables false

/-- what a piece's way of taking hands back -/
def TakeR (R : Option (List UInt8)) (w : World) (e : Ending) (w' : World) : Prop :=
  (∃ m, w' = w.drewN m) ∧ ((R = none ∧ e = .returned (.tuple #[.string ⟨#[]⟩, .bool false])) ∨ (∃ t : ByteArray, t.size ≤ 100000 ∧ R = some t.data.toList ∧ e = .returned (.tuple #[.string t, .bool true])))
theorem take_no (g : Nat) (lb : Array Value) (p : ByteArray) (a : Addr) (w : World) : Calls Tryd.prog 73 #[.func (.func g) #[] lb, .string p, .bool false, .pointer (some a)] w fun e w' => e = .returned (.bool false) ∧ w' = w := by
  go_enter Tryd.func73, Tryd.ntmps73
  go_wp2
  go_ret
  exact ⟨rfl, rfl⟩
set_option maxHeartbeats 1000000 in
theorem take_yes (g : Nat) (eg : ∀ args w, (callFunc g args).run Tryd.prog w = .ok (.enter g args) w) (p s : ByteArray) (B : Nat) (w : World) (R : Option (List UInt8)) (hB : Blk w B 9 #[.string s])
    (hC : Calls Tryd.prog g #[.string p, .string s] w (TakeR R w)) : Calls Tryd.prog 73 #[.func (.func g) #[] #[], .string p, .bool true, .pointer (some ⟨B, 0, none⟩)] w fun e w' =>
    ∃ (m : Nat) (t : ByteArray), t.size ≤ 100000 ∧ w' = (w.drewN m).setCell ⟨B, 0, none⟩ (.string t) ∧ ((R = none ∧ e = .returned (.bool false)) ∨ (R = some t.data.toList ∧ e = .returned (.bool true))) := by
  have hc := hB.cell 0
  have hf := hB.frozen 0
  go_enter Tryd.func73, Tryd.ntmps73
  go_wp2_with fail
  refine hC.mono ?_
  rintro e w' ⟨⟨m, rfl⟩, hr⟩
  rcases hr with ⟨hr, rfl⟩ | ⟨t, ht, hr, rfl⟩
  · have HR := Lib.hid hr
    clear hr hC
    go_wp2
    go_ret
    exact ⟨m, ⟨#[]⟩, by decide, rfl, .inl ⟨HR.out, rfl⟩⟩
  · have HR := Lib.hid hr
    clear hr hC
    go_wp2
    go_ret
    exact ⟨m, t, ht, rfl, .inr ⟨HR.out, rfl⟩⟩

/-- the box behind a taking -/
def TakeP (R : Option (List UInt8)) (ok : Bool) (B : Nat) (w : World) (e : Ending) (w' : World) : Prop :=
  ∃ (ok' : Bool) (v : ByteArray), e = .returned (.bool ok') ∧ v.size ≤ 100000 ∧ Blk w' B 9 #[.string v] ∧ Fr (· = B) w w' ∧ ((ok = true ∧ R = some v.data.toList ∧ ok' = true) ∨ (ok' = false ∧ (ok = true → R = none)))
theorem take_any (g : Nat) (eg : ∀ args w, (callFunc g args).run Tryd.prog w = .ok (.enter g args) w) (p s : ByteArray) (ok : Bool) (B : Nat) (w : World) (R : Option (List UInt8)) (hs : s.size ≤ 100000) (hB : Blk w B 9 #[.string s])
    (hC : Calls Tryd.prog g #[.string p, .string s] w (TakeR R w)) : Calls Tryd.prog 73 #[.func (.func g) #[] #[], .string p, .bool ok, .pointer (some ⟨B, 0, none⟩)] w (TakeP R ok B w) := by
  cases ok with
  | false =>
    refine (take_no g #[] p ⟨B, 0, none⟩ w).mono ?_
    rintro e w' ⟨rfl, rfl⟩
    exact ⟨false, s, rfl, hs, hB, Fr.refl _ _, .inr ⟨rfl, fun h => by cases h⟩⟩
  | true =>
    refine (take_yes g eg p s B w R hB hC).mono ?_
    rintro e w' ⟨m, t, ht, rfl, h⟩
    have h1 : Blk ((w.drewN m).setCell ⟨B, 0, none⟩ (.string t)) B 9 #[.string t] := (hB.drewN m).set_ 0 (.string t)
    have h2 : Fr (· = B) w ((w.drewN m).setCell ⟨B, 0, none⟩ (.string t)) := Fr.setCell (S := (· = B)) (p := ⟨B, 0, none⟩) ((Fr.refl _ _).drewN m) (fun _ => rfl) _
    rcases h with ⟨hr, rfl⟩ | ⟨hr, rfl⟩
    · exact ⟨false, t, rfl, ht, h1, h2, .inr ⟨rfl, fun _ => hr⟩⟩
    · exact ⟨true, t, rfl, ht, h1, h2, .inl ⟨rfl, hr, rfl⟩⟩
theorem head_take (p s : ByteArray) (w : World) (hp : p.size ≤ 100000) (hs : s.size ≤ 100000) : Calls Tryd.prog 74 #[.string p, .string s] w (TakeR (headL p.data.toList s.data.toList) w) := by
  refine (head_any p s w hp hs).mono ?_
  rintro e w' ⟨hm, h⟩
  refine ⟨hm, ?_⟩
  rcases h with h | ⟨_, h1, h2⟩
  · exact .inl h
  · exact .inr ⟨_, by rw [ByteArray.size_extract]; omega, h1, h2⟩
theorem tail_take (p s : ByteArray) (w : World) (hp : p.size ≤ 100000) (hs : s.size ≤ 100000) : Calls Tryd.prog 75 #[.string p, .string s] w (TakeR (tailL p.data.toList s.data.toList) w) := by
  refine (tail_any p s w hp hs).mono ?_
  rintro e w' ⟨hm, h⟩
  refine ⟨hm, ?_⟩
  rcases h with h | ⟨_, h1, h2⟩
  · exact .inl h
  · exact .inr ⟨_, by rw [ByteArray.size_extract]; omega, h1, h2⟩
theorem next_take (p s : ByteArray) (w : World) (hp : p.size ≤ 100000) (hs : s.size ≤ 100000) : Calls Tryd.prog 76 #[.string p, .string s] w (TakeR (nextL p.data.toList s.data.toList) w) := by
  refine (next_any p s w hp hs).mono ?_
  rintro e w' ⟨hm, h⟩
  refine ⟨hm, ?_⟩
  rcases h with h | ⟨_, _, h1, h2⟩
  · exact .inl h
  · exact .inr ⟨_, by rw [ByteArray.size_extract]; omega, h1, h2⟩
theorem cutS_le (c : UInt8) : ∀ (l p : List UInt8), p ∈ cutS c l → p.length ≤ l.length
  | [], p, h => by simp [cutS] at h; simp [h]
  | b :: l, p, h => by
    unfold cutS at h
    split at h
    · rcases List.mem_cons.1 h with rfl | h
      · simp
      · have := cutS_le c l p h; simp; omega
    · have ⟨q, qs, hq⟩ := List.exists_cons_of_ne_nil (cutS_ne c l)
      rw [hq] at h
      rcases List.mem_cons.1 h with rfl | h
      · have := cutS_le c l q (by rw [hq]; exact .head _); simpa using this
      · have := cutS_le c l p (by rw [hq]; exact .tail _ h); simp; omega
theorem below_of_frB {w w1 w2 : World} {B : Nat} (hb : Below B w w1) (hB : B ≤ w1.heap.size) (hf : Fr (· = B) w1 w2) : Below B w w2 := Fr.below_trans hb hf hB (fun k hk => by omega)

set_option maxHeartbeats 2000000 in
theorem one_lone (p s : ByteArray) (w : World) (hp : p.size ≤ 100000) (hs : s.size ≤ 100000) (hT : Tab w) (h1 : (cutS 42 p.data.toList).length = 1) :
    Calls Tryd.prog 50 #[.string p, .string s] w fun e w' => e = .returned (.bool (oneL p.data.toList s.data.toList)) ∧ Below w.heap.size w w' := by
  obtain ⟨r, hr⟩ : ∃ r, r = oneL p.data.toList s.data.toList := ⟨_, rfl⟩
  rw [← hr]
  have HR := Lib.hid hr
  have H1 := Lib.hid h1
  clear hr h1
  have HS := Lib.hid (fun w h => split_any p 42 w hp h)
  have eg := enters_of Tryd.func73 (by kernel_rfl) rfl
  have hT1 : Tab (w.alloc (.cells #[.string s] 9)) := hT.below ((Below.refl _ _).alloc (Nat.le_refl _) _)
  go_enter Tryd.func50, Tryd.ntmps50
  go_wp2_with fail
  refine (HS.out _ hT1).mono ?_
  rintro e w' ⟨l, hl, rfl, rfl⟩
  obtain ⟨a, rfl⟩ : ∃ a, l = [a] := by
    have h := H1.out
    rw [← hl, List.length_map] at h
    exact List.length_eq_one_iff.1 h
  have hal : a.size ≤ 100000 := by
    have h := cutS_le 42 p.data.toList a.data.toList (by rw [← hl]; simp)
    have h2 : a.data.toList.length = a.size := by cases a; simp [ByteArray.size]
    have h3 : p.data.toList.length = p.size := by cases p; simp [ByteArray.size]
    omega
  have HO : Hid (r = (headL a.data.toList s.data.toList == some [])) := by show _ = _; rw [HR.out]; unfold oneL; rw [← hl]; rfl
  have HC := fun W hB => Lib.hid (take_any 74 (enters_of Tryd.func74 (by kernel_rfl) rfl) a s true w.heap.size W _ hs hB (head_take a s W hal hs))
  clear hl
  go_wp2_with fail
  refine (HC _ ((Blk.new w 9 #[.string s]).alloc _)).out.mono ?_
  rintro e w' ⟨ok, v, rfl, hv, hB, hf, hcase⟩
  have hb : Below w.heap.size w w' := below_of_frB (((Below.refl _ _).alloc (Nat.le_refl _) _).alloc (by simp) _) (by simp; omega) hf
  rcases hcase with ⟨_, hr, rfl⟩ | ⟨rfl, hr⟩
  · have hc := hB.cell 0
    have HR := Lib.hid hr
    have hvt := Lib.toList_data v
    cases hz : v.toList.isEmpty with
    | true =>
      have HI : Hid (r = true) := by show _ = _; rw [HO.out, HR.out, ← hvt, List.isEmpty_iff.1 hz]; rfl
      clear hr hvt
      go_wp2
      go_ret
      exact ⟨by rw [HI.out]; rfl, hb⟩
    | false =>
      have HI : Hid (r = false) := by
        show _ = _; rw [HO.out, HR.out, ← hvt]
        rw [beq_eq_false_iff_ne]
        intro e; injection e with e; rw [e] at hz; cases hz
      clear hr hvt
      go_wp2
      go_ret
      exact ⟨by rw [HI.out]; rfl, hb⟩
  · have HI : Hid (r = false) := by show _ = _; rw [HO.out, hr rfl]; rfl
    clear hr
    go_wp2
    go_ret
    exact ⟨by rw [HI.out]; rfl, hb⟩

theorem two_split {α : Type} (l : List α) (h : 2 ≤ l.length) : ∃ a m z, l = a :: (m ++ [z]) := by
  cases l with
  | nil => simp at h
  | cons a l =>
    have hne : l ≠ [] := by intro e; subst e; simp at h
    exact ⟨a, l.dropLast, l.getLast hne, by rw [List.dropLast_concat_getLast]⟩
theorem pieces_gen (a : List UInt8) (L : List (List UInt8)) (h : L ≠ []) (s : List UInt8) : piecesL (a :: L) s = match headL a s with
    | none => false
    | some t => match tailL (L.getLast h) t with
      | none => false
      | some u => midL L.dropLast u := by
  cases L with
  | nil => exact absurd rfl h
  | cons b L => rfl
theorem pieces_split (a z : List UInt8) (m : List (List UInt8)) (s : List UInt8) : piecesL (a :: (m ++ [z])) s = match headL a s with
    | none => false
    | some t => match tailL z t with
      | none => false
      | some u => midL m u := by
  rw [pieces_gen a (m ++ [z]) (by simp) s, List.getLast_concat, List.dropLast_concat]
set_option maxHeartbeats 4000000 in
theorem one_many (p s : ByteArray) (w : World) (hp : p.size ≤ 100000) (hs : s.size ≤ 100000) (hT : Tab w) (h1 : 2 ≤ (cutS 42 p.data.toList).length) :
    Calls Tryd.prog 50 #[.string p, .string s] w fun e w' => e = .returned (.bool (oneL p.data.toList s.data.toList)) ∧ Below w.heap.size w w' := by
  obtain ⟨r, hr⟩ : ∃ r, r = oneL p.data.toList s.data.toList := ⟨_, rfl⟩
  rw [← hr]
  have HR := Lib.hid hr
  have H1 := Lib.hid h1
  clear hr h1
  have HS := Lib.hid (fun w h => split_any p 42 w hp h)
  have eg := enters_of Tryd.func73 (by kernel_rfl) rfl
  have hT1 : Tab (w.alloc (.cells #[.string s] 9)) := hT.below ((Below.refl _ _).alloc (Nat.le_refl _) _)
  go_enter Tryd.func50, Tryd.ntmps50
  go_wp2_with fail
  refine (HS.out _ hT1).mono ?_
  rintro e w' ⟨l, hl, rfl, rfl⟩
  have hll : l.length ≤ 100001 := by
    have h1 := cutS_len 42 p.data.toList
    rw [← hl, List.length_map] at h1
    have h2 : p.data.toList.length = p.size := by cases p; simp [ByteArray.size]
    omega
  have hsz : ∀ a ∈ l, a.size ≤ 100000 := fun a ha => by
    have h := cutS_le 42 p.data.toList a.data.toList (by rw [← hl]; exact List.mem_map_of_mem ha)
    have h2 : a.data.toList.length = a.size := by cases a; simp [ByteArray.size]
    have h3 : p.data.toList.length = p.size := by cases p; simp [ByteArray.size]
    omega
  obtain ⟨a, mids, z, rfl⟩ : ∃ a mids z, l = a :: (mids ++ [z]) := by
    have h := H1.out
    rw [← hl, List.length_map] at h
    exact two_split l h
  have HO : Hid (r = piecesL ((a :: (mids ++ [z])).map (·.data.toList)) s.data.toList) := by show _ = _; rw [HR.out, hl]; rfl
  have HM : Hid (∀ x ∈ mids, x.size ≤ 100000) := fun x hx => hsz x (by simp [hx])
  have ha := hsz a (by simp)
  have hz := hsz z (by simp)
  clear hl hsz
  obtain ⟨m, hm⟩ : ∃ m, m = mids.length := ⟨_, rfl⟩
  rw [show (a :: (mids ++ [z])).length = m + 2 from by simp [hm]] at hll ⊢
  have hcell : Hid (∀ (W : World), Fr (· = w.heap.size) ((w.alloc (.cells #[.string s] 9)).alloc (.cells ((a :: (mids ++ [z])).map Value.string).toArray 9)) W → W.cell? ⟨w.heap.size + 1, 0, none⟩ = some (.string a) ∧ W.cell? ⟨w.heap.size + 1, m + 1, none⟩ = some (.string z) ∧ ∀ j (h : j < mids.length), W.cell? ⟨w.heap.size + 1, 1 + j, none⟩ = some (.string mids[j])) := by
    intro W hf
    have hb : Blk ((w.alloc (.cells #[.string s] 9)).alloc (.cells ((a :: (mids ++ [z])).map Value.string).toArray 9)) (w.heap.size + 1) 9 ((a :: (mids ++ [z])).map Value.string).toArray := by
      have := Blk.new (w.alloc (.cells #[.string s] 9)) 9 ((a :: (mids ++ [z])).map Value.string).toArray
      simpa using this
    have hbf := hb.fr hf (by omega)
    refine ⟨by rw [hbf.cell]; simp, by rw [hbf.cell]; simp [hm], fun j h => ?_⟩
    rw [hbf.cell]
    rw [Nat.add_comm]
    show ((a :: (mids ++ [z])).map Value.string).toArray[j + 1]? = _
    rw [List.getElem?_toArray, List.map_cons, List.getElem?_cons_succ, List.map_append, List.getElem?_append_left (by simpa using h)]
    simp [h]
  have hB0 : Blk ((w.alloc (.cells #[.string s] 9)).alloc (.cells ((a :: (mids ++ [z])).map Value.string).toArray 9)) w.heap.size 9 #[.string s] := (Blk.new _ _ _).alloc _
  have hb0 : Below w.heap.size w ((w.alloc (.cells #[.string s] 9)).alloc (.cells ((a :: (mids ++ [z])).map Value.string).toArray 9)) := ((Below.refl _ _).alloc (Nat.le_refl _) _).alloc (by simp) _
  have hs0 : w.heap.size ≤ ((w.alloc (.cells #[.string s] 9)).alloc (.cells ((a :: (mids ++ [z])).map Value.string).toArray 9)).heap.size := hb0.size
  generalize ((w.alloc (.cells #[.string s] 9)).alloc (.cells ((a :: (mids ++ [z])).map Value.string).toArray 9)) = W0 at hcell hB0 hb0 hs0 ⊢
  have hc0 := (hcell.out _ (Fr.refl _ _)).1
  have HMM := Lib.hid hm
  clear hm
  have HC := fun W hB => Lib.hid (take_any 74 (enters_of Tryd.func74 (by kernel_rfl) rfl) a s true w.heap.size W _ hs hB (head_take a s W ha hs))
  have HO2 : Hid (r = match headL a.data.toList s.data.toList with
    | none => false
    | some t => match tailL z.data.toList t with
      | none => false
      | some u => midL (mids.map (·.data.toList)) u) := by
    show _ = _
    rw [HO.out, List.map_cons, List.map_append, List.map_cons, List.map_nil]
    exact pieces_split _ _ _ _
  go_wp2_with fail
  refine (HC _ hB0).out.mono ?_
  rintro e w' ⟨ok, v, rfl, hv, hB, hf, hcase⟩
  have hc1 := (hcell.out _ hf).2.1
  have HR1 : Hid (r = (ok && match tailL z.data.toList v.data.toList with
      | none => false
      | some u => midL (mids.map (·.data.toList)) u)) := by
    show _ = _
    rw [HO2.out]
    rcases hcase with ⟨_, h1, rfl⟩ | ⟨rfl, h1⟩
    · rw [h1]; rfl
    · rw [h1 rfl]; rfl
  clear hcase HO HO2 hc0
  have hb1 := below_of_frB hb0 hs0 hf
  have HC2 := fun W hB => Lib.hid (take_any 75 (enters_of Tryd.func75 (by kernel_rfl) rfl) z v ok w.heap.size W _ hv hB (tail_take z v W hz hv))
  have hn1 : ((m : Int) + 2 == 1) = false := by rw [beq_eq_false_iff_ne]; omega
  have hn3 : (m : Int) + 2 - 1 = (m : Int) + 1 := by omega
  go_wp2_with fail
  refine (HC2 _ hB).out.mono ?_
  rintro e w2 ⟨ok2, v2, rfl, hv2, hB2, hf2, hcase⟩
  have HR2 : Hid (r = (ok2 && midL (mids.map (·.data.toList)) v2.data.toList)) := by
    show _ = _
    rw [HR1.out]
    rcases hcase with ⟨rfl, h1, rfl⟩ | ⟨rfl, h1⟩
    · rw [h1]
    · cases ok with
      | false => rfl
      | true => rw [h1 rfl]; rfl
  have HF2 := Lib.hid (hf.trans hf2)
  have hb2 := below_of_frB hb1 hb1.size hf2
  clear hcase HR1 hc1 hf hf2 hn3
  have hi1 : (1 : Int) ≤ (m : Int) + 1 := by omega
  have hi2 : (m : Int) + 1 ≤ (m : Int) + 2 := by omega
  have hi3 : (m : Int) + 2 - 1 = (m : Int) + 1 := by omega
  go_wp2
  go_loopw [7, 9, 41] (fun q _ i wr => ∃ (k : Nat) (o : Bool) (x : ByteArray), k ≤ m ∧ i = .int .i64 k ∧ q = .bool o ∧ x.size ≤ 100000 ∧ Blk wr w.heap.size 9 #[.string x] ∧ Hid (r = (o && midL ((mids.map (·.data.toList)).drop k) x.data.toList)) ∧ Hid (Fr (· = w.heap.size) W0 wr) ∧ Below w.heap.size w wr) (fun _ _ i _ => m - (intOf i).toNat)
  case atStart => exact ⟨0, ok2, v2, Nat.zero_le _, rfl, rfl, hv2, hB2, Lib.hid HR2.out, HF2, hb2⟩
  case round =>
    obtain ⟨k, o, x, hk, rfl, rfl, hx, hBx, HRk, HFk, hbk⟩ := hrel
    rcases (by omega : k < m ∨ k = m) with hlt | heq
    · have hkm : k < mids.length := by rw [← HMM.out]; exact hlt
      obtain ⟨b, hb⟩ : ∃ b, b = mids[k] := ⟨_, rfl⟩
      have hcx := (hcell.out _ HFk.out).2.2 k hkm
      rw [← hb] at hcx
      have hbz : b.size ≤ 100000 := by rw [hb]; exact HM.out _ (List.getElem_mem hkm)
      have HD : Hid ((mids.map (·.data.toList)).drop k = b.data.toList :: (mids.map (·.data.toList)).drop (k + 1)) := by
        show _ = _
        rw [List.drop_eq_getElem_cons (by simpa using hkm), List.getElem_map, ← hb]
      clear hb
      have hki : (k : Int) < (m : Int) := by omega
      have HC3 := fun W hB => Lib.hid (take_any 76 (enters_of Tryd.func76 (by kernel_rfl) rfl) b x o w.heap.size W _ hx hB (next_take b x W hbz hx))
      go_wp2_with fail
      refine (HC3 _ hBx).out.mono ?_
      rintro e w3 ⟨o3, v3, rfl, hv3, hB3, hf3, hcase⟩
      have HR3 : Hid (r = (o3 && midL ((mids.map (·.data.toList)).drop (k + 1)) v3.data.toList)) := by
        show _ = _
        rw [HRk.out, HD.out]
        unfold midL
        rcases hcase with ⟨rfl, h1, rfl⟩ | ⟨rfl, h1⟩
        · rw [h1]
          cases (mids.map (·.data.toList)).drop (k + 1) <;> rfl
        · cases o with
          | false => rfl
          | true => rw [h1 rfl]; rfl
      have HF3 := Lib.hid (HFk.out.trans hf3)
      have hb3 := below_of_frB hbk hbk.size hf3
      clear hcase HRk hf3
      go_wp2
      go_roundw
      case rel => exact ⟨k + 1, o3, v3, by omega, by go_num, rfl, hv3, hB3, HR3, HF3, hb3⟩
      case measure => simp [intOf]; omega
    · have HI : Hid (r = o) := by
        show _ = _
        rw [HRk.out, List.drop_of_length_le (by rw [List.length_map, ← HMM.out]; omega)]
        show (o && true) = o
        simp
      have hki : ¬ (k : Int) < (m : Int) := by omega
      clear heq HRk
      go_wp2
      go_ret
      exact ⟨by rw [HI.out]; rfl, hbk⟩
theorem one_any (p s : ByteArray) (w : World) (hp : p.size ≤ 100000) (hs : s.size ≤ 100000) (hT : Tab w) :
    Calls Tryd.prog 50 #[.string p, .string s] w fun e w' => e = .returned (.bool (oneL p.data.toList s.data.toList)) ∧ Below w.heap.size w w' := by
  have h0 : (cutS 42 p.data.toList).length ≠ 0 := fun h => cutS_ne 42 _ (List.length_eq_zero_iff.1 h)
  rcases (by omega : (cutS 42 p.data.toList).length = 1 ∨ 2 ≤ (cutS 42 p.data.toList).length) with h | h
  · exact one_lone p s w hp hs hT h
  · exact one_many p s w hp hs hT h
end Go.Proofs.YtcndkkagnobpmaaDoor
