/-
  Hex digits: plain facts, no program.
  glob.one: a segment's pattern, piece by piece.
  The document's Split.
  The document's may, Path, Pattern, Prefix.
  glob.Match, Any, Prefix.
  glob.Prefix; the document's Prefix.
  The document's table of a segment's match: pursuivantref12.one; the document's Match.
  The document's Match.
-/
import Derived.Lib.SlTrimSet
import Derived.Lib.Strings
import Derived.Lib.Bytealg
import Derived.Test.YthidjdjcjjbpbaaGreatDoorGG
import Derived.Test.YthidjdjcjjbpbaaGreatDoorGA
import Derived.Shelf.Strings.SlTrimAscii
import Derived.Deep.QuietTactic
import Derived.BigQuiet
import Derived.Deep.RegionHeld3
set_option linter.unusedVariables false
set_option linter.unusedSimpArgs false
namespace Go.Proofs.YthidjdjcjjbpbaaGreatDoor
open Go

def isHex (c : UInt8) : Bool := (decide (48 ≤ c) && decide (c ≤ 57)) || (decide (97 ≤ c) && decide (c ≤ 102))
def hexV (c : UInt8) : Nat := if c ≤ 57 then c.toNat - 48 else c.toNat - 87
def hexI (c : UInt8) : Int := if isHex c then (hexV c : Int) else -1
def digitsL : List UInt8 := [48, 49, 50, 51, 52, 53, 54, 55, 56, 57, 97, 98, 99, 100, 101, 102]
def unhexL : List UInt8 → List UInt8
  | a :: b :: t => UInt8.ofNat (16 * hexV a + hexV b) :: unhexL t
  | _ => []
/-- the text is hex digits -/
def okHex (l : List UInt8) : Bool := decide (l.length % 2 = 0) && l.all isHex

theorem ofNat_toNat (c : UInt8) : UInt8.ofNat c.toNat = c := by simp
theorem all_u8 {p : UInt8 → Prop} (h : ∀ n : Fin 256, p (UInt8.ofNat n.1)) (c : UInt8) : p c := by
  have := h ⟨c.toNat, c.toNat_lt⟩
  simpa using this
theorem indexByte_digits (c : UInt8) : Lib.indexByte digitsL c = hexI c :=
  all_u8 (p := fun c => Lib.indexByte digitsL c = hexI c) (by decide +kernel) c
theorem contains_digits (c : UInt8) : digitsL.contains c = isHex c :=
  all_u8 (p := fun c => digitsL.contains c = isHex c) (by decide +kernel) c
theorem hexI_yes (c : UInt8) (h : isHex c = true) : hexI c = (hexV c : Int) := by simp [hexI, h]
theorem hexI_no (c : UInt8) (h : isHex c = false) : hexI c = -1 := by simp [hexI, h]
theorem hexV_lt (c : UInt8) (h : isHex c = true) : hexV c < 16 := by
  have := all_u8 (p := fun c => isHex c = true → hexV c < 16) (by decide +kernel) c
  exact this h
theorem dropWhile_nil_iff {p : UInt8 → Bool} (l : List UInt8) : l.dropWhile p = [] ↔ l.all p = true := by
  induction l with
  | nil => simp
  | cons a l ih =>
    by_cases h : p a <;> simp [List.dropWhile_cons, h, ih]
theorem trim_digits (l : List UInt8) : Lib.trimS l digitsL = [] ↔ l.all isHex = true := by
  have e : (fun x => digitsL.contains x) = isHex := funext contains_digits
  unfold Lib.trimS Lib.trimLeftS Lib.trimRightS
  rw [dropWhile_nil_iff, e, List.all_reverse]
  constructor
  · intro h
    have h1 : (l.reverse.dropWhile isHex).all isHex = true := h
    have h2 : l.reverse.dropWhile isHex = [] := by
      rcases hd : l.reverse.dropWhile isHex with _ | ⟨a, t⟩
      · rfl
      · have := List.head?_dropWhile_not isHex l.reverse
        rw [hd] at this h1
        simp at this
        simp [this] at h1
    rw [dropWhile_nil_iff] at h2
    rwa [List.all_reverse] at h2
  · intro h
    have : l.reverse.dropWhile isHex = [] := by rw [dropWhile_nil_iff, List.all_reverse]; exact h
    rw [this]
    rfl
theorem unhexL_length (l : List UInt8) : (unhexL l).length = l.length / 2 := by
  induction l using unhexL.induct with
  | case1 a b t ih => simp only [unhexL, List.length_cons, ih]; omega
  | case2 l h =>
    match l, h with
    | [], _ => rfl
    | [a], _ => simp [unhexL]
    | a :: b :: t, h => exact absurd rfl (h a b t)
theorem unhexL_take (l : List UInt8) (k : Nat) (h : 2 * k + 1 < l.length) : unhexL (l.take (2 * k + 2)) = unhexL (l.take (2 * k)) ++ [UInt8.ofNat (16 * hexV l[2 * k] + hexV l[2 * k + 1])] := by
  induction k generalizing l with
  | zero =>
    match l, h with
    | a :: b :: t, _ => simp [unhexL]
  | succ k ih =>
    match l, h with
    | a :: b :: t, h =>
      have h' : 2 * k + 1 < t.length := by simp at h; omega
      have := ih t h'
      have e1 : (a :: b :: t).take (2 * (k + 1) + 2) = a :: b :: t.take (2 * k + 2) := rfl
      have e2 : (a :: b :: t).take (2 * (k + 1)) = a :: b :: t.take (2 * k) := rfl
      have e3 : (a :: b :: t)[2 * (k + 1)] = t[2 * k] := rfl
      have e4 : (a :: b :: t)[2 * (k + 1) + 1] = t[2 * k + 1] := rfl
      rw [e1, e2, e3, e4, unhexL, unhexL, this, List.cons_append]
theorem all_getElem {p : UInt8 → Bool} {l : List UInt8} (h : l.all p = true) (k : Nat) (hk : k < l.length) : p l[k] = true :=
  List.all_eq_true.1 h _ (List.getElem_mem hk)

end Go.Proofs.YthidjdjcjjbpbaaGreatDoor

namespace Go.Proofs.YthidjdjcjjbpbaaGreatDoor
open Go.RowKit Glob
set_option linter.unusedVariables false

/-- what a piece's way of taking hands back -/
def TakeR (R : Option (List UInt8)) (w : World) (e : Ending) (w' : World) : Prop :=
  (∃ m, w' = w.drewN m) ∧ ((R = none ∧ e = .returned (.tuple #[.string ⟨#[]⟩, .bool false])) ∨ (∃ t : ByteArray, t.size ≤ 100000 ∧ R = some t.data.toList ∧ e = .returned (.tuple #[.string t, .bool true])))
theorem take_no (g : Nat) (lb : Array Value) (p : ByteArray) (a : Addr) (w : World) : Calls Tryz.prog 97 #[.func (.func g) #[] lb, .string p, .bool false, .pointer (some a)] w fun e w' => e = .returned (.bool false) ∧ w' = w := by
  go_enter Tryz.func97, Tryz.ntmps97
  go_wp2
  go_ret
  exact ⟨rfl, rfl⟩
set_option maxHeartbeats 1000000 in
theorem take_yes (g : Nat) (eg : ∀ args w, (callFunc g args).run Tryz.prog w = .ok (.enter g args) w) (p s : ByteArray) (B : Nat) (w : World) (R : Option (List UInt8)) (hB : Blk w B 9 #[.string s])
    (hC : Calls Tryz.prog g #[.string p, .string s] w (TakeR R w)) : Calls Tryz.prog 97 #[.func (.func g) #[] #[], .string p, .bool true, .pointer (some ⟨B, 0, none⟩)] w fun e w' =>
    ∃ (m : Nat) (t : ByteArray), t.size ≤ 100000 ∧ w' = (w.drewN m).setCell ⟨B, 0, none⟩ (.string t) ∧ ((R = none ∧ e = .returned (.bool false)) ∨ (R = some t.data.toList ∧ e = .returned (.bool true))) := by
  have hc := hB.cell 0
  have hf := hB.frozen 0
  go_enter Tryz.func97, Tryz.ntmps97
  go_wp2_with fail
  refine hC.mono ?_
  rintro e w' ⟨⟨m, rfl⟩, hr⟩
  rcases hr with ⟨hr, rfl⟩ | ⟨t, ht, hr, rfl⟩
  · have HR := Lib.hid hr
    clear hr hC
    go_wp2
    go_ret
    exact ⟨m, ⟨#[]⟩, by decide, rfl, .inl ⟨HR.out, rfl⟩⟩
  · have HR := Lib.hid hr
    clear hr hC
    go_wp2
    go_ret
    exact ⟨m, t, ht, rfl, .inr ⟨HR.out, rfl⟩⟩

/-- the box behind a taking -/
def TakeP (R : Option (List UInt8)) (ok : Bool) (B : Nat) (w : World) (e : Ending) (w' : World) : Prop :=
  ∃ (ok' : Bool) (v : ByteArray), e = .returned (.bool ok') ∧ v.size ≤ 100000 ∧ Blk w' B 9 #[.string v] ∧ Fr (· = B) w w' ∧ ((ok = true ∧ R = some v.data.toList ∧ ok' = true) ∨ (ok' = false ∧ (ok = true → R = none)))
theorem take_any (g : Nat) (eg : ∀ args w, (callFunc g args).run Tryz.prog w = .ok (.enter g args) w) (p s : ByteArray) (ok : Bool) (B : Nat) (w : World) (R : Option (List UInt8)) (hs : s.size ≤ 100000) (hB : Blk w B 9 #[.string s])
    (hC : Calls Tryz.prog g #[.string p, .string s] w (TakeR R w)) : Calls Tryz.prog 97 #[.func (.func g) #[] #[], .string p, .bool ok, .pointer (some ⟨B, 0, none⟩)] w (TakeP R ok B w) := by
  cases ok with
  | false =>
    refine (take_no g #[] p ⟨B, 0, none⟩ w).mono ?_
    rintro e w' ⟨rfl, rfl⟩
    exact ⟨false, s, rfl, hs, hB, Fr.refl _ _, .inr ⟨rfl, fun h => by cases h⟩⟩
  | true =>
    refine (take_yes g eg p s B w R hB hC).mono ?_
    rintro e w' ⟨m, t, ht, rfl, h⟩
    have h1 : Blk ((w.drewN m).setCell ⟨B, 0, none⟩ (.string t)) B 9 #[.string t] := (hB.drewN m).set_ 0 (.string t)
    have h2 : Fr (· = B) w ((w.drewN m).setCell ⟨B, 0, none⟩ (.string t)) := Fr.setCell (S := (· = B)) (p := ⟨B, 0, none⟩) ((Fr.refl _ _).drewN m) (fun _ => rfl) _
    rcases h with ⟨hr, rfl⟩ | ⟨hr, rfl⟩
    · exact ⟨false, t, rfl, ht, h1, h2, .inr ⟨rfl, fun _ => hr⟩⟩
    · exact ⟨true, t, rfl, ht, h1, h2, .inl ⟨rfl, hr, rfl⟩⟩
theorem head_take (p s : ByteArray) (w : World) (hp : p.size ≤ 100000) (hs : s.size ≤ 100000) : Calls Tryz.prog 98 #[.string p, .string s] w (TakeR (headL p.data.toList s.data.toList) w) := by
  refine (head_any p s w hp hs).mono ?_
  rintro e w' ⟨hm, h⟩
  refine ⟨hm, ?_⟩
  rcases h with h | ⟨_, h1, h2⟩
  · exact .inl h
  · exact .inr ⟨_, by rw [ByteArray.size_extract]; omega, h1, h2⟩
theorem tail_take (p s : ByteArray) (w : World) (hp : p.size ≤ 100000) (hs : s.size ≤ 100000) : Calls Tryz.prog 99 #[.string p, .string s] w (TakeR (tailL p.data.toList s.data.toList) w) := by
  refine (tail_any p s w hp hs).mono ?_
  rintro e w' ⟨hm, h⟩
  refine ⟨hm, ?_⟩
  rcases h with h | ⟨_, h1, h2⟩
  · exact .inl h
  · exact .inr ⟨_, by rw [ByteArray.size_extract]; omega, h1, h2⟩
theorem next_take (p s : ByteArray) (w : World) (hp : p.size ≤ 100000) (hs : s.size ≤ 100000) : Calls Tryz.prog 100 #[.string p, .string s] w (TakeR (nextL p.data.toList s.data.toList) w) := by
  refine (next_any p s w hp hs).mono ?_
  rintro e w' ⟨hm, h⟩
  refine ⟨hm, ?_⟩
  rcases h with h | ⟨_, _, h1, h2⟩
  · exact .inl h
  · exact .inr ⟨_, by rw [ByteArray.size_extract]; omega, h1, h2⟩
theorem cutS_le (c : UInt8) : ∀ (l p : List UInt8), p ∈ cutS c l → p.length ≤ l.length
  | [], p, h => by simp [cutS] at h; simp [h]
  | b :: l, p, h => by
    unfold cutS at h
    split at h
    · rcases List.mem_cons.1 h with rfl | h
      · simp
      · have := cutS_le c l p h; simp; omega
    · have ⟨q, qs, hq⟩ := List.exists_cons_of_ne_nil (cutS_ne c l)
      rw [hq] at h
      rcases List.mem_cons.1 h with rfl | h
      · have := cutS_le c l q (by rw [hq]; exact .head _); simpa using this
      · have := cutS_le c l p (by rw [hq]; exact .tail _ h); simp; omega
theorem below_of_frB {w w1 w2 : World} {B : Nat} (hb : Below B w w1) (hB : B ≤ w1.heap.size) (hf : Fr (· = B) w1 w2) : Below B w w2 := Fr.below_trans hb hf hB (fun k hk => by omega)

set_option maxHeartbeats 2000000 in
theorem one_lone (p s : ByteArray) (w : World) (hp : p.size ≤ 100000) (hs : s.size ≤ 100000) (hT : Tab w) (h1 : (cutS 42 p.data.toList).length = 1) :
    Calls Tryz.prog 84 #[.string p, .string s] w fun e w' => e = .returned (.bool (oneL p.data.toList s.data.toList)) ∧ Below w.heap.size w w' := by
  obtain ⟨r, hr⟩ : ∃ r, r = oneL p.data.toList s.data.toList := ⟨_, rfl⟩
  rw [← hr]
  have HR := Lib.hid hr
  have H1 := Lib.hid h1
  clear hr h1
  have HS := Lib.hid (fun w h => split_any p 42 w hp h)
  have eg := enters_of Tryz.func97 (by kernel_rfl) rfl
  have hT1 : Tab (w.alloc (.cells #[.string s] 9)) := hT.below ((Below.refl _ _).alloc (Nat.le_refl _) _)
  go_enter Tryz.func84, Tryz.ntmps84
  go_wp2_with fail
  refine (HS.out _ hT1).mono ?_
  rintro e w' ⟨l, hl, rfl, rfl⟩
  obtain ⟨a, rfl⟩ : ∃ a, l = [a] := by
    have h := H1.out
    rw [← hl, List.length_map] at h
    exact List.length_eq_one_iff.1 h
  have hal : a.size ≤ 100000 := by
    have h := cutS_le 42 p.data.toList a.data.toList (by rw [← hl]; simp)
    have h2 : a.data.toList.length = a.size := by cases a; simp [ByteArray.size]
    have h3 : p.data.toList.length = p.size := by cases p; simp [ByteArray.size]
    omega
  have HO : Hid (r = (headL a.data.toList s.data.toList == some [])) := by show _ = _; rw [HR.out]; unfold oneL; rw [← hl]; rfl
  have HC := fun W hB => Lib.hid (take_any 98 (enters_of Tryz.func98 (by kernel_rfl) rfl) a s true w.heap.size W _ hs hB (head_take a s W hal hs))
  clear hl
  go_wp2_with fail
  refine (HC _ ((Blk.new w 9 #[.string s]).alloc _)).out.mono ?_
  rintro e w' ⟨ok, v, rfl, hv, hB, hf, hcase⟩
  have hb : Below w.heap.size w w' := below_of_frB (((Below.refl _ _).alloc (Nat.le_refl _) _).alloc (by simp) _) (by simp; omega) hf
  rcases hcase with ⟨_, hr, rfl⟩ | ⟨rfl, hr⟩
  · have hc := hB.cell 0
    have HR := Lib.hid hr
    have hvt := Lib.toList_data v
    cases hz : v.toList.isEmpty with
    | true =>
      have HI : Hid (r = true) := by show _ = _; rw [HO.out, HR.out, ← hvt, List.isEmpty_iff.1 hz]; rfl
      clear hr hvt
      go_wp2
      go_ret
      exact ⟨by rw [HI.out]; rfl, hb⟩
    | false =>
      have HI : Hid (r = false) := by
        show _ = _; rw [HO.out, HR.out, ← hvt]
        rw [beq_eq_false_iff_ne]
        intro e; injection e with e; rw [e] at hz; cases hz
      clear hr hvt
      go_wp2
      go_ret
      exact ⟨by rw [HI.out]; rfl, hb⟩
  · have HI : Hid (r = false) := by show _ = _; rw [HO.out, hr rfl]; rfl
    clear hr
    go_wp2
    go_ret
    exact ⟨by rw [HI.out]; rfl, hb⟩

theorem two_split {α : Type} (l : List α) (h : 2 ≤ l.length) : ∃ a m z, l = a :: (m ++ [z]) := by
  cases l with
  | nil => simp at h
  | cons a l =>
    have hne : l ≠ [] := by intro e; subst e; simp at h
    exact ⟨a, l.dropLast, l.getLast hne, by rw [List.dropLast_concat_getLast]⟩
theorem pieces_gen (a : List UInt8) (L : List (List UInt8)) (h : L ≠ []) (s : List UInt8) : piecesL (a :: L) s = match headL a s with
    | none => false
    | some t => match tailL (L.getLast h) t with
      | none => false
      | some u => midL L.dropLast u := by
  cases L with
  | nil => exact absurd rfl h
  | cons b L => rfl
theorem pieces_split (a z : List UInt8) (m : List (List UInt8)) (s : List UInt8) : piecesL (a :: (m ++ [z])) s = match headL a s with
    | none => false
    | some t => match tailL z t with
      | none => false
      | some u => midL m u := by
  rw [pieces_gen a (m ++ [z]) (by simp) s, List.getLast_concat, List.dropLast_concat]
set_option maxHeartbeats 4000000 in
theorem one_many (p s : ByteArray) (w : World) (hp : p.size ≤ 100000) (hs : s.size ≤ 100000) (hT : Tab w) (h1 : 2 ≤ (cutS 42 p.data.toList).length) :
    Calls Tryz.prog 84 #[.string p, .string s] w fun e w' => e = .returned (.bool (oneL p.data.toList s.data.toList)) ∧ Below w.heap.size w w' := by
  obtain ⟨r, hr⟩ : ∃ r, r = oneL p.data.toList s.data.toList := ⟨_, rfl⟩
  rw [← hr]
  have HR := Lib.hid hr
  have H1 := Lib.hid h1
  clear hr h1
  have HS := Lib.hid (fun w h => split_any p 42 w hp h)
  have eg := enters_of Tryz.func97 (by kernel_rfl) rfl
  have hT1 : Tab (w.alloc (.cells #[.string s] 9)) := hT.below ((Below.refl _ _).alloc (Nat.le_refl _) _)
  go_enter Tryz.func84, Tryz.ntmps84
  go_wp2_with fail
  refine (HS.out _ hT1).mono ?_
  rintro e w' ⟨l, hl, rfl, rfl⟩
  have hll : l.length ≤ 100001 := by
    have h1 := cutS_len 42 p.data.toList
    rw [← hl, List.length_map] at h1
    have h2 : p.data.toList.length = p.size := by cases p; simp [ByteArray.size]
    omega
  have hsz : ∀ a ∈ l, a.size ≤ 100000 := fun a ha => by
    have h := cutS_le 42 p.data.toList a.data.toList (by rw [← hl]; exact List.mem_map_of_mem ha)
    have h2 : a.data.toList.length = a.size := by cases a; simp [ByteArray.size]
    have h3 : p.data.toList.length = p.size := by cases p; simp [ByteArray.size]
    omega
  obtain ⟨a, mids, z, rfl⟩ : ∃ a mids z, l = a :: (mids ++ [z]) := by
    have h := H1.out
    rw [← hl, List.length_map] at h
    exact two_split l h
  have HO : Hid (r = piecesL ((a :: (mids ++ [z])).map (·.data.toList)) s.data.toList) := by show _ = _; rw [HR.out, hl]; rfl
  have HM : Hid (∀ x ∈ mids, x.size ≤ 100000) := fun x hx => hsz x (by simp [hx])
  have ha := hsz a (by simp)
  have hz := hsz z (by simp)
  clear hl hsz
  obtain ⟨m, hm⟩ : ∃ m, m = mids.length := ⟨_, rfl⟩
  rw [show (a :: (mids ++ [z])).length = m + 2 from by simp [hm]] at hll ⊢
  have hcell : Hid (∀ (W : World), Fr (· = w.heap.size) ((w.alloc (.cells #[.string s] 9)).alloc (.cells ((a :: (mids ++ [z])).map Value.string).toArray 9)) W → W.cell? ⟨w.heap.size + 1, 0, none⟩ = some (.string a) ∧ W.cell? ⟨w.heap.size + 1, m + 1, none⟩ = some (.string z) ∧ ∀ j (h : j < mids.length), W.cell? ⟨w.heap.size + 1, 1 + j, none⟩ = some (.string mids[j])) := by
    intro W hf
    have hb : Blk ((w.alloc (.cells #[.string s] 9)).alloc (.cells ((a :: (mids ++ [z])).map Value.string).toArray 9)) (w.heap.size + 1) 9 ((a :: (mids ++ [z])).map Value.string).toArray := by
      have := Blk.new (w.alloc (.cells #[.string s] 9)) 9 ((a :: (mids ++ [z])).map Value.string).toArray
      simpa using this
    have hbf := hb.fr hf (by omega)
    refine ⟨by rw [hbf.cell]; simp, by rw [hbf.cell]; simp [hm], fun j h => ?_⟩
    rw [hbf.cell]
    rw [Nat.add_comm]
    show ((a :: (mids ++ [z])).map Value.string).toArray[j + 1]? = _
    rw [List.getElem?_toArray, List.map_cons, List.getElem?_cons_succ, List.map_append, List.getElem?_append_left (by simpa using h)]
    simp [h]
  have hB0 : Blk ((w.alloc (.cells #[.string s] 9)).alloc (.cells ((a :: (mids ++ [z])).map Value.string).toArray 9)) w.heap.size 9 #[.string s] := (Blk.new _ _ _).alloc _
  have hb0 : Below w.heap.size w ((w.alloc (.cells #[.string s] 9)).alloc (.cells ((a :: (mids ++ [z])).map Value.string).toArray 9)) := ((Below.refl _ _).alloc (Nat.le_refl _) _).alloc (by simp) _
  have hs0 : w.heap.size ≤ ((w.alloc (.cells #[.string s] 9)).alloc (.cells ((a :: (mids ++ [z])).map Value.string).toArray 9)).heap.size := hb0.size
  generalize ((w.alloc (.cells #[.string s] 9)).alloc (.cells ((a :: (mids ++ [z])).map Value.string).toArray 9)) = W0 at hcell hB0 hb0 hs0 ⊢
  have hc0 := (hcell.out _ (Fr.refl _ _)).1
  have HMM := Lib.hid hm
  clear hm
  have HC := fun W hB => Lib.hid (take_any 98 (enters_of Tryz.func98 (by kernel_rfl) rfl) a s true w.heap.size W _ hs hB (head_take a s W ha hs))
  have HO2 : Hid (r = match headL a.data.toList s.data.toList with
    | none => false
    | some t => match tailL z.data.toList t with
      | none => false
      | some u => midL (mids.map (·.data.toList)) u) := by
    show _ = _
    rw [HO.out, List.map_cons, List.map_append, List.map_cons, List.map_nil]
    exact pieces_split _ _ _ _
  go_wp2_with fail
  refine (HC _ hB0).out.mono ?_
  rintro e w' ⟨ok, v, rfl, hv, hB, hf, hcase⟩
  have hc1 := (hcell.out _ hf).2.1
  have HR1 : Hid (r = (ok && match tailL z.data.toList v.data.toList with
      | none => false
      | some u => midL (mids.map (·.data.toList)) u)) := by
    show _ = _
    rw [HO2.out]
    rcases hcase with ⟨_, h1, rfl⟩ | ⟨rfl, h1⟩
    · rw [h1]; rfl
    · rw [h1 rfl]; rfl
  clear hcase HO HO2 hc0
  have hb1 := below_of_frB hb0 hs0 hf
  have HC2 := fun W hB => Lib.hid (take_any 99 (enters_of Tryz.func99 (by kernel_rfl) rfl) z v ok w.heap.size W _ hv hB (tail_take z v W hz hv))
  have hn1 : ((m : Int) + 2 == 1) = false := by rw [beq_eq_false_iff_ne]; omega
  have hn3 : (m : Int) + 2 - 1 = (m : Int) + 1 := by omega
  go_wp2_with fail
  refine (HC2 _ hB).out.mono ?_
  rintro e w2 ⟨ok2, v2, rfl, hv2, hB2, hf2, hcase⟩
  have HR2 : Hid (r = (ok2 && midL (mids.map (·.data.toList)) v2.data.toList)) := by
    show _ = _
    rw [HR1.out]
    rcases hcase with ⟨rfl, h1, rfl⟩ | ⟨rfl, h1⟩
    · rw [h1]
    · cases ok with
      | false => rfl
      | true => rw [h1 rfl]; rfl
  have HF2 := Lib.hid (hf.trans hf2)
  have hb2 := below_of_frB hb1 hb1.size hf2
  clear hcase HR1 hc1 hf hf2 hn3
  have hi1 : (1 : Int) ≤ (m : Int) + 1 := by omega
  have hi2 : (m : Int) + 1 ≤ (m : Int) + 2 := by omega
  have hi3 : (m : Int) + 2 - 1 = (m : Int) + 1 := by omega
  go_wp2
  go_loopw [7, 9, 41] (fun q _ i wr => ∃ (k : Nat) (o : Bool) (x : ByteArray), k ≤ m ∧ i = .int .i64 k ∧ q = .bool o ∧ x.size ≤ 100000 ∧ Blk wr w.heap.size 9 #[.string x] ∧ Hid (r = (o && midL ((mids.map (·.data.toList)).drop k) x.data.toList)) ∧ Hid (Fr (· = w.heap.size) W0 wr) ∧ Below w.heap.size w wr) (fun _ _ i _ => m - (intOf i).toNat)
  case atStart => exact ⟨0, ok2, v2, Nat.zero_le _, rfl, rfl, hv2, hB2, Lib.hid HR2.out, HF2, hb2⟩
  case round =>
    obtain ⟨k, o, x, hk, rfl, rfl, hx, hBx, HRk, HFk, hbk⟩ := hrel
    rcases (by omega : k < m ∨ k = m) with hlt | heq
    · have hkm : k < mids.length := by rw [← HMM.out]; exact hlt
      obtain ⟨b, hb⟩ : ∃ b, b = mids[k] := ⟨_, rfl⟩
      have hcx := (hcell.out _ HFk.out).2.2 k hkm
      rw [← hb] at hcx
      have hbz : b.size ≤ 100000 := by rw [hb]; exact HM.out _ (List.getElem_mem hkm)
      have HD : Hid ((mids.map (·.data.toList)).drop k = b.data.toList :: (mids.map (·.data.toList)).drop (k + 1)) := by
        show _ = _
        rw [List.drop_eq_getElem_cons (by simpa using hkm), List.getElem_map, ← hb]
      clear hb
      have hki : (k : Int) < (m : Int) := by omega
      have HC3 := fun W hB => Lib.hid (take_any 100 (enters_of Tryz.func100 (by kernel_rfl) rfl) b x o w.heap.size W _ hx hB (next_take b x W hbz hx))
      go_wp2_with fail
      refine (HC3 _ hBx).out.mono ?_
      rintro e w3 ⟨o3, v3, rfl, hv3, hB3, hf3, hcase⟩
      have HR3 : Hid (r = (o3 && midL ((mids.map (·.data.toList)).drop (k + 1)) v3.data.toList)) := by
        show _ = _
        rw [HRk.out, HD.out]
        unfold midL
        rcases hcase with ⟨rfl, h1, rfl⟩ | ⟨rfl, h1⟩
        · rw [h1]
          cases (mids.map (·.data.toList)).drop (k + 1) <;> rfl
        · cases o with
          | false => rfl
          | true => rw [h1 rfl]; rfl
      have HF3 := Lib.hid (HFk.out.trans hf3)
      have hb3 := below_of_frB hbk hbk.size hf3
      clear hcase HRk hf3
      go_wp2
      go_roundw
      case rel => exact ⟨k + 1, o3, v3, by omega, by go_num, rfl, hv3, hB3, HR3, HF3, hb3⟩
      case measure => simp [intOf]; omega
    · have HI : Hid (r = o) := by
        show _ = _
        rw [HRk.out, List.drop_of_length_le (by rw [List.length_map, ← HMM.out]; omega)]
        show (o && true) = o
        simp
      have hki : ¬ (k : Int) < (m : Int) := by omega
      clear heq HRk
      go_wp2
      go_ret
      exact ⟨by rw [HI.out]; rfl, hbk⟩
theorem one_any (p s : ByteArray) (w : World) (hp : p.size ≤ 100000) (hs : s.size ≤ 100000) (hT : Tab w) :
    Calls Tryz.prog 84 #[.string p, .string s] w fun e w' => e = .returned (.bool (oneL p.data.toList s.data.toList)) ∧ Below w.heap.size w w' := by
  have h0 : (cutS 42 p.data.toList).length ≠ 0 := fun h => cutS_ne 42 _ (List.length_eq_zero_iff.1 h)
  rcases (by omega : (cutS 42 p.data.toList).length = 1 ∨ 2 ≤ (cutS 42 p.data.toList).length) with h | h
  · exact one_lone p s w hp hs hT h
  · exact one_many p s w hp hs hT h
end Go.Proofs.YthidjdjcjjbpbaaGreatDoor

namespace Go.Proofs.YthidjdjcjjbpbaaGreatDoor
open Go.RowKit Glob
set_option linter.unusedVariables false

theorem infoStr : (Tryz.prog.info? 9).map (fun i => (i.zero, i.size, i.bytes)) = some (some (.string ⟨#[]⟩), 1, 16) := by kernel_rfl
theorem cut_hit_at (S : List UInt8) (f k : Nat) (hf : f ≤ k) (hk : k < S.length) (hc : S[k] = 47) (hno : (47 : UInt8) ∉ (S.drop f).take (k - f)) : cutS 47 (S.drop f) = (S.drop f).take (k - f) :: cutS 47 (S.drop (k + 1)) := by
  have h1 : S.drop f = (S.drop f).take (k - f) ++ 47 :: S.drop (k + 1) := by
    conv => lhs; rw [← List.take_append_drop (k - f) (S.drop f)]
    rw [List.drop_drop, show f + (k - f) = k from by omega, List.drop_eq_getElem_cons hk, hc]
  conv => lhs; rw [h1]
  exact cutS_hit 47 _ _ hno
theorem no_more (S : List UInt8) (f k : Nat) (hf : f ≤ k) (hk : k < S.length) (hc : S[k] ≠ 47) (hno : (47 : UInt8) ∉ (S.drop f).take (k - f)) : (47 : UInt8) ∉ (S.drop f).take (k + 1 - f) := by
  rw [show k + 1 - f = (k - f) + 1 from by omega, List.take_succ_eq_append_getElem (by rw [List.length_drop]; omega), List.mem_append]
  rintro (h | h)
  · exact hno h
  · rw [List.mem_singleton, List.getElem_drop] at h
    simp only [show f + (k - f) = k from by omega] at h
    exact hc h.symm
set_option maxHeartbeats 2000000 in
theorem rsplit_any (s : ByteArray) (w : World) (hs : s.size ≤ 100000) : Calls Tryz.prog 42 #[.string s] w fun e w' =>
    ∃ (A : Option Addr) (c : Nat) (l : List ByteArray), l.map (·.data.toList) = cutS 47 s.data.toList ∧ e = .returned (.slice A l.length c) ∧ SS w' A l ∧ Below w.heap.size w w' := by
  have hsl : s.data.toList.length = s.size := by cases s; simp [ByteArray.size]
  have HS := Lib.hid hsl
  clear hsl
  go_enter Tryz.func42, Tryz.ntmps42
  go_wp2
  go_loopw [3, 4, 5] (fun v f i wr => ∃ (k g : Nat) (l : List ByteArray), k ≤ s.size + 1 ∧ i = .int .i64 k ∧ f = .int .i64 g ∧ g ≤ k ∧ l.length ≤ k ∧ Hid (OR 9 wr w.heap.size v (l.map Value.string)) ∧ Hid (Below w.heap.size w wr) ∧
      Hid (k = s.size + 1 → l.map (·.data.toList) = cutS 47 s.data.toList) ∧ Hid (k ≤ s.size → cutS 47 s.data.toList = l.map (·.data.toList) ++ cutS 47 (s.data.toList.drop g) ∧ (47 : UInt8) ∉ (s.data.toList.drop g).take (k - g))) (fun _ _ i _ => s.size + 1 - (intOf i).toNat)
  case atStart => exact ⟨0, 0, [], Nat.zero_le _, rfl, rfl, Nat.le_refl _, Nat.le_refl _, Lib.hid (OR.nil _ _ _), Lib.hid (Below.refl _ _), Lib.hid (fun h => by omega), Lib.hid (fun _ => ⟨rfl, by simp⟩)⟩
  case round =>
    obtain ⟨k, g, l, hk, rfl, rfl, hg, hl, HO, HB, HE, HC⟩ := hrel
    rcases (by omega : k = s.size + 1 ∨ k = s.size ∨ k < s.size) with heq | heq | hlt
    · have e1 : decide (k ≤ s.size) = false := by rw [decide_eq_false_iff_not]; omega
      have hkk : ¬ ((k : Int) ≤ (s.size : Int)) := by omega
      have HE' := Lib.hid (HE.out heq)
      clear heq HE HC
      obtain ⟨A, c, rfl, _, _, hR, _⟩ := HO.out.shape
      have HR := Lib.hid hR
      clear hR HO
      go_wp2
      go_ret
      exact ⟨A, c, l, HE'.out, by simp, by have := HR.out; unfold SS; rw [List.length_map] at this; exact this, HB.out⟩
    · have HC' := Lib.hid (HC.out (by omega))
      clear HC HE
      have e1 : decide (k ≤ s.size) = true := by rw [decide_eq_true_iff]; omega
      have hkk : ((k : Int) ≤ (s.size : Int)) := by omega
      have e2 : ((k : Int) == (s.size : Int)) = true := by rw [beq_iff_eq]; omega
      have hgk : (g : Int) ≤ (k : Int) := by omega
      have HKK := Lib.hid heq
      clear heq
      have hszB := HB.out.size
      have hx : (s.extract g k).data.toList = s.data.toList.drop g := by simp [List.extract]; rw [List.take_of_length_le (by rw [List.length_drop, HS.out, HKK.out]; omega)]
      have HX := Lib.hid hx
      clear hx
      go_wp2_with (at_builtin; refine app_cell wr rfl _ _ 32 9 _ 16 Tryz.underlying32 infoStr rfl rfl w.heap.size u3 _ rfl HO.out _ rfl rfl (by rw [List.length_map]; simp only [maxLen]; omega) (by rw [List.length_map]; omega) hszB ?_)
      intro v' w' hO hG hv'
      have HO' : Hid (OR 9 w' w.heap.size v' ((l ++ [s.extract g k]).map Value.string)) := by rw [List.map_append]; exact hO
      have HB' : Hid (Below w.heap.size w w') := below_grown (HB.out.alloc hszB _) hG (by simp; omega) HO.out.ge
      have HE' : Hid (k + 1 = s.size + 1 → (l ++ [s.extract g k]).map (·.data.toList) = cutS 47 s.data.toList) := fun _ => by
        obtain ⟨h1, h2⟩ := HC'.out
        rw [h1, List.map_append, List.map_cons, List.map_nil, HX.out, cutS_miss 47 (s.data.toList.drop g)]
        rwa [List.take_of_length_le (by rw [List.length_drop, HS.out, HKK.out]; exact Nat.le_refl _)] at h2
      have HK1 : Hid (¬ k + 1 ≤ s.size) := by show ¬ _; rw [HKK.out]; omega
      clear hO hG hv' HO HB HC'
      go_wp2
      go_roundw
      case rel => exact ⟨k + 1, k + 1, l ++ [s.extract g k], by omega, by go_num, by go_num, Nat.le_refl _, by simp; omega, HO', HB', HE', Lib.hid (fun h => absurd h HK1.out)⟩
      case measure => simp [intOf]; omega
    · have HC' := Lib.hid (HC.out (by omega))
      clear HC HE
      have hkl : k < s.data.toList.length := by rw [HS.out]; exact hlt
      have e1 : decide (k ≤ s.size) = true := by rw [decide_eq_true_iff]; omega
      have hkk : ((k : Int) ≤ (s.size : Int)) := by omega
      have hkk2 : ((k : Int) < (s.size : Int)) := by omega
      have e2 : ((k : Int) == (s.size : Int)) = false := by rw [beq_eq_false_iff_ne]; omega
      have hgk : (g : Int) ≤ (k : Int) := by omega
      obtain ⟨c, hc⟩ : ∃ c, c = s[k] := ⟨_, rfl⟩
      have hc2 : s.data.toList[k] = c := hc.symm
      have hc' := hc.symm
      have HC2 := Lib.hid hc2
      clear hc hc2
      have hszB := HB.out.size
      by_cases h47 : c = 47
      · subst h47
        have hx : (s.extract g k).data.toList = (s.data.toList.drop g).take (k - g) := by simp [List.extract]
        have HX := Lib.hid hx
        clear hx
        go_wp2_with (at_builtin; refine app_cell wr rfl _ _ 32 9 _ 16 Tryz.underlying32 infoStr rfl rfl w.heap.size u3 _ rfl HO.out _ rfl rfl (by rw [List.length_map]; simp only [maxLen]; omega) (by rw [List.length_map]; omega) hszB ?_)
        intro v' w' hO hG hv'
        have HO' : Hid (OR 9 w' w.heap.size v' ((l ++ [s.extract g k]).map Value.string)) := by rw [List.map_append]; exact hO
        have HB' : Hid (Below w.heap.size w w') := below_grown (HB.out.alloc hszB _) hG (by simp; omega) HO.out.ge
        have HC3 : Hid (k + 1 ≤ s.size → cutS 47 s.data.toList = (l ++ [s.extract g k]).map (·.data.toList) ++ cutS 47 (s.data.toList.drop (k + 1)) ∧ (47 : UInt8) ∉ (s.data.toList.drop (k + 1)).take (k + 1 - (k + 1))) := fun _ => by
          obtain ⟨h1, h2⟩ := HC'.out
          refine ⟨?_, by simp⟩
          rw [h1, cut_hit_at _ g k hg hkl HC2.out h2, List.map_append, List.map_cons, List.map_nil, HX.out, List.append_assoc]
          rfl
        have HK1 : Hid (¬ k + 1 = s.size + 1) := by show ¬ _; omega
        clear hO hG hv' HO HB HC'
        go_wp2
        go_roundw
        case rel => exact ⟨k + 1, k + 1, l ++ [s.extract g k], by omega, by go_num, by go_num, Nat.le_refl _, by simp; omega, HO', HB', Lib.hid (fun h => absurd h HK1.out), HC3⟩
        case measure => simp [intOf]; omega
      · have e3 : ((c.toNat : Int) == 47) = false := by
          rw [beq_eq_false_iff_ne]
          intro e
          exact h47 (UInt8.toNat_inj.1 (by show _ = 47; omega))
        have HC3 : Hid (k + 1 ≤ s.size → cutS 47 s.data.toList = l.map (·.data.toList) ++ cutS 47 (s.data.toList.drop g) ∧ (47 : UInt8) ∉ (s.data.toList.drop g).take (k + 1 - g)) := fun _ => by
          obtain ⟨h1, h2⟩ := HC'.out
          exact ⟨h1, no_more _ g k hg hkl (by rw [HC2.out]; exact h47) h2⟩
        have HK1 : Hid (¬ k + 1 = s.size + 1) := by show ¬ _; omega
        clear h47 HC'
        go_wp2
        go_roundw
        case rel => exact ⟨k + 1, g, l, by omega, by go_num, rfl, by omega, by omega, HO, HB, Lib.hid (fun h => absurd h HK1.out), HC3⟩
        case measure => simp [intOf]; omega
end Go.Proofs.YthidjdjcjjbpbaaGreatDoor

namespace Go.Proofs.YthidjdjcjjbpbaaGreatDoor
open Go.RowKit Glob
set_option linter.unusedVariables false

namespace Glob
def barS : List UInt8 := [91, 93, 123, 125, 92]
def okW (wild : Bool) (c : UInt8) : Bool := okB c && (!barS.contains c && (wild || !([42, 63] : List UInt8).contains c))
def mayL (wild : Bool) (s : List UInt8) : Bool := !s.isEmpty && (decide (s.length ≤ 128) && (s.all (okW wild) && segsL s))
theorem plainL_all (t s : List UInt8) : plainL t s = (s.all (fun c => okB c && !t.contains c) && (!s.isEmpty && decide (s.length ≤ 128))) := by
  unfold plainL
  rw [← Bool.and_assoc]
  congr 1
  rw [Bool.eq_iff_iff, Bool.and_eq_true, List.all_eq_true, List.all_eq_true, List.all_eq_true]
  simp only [Bool.and_eq_true, Bool.not_eq_true', List.contains_eq_mem, decide_eq_false_iff_not]
  constructor
  · rintro ⟨h1, h2⟩ x hx
    exact ⟨h1 x hx, fun ht => h2 x ht hx⟩
  · intro h
    exact ⟨fun x hx => (h x hx).1, fun x hx hs => (h x hs).2 hx⟩
theorem may_pat (s : List UInt8) : mayL true s = patL s := by
  unfold mayL patL
  rw [plainL_all]
  have : s.all (okW true) = s.all (fun c => okB c && !([91, 93, 123, 125, 92] : List UInt8).contains c) := by
    congr 1; funext c; unfold okW barS; simp
  rw [this]
  cases s.isEmpty <;> cases decide (s.length ≤ 128) <;> cases s.all (fun c => okB c && !([91, 93, 123, 125, 92] : List UInt8).contains c) <;> rfl
theorem may_path (s : List UInt8) : mayL false s = pathL s := by
  unfold mayL pathL
  rw [plainL_all]
  have : s.all (okW false) = s.all (fun c => okB c && !([91, 93, 123, 125, 92, 42, 63] : List UInt8).contains c) := by
    congr 1; funext c; unfold okW barS
    simp only [List.contains_cons, List.contains_nil, Bool.or_false, Bool.false_or]
    cases okB c <;> cases (c == 91) <;> cases (c == 93) <;> cases (c == 123) <;> cases (c == 125) <;> cases (c == 92) <;> cases (c == 42) <;> cases (c == 63) <;> rfl
  rw [this]
  cases s.isEmpty <;> cases decide (s.length ≤ 128) <;> cases s.all (fun c => okB c && !([91, 93, 123, 125, 92, 42, 63] : List UInt8).contains c) <;> rfl
theorem path_pat (s : List UInt8) (h : pathL s = true) : patL s = true := by
  rw [← may_path] at h
  rw [← may_pat]
  unfold mayL at h ⊢
  simp only [Bool.and_eq_true, List.all_eq_true] at h ⊢
  refine ⟨h.1, h.2.1, fun x hx => ?_, h.2.2.2⟩
  have := h.2.2.1 x hx
  unfold okW at this ⊢
  simp only [Bool.and_eq_true] at this ⊢
  exact ⟨this.1, this.2.1, by simp⟩
/-- why a byte may not be -/
theorem okW_why (wild : Bool) (c : UInt8) (h : okW wild c = false) : c.toNat < 33 ∨ 126 < c.toNat ∨ c.toNat = 91 ∨ c.toNat = 93 ∨ c.toNat = 123 ∨ c.toNat = 125 ∨ c.toNat = 92 ∨ (wild = false ∧ (c.toNat = 42 ∨ c.toNat = 63)) := by
  revert wild
  refine all_u8 (p := fun c => ∀ wild : Bool, okW wild c = false → c.toNat < 33 ∨ 126 < c.toNat ∨ c.toNat = 91 ∨ c.toNat = 93 ∨ c.toNat = 123 ∨ c.toNat = 125 ∨ c.toNat = 92 ∨ (wild = false ∧ (c.toNat = 42 ∨ c.toNat = 63))) ?_ c
  decide +kernel
theorem okW_yes (wild : Bool) (c : UInt8) (h : okW wild c = true) : 33 ≤ c.toNat ∧ c.toNat ≤ 126 ∧ c.toNat ≠ 91 ∧ c.toNat ≠ 93 ∧ c.toNat ≠ 123 ∧ c.toNat ≠ 125 ∧ c.toNat ≠ 92 ∧ (wild = false → c.toNat ≠ 42 ∧ c.toNat ≠ 63) := by
  revert wild
  refine all_u8 (p := fun c => ∀ wild : Bool, okW wild c = true → 33 ≤ c.toNat ∧ c.toNat ≤ 126 ∧ c.toNat ≠ 91 ∧ c.toNat ≠ 93 ∧ c.toNat ≠ 123 ∧ c.toNat ≠ 125 ∧ c.toNat ≠ 92 ∧ (wild = false → c.toNat ≠ 42 ∧ c.toNat ≠ 63)) ?_ c
  decide +kernel
end Glob
set_option maxRecDepth 100000 in
set_option maxHeartbeats 4000000 in
theorem gmay_any (s : ByteArray) (wild : Bool) (w : World) (hs : s.size ≤ 100000) : Calls Tryz.prog 32 #[.string s, .bool wild] w fun e w' => e = .returned (.bool (mayL wild s.data.toList)) ∧ Below w.heap.size w w' := by
  have hsl : s.data.toList.length = s.size := by cases s; simp [ByteArray.size]
  have HS := Lib.hid hsl
  obtain ⟨r, hr⟩ : ∃ r, r = mayL wild s.data.toList := ⟨_, rfl⟩
  have HR := Lib.hid hr
  rw [← hr]
  clear hr
  rcases (by omega : s.size < 1 ∨ 128 < s.size ∨ (1 ≤ s.size ∧ s.size ≤ 128)) with g | g | ⟨g1, g2⟩
  · have HI : Hid (r = false) := by
      show _ = _
      rw [HR.out, List.eq_nil_of_length_eq_zero (by omega : s.data.toList.length = 0)]; rfl
    have e1 : decide ((s.size : Int) < 1) = true := by rw [decide_eq_true_iff]; omega
    clear hsl
    go_enter Tryz.func32, Tryz.ntmps32
    go_wp2
    go_ret
    exact ⟨by rw [HI.out]; rfl, Below.refl _ _⟩
  · have HI : Hid (r = false) := by
      show _ = _
      rw [HR.out]; unfold mayL; rw [decide_eq_false (by omega : ¬ s.data.toList.length ≤ 128)]; simp
    have e1 : decide ((s.size : Int) < 1) = false := by rw [decide_eq_false_iff_not]; omega
    have e2 : decide (128 < (s.size : Int)) = true := by rw [decide_eq_true_iff]; omega
    clear hsl
    go_enter Tryz.func32, Tryz.ntmps32
    go_wp2
    go_ret
    exact ⟨by rw [HI.out]; rfl, Below.refl _ _⟩
  · have HI : Hid (r = (s.data.toList.all (okW wild) && segsL s.data.toList)) := by
      show _ = _
      rw [HR.out]; unfold mayL
      rw [decide_eq_true (by omega : s.data.toList.length ≤ 128), show s.data.toList.isEmpty = false from by rw [List.isEmpty_eq_false_iff]; intro e; rw [e] at hsl; simp at hsl; omega]
      rfl
    have e1 : decide ((s.size : Int) < 1) = false := by rw [decide_eq_false_iff_not]; omega
    have e2 : decide (128 < (s.size : Int)) = false := by rw [decide_eq_false_iff_not]; omega
    have HP := Lib.hid (rsplit_any s w hs)
    clear hsl
    go_enter Tryz.func32, Tryz.ntmps32
    go_wp2
    go_loop [5] (fun i => ∃ k : Nat, k ≤ s.size ∧ i = .int .i64 k ∧ Hid ((s.data.toList.take k).all (okW wild) = true)) (fun i => s.size - (intOf i).toNat)
    case atStart => exact ⟨0, Nat.zero_le _, rfl, Lib.hid rfl⟩
    case round =>
      obtain ⟨k, hk, rfl, HK⟩ := hrel
      rcases (by omega : k < s.size ∨ k = s.size) with hlt | heq
      · obtain ⟨c, hc⟩ : ∃ c, c = s[k] := ⟨_, rfl⟩
        have hc' := hc.symm
        have HC := Lib.hid hc
        clear hc
        have hkk : (k : Int) < (s.size : Int) := by omega
        cases ho : okW wild c with
        | true =>
          obtain ⟨a1, a2, a3, a4, a5, a6, a7, a8⟩ := okW_yes wild c ho
          have HK' : Hid ((s.data.toList.take (k + 1)).all (okW wild) = true) := by
            show _ = _
            rw [List.take_succ_eq_append_getElem (by rw [HS.out]; exact hlt), List.all_append, HK.out]
            show (okW wild s[k] && true) = true
            rw [← HC.out, ho]; rfl
          have f1 : decide ((c.toNat : Int) < 33) = false := by rw [decide_eq_false_iff_not]; omega
          have f2 : decide (126 < (c.toNat : Int)) = false := by rw [decide_eq_false_iff_not]; omega
          have f3 : ((c.toNat : Int) == 91) = false := by rw [beq_eq_false_iff_ne]; omega
          have f4 : ((c.toNat : Int) == 93) = false := by rw [beq_eq_false_iff_ne]; omega
          have f5 : ((c.toNat : Int) == 123) = false := by rw [beq_eq_false_iff_ne]; omega
          have f6 : ((c.toNat : Int) == 125) = false := by rw [beq_eq_false_iff_ne]; omega
          have f7 : ((c.toNat : Int) == 92) = false := by rw [beq_eq_false_iff_ne]; omega
          clear ho
          cases wild with
          | true =>
            clear a8
            go_wp2
            go_round
            case rel => exact ⟨k + 1, by omega, by go_num, HK'⟩
            case measure => simp [intOf]; omega
          | false =>
            obtain ⟨a9, a10⟩ := a8 rfl
            clear a8
            have f8 : ((c.toNat : Int) == 42) = false := by rw [beq_eq_false_iff_ne]; omega
            have f9 : ((c.toNat : Int) == 63) = false := by rw [beq_eq_false_iff_ne]; omega
            go_wp2
            go_round
            case rel => exact ⟨k + 1, by omega, by go_num, HK'⟩
            case measure => simp [intOf]; omega
        | false =>
          have hy := okW_why wild c ho
          have HF : Hid (r = false) := by
            show _ = _
            rw [HI.out, Bool.and_eq_false_iff]
            refine .inl (List.all_eq_false.2 ⟨s[k], mem_at s k hlt, ?_⟩)
            rw [← HC.out, ho]; simp
          clear ho HK HC HR HI HS
          rcases hy with hy | hy | hy | hy | hy | hy | hy | ⟨rfl, hy | hy⟩
          · have f1 : decide ((c.toNat : Int) < 33) = true := by rw [decide_eq_true_iff]; omega
            go_wp2; go_ret; exact ⟨by rw [HF.out]; rfl, Below.refl _ _⟩
          · have f1 : decide ((c.toNat : Int) < 33) = false := by rw [decide_eq_false_iff_not]; omega
            have f2 : decide (126 < (c.toNat : Int)) = true := by rw [decide_eq_true_iff]; omega
            go_wp2; go_ret; exact ⟨by rw [HF.out]; rfl, Below.refl _ _⟩
          · have hi : (c.toNat : Int) = 91 := by omega
            clear hy; go_wp2; go_ret; exact ⟨by rw [HF.out]; rfl, Below.refl _ _⟩
          · have hi : (c.toNat : Int) = 93 := by omega
            clear hy; go_wp2; go_ret; exact ⟨by rw [HF.out]; rfl, Below.refl _ _⟩
          · have hi : (c.toNat : Int) = 123 := by omega
            clear hy; go_wp2; go_ret; exact ⟨by rw [HF.out]; rfl, Below.refl _ _⟩
          · have hi : (c.toNat : Int) = 125 := by omega
            clear hy; go_wp2; go_ret; exact ⟨by rw [HF.out]; rfl, Below.refl _ _⟩
          · have hi : (c.toNat : Int) = 92 := by omega
            clear hy; go_wp2; go_ret; exact ⟨by rw [HF.out]; rfl, Below.refl _ _⟩
          · have hi : (c.toNat : Int) = 42 := by omega
            clear hy; go_wp2; go_ret; exact ⟨by rw [HF.out]; rfl, Below.refl _ _⟩
          · have hi : (c.toNat : Int) = 63 := by omega
            clear hy; go_wp2; go_ret; exact ⟨by rw [HF.out]; rfl, Below.refl _ _⟩
      · have hkk : ¬ (k : Int) < (s.size : Int) := by omega
        have HA : Hid (r = segsL s.data.toList) := by
          show _ = _
          rw [HI.out]
          have := HK.out
          rw [List.take_of_length_le (by rw [HS.out]; omega)] at this
          rw [this]; rfl
        clear heq HK HI HR
        go_wp2_with fail
        refine HP.out.mono ?_
        rintro e w' ⟨A, cp, l, hl, rfl, hA, hb⟩
        have hll : l.length ≤ 100001 := by
          have h1 := cutS_len 47 s.data.toList
          rw [← hl, List.length_map, HS.out] at h1
          omega
        have HL : Hid (r = !(l.any (fun x => segBad x.data.toList))) := by show _ = _; rw [HA.out, any_map, hl]; rfl
        clear hl HA HP
        obtain ⟨n, hn⟩ : ∃ n, n = l.length := ⟨_, rfl⟩
        rw [← hn] at hll ⊢
        have HN := Lib.hid hn
        clear hn
        go_wp2
        go_loop [8] (fun i => ∃ j : Nat, j ≤ n ∧ i = .int .i64 j ∧ Hid ((l.take j).any (fun x => segBad x.data.toList) = false)) (fun i => n - (intOf i).toNat)
        case atStart => exact ⟨0, Nat.zero_le _, rfl, Lib.hid rfl⟩
        case round =>
          obtain ⟨j, hj, rfl, HJ⟩ := hrel
          rcases (by omega : j < n ∨ j = n) with hlt | heq
          · have hjl : j < l.length := by rw [← HN.out]; exact hlt
            obtain ⟨ad, rfl, _, hc⟩ := hA.at_ hjl
            clear hA
            have hji : (j : Int) < (n : Int) := by omega
            obtain ⟨x, hx⟩ : ∃ x, x = l[j] := ⟨_, rfl⟩
            rw [← hx] at hc
            have HX := Lib.hid hx
            clear hx
            have hv := seg_val x
            have HBad : Hid (segBad x.data.toList = true → r = false) := fun h => by
              rw [HL.out]
              have : l.any (fun x => segBad x.data.toList) = true := List.any_eq_true.2 ⟨l[j], List.getElem_mem hjl, by rw [← HX.out]; exact h⟩
              rw [this]; rfl
            have HGood : Hid (segBad x.data.toList = false → (l.take (j + 1)).any (fun x => segBad x.data.toList) = false) := fun h => by
              rw [List.take_succ_eq_append_getElem hjl, List.any_append, HJ.out, ← HX.out]
              show (false || (segBad x.data.toList || false)) = false
              rw [h]; rfl
            by_cases h0 : x.toList = []
            · have HV := Lib.hid (HBad.out (by rw [hv, h0]; rfl))
              have hb0 : x.toList.isEmpty = true := by rw [h0]; rfl
              clear hv HBad HGood
              go_wp2; go_ret; exact ⟨by rw [HV.out]; rfl, hb⟩
            · have h0' : (x.toList == []) = false := beq_eq_false_iff_ne.2 h0
              have hb0 : x.toList.isEmpty = false := by rw [List.isEmpty_eq_false_iff]; exact h0
              cases h1 : (x.toList == [46]) with
              | true =>
                have HV := Lib.hid (HBad.out (by rw [hv, h0', h1]; rfl))
                clear hv HBad HGood
                go_wp2; go_ret; exact ⟨by rw [HV.out]; rfl, hb⟩
              | false =>
                cases h2 : (x.toList == [46, 46]) with
                | true =>
                  have HV := Lib.hid (HBad.out (by rw [hv, h0', h1, h2]; rfl))
                  clear hv HBad HGood
                  go_wp2; go_ret; exact ⟨by rw [HV.out]; rfl, hb⟩
                | false =>
                  have HV := Lib.hid (HGood.out (by rw [hv, h0', h1, h2]; rfl))
                  clear hv HBad HGood
                  go_wp2
                  go_round
                  case rel => exact ⟨j + 1, by omega, by go_num, HV⟩
                  case measure => simp [intOf]; omega
          · have hji : ¬ (j : Int) < (n : Int) := by omega
            have HV : Hid (r = true) := by
              show _ = _
              have := HJ.out
              rw [List.take_of_length_le (by rw [← HN.out]; omega)] at this
              rw [HL.out, this]; rfl
            clear heq hA
            go_wp2; go_ret; exact ⟨by rw [HV.out]; rfl, hb⟩
theorem rpath_any (s : ByteArray) (w : World) (hs : s.size ≤ 100000) : Calls Tryz.prog 21 #[.string s] w fun e w' => e = .returned (.bool (pathL s.data.toList)) ∧ Below w.heap.size w w' := by
  have HP := gmay_any s false w hs
  rw [may_path] at HP
  obtain ⟨r, hr⟩ : ∃ r, r = pathL s.data.toList := ⟨_, rfl⟩
  rw [← hr] at HP ⊢
  clear hr
  have HP := Lib.hid HP
  go_enter Tryz.func21, Tryz.ntmps21
  go_wp2_with fail
  refine HP.out.mono ?_
  rintro e w' ⟨rfl, hb⟩
  go_wp2
  go_ret
  exact ⟨rfl, hb⟩
theorem rpattern_any (s : ByteArray) (w : World) (hs : s.size ≤ 100000) : Calls Tryz.prog 50 #[.string s] w fun e w' => e = .returned (.bool (patL s.data.toList)) ∧ Below w.heap.size w w' := by
  have HP := gmay_any s true w hs
  rw [may_pat] at HP
  obtain ⟨r, hr⟩ : ∃ r, r = patL s.data.toList := ⟨_, rfl⟩
  rw [← hr] at HP ⊢
  clear hr
  have HP := Lib.hid HP
  go_enter Tryz.func50, Tryz.ntmps50
  go_wp2_with fail
  refine HP.out.mono ?_
  rintro e w' ⟨rfl, hb⟩
  go_wp2
  go_ret
  exact ⟨rfl, hb⟩
end Go.Proofs.YthidjdjcjjbpbaaGreatDoor

namespace Go.Proofs.YthidjdjcjjbpbaaGreatDoor
open Go.RowKit Glob
set_option linter.unusedVariables false

namespace Glob
def allL (p : List UInt8 → List UInt8 → Bool) : List (List UInt8) → List (List UInt8) → Bool
  | [], [] => true
  | a :: l, b :: m => p a b && allL p l m
  | _, _ => false
def matchL (p s : List UInt8) : Bool := patL p && (pathL s && allL oneL (cutS 47 p) (cutS 47 s))
def prefixL (s : List UInt8) : Bool := !s.isEmpty && (decide (s.length ≤ 64) && s.all isHex)
end Glob
theorem allS_allL (p : List UInt8 → List UInt8 → Bool) : ∀ (l m : List ByteArray), allS (fun a b => p a.data.toList b.data.toList) l m = allL p (l.map (·.data.toList)) (m.map (·.data.toList))
  | [], [] => rfl
  | [], _ :: _ => rfl
  | _ :: _, [] => rfl
  | a :: l, b :: m => by
    show (p a.data.toList b.data.toList && allS _ l m) = (p a.data.toList b.data.toList && allL p _ _)
    rw [allS_allL p l m]
theorem equalFunc_all (g : Nat) (lb : Array Value) (eg : ∀ args w, (callFunc g args).run Tryz.prog w = .ok (.enter g args) w) (A B : Option Addr) (c d : Nat) (l m : List ByteArray) (w : World) (p : ByteArray → ByteArray → Bool)
    (hl : SS w A l) (hm : SS w B m) (hn : l.length ≤ 9223372036854775807) (hn2 : m.length ≤ 9223372036854775807) (hp : PredS2 g lb w l m p) :
    Calls Tryz.prog 82 #[.slice A l.length c, .slice B m.length d, .func (.func g) #[] lb] w fun e w' => e = .returned (.bool (allS p l m)) ∧ Below w.heap.size w w' := by
  by_cases h : l.length = m.length
  · rw [h]
    exact equalFunc_any g lb eg A B m.length c d l m w p hl hm h rfl hn2 hp
  · rw [allS_len p l m h]
    exact equalFunc_len g lb A B _ _ c d w h hn hn2
theorem seg_sizes {l : List ByteArray} {s : ByteArray} (hs : s.size ≤ 100000) (hl : l.map (·.data.toList) = cutS 47 s.data.toList) : l.length ≤ 100001 ∧ ∀ a ∈ l, a.size ≤ 100000 := by
  have h2 : s.data.toList.length = s.size := by cases s; simp [ByteArray.size]
  refine ⟨?_, fun a ha => ?_⟩
  · have h1 := cutS_len 47 s.data.toList
    rw [← hl, List.length_map] at h1
    omega
  · have h := cutS_le 47 s.data.toList a.data.toList (by rw [← hl]; exact List.mem_map_of_mem ha)
    have h3 : a.data.toList.length = a.size := by cases a; simp [ByteArray.size]
    omega
set_option maxHeartbeats 1000000 in
theorem match_any (p s : ByteArray) (w : World) (hp : p.size ≤ 100000) (hs : s.size ≤ 100000) (hT : Tab w) : Calls Tryz.prog 70 #[.string p, .string s] w fun e w' => e = .returned (.bool (matchL p.data.toList s.data.toList)) ∧ Below w.heap.size w w' := by
  obtain ⟨r, hr⟩ : ∃ r, r = matchL p.data.toList s.data.toList := ⟨_, rfl⟩
  rw [← hr]
  have HR := Lib.hid hr
  clear hr
  have HA := fun w h => Lib.hid (pattern_any p w hp h)
  have HB := fun w h => Lib.hid (path_any s w hs h)
  cases h1 : patL p.data.toList with
  | false =>
    have HI : Hid (r = false) := by show _ = _; rw [HR.out]; unfold matchL; rw [h1]; rfl
    rw [h1] at HA
    clear h1
    go_enter Tryz.func70, Tryz.ntmps70
    go_wp2_with fail
    refine (HA _ hT).out.mono ?_
    rintro e w1 ⟨rfl, hb1⟩
    go_wp2
    go_ret
    exact ⟨by rw [HI.out]; rfl, hb1⟩
  | true =>
    cases h2 : pathL s.data.toList with
    | false =>
      have HI : Hid (r = false) := by show _ = _; rw [HR.out]; unfold matchL; rw [h1, h2]; rfl
      rw [h1] at HA
      rw [h2] at HB
      clear h1 h2
      go_enter Tryz.func70, Tryz.ntmps70
      go_wp2_with fail
      refine (HA _ hT).out.mono ?_
      rintro e w1 ⟨rfl, hb1⟩
      go_wp2_with fail
      refine (HB _ (hT.below hb1)).out.mono ?_
      rintro e w2 ⟨rfl, hb2⟩
      go_wp2
      go_ret
      exact ⟨by rw [HI.out]; rfl, hb1.trans (hb2.mono hb1.size)⟩
    | true =>
      have HI : Hid (r = allL oneL (cutS 47 p.data.toList) (cutS 47 s.data.toList)) := by show _ = _; rw [HR.out]; unfold matchL; rw [h1, h2]; rfl
      have HC := fun w h => Lib.hid (gsplit_yes p w hp h h1)
      have HD := fun w h => Lib.hid (gsplit_yes s w hs h (path_pat _ h2))
      rw [h1] at HA
      rw [h2] at HB
      clear h1 h2
      go_enter Tryz.func70, Tryz.ntmps70
      go_wp2_with fail
      refine (HA _ hT).out.mono ?_
      rintro e w1 ⟨rfl, hb1⟩
      have hT1 := hT.below hb1
      go_wp2_with fail
      refine (HB _ hT1).out.mono ?_
      rintro e w2 ⟨rfl, hb2⟩
      have hT2 := hT1.below hb2
      go_wp2_with fail
      refine (HC _ hT2).out.mono ?_
      rintro e w3 ⟨A, l, hl, rfl, hA, hb3⟩
      have hT3 := hT2.below hb3
      have HL := Lib.hid hl
      clear hl
      go_wp2_with fail
      refine (HD _ hT3).out.mono ?_
      rintro e w4 ⟨B, m, hm, rfl, hB, hb4⟩
      have hT4 := hT3.below hb4
      have HM := Lib.hid hm
      clear hm
      have hsl := seg_sizes hp HL.out
      have hsm := seg_sizes hs HM.out
      have HE := Lib.hid (equalFunc_all 84 #[] (enters_of Tryz.func84 (by kernel_rfl) rfl) A B l.length m.length l m w4 (fun a b => oneL a.data.toList b.data.toList) (hA.below hb4) hB (by omega) (by omega)
        (fun k h1 h2 W hb => (one_any l[k] m[k] W (hsl.2 _ (List.getElem_mem h1)) (hsm.2 _ (List.getElem_mem h2)) (hT4.below hb)).mono fun e w' ⟨he, hw⟩ => ⟨he, hb.trans (hw.mono hb.size)⟩))
      rw [allS_allL, HL.out, HM.out, ← HI.out] at HE
      go_wp2_with fail
      refine HE.out.mono ?_
      rintro e w5 ⟨rfl, hb5⟩
      go_wp2
      go_ret
      have a1 := hb1.trans (hb2.mono hb1.size)
      have a2 := a1.trans (hb3.mono a1.size)
      have a3 := a2.trans (hb4.mono a2.size)
      exact ⟨by simp, a3.trans (hb5.mono a3.size)⟩
set_option maxHeartbeats 1000000 in
theorem anyc_any (p path : ByteArray) (B : Nat) (w : World) (hp : p.size ≤ 100000) (hs : path.size ≤ 100000) (hT : Tab w) (hB : w.cell? ⟨B, 0, none⟩ = some (.string path)) :
    Calls Tryz.prog 69 #[.string p, .pointer (some ⟨B, 0, none⟩)] w fun e w' => e = .returned (.bool (matchL p.data.toList path.data.toList)) ∧ Below w.heap.size w w' := by
  obtain ⟨r, hr⟩ : ∃ r, r = matchL p.data.toList path.data.toList := ⟨_, rfl⟩
  have HM := match_any p path w hp hs hT
  rw [← hr] at HM ⊢
  clear hr
  have HM := Lib.hid HM
  go_enter Tryz.func69, Tryz.ntmps69
  go_wp2_with fail
  refine HM.out.mono ?_
  rintro e w' ⟨rfl, hb⟩
  go_wp2
  go_ret
  exact ⟨rfl, hb⟩
set_option maxHeartbeats 1000000 in
theorem anyG_any (A : Option Addr) (n c : Nat) (l : List ByteArray) (path : ByteArray) (w : World) (hl : SS w A l) (hn : l.length = n) (hbig : n ≤ 9223372036854775807) (hls : ∀ a ∈ l, a.size ≤ 100000) (hs : path.size ≤ 100000) (hT : Tab w) :
    Calls Tryz.prog 59 #[.slice A n c, .string path] w fun e w' => e = .returned (.int .i64 (idxS (fun p => matchL p.data.toList path.data.toList) l)) ∧ Below w.heap.size w w' := by
  have hb0 : Below w.heap.size w (w.alloc (.cells #[.string path] 9)) := (Below.refl _ _).alloc (Nat.le_refl _) _
  have hc0 : (w.alloc (.cells #[.string path] 9)).cell? ⟨w.heap.size, 0, none⟩ = some (.string path) := (Blk.new w 9 #[.string path]).cell 0
  have HI := indexFunc_any 69 #[.pointer (some ⟨w.heap.size, 0, none⟩)] (enters_of Tryz.func69 (by kernel_rfl) rfl) A n c l (w.alloc (.cells #[.string path] 9)) (fun p => matchL p.data.toList path.data.toList) (hl.below hb0) hn hbig
    (fun k h1 W hb => (anyc_any l[k] path w.heap.size W (hls _ (List.getElem_mem h1)) hs ((hT.below hb0).below hb) ((hb.cell (p := ⟨w.heap.size, 0, none⟩) (by simp)).trans hc0)).mono fun e w' ⟨he, hw⟩ => ⟨he, hb.trans (hw.mono hb.size)⟩)
  obtain ⟨r, hr⟩ : ∃ r, r = idxS (fun p => matchL p.data.toList path.data.toList) l := ⟨_, rfl⟩
  rw [← hr] at HI ⊢
  have HI := Lib.hid HI
  clear hr hc0
  go_enter Tryz.func59, Tryz.ntmps59
  go_wp2_with fail
  refine HI.out.mono ?_
  rintro e w' ⟨rfl, hb⟩
  go_wp2
  go_ret
  exact ⟨rfl, hb0.trans (hb.mono (by simp))⟩
end Go.Proofs.YthidjdjcjjbpbaaGreatDoor

namespace Go.Proofs.YthidjdjcjjbpbaaGreatDoor
open Go.RowKit Glob
set_option linter.unusedVariables false

theorem trim_hexG (s : ByteArray) (w : World) (hs : s.size ≤ 9223372036854775807) :
    Calls Tryz.prog 85 #[.string s, .string { data := #[48, 49, 50, 51, 52, 53, 54, 55, 56, 57, 97, 98, 99, 100, 101, 102] }] w fun e w' => e = .returned (.string ⟨(Lib.trimS s.data.toList digitsL).toArray⟩) ∧ Below w.heap.size w w' :=
  Any.strings_Trim_laid Tryz.lays160 (by kernel_rfl) s { data := #[48, 49, 50, 51, 52, 53, 54, 55, 56, 57, 97, 98, 99, 100, 101, 102] } w hs (by decide) (ascii_of_all (by decide))
set_option maxHeartbeats 1000000 in
theorem even_yes (s : ByteArray) (w : World) (hs : s.size ≤ 100000) (h : s.data.toList.all isHex = true) : Calls Tryz.prog 86 #[.string s] w fun e w' => e = .returned (.bool true) ∧ w' = w := by
  have HH := Lib.hid h
  clear h
  go_enter Tryz.func86, Tryz.ntmps86
  go_wp2
  go_loop [6] (fun i => ∃ k : Nat, k ≤ s.size ∧ i = .int .i64 k) (fun i => s.size - (intOf i).toNat)
  case atStart => exact ⟨0, Nat.zero_le _, rfl⟩
  case round =>
    obtain ⟨k, hk, rfl⟩ := hrel
    rcases (by omega : k < s.size ∨ k = s.size) with hlt | heq
    · obtain ⟨c, hc⟩ : ∃ c, c = s[k] := ⟨_, rfl⟩
      have hx := all_getElem HH.out k (by cases s; simpa [ByteArray.size] using hlt)
      have hx2 : isHex c = true := by rw [hc]; exact hx
      have hc' := hc.symm
      clear hx hc
      have hkk : (k : Int) < (s.size : Int) := by omega
      have hcall := fun w => Tryz.strings_IndexByte ⟨#[48, 49, 50, 51, 52, 53, 54, 55, 56, 57, 97, 98, 99, 100, 101, 102]⟩ (c.toNat : Int) w
      rw [show ((c.toNat : Int)).toNat.toUInt8 = c from by simp, show (⟨#[48, 49, 50, 51, 52, 53, 54, 55, 56, 57, 97, 98, 99, 100, 101, 102]⟩ : ByteArray).data.toList = digitsL from rfl, indexByte_digits, hexI_yes c hx2] at hcall
      have HC := Lib.hid hcall
      clear hcall hx2
      go_wp2_with fail
      refine (HC.out _).mono ?_
      rintro e w' ⟨rfl, rfl⟩
      have e0 : decide ((hexV c : Int) < 0) = false := by rw [decide_eq_false_iff_not]; omega
      go_wp2
      go_round
      case rel => exact ⟨k + 1, by omega, by go_num⟩
      case measure => simp [intOf]; omega
    · have hkk : ¬ (k : Int) < (s.size : Int) := by omega
      clear heq
      go_wp2
      go_ret
      exact ⟨rfl, rfl⟩
set_option maxHeartbeats 1000000 in
theorem prefix_any (s : ByteArray) (w : World) (hs : s.size ≤ 100000) : Calls Tryz.prog 71 #[.string s] w fun e w' => e = .returned (.bool (prefixL s.data.toList)) ∧ Below w.heap.size w w' := by
  have hsl : s.data.toList.length = s.size := by cases s; simp [ByteArray.size]
  have HS := Lib.hid hsl
  obtain ⟨r, hr⟩ : ∃ r, r = prefixL s.data.toList := ⟨_, rfl⟩
  have HR := Lib.hid hr
  rw [← hr]
  clear hr
  have HT := Lib.hid (fun w => trim_hexG s w (by omega))
  by_cases h0 : s.toList = []
  · have HI : Hid (r = false) := by show _ = _; rw [HR.out]; unfold prefixL; rw [← Lib.toList_data, h0]; rfl
    have hb : s.toList.isEmpty = true := by rw [h0]; rfl
    clear hsl
    go_enter Tryz.func71, Tryz.ntmps71
    go_wp2
    go_ret
    exact ⟨by rw [HI.out]; rfl, Below.refl _ _⟩
  · have hb : s.toList.isEmpty = false := by rw [List.isEmpty_eq_false_iff]; exact h0
    rcases (by omega : 64 < s.size ∨ s.size ≤ 64) with g | g
    · have HI : Hid (r = false) := by show _ = _; rw [HR.out]; unfold prefixL; rw [hsl, decide_eq_false (by omega : ¬ s.size ≤ 64)]; simp
      have e1 : decide ((s.size : Int) ≤ 64) = false := by rw [decide_eq_false_iff_not]; omega
      clear hsl
      go_enter Tryz.func71, Tryz.ntmps71
      go_wp2
      go_ret
      exact ⟨by rw [HI.out]; rfl, Below.refl _ _⟩
    · have e1 : decide ((s.size : Int) ≤ 64) = true := by rw [decide_eq_true_iff]; omega
      have HI : Hid (r = s.data.toList.all isHex) := by show _ = _; rw [HR.out]; unfold prefixL; rw [hsl, decide_eq_true g, ← Lib.toList_data, hb]; rfl
      have ht := trim_digits s.data.toList
      obtain ⟨t, htt⟩ : ∃ t, t = Lib.trimS s.data.toList digitsL := ⟨_, rfl⟩
      rw [← htt] at ht HT
      clear htt
      cases hx : s.data.toList.all isHex with
      | false =>
        have htne : t.isEmpty = false := by
          rw [List.isEmpty_eq_false_iff]
          intro e
          rw [ht.1 e] at hx; cases hx
        rw [hx] at HI
        clear hsl ht hx
        go_enter Tryz.func71, Tryz.ntmps71
        go_wp2_with fail
        refine (HT.out _).mono ?_
        rintro e w' ⟨rfl, hb1⟩
        go_wp2
        go_ret
        exact ⟨by rw [HI.out]; rfl, hb1⟩
      | true =>
        obtain rfl : t = [] := ht.2 hx
        have HE := Lib.hid (fun w => even_yes s w hs hx)
        rw [hx] at HI
        clear hsl ht hx
        go_enter Tryz.func71, Tryz.ntmps71
        go_wp2_with fail
        refine (HT.out _).mono ?_
        rintro e w' ⟨rfl, hb1⟩
        go_wp2_with fail
        refine (HE.out _).mono ?_
        rintro e w2 ⟨rfl, rfl⟩
        go_wp2
        go_ret
        exact ⟨by rw [HI.out]; rfl, hb1⟩
theorem hex_why (c : UInt8) : (isHex c = true → (48 ≤ c.toNat ∧ c.toNat ≤ 57) ∨ (97 ≤ c.toNat ∧ c.toNat ≤ 102 ∧ 57 < c.toNat)) ∧ (isHex c = false → c.toNat < 48 ∨ (57 < c.toNat ∧ c.toNat < 97) ∨ 102 < c.toNat) := by
  refine all_u8 (p := fun c => (isHex c = true → (48 ≤ c.toNat ∧ c.toNat ≤ 57) ∨ (97 ≤ c.toNat ∧ c.toNat ≤ 102 ∧ 57 < c.toNat)) ∧ (isHex c = false → c.toNat < 48 ∨ (57 < c.toNat ∧ c.toNat < 97) ∨ 102 < c.toNat)) ?_ c
  decide +kernel
set_option maxHeartbeats 1000000 in
theorem rprefix_any (s : ByteArray) (w : World) (hs : s.size ≤ 100000) : Calls Tryz.prog 52 #[.string s] w fun e w' => e = .returned (.bool (prefixL s.data.toList)) ∧ w' = w := by
  have hsl : s.data.toList.length = s.size := by cases s; simp [ByteArray.size]
  have HS := Lib.hid hsl
  obtain ⟨r, hr⟩ : ∃ r, r = prefixL s.data.toList := ⟨_, rfl⟩
  have HR := Lib.hid hr
  rw [← hr]
  clear hr
  rcases (by omega : s.size < 1 ∨ 64 < s.size ∨ (1 ≤ s.size ∧ s.size ≤ 64)) with g | g | ⟨g1, g2⟩
  · have HI : Hid (r = false) := by show _ = _; rw [HR.out, List.eq_nil_of_length_eq_zero (by omega : s.data.toList.length = 0)]; rfl
    have e1 : decide ((s.size : Int) < 1) = true := by rw [decide_eq_true_iff]; omega
    clear hsl
    go_enter Tryz.func52, Tryz.ntmps52
    go_wp2
    go_ret
    exact ⟨by rw [HI.out]; rfl, rfl⟩
  · have HI : Hid (r = false) := by show _ = _; rw [HR.out]; unfold prefixL; rw [hsl, decide_eq_false (by omega : ¬ s.size ≤ 64)]; simp
    have e1 : decide ((s.size : Int) < 1) = false := by rw [decide_eq_false_iff_not]; omega
    have e2 : decide (64 < (s.size : Int)) = true := by rw [decide_eq_true_iff]; omega
    clear hsl
    go_enter Tryz.func52, Tryz.ntmps52
    go_wp2
    go_ret
    exact ⟨by rw [HI.out]; rfl, rfl⟩
  · have HI : Hid (r = s.data.toList.all isHex) := by
      show _ = _; rw [HR.out]; unfold prefixL
      rw [hsl, decide_eq_true g2, show s.data.toList.isEmpty = false from by rw [List.isEmpty_eq_false_iff]; intro e; rw [e] at hsl; simp at hsl; omega]; rfl
    have e1 : decide ((s.size : Int) < 1) = false := by rw [decide_eq_false_iff_not]; omega
    have e2 : decide (64 < (s.size : Int)) = false := by rw [decide_eq_false_iff_not]; omega
    clear hsl
    go_enter Tryz.func52, Tryz.ntmps52
    go_wp2
    go_loop [3] (fun i => ∃ k : Nat, k ≤ s.size ∧ i = .int .i64 k ∧ Hid ((s.data.toList.take k).all isHex = true)) (fun i => s.size - (intOf i).toNat)
    case atStart => exact ⟨0, Nat.zero_le _, rfl, Lib.hid rfl⟩
    case round =>
      obtain ⟨k, hk, rfl, HK⟩ := hrel
      rcases (by omega : k < s.size ∨ k = s.size) with hlt | heq
      · obtain ⟨c, hc⟩ : ∃ c, c = s[k] := ⟨_, rfl⟩
        have hc' := hc.symm
        have HC := Lib.hid hc
        clear hc
        have hkk : (k : Int) < (s.size : Int) := by omega
        have hw := hex_why c
        cases ho : isHex c with
        | true =>
          have HK' : Hid ((s.data.toList.take (k + 1)).all isHex = true) := by
            show _ = _
            rw [List.take_succ_eq_append_getElem (by rw [HS.out]; exact hlt), List.all_append, HK.out]
            show (isHex s[k] && true) = true
            rw [← HC.out, ho]; rfl
          have hw1 := hw.1 ho
          clear hw ho
          rcases hw1 with ⟨a1, a2⟩ | ⟨a1, a2, a3⟩
          · have f1 : decide (48 ≤ (c.toNat : Int)) = true := by rw [decide_eq_true_iff]; omega
            have f2 : decide ((c.toNat : Int) ≤ 57) = true := by rw [decide_eq_true_iff]; omega
            go_wp2
            go_round
            case rel => exact ⟨k + 1, by omega, by go_num, HK'⟩
            case measure => simp [intOf]; omega
          · have f1 : decide (48 ≤ (c.toNat : Int)) = true := by rw [decide_eq_true_iff]; omega
            have f2 : decide ((c.toNat : Int) ≤ 57) = false := by rw [decide_eq_false_iff_not]; omega
            have f3 : decide (97 ≤ (c.toNat : Int)) = true := by rw [decide_eq_true_iff]; omega
            have f4 : decide ((c.toNat : Int) ≤ 102) = true := by rw [decide_eq_true_iff]; omega
            go_wp2
            go_round
            case rel => exact ⟨k + 1, by omega, by go_num, HK'⟩
            case measure => simp [intOf]; omega
        | false =>
          have HF : Hid (r = false) := by
            show _ = _
            rw [HI.out]
            refine List.all_eq_false.2 ⟨s[k], mem_at s k hlt, ?_⟩
            rw [← HC.out, ho]; simp
          have hw1 := hw.2 ho
          clear hw ho HK HC
          rcases hw1 with a1 | ⟨a1, a2⟩ | a1
          · have f1 : decide (48 ≤ (c.toNat : Int)) = false := by rw [decide_eq_false_iff_not]; omega
            have f3 : decide (97 ≤ (c.toNat : Int)) = false := by rw [decide_eq_false_iff_not]; omega
            go_wp2; go_ret; exact ⟨by rw [HF.out]; rfl, rfl⟩
          · have f1 : decide (48 ≤ (c.toNat : Int)) = true := by rw [decide_eq_true_iff]; omega
            have f2 : decide ((c.toNat : Int) ≤ 57) = false := by rw [decide_eq_false_iff_not]; omega
            have f3 : decide (97 ≤ (c.toNat : Int)) = false := by rw [decide_eq_false_iff_not]; omega
            go_wp2; go_ret; exact ⟨by rw [HF.out]; rfl, rfl⟩
          · have f1 : decide (48 ≤ (c.toNat : Int)) = true := by rw [decide_eq_true_iff]; omega
            have f2 : decide ((c.toNat : Int) ≤ 57) = false := by rw [decide_eq_false_iff_not]; omega
            have f3 : decide (97 ≤ (c.toNat : Int)) = true := by rw [decide_eq_true_iff]; omega
            have f4 : decide ((c.toNat : Int) ≤ 102) = false := by rw [decide_eq_false_iff_not]; omega
            go_wp2; go_ret; exact ⟨by rw [HF.out]; rfl, rfl⟩
      · have hkk : ¬ (k : Int) < (s.size : Int) := by omega
        have HV : Hid (r = true) := by
          show _ = _
          have := HK.out
          rw [List.take_of_length_le (by rw [HS.out]; omega)] at this
          rw [HI.out, this]
        clear heq
        go_wp2; go_ret; exact ⟨by rw [HV.out]; rfl, rfl⟩
end Go.Proofs.YthidjdjcjjbpbaaGreatDoor

namespace Go.Proofs.YthidjdjcjjbpbaaGreatDoor
open Go.RowKit Glob
set_option linter.unusedVariables false

theorem infoBool : (Tryz.prog.info? 4).map (fun i => (i.zero, i.size, i.bytes)) = some (some (.bool false), 1, 1) := by kernel_rfl
theorem run_make_bools (s : Nat) (hs : s ≤ 70368744177664) (w : World) : (Instr.makeSlice 103 (.int .i64 s) (.int .i64 s)).run Tryz.prog w = .ok (.slice (some ⟨w.heap.size, 0, none⟩) s s) (w.alloc (.cells (madeCells #[Value.bool false] s) 4)) := by
  obtain ⟨i0, hi, hz0, hz1, hz2⟩ := info_parts infoBool
  have hb : (i0.bytes : Int) * (s : Int) ≤ 281474976710656 := by rw [hz2]; omega
  have hr := run_make (P := Tryz.prog) w 103 4 i0 (.bool false) Tryz.underlying103 hi hz0 .i64 .i64 s s (by omega) (by omega) hb (by omega)
  rw [hz1, Nat.mul_one] at hr
  exact hr
/-- a row of answers -/
def rowB (f : Nat → Bool) (n : Nat) : Array Value := ((List.range n).map fun k => Value.bool (f k)).toArray
theorem rowB_size (f : Nat → Bool) (n : Nat) : (rowB f n).size = n := by simp [rowB]
theorem rowB_at (f : Nat → Bool) (n k : Nat) (h : k < n) : (rowB f n)[k]? = some (.bool (f k)) := by simp [rowB, h]
theorem rowB_made (n : Nat) : madeCells #[Value.bool false] n = rowB (fun _ => false) n := by
  apply Array.ext_getElem?
  intro j
  rcases Nat.lt_or_ge j n with hj | hj
  · rw [rowB_at _ _ _ hj]; simp [madeCells, hj, Nat.mod_one]
  · rw [Array.getElem?_eq_none (by simp [madeCells]; omega), Array.getElem?_eq_none (by rw [rowB_size]; omega)]
theorem rowB_set (f g : Nat → Bool) (n k : Nat) (hk : k < n) (b : Bool) (h : ∀ j, j < n → g j = if j = k then b else f j) : (rowB f n).setIfInBounds k (.bool b) = rowB g n := by
  apply Array.ext_getElem?
  intro j
  rcases Nat.lt_or_ge j n with hj | hj
  · rw [rowB_at g n j hj, h j hj]
    rcases (by omega : j = k ∨ j ≠ k) with rfl | hne
    · rw [Array.getElem?_setIfInBounds_self_of_lt (by rw [rowB_size]; omega), if_pos rfl]
    · rw [Array.getElem?_setIfInBounds_ne (by omega), if_neg hne, rowB_at f n j hj]
  · rw [Array.getElem?_eq_none (by rw [Array.size_setIfInBounds, rowB_size]; omega), Array.getElem?_eq_none (by rw [rowB_size]; omega)]
/-- the answers of the first i signs of a pattern -/
def rowAt (p s : List UInt8) (i k : Nat) : Bool := mt (p.take i) (s.take k)
/-- the next row, as far as it is filled -/
def rowPart (p s : List UInt8) (i k j : Nat) : Bool := if j < k then rowAt p s (i + 1) j else false
theorem row_first (s : List UInt8) (n j : Nat) (hn : n = s.length) (hj : j < n + 1) : rowAt [] s 0 j = (if j = 0 then true else false) := by
  unfold rowAt
  rw [List.take_nil, Bool.eq_iff_iff, mt_nil]
  rcases (by omega : j = 0 ∨ 0 < j) with rfl | h
  · simp
  · rw [if_neg (by omega)]
    simp only [List.take_eq_nil_iff, Bool.false_eq_true, iff_false, not_or]
    refine ⟨by omega, fun e => ?_⟩
    rw [e] at hn; simp at hn; omega
theorem rowPart_next (p s : List UInt8) (i k : Nat) (b : Bool) (hb : rowAt p s (i + 1) k = b) (j : Nat) : rowPart p s i (k + 1) j = if j = k then b else rowPart p s i k j := by
  unfold rowPart
  rcases (by omega : j < k ∨ j = k ∨ k < j) with h | h | h
  · rw [if_pos (by omega), if_neg (by omega), if_pos h]
  · subst h; rw [if_pos (by omega), if_pos rfl, hb]
  · rw [if_neg (by omega), if_neg (by omega), if_neg (by omega)]
theorem rowPart_keep (p s : List UInt8) (i k : Nat) (hb : rowAt p s (i + 1) k = false) (j : Nat) : rowPart p s i (k + 1) j = rowPart p s i k j := by
  rw [rowPart_next p s i k false hb]
  unfold rowPart
  rcases (by omega : j = k ∨ j ≠ k) with h | h
  · subst h; rw [if_pos rfl, if_neg (by omega)]
  · rw [if_neg h]
theorem take_snoc1 (p : List UInt8) (i : Nat) (hi : i < p.length) : p.take (i + 1) = p.take i ++ [p[i]] := List.take_succ_eq_append_getElem hi
theorem row_star (p s : List UInt8) (i k : Nat) (hi : i < p.length) (hc : p[i] = 42) (hk : k ≤ s.length) : rowAt p s (i + 1) k = (rowAt p s i k || (decide (0 < k) && rowAt p s (i + 1) (k - 1))) := by
  unfold rowAt
  rw [take_snoc1 p i hi, hc]
  exact table_star _ _ _ hk
theorem row_sign (p s : List UInt8) (i k : Nat) (hi : i < p.length) (hc : p[i] ≠ 42) (hk : k < s.length) : rowAt p s (i + 1) (k + 1) = ((p[i] == 63 || p[i] == s[k]) && rowAt p s i k) := by
  unfold rowAt
  rw [take_snoc1 p i hi]
  exact table_sign _ _ _ hc _ hk
theorem row_sign0 (p s : List UInt8) (i : Nat) (hi : i < p.length) (hc : p[i] ≠ 42) : rowAt p s (i + 1) 0 = false := by
  unfold rowAt
  rw [take_snoc1 p i hi]
  exact table_sign0 _ _ _ hc

set_option maxRecDepth 100000 in
set_option maxHeartbeats 4000000 in
theorem rone_any (p s : ByteArray) (w : World) (hp : p.size ≤ 100000) (hs : s.size ≤ 100000) : Calls Tryz.prog 51 #[.string p, .string s] w fun e w' => e = .returned (.bool (mt p.data.toList s.data.toList)) ∧ Below w.heap.size w w' := by
  have hpl : p.data.toList.length = p.size := by cases p; simp [ByteArray.size]
  have hsl : s.data.toList.length = s.size := by cases s; simp [ByteArray.size]
  obtain ⟨n, hn⟩ : ∃ n, n = s.size := ⟨_, rfl⟩
  have hn1 : (s.size : Int) + 1 = ((n + 1 : Nat) : Int) := by rw [hn]; push_cast; rfl
  have HN1 := Lib.hid hn1
  have HN := Lib.hid hn
  have HPL := Lib.hid hpl
  have HSL := Lib.hid hsl
  have hnb : n ≤ 100000 := by omega
  have RM := fun w => run_make_bools (n + 1) (by omega) w
  have RM' : ∀ w : World, (Instr.makeSlice 103 (.int .i64 ((s.size : Int) + 1)) (.int .i64 ((s.size : Int) + 1))).run Tryz.prog w = .ok (.slice (some ⟨w.heap.size, 0, none⟩) (n + 1) (n + 1)) (w.alloc (.cells (rowB (fun _ => false) (n + 1)) 4)) := fun w => by rw [hn1, RM w, rowB_made]
  have hZ := Blk.new w 4 (rowB (fun _ => false) (n + 1))
  have hZc := hZ.cell 0
  rw [rowB_at _ _ _ (by omega)] at hZc
  have hZf := hZ.frozen 0
  have hfirst := rowB_set (fun _ => false) (rowAt p.data.toList s.data.toList 0) (n + 1) 0 (by omega) true (fun j hj => by
    have := row_first s.data.toList n j (by rw [hsl, hn]) (by omega)
    unfold rowAt at this ⊢
    rw [List.take_zero]
    rw [List.take_nil] at this
    exact this)
  have HZ1 : Hid (Blk (w.alloc (.cells ((rowB (fun _ => false) (n + 1)).setIfInBounds 0 (.bool true)) 4)) w.heap.size 4 (rowB (rowAt p.data.toList s.data.toList 0) (n + 1))) := by
    have := Blk.new w 4 ((rowB (fun _ => false) (n + 1)).setIfInBounds 0 (.bool true))
    rw [hfirst] at this ⊢
    exact this
  have HBL : Hid (Below w.heap.size w (w.alloc (.cells ((rowB (fun _ => false) (n + 1)).setIfInBounds 0 (.bool true)) 4))) := Lib.hid ((Below.refl w.heap.size w).alloc (Nat.le_refl _) _)
  have RMX := Lib.hid RM'
  clear hZ hfirst hn hn1 hpl hsl RM
  go_enter Tryz.func51, Tryz.ntmps51
  go_wp2
  go_loopw [5, 6, 7, 8] (fun v i _ _ wr => ∃ (k g : Nat), k ≤ p.size ∧ i = .int .i64 k ∧ v = .slice (some ⟨g, 0, none⟩) (n + 1) (n + 1) ∧ w.heap.size ≤ g ∧ Hid (Blk wr g 4 (rowB (rowAt p.data.toList s.data.toList k) (n + 1))) ∧ Hid (Below w.heap.size w wr)) (fun _ i _ _ _ => p.size - (intOf i).toNat)
  case atStart => exact ⟨0, _, Nat.zero_le _, rfl, rfl, Nat.le_refl _, HZ1, HBL⟩
  case round =>
    obtain ⟨i, g, hi, rfl, rfl, hg, HG, HB⟩ := hrel
    clear HZ1 HBL hZc hZf
    rcases (by omega : i < p.size ∨ i = p.size) with hlt | heq
    · have hii : decide ((i : Int) < (p.size : Int)) = true := by rw [decide_eq_true_iff]; omega
      have hi1 : (i : Int) < (p.size : Int) := by omega
      have hi0 : (0 : Int) ≤ (i : Int) := by omega
      have wi : IntKind.i64.wrap (i : Int) = (i : Int) := IntWalk.i64_in _ (by omega)
      have hgl := HG.out.lt
      have HH0 : Hid (Blk (wr.alloc (.cells (rowB (fun _ => false) (n + 1)) 4)) wr.heap.size 4 (rowB (rowPart p.data.toList s.data.toList i 0) (n + 1))) := by
        have := Blk.new wr 4 (rowB (fun _ => false) (n + 1))
        exact this
      have HG0 := Lib.hid (HG.out.alloc (.cells (rowB (fun _ => false) (n + 1)) 4))
      have HB0 := Lib.hid (HB.out.alloc HB.out.size (.cells (rowB (fun _ => false) (n + 1)) 4))
      have hwl := HB.out.size
      obtain ⟨c, hc⟩ : ∃ c, c = p[i] := ⟨_, rfl⟩
      have hc' := hc.symm
      have HC : Hid (∀ (h : i < p.data.toList.length), p.data.toList[i] = c) := by intro h; rw [hc]; rfl
      clear HG HB hc
      go_wp2
      clear RM'
      obtain ⟨h, hh⟩ : ∃ h, h = wr.heap.size := ⟨_, rfl⟩
      rw [← hh] at HH0 hgl hwl ⊢
      clear hh
      generalize wr.alloc (.cells (rowB (fun _ => false) (n + 1)) 4) = wa at HH0 HG0 HB0 ⊢
      go_loopw [8] (fun j wq => ∃ k : Nat, k ≤ n + 1 ∧ j = .int .i64 k ∧ Hid (Blk wq h 4 (rowB (rowPart p.data.toList s.data.toList i k) (n + 1))) ∧ Hid (Blk wq g 4 (rowB (rowAt p.data.toList s.data.toList i) (n + 1))) ∧ Hid (Below w.heap.size w wq)) (fun j _ => n + 1 - (intOf j).toNat)
      case atStart => exact ⟨0, Nat.zero_le _, rfl, HH0, HG0, HB0⟩
      case round =>
        obtain ⟨k, hk, rfl, HH, HG, HB⟩ := hrel
        clear HH0 HG0 HB0
        have hns : (s.size : Int) = (n : Int) := by rw [HN.out]
        rcases (by omega : k ≤ n ∨ k = n + 1) with hkl | heq
        · have hki : decide ((k : Int) ≤ (s.size : Int)) = true := by rw [decide_eq_true_iff]; omega
          have hkN : decide (k ≤ s.size) = true := by rw [decide_eq_true_iff, ← HN.out]; exact hkl
          have hk0 : (0 : Int) ≤ (k : Int) := by omega
          have hk1 : (k : Int) < ((n + 1 : Nat) : Int) := by omega
          have hk2 : (k : Int) < (n : Int) + 1 := by omega
          have wk : IntKind.i64.wrap (k : Int) = (k : Int) := IntWalk.i64_in _ (by omega)
          have hgc := HG.out.cell k
          rw [rowB_at _ _ _ (by omega)] at hgc
          have hhc := HH.out.cell k
          rw [rowB_at _ _ _ (by omega)] at hhc
          have hhf := HH.out.frozen k
          have hiL : i < p.data.toList.length := by rw [HPL.out]; exact hlt
          clear hns
          by_cases hstar : c = 42
          · have f42 : ((c.toNat : Int) == 42) = true := by rw [hstar]; rfl
            have hrow := row_star p.data.toList s.data.toList i k hiL (by rw [HC.out hiL, hstar]) (by rw [HSL.out, ← HN.out]; exact hkl)
            obtain ⟨v, hv⟩ : ∃ v, v = rowAt p.data.toList s.data.toList i k := ⟨_, rfl⟩
            rw [← hv] at hgc hrow
            cases v with
            | true =>
              have hrv : rowAt p.data.toList s.data.toList (i + 1) k = true := by rw [hrow]; simp
              have HN1' := HH.out.set_ k (.bool true)
              rw [rowB_set _ (rowPart p.data.toList s.data.toList i (k + 1)) (n + 1) k (by omega) true (fun j _ => rowPart_next _ _ _ _ _ hrv j)] at HN1'
              have HHn := Lib.hid HN1'
              have HGn := Lib.hid (HG.out.far (p := ⟨h, k, none⟩) (by simp; omega) (.bool true))
              have HBn := Lib.hid (HB.out.setCell (p := ⟨h, k, none⟩) (by simp; omega) (.bool true))
              clear hrv HN1' HH HG HB hrow hv
              go_wp2
              go_roundw
              case rel => exact ⟨k + 1, by omega, by go_num, HHn, HGn, HBn⟩
              case measure => simp [intOf]; omega
            | false =>
              rcases (by omega : k = 0 ∨ 0 < k) with hk00 | hk00
              · have fk : decide (0 < (k : Int)) = false := by rw [decide_eq_false_iff_not]; omega
                have fkN : decide (0 < k) = false := by rw [decide_eq_false_iff_not]; omega
                have hrow : rowAt p.data.toList s.data.toList (i + 1) k = false := by rw [hrow, hk00]; rfl
                clear hk00
                have hrv : rowAt p.data.toList s.data.toList (i + 1) k = false := by exact hrow
                have HN1' := HH.out.set_ k (.bool false)
                rw [rowB_set _ (rowPart p.data.toList s.data.toList i (k + 1)) (n + 1) k (by omega) false (fun j _ => rowPart_next _ _ _ _ _ hrv j)] at HN1'
                have HHn := Lib.hid HN1'
                have HGn := Lib.hid (HG.out.far (p := ⟨h, k, none⟩) (by simp; omega) (.bool false))
                have HBn := Lib.hid (HB.out.setCell (p := ⟨h, k, none⟩) (by simp; omega) (.bool false))
                clear hrv HN1' HH HG HB hrow hv
                go_wp2
                go_roundw
                case rel => exact ⟨k + 1, by omega, by go_num, HHn, HGn, HBn⟩
                case measure => simp [intOf]; omega
              · have fk : decide (0 < (k : Int)) = true := by rw [decide_eq_true_iff]; omega
                have fkN : decide (0 < k) = true := by rw [decide_eq_true_iff]; omega
                obtain ⟨k', hk'⟩ : ∃ k', k' = k - 1 := ⟨_, rfl⟩
                have hpc := HH.out.cell k'
                rw [rowB_at _ _ _ (by omega)] at hpc
                have e1 : rowPart p.data.toList s.data.toList i k k' = rowAt p.data.toList s.data.toList (i + 1) k' := by unfold rowPart; rw [if_pos (by omega)]
                rw [e1] at hpc
                have wk' : (k : Int) - 1 = (k' : Int) := by omega
                have kk0 : (0 : Int) ≤ (k' : Int) := by omega
                have kk1 : (k' : Int) < ((n + 1 : Nat) : Int) := by omega
                have kk2 : (k' : Int) < (n : Int) + 1 := by omega
                obtain ⟨u, hu⟩ : ∃ u, u = rowAt p.data.toList s.data.toList (i + 1) k' := ⟨_, rfl⟩
                rw [← hk', ← hu] at hrow
                rw [← hu] at hpc
                have hrow : rowAt p.data.toList s.data.toList (i + 1) k = u := by rw [hrow, decide_eq_true hk00]; rfl
                clear e1 hk' hu
                have hrv : rowAt p.data.toList s.data.toList (i + 1) k = u := by exact hrow
                have HN1' := HH.out.set_ k (.bool u)
                rw [rowB_set _ (rowPart p.data.toList s.data.toList i (k + 1)) (n + 1) k (by omega) u (fun j _ => rowPart_next _ _ _ _ _ hrv j)] at HN1'
                have HHn := Lib.hid HN1'
                have HGn := Lib.hid (HG.out.far (p := ⟨h, k, none⟩) (by simp; omega) (.bool u))
                have HBn := Lib.hid (HB.out.setCell (p := ⟨h, k, none⟩) (by simp; omega) (.bool u))
                clear hrv HN1' HH HG HB hrow hv
                go_wp2
                go_roundw
                case rel => exact ⟨k + 1, by omega, by go_num, HHn, HGn, HBn⟩
                case measure => simp [intOf]; omega
          · have f42 : ((c.toNat : Int) == 42) = false := by
              rw [beq_eq_false_iff_ne]; intro e; exact hstar (UInt8.toNat_inj.1 (show c.toNat = 42 by omega))
            rcases (by omega : k = 0 ∨ 0 < k) with hk00 | hk00
            · have fk : decide (0 < (k : Int)) = false := by rw [decide_eq_false_iff_not]; omega
              have fkN : decide (0 < k) = false := by rw [decide_eq_false_iff_not]; omega
              have hrow : rowAt p.data.toList s.data.toList (i + 1) k = false := by rw [hk00]; exact row_sign0 _ _ _ hiL (by rw [HC.out hiL]; exact hstar)
              clear hk00
              have HHn : Hid (Blk wr h 4 (rowB (rowPart p.data.toList s.data.toList i (k + 1)) (n + 1))) := by
                have e : rowB (rowPart p.data.toList s.data.toList i (k + 1)) (n + 1) = rowB (rowPart p.data.toList s.data.toList i k) (n + 1) := by rw [funext (rowPart_keep p.data.toList s.data.toList i k hrow)]
                show Blk _ _ _ _; rw [e]; exact HH.out
              have HHq := fun q => Lib.hid (HHn.out.drewN q)
              have HGq := fun q => Lib.hid (HG.out.drewN q)
              have HBq := fun q => Lib.hid (below_drewN HB.out q)
              clear hrow HH HG HB HHn
              go_wp2
              go_quiet (fail)
              have HHn := HHq nq
              have HGn := HGq nq
              have HBn := HBq nq
              clear HHq HGq HBq
              go_wp2
              go_roundw
              case rel => exact ⟨k + 1, by omega, by go_num, HHn, HGn, HBn⟩
              case measure => simp [intOf]; omega
            · have fk : decide (0 < (k : Int)) = true := by rw [decide_eq_true_iff]; omega
              have fkN : decide (0 < k) = true := by rw [decide_eq_true_iff]; omega
              obtain ⟨k', hk'⟩ : ∃ k', k' = k - 1 := ⟨_, rfl⟩
              have hks : k' < s.size := by rw [← HN.out]; omega
              have hksL : k' < s.data.toList.length := by rw [HSL.out]; exact hks
              have hrow := row_sign p.data.toList s.data.toList i k' hiL (by rw [HC.out hiL]; exact hstar) hksL
              rw [HC.out hiL, show k' + 1 = k from by omega] at hrow
              have hpc := HG.out.cell k'
              rw [rowB_at _ _ _ (by omega)] at hpc
              have wk' : (k : Int) - 1 = (k' : Int) := by omega
              have wk2 : IntKind.i64.wrap ((k : Int) - 1) = (k' : Int) := by rw [IntWalk.i64_in _ (by omega)]; omega
              have kk0 : (0 : Int) ≤ (k' : Int) := by omega
              have kks : (k' : Int) < (s.size : Int) := by omega
              have kk1 : (k' : Int) < ((n + 1 : Nat) : Int) := by omega
              have kk2 : (k' : Int) < (n : Int) + 1 := by omega
              obtain ⟨d, hd⟩ : ∃ d, d = s[k'] := ⟨_, rfl⟩
              have hd' := hd.symm
              rw [show s.data.toList[k'] = d from by rw [hd]; rfl] at hrow
              obtain ⟨v, hv⟩ : ∃ v, v = rowAt p.data.toList s.data.toList i k' := ⟨_, rfl⟩
              rw [← hv] at hpc hrow
              clear hk' hv hd
              have fin : (c == 63 || c == d) = true → Hid (rowAt p.data.toList s.data.toList (i + 1) k = v) := by
                intro e; show _ = _; rw [hrow, e]; rfl
              by_cases h63 : c = 63
              · have hrw := fin (by rw [h63]; rfl)
                have f63 : ((c.toNat : Int) == 63) = true := by rw [h63]; rfl
                clear fin hrow
                have HN1' := fun q => (HH.out.drewN q).set_ k (.bool v)
                simp only [rowB_set _ (rowPart p.data.toList s.data.toList i (k + 1)) (n + 1) k (by omega) v (fun j _ => rowPart_next _ _ _ _ _ hrw.out j)] at HN1'
                have HHq := fun q => Lib.hid (HN1' q)
                have HGq := fun q => Lib.hid ((HG.out.drewN q).far (p := ⟨h, k, none⟩) (by simp; omega) (.bool v))
                have HBq := fun q => Lib.hid ((below_drewN HB.out q).setCell (p := ⟨h, k, none⟩) (by simp; omega) (.bool v))
                clear hrw HN1' HH HG HB
                go_wp2
                go_quiet (fail)
                have HHn := HHq nq
                have HGn := HGq nq
                have HBn := HBq nq
                clear HHq HGq HBq
                go_wp2
                go_roundw
                case rel => exact ⟨k + 1, by omega, by go_num, HHn, HGn, HBn⟩
                case measure => simp [intOf]; omega
              · have f63 : ((c.toNat : Int) == 63) = false := by
                  rw [beq_eq_false_iff_ne]; intro e; exact h63 (UInt8.toNat_inj.1 (show c.toNat = 63 by omega))
                by_cases hcd : c = d
                · have hrw := fin (by rw [hcd]; simp)
                  have fcd : ((c.toNat : Int) == (d.toNat : Int)) = true := by rw [hcd]; simp
                  clear fin hrow hcd
                  have HN1' := fun q => (HH.out.drewN q).set_ k (.bool v)
                  simp only [rowB_set _ (rowPart p.data.toList s.data.toList i (k + 1)) (n + 1) k (by omega) v (fun j _ => rowPart_next _ _ _ _ _ hrw.out j)] at HN1'
                  have HHq := fun q => Lib.hid (HN1' q)
                  have HGq := fun q => Lib.hid ((HG.out.drewN q).far (p := ⟨h, k, none⟩) (by simp; omega) (.bool v))
                  have HBq := fun q => Lib.hid ((below_drewN HB.out q).setCell (p := ⟨h, k, none⟩) (by simp; omega) (.bool v))
                  clear hrw HN1' HH HG HB
                  go_wp2
                  go_quiet (fail)
                  have HHn := HHq nq
                  have HGn := HGq nq
                  have HBn := HBq nq
                  clear HHq HGq HBq
                  go_wp2
                  go_roundw
                  case rel => exact ⟨k + 1, by omega, by go_num, HHn, HGn, HBn⟩
                  case measure => simp [intOf]; omega
                · have hrow0 : rowAt p.data.toList s.data.toList (i + 1) k = false := by
                    rw [hrow, show (c == 63) = false from by simpa using h63, show (c == d) = false from by simpa using hcd]; rfl
                  have fcd : ((c.toNat : Int) == (d.toNat : Int)) = false := by
                    rw [beq_eq_false_iff_ne]; intro e; exact hcd (UInt8.toNat_inj.1 (by omega))
                  clear fin hrow hcd
                  have HHn : Hid (Blk wr h 4 (rowB (rowPart p.data.toList s.data.toList i (k + 1)) (n + 1))) := by
                    have e : rowB (rowPart p.data.toList s.data.toList i (k + 1)) (n + 1) = rowB (rowPart p.data.toList s.data.toList i k) (n + 1) := by rw [funext (rowPart_keep p.data.toList s.data.toList i k hrow0)]
                    show Blk _ _ _ _; rw [e]; exact HH.out
                  have HHq := fun q => Lib.hid (HHn.out.drewN q)
                  have HGq := fun q => Lib.hid (HG.out.drewN q)
                  have HBq := fun q => Lib.hid (below_drewN HB.out q)
                  clear hrow0 HH HG HB HHn
                  go_wp2
                  go_quiet (fail)
                  have HHn := HHq nq
                  have HGn := HGq nq
                  have HBn := HBq nq
                  clear HHq HGq HBq
                  go_wp2
                  go_roundw
                  case rel => exact ⟨k + 1, by omega, by go_num, HHn, HGn, HBn⟩
                  case measure => simp [intOf]; omega
        · subst heq
          have hki : decide (((n + 1 : Nat) : Int) ≤ (s.size : Int)) = false := by rw [decide_eq_false_iff_not]; omega
          have hkN : decide (n + 1 ≤ s.size) = false := by rw [decide_eq_false_iff_not, ← HN.out]; omega
          have hkM : decide ((n : Int) + 1 ≤ (s.size : Int)) = false := by rw [decide_eq_false_iff_not]; omega
          have HHn : Hid (Blk wr h 4 (rowB (rowAt p.data.toList s.data.toList (i + 1)) (n + 1))) := by
            have e : rowB (rowAt p.data.toList s.data.toList (i + 1)) (n + 1) = rowB (rowPart p.data.toList s.data.toList i (n + 1)) (n + 1) := by
              unfold rowB
              congr 1
              apply List.map_congr_left
              intro j hj
              have := List.mem_range.1 hj
              unfold rowPart
              rw [if_pos this]
            show Blk _ _ _ _
            rw [e]; exact HH.out
          clear HH HG hns
          have RM' := RMX.out
          go_wp2
          go_roundw
          case rel => exact ⟨i + 1, h, by omega, by go_num, rfl, hwl, HHn, HB⟩
          case measure => simp [intOf]; omega
    · subst heq
      have hii : decide ((p.size : Int) < (p.size : Int)) = false := by rw [decide_eq_false_iff_not]; omega
      have hc := HG.out.cell n
      rw [rowB_at _ _ _ (by omega)] at hc
      have HE : Hid (rowAt p.data.toList s.data.toList p.size n = mt p.data.toList s.data.toList) := by
        show _ = _
        unfold rowAt
        rw [← HPL.out, List.take_length, HN.out, ← HSL.out, List.take_length]
      obtain ⟨r, hr⟩ : ∃ r, r = rowAt p.data.toList s.data.toList p.size n := ⟨_, rfl⟩
      rw [← hr] at hc HE
      have hns : (s.size : Int) = (n : Int) := by rw [HN.out]
      have hnn : (n : Int) < ((n + 1 : Nat) : Int) := by omega
      have hnn2 : (n : Int) < (n : Int) + 1 := by omega
      have hn0 : (0 : Int) ≤ (n : Int) := by omega
      clear hr HG
      go_wp2
      go_ret
      exact ⟨by rw [HE.out]; rfl, HB.out⟩
end Go.Proofs.YthidjdjcjjbpbaaGreatDoor

namespace Go.Proofs.YthidjdjcjjbpbaaGreatDoor
open Go.RowKit Glob
set_option linter.unusedVariables false

theorem allL_len (p : List UInt8 → List UInt8 → Bool) : ∀ (l m : List (List UInt8)), l.length ≠ m.length → allL p l m = false
  | [], [], h => absurd rfl h
  | [], _ :: _, _ => rfl
  | _ :: _, [], _ => rfl
  | a :: l, b :: m, h => by
    show (p a b && allL p l m) = false
    rw [allL_len p l m (fun e => h (by simp [e]))]; simp
theorem allL_hit (p : List UInt8 → List UInt8 → Bool) : ∀ (l m : List (List UInt8)), l.length = m.length → (∀ k (h1 : k < l.length) (h2 : k < m.length), p l[k] m[k] = true) → allL p l m = true
  | [], [], _, _ => rfl
  | [], _ :: _, h, _ => by cases h
  | _ :: _, [], h, _ => by cases h
  | a :: l, b :: m, h, hp => by
    show (p a b && allL p l m) = true
    have h0 : p a b = true := hp 0 (by simp) (by simp)
    rw [h0, allL_hit p l m (by simpa using h) (fun k h1 h2 => hp (k + 1) (by simp; omega) (by simp; omega))]; rfl
theorem allL_miss (p : List UInt8 → List UInt8 → Bool) : ∀ (l m : List (List UInt8)) (k : Nat) (h1 : k < l.length) (h2 : k < m.length), p l[k] m[k] = false → allL p l m = false
  | a :: l, b :: m, 0, _, _, h => by show (p a b && allL p l m) = false; rw [show p a b = false from h]; rfl
  | a :: l, b :: m, k + 1, h1, h2, h => by
    show (p a b && allL p l m) = false
    rw [allL_miss p l m k (by simpa using h1) (by simpa using h2) (by simpa using h)]; simp
theorem ss_cells {w : World} {a b : Addr} {l m : List ByteArray} (hA : SS w (some a) l) (hB : SS w (some b) m) {k : Nat} (h1 : k < l.length) (h2 : k < m.length) : w.cell? (a.add k) = some (.string l[k]) ∧ w.cell? (b.add k) = some (.string m[k]) := by
  obtain ⟨ad, e, _, hc⟩ := hA.at_ h1
  obtain ⟨bd, e', _, hc'⟩ := hB.at_ h2
  cases e; cases e'
  exact ⟨hc, hc'⟩
set_option maxRecDepth 100000 in
set_option maxHeartbeats 2000000 in
theorem rmatch_any (p s : ByteArray) (w : World) (hp : p.size ≤ 100000) (hs : s.size ≤ 100000) : Calls Tryz.prog 43 #[.string p, .string s] w fun e w' => e = .returned (.bool (matchL p.data.toList s.data.toList)) ∧ Below w.heap.size w w' := by
  obtain ⟨r, hr⟩ : ∃ r, r = matchL p.data.toList s.data.toList := ⟨_, rfl⟩
  rw [← hr]
  have HR := Lib.hid hr
  clear hr
  have HA := fun w => Lib.hid (rpattern_any p w hp)
  have HB := fun w => Lib.hid (rpath_any s w hs)
  cases h1 : patL p.data.toList with
  | false =>
    have HI : Hid (r = false) := by show _ = _; rw [HR.out]; unfold matchL; rw [h1]; rfl
    rw [h1] at HA
    clear h1
    go_enter Tryz.func43, Tryz.ntmps43
    go_wp2_with fail
    refine (HA _).out.mono ?_
    rintro e w1 ⟨rfl, hb1⟩
    go_wp2
    go_ret
    exact ⟨by rw [HI.out]; rfl, hb1⟩
  | true =>
    cases h2 : pathL s.data.toList with
    | false =>
      have HI : Hid (r = false) := by show _ = _; rw [HR.out]; unfold matchL; rw [h1, h2]; rfl
      rw [h1] at HA
      rw [h2] at HB
      clear h1 h2
      go_enter Tryz.func43, Tryz.ntmps43
      go_wp2_with fail
      refine (HA _).out.mono ?_
      rintro e w1 ⟨rfl, hb1⟩
      go_wp2_with fail
      refine (HB _).out.mono ?_
      rintro e w2 ⟨rfl, hb2⟩
      go_wp2
      go_ret
      exact ⟨by rw [HI.out]; rfl, hb1.trans (hb2.mono hb1.size)⟩
    | true =>
      have HI : Hid (r = allL oneL (cutS 47 p.data.toList) (cutS 47 s.data.toList)) := by show _ = _; rw [HR.out]; unfold matchL; rw [h1, h2]; rfl
      have HC := fun w => Lib.hid (rsplit_any p w hp)
      have HD := fun w => Lib.hid (rsplit_any s w hs)
      rw [h1] at HA
      rw [h2] at HB
      clear h1 h2
      go_enter Tryz.func43, Tryz.ntmps43
      go_wp2_with fail
      refine (HA _).out.mono ?_
      rintro e w1 ⟨rfl, hb1⟩
      go_wp2_with fail
      refine (HB _).out.mono ?_
      rintro e w2 ⟨rfl, hb2⟩
      go_wp2_with fail
      refine (HC _).out.mono ?_
      rintro e w3 ⟨A, ca, l, hl, rfl, hA, hb3⟩
      have HL := Lib.hid hl
      clear hl
      go_wp2_with fail
      refine (HD _).out.mono ?_
      rintro e w4 ⟨B, cb, m, hm, rfl, hB, hb4⟩
      have HM := Lib.hid hm
      clear hm
      have hsl := seg_sizes hp HL.out
      have hsm := seg_sizes hs HM.out
      have a1 := hb1.trans (hb2.mono hb1.size)
      have a2 := a1.trans (hb3.mono a1.size)
      have BW := Lib.hid (a2.trans (hb4.mono a2.size))
      have SA := Lib.hid (hA.below hb4)
      have SB := Lib.hid hB
      obtain ⟨x, hx⟩ : ∃ x, x = l.length := ⟨_, rfl⟩
      obtain ⟨y, hy⟩ : ∃ y, y = m.length := ⟨_, rfl⟩
      have hx1 : x ≤ 100001 := by rw [hx]; exact hsl.1
      have hy1 : y ≤ 100001 := by rw [hy]; exact hsm.1
      have ZL := Lib.hid hsl.2
      have ZM := Lib.hid hsm.2
      rw [← hx]
      rw [← hy]
      have HX := Lib.hid hx
      have HY := Lib.hid hy
      have HAL : Hid (allL oneL (cutS 47 p.data.toList) (cutS 47 s.data.toList) = allL oneL (l.map (·.data.toList)) (m.map (·.data.toList))) := by show _ = _; rw [HL.out, HM.out]
      clear hb1 hb2 hb3 hb4 a1 a2 hA hB hsl hsm hx hy HA HB HC HD
      by_cases hxy : x = y
      · have ne : ((x : Int) == (y : Int)) = true := by rw [hxy]; simp
        have ne2 : ((x : Int) != (y : Int)) = false := by rw [hxy]; simp
        have HXY := Lib.hid hxy
        clear hxy
        go_wp2
        go_loopw [7] (fun i wr => ∃ k : Nat, k ≤ x ∧ i = .int .i64 k ∧ Hid (∀ j (h1 : j < l.length) (h2 : j < m.length), j < k → mt l[j].data.toList m[j].data.toList = true) ∧ Hid (SS wr A l) ∧ Hid (SS wr B m) ∧ Hid (Below w.heap.size w wr)) (fun i _ => x - (intOf i).toNat)
        case atStart => exact ⟨0, Nat.zero_le _, rfl, Lib.hid (fun j _ _ h => by omega), SA, SB, BW⟩
        case round =>
          obtain ⟨k, hk, rfl, HOK, SA, SB, BW⟩ := hrel
          rcases (by omega : k < x ∨ k = x) with hlt | heq
          · have hki : decide ((k : Int) < (x : Int)) = true := by rw [decide_eq_true_iff]; omega
            have hk1 : (k : Int) < (x : Int) := by omega
            have hk2 : (k : Int) < (y : Int) := by have := HXY.out; omega
            have hk0 : (0 : Int) ≤ (k : Int) := by omega
            have wk : IntKind.i64.wrap (k : Int) = (k : Int) := IntWalk.i64_in _ (by omega)
            have h1 : k < l.length := by rw [← HX.out]; exact hlt
            have h2 : k < m.length := by rw [← HY.out, ← HXY.out]; exact hlt
            obtain ⟨ad, rfl, _, hca⟩ := SA.out.at_ h1
            obtain ⟨bd, rfl, _, hcb⟩ := SB.out.at_ h2
            obtain ⟨u, hu⟩ : ∃ u, u = l[k] := ⟨_, rfl⟩
            obtain ⟨v, hv⟩ : ∃ v, v = m[k] := ⟨_, rfl⟩
            rw [← hu] at hca
            rw [← hv] at hcb
            have HO := fun w => Lib.hid (rone_any u v w (by rw [hu]; exact ZL.out _ (List.getElem_mem h1)) (by rw [hv]; exact ZM.out _ (List.getElem_mem h2)))
            obtain ⟨b, hb⟩ : ∃ b, b = mt u.data.toList v.data.toList := ⟨_, rfl⟩
            rw [← hb] at HO
            have HBB : Hid (mt l[k].data.toList m[k].data.toList = b) := by show _ = _; rw [hb, hu, hv]
            have HU := Lib.hid hu
            have HV := Lib.hid hv
            clear hu hv hb
            go_wp2
            go_region_held3 (fun w' => w'.cell? (ad.add k) = some (.string u) ∧ w'.cell? (bd.add k) = some (.string v))
              (first | exact (by rw [HU.out, HV.out]; exact ss_cells (w := wr.drew) SA.out SB.out h1 h2) | exact (by rw [HU.out, HV.out]; exact ss_cells (SS.below (w := wr.drew) SA.out hb5) (SS.below (w := wr.drew) SB.out hb5) h1 h2) | go_keep)
              (first | (go_at_call 51; (with_reducible refine (HO _).out.mono ?_); rintro e w5 ⟨rfl, hb5⟩))
            have SA5 := Lib.hid (SS.below (w := wr.drew) SA.out hb5)
            have SB5 := Lib.hid (SS.below (w := wr.drew) SB.out hb5)
            have BW5 := Lib.hid ((below_drewN BW.out 1).trans (hb5.mono BW.out.size))
            clear SA SB BW hb5
            cases b with
            | true =>
              have HOK2 : Hid (∀ j (h1 : j < l.length) (h2 : j < m.length), j < k + 1 → mt l[j].data.toList m[j].data.toList = true) := by
                intro j g1 g2 hj
                rcases (by omega : j < k ∨ j = k) with h | h
                · exact HOK.out j g1 g2 h
                · subst h; exact HBB.out
              clear HBB HOK HO
              go_wp2
              go_roundw
              case rel => exact ⟨k + 1, by omega, by go_num, HOK2, SA5, SB5, BW5⟩
              case measure => simp [intOf]; omega
            | false =>
              have HF : Hid (r = false) := by
                show _ = _
                rw [HI.out, HAL.out]
                refine allL_miss _ _ _ k (by simpa using h1) (by simpa using h2) ?_
                rw [one_mt]; simpa using HBB.out
              clear HBB HOK HO
              go_wp2
              go_ret
              exact ⟨by rw [HF.out]; rfl, BW5.out⟩
          · subst heq
            have hki : decide ((k : Int) < (k : Int)) = false := by rw [decide_eq_false_iff_not]; omega
            have HT : Hid (r = true) := by
              show _ = _
              rw [HI.out, HAL.out]
              refine allL_hit _ _ _ (by rw [List.length_map, List.length_map, ← HX.out, ← HY.out, HXY.out]) (fun j g1 g2 => ?_)
              rw [one_mt]
              have := HOK.out j (by simpa using g1) (by simpa using g2) (by rw [HX.out]; simpa using g1)
              simpa using this
            clear HOK
            go_wp2
            go_ret
            exact ⟨by rw [HT.out]; rfl, BW.out⟩
      · have ne : ((x : Int) == (y : Int)) = false := by rw [beq_eq_false_iff_ne]; omega
        have ne2 : ((x : Int) != (y : Int)) = true := by rw [bne_iff_ne]; omega
        have HF : Hid (r = false) := by
          show _ = _
          rw [HI.out, HAL.out]
          refine allL_len _ _ _ ?_
          rw [List.length_map, List.length_map, ← HX.out, ← HY.out]; exact hxy
        clear hxy
        go_wp2
        go_ret
        exact ⟨by rw [HF.out]; rfl, BW.out⟩
end Go.Proofs.YthidjdjcjjbpbaaGreatDoor
