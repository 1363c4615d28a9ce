/-
  store, plainly: a state's code, and what bytes are as a state.
-/
import Derived.Test.YtgpcinfhcamgpaaGreatDoorGA
namespace Go.Proofs.YtgpcinfhcamgpaaGreatDoor
set_option linter.unusedVariables false
set_option linter.unusedSimpArgs false

/-- a file: its name, its text -/
structure Fi where
  nm : ByteArray
  b : List UInt8
  deriving DecidableEq
structure Sta where
  r : List UInt8
  t : List UInt8
  s : List UInt8
  tg : List Fi
  ins : List Fi
  deriving DecidableEq
def Sta.none : Sta := ⟨[], [], [], [], []⟩
def fiB (f : Fi) : List UInt8 := textBytes f.nm.data.toList ++ textBytes f.b
def fisB (l : List Fi) : List UInt8 := beBytes l.length 2 ++ l.flatMap fiB
def stB (s : Sta) : List UInt8 := textBytes s.r ++ (textBytes s.t ++ (textBytes s.s ++ (fisB s.tg ++ fisB s.ins)))
/-- a text is read: it, what is left, is it bad? -/
def rdT (l : List UInt8) : List UInt8 × List UInt8 × Bool :=
  if l.length < 4 ∨ 1048576 < beVal (l.take 4) ∨ l.length - 4 < beVal (l.take 4) then ([], [], true)
  else ((l.drop 4).take (beVal (l.take 4)), (l.drop 4).drop (beVal (l.take 4)), false)
theorem rdT_bad {l : List UInt8} (h : l.length < 4 ∨ 1048576 < beVal (l.take 4) ∨ l.length - 4 < beVal (l.take 4)) : rdT l = ([], [], true) := by rw [rdT, if_pos h]
theorem rdT_nil : rdT [] = ([], [], true) := rdT_bad (.inl (by simp))
theorem rdT_ok {l : List UInt8} (h1 : 4 ≤ l.length) (h2 : beVal (l.take 4) ≤ 1048576) (h3 : beVal (l.take 4) ≤ l.length - 4) :
    rdT l = ((l.drop 4).take (beVal (l.take 4)), (l.drop 4).drop (beVal (l.take 4)), false) := by rw [rdT, if_neg (by omega)]
theorem rdT_left (l : List UInt8) : (rdT l).2.1.length ≤ l.length := by
  unfold rdT
  split
  · simp
  · simp only [List.length_drop]; omega
theorem rdT_size (l : List UInt8) : (rdT l).1.length ≤ l.length := by
  unfold rdT
  split
  · simp
  · simp only [List.length_take, List.length_drop]; omega
theorem rdT_most (l : List UInt8) : (rdT l).1.length ≤ 1048576 := by
  unfold rdT
  split
  · simp
  · simp only [List.length_take, List.length_drop]; omega
theorem rdT_empty (l : List UInt8) (h : (rdT l).2.2 = true) : (rdT l).2.1 = [] := by
  unfold rdT at h ⊢
  split at h
  · rename_i h1; rw [if_pos h1]
  · cases h
theorem rdT_next (t rest : List UInt8) (h : t.length ≤ 1048576) : rdT (textBytes t ++ rest) = (t, rest, false) := by
  have e1 := beVal_text t rest (by omega)
  have e2 := drop_text t rest
  have hl : (textBytes t ++ rest).length = 4 + t.length + rest.length := by rw [List.length_append, textBytes_length]
  rw [rdT_ok (by omega) (by rw [e1]; exact h) (by rw [e1]; omega), e1, e2, List.take_left' rfl, List.drop_left' rfl]
abbrev RdS := List Fi × List UInt8 × Bool
def stepF (s : RdS) : RdS := (s.1 ++ [⟨⟨(rdT s.2.1).1.toArray⟩, (rdT (rdT s.2.1).2.1).1⟩], (rdT (rdT s.2.1).2.1).2.1, (rdT (rdT s.2.1).2.1).2.2)
def rdFs : Nat → RdS → RdS
  | 0, s => s
  | n + 1, s => if s.2.2 then s else rdFs n (stepF s)
theorem rdFs_bad : ∀ (n : Nat) (s : RdS), s.2.2 = true → rdFs n s = s
  | 0, s, _ => rfl
  | n + 1, s, h => by rw [rdFs, if_pos h]
theorem rdFs_step (n : Nat) (s : RdS) (h : s.2.2 = false) : rdFs (n + 1) s = rdFs n (stepF s) := by rw [rdFs, if_neg (by simp [h])]
theorem stepF_empty (s : RdS) (h : (stepF s).2.2 = true) : (stepF s).2.1 = [] := rdT_empty _ h
def rdFiles (l : List UInt8) : RdS := if l.length < 2 then ([], [], true) else rdFs (beVal (l.take 2)) ([], l.drop 2, false)
theorem rdFiles_short {l : List UInt8} (h : l.length < 2) : rdFiles l = ([], [], true) := by rw [rdFiles, if_pos h]
theorem rdFiles_ok {l : List UInt8} (h : 2 ≤ l.length) : rdFiles l = rdFs (beVal (l.take 2)) ([], l.drop 2, false) := by rw [rdFiles, if_neg (by omega)]
theorem rdFs_empty : ∀ (n : Nat) (s : RdS), (s.2.2 = true → s.2.1 = []) → (rdFs n s).2.2 = true → (rdFs n s).2.1 = []
  | 0, s, h, hb => h hb
  | n + 1, s, h, hb => by
    cases hs : s.2.2 with
    | true => rw [rdFs_bad _ _ hs] at hb ⊢; exact h hb
    | false => rw [rdFs_step _ _ hs] at hb ⊢; exact rdFs_empty n _ (stepF_empty s) hb
theorem rdFiles_empty (l : List UInt8) (hb : (rdFiles l).2.2 = true) : (rdFiles l).2.1 = [] := by
  rcases Nat.lt_or_ge l.length 2 with h | h
  · rw [rdFiles_short h]
  · rw [rdFiles_ok h] at hb ⊢; exact rdFs_empty _ _ (fun h => by cases h) hb
theorem rdFs_left : ∀ (n : Nat) (s : RdS), (rdFs n s).2.1.length ≤ s.2.1.length
  | 0, s => Nat.le_refl _
  | n + 1, s => by
    cases hs : s.2.2 with
    | true => rw [rdFs_bad _ _ hs]; exact Nat.le_refl _
    | false =>
      rw [rdFs_step _ _ hs]
      have h1 := rdFs_left n (stepF s)
      have h2 := rdT_left s.2.1
      have h3 := rdT_left (rdT s.2.1).2.1
      exact Nat.le_trans h1 (Nat.le_trans h3 h2)
theorem rdFiles_left (l : List UInt8) : (rdFiles l).2.1.length ≤ l.length := by
  rcases Nat.lt_or_ge l.length 2 with h | h
  · rw [rdFiles_short h]; simp
  · rw [rdFiles_ok h]
    have := rdFs_left (beVal (l.take 2)) ([], l.drop 2, false)
    simp only [List.length_drop] at this
    omega
theorem rdFs_next : ∀ (l : List Fi) (pre : List Fi) (rest : List UInt8), (∀ f ∈ l, f.nm.data.toList.length ≤ 1048576 ∧ f.b.length ≤ 1048576) → rdFs l.length (pre, l.flatMap fiB ++ rest, false) = (pre ++ l, rest, false)
  | [], pre, rest, _ => by simp [rdFs]
  | f :: l, pre, rest, h => by
    obtain ⟨h1, h2⟩ := h f (by simp)
    rw [List.length_cons, rdFs_step _ _ rfl]
    have e : stepF (pre, (f :: l).flatMap fiB ++ rest, false) = (pre ++ [f], l.flatMap fiB ++ rest, false) := by
      have e1 : (f :: l).flatMap fiB ++ rest = textBytes f.nm.data.toList ++ (textBytes f.b ++ (l.flatMap fiB ++ rest)) := by simp [fiB, List.append_assoc]
      unfold stepF
      simp only
      rw [e1, rdT_next _ _ h1, rdT_next _ _ h2]
    rw [e, rdFs_next l (pre ++ [f]) rest (fun g hg => h g (by simp [hg]))]
    simp [List.append_assoc]
theorem rdFiles_next (l : List Fi) (rest : List UInt8) (hl : l.length < 65536) (h : ∀ f ∈ l, f.nm.data.toList.length ≤ 1048576 ∧ f.b.length ≤ 1048576) : rdFiles (fisB l ++ rest) = (l, rest, false) := by
  have e1 : (fisB l ++ rest).take 2 = beBytes l.length 2 := by
    unfold fisB
    rw [List.append_assoc, List.take_append_of_le_length (by rw [beBytes_length]; exact Nat.le_refl _), List.take_of_length_le (by rw [beBytes_length]; exact Nat.le_refl _)]
  have e2 : (fisB l ++ rest).drop 2 = l.flatMap fiB ++ rest := by
    unfold fisB
    rw [List.append_assoc, List.drop_append_of_le_length (by rw [beBytes_length]; exact Nat.le_refl _), List.drop_of_length_le (by rw [beBytes_length]; exact Nat.le_refl _), List.nil_append]
  have e3 : 2 ≤ (fisB l ++ rest).length := by unfold fisB; simp only [List.length_append, beBytes_length]; omega
  have e4 : beVal (beBytes l.length 2) = l.length := by rw [beVal_beBytes]; exact Nat.mod_eq_of_lt hl
  rw [rdFiles_ok e3, e1, e2, e4, rdFs_next _ _ _ h, List.nil_append]
def decS (l : List UInt8) : Sta × List UInt8 × Bool :=
  (⟨(rdT l).1, (rdT (rdT l).2.1).1, (rdT (rdT (rdT l).2.1).2.1).1, (rdFiles (rdT (rdT (rdT l).2.1).2.1).2.1).1, (rdFiles (rdFiles (rdT (rdT (rdT l).2.1).2.1).2.1).2.1).1⟩,
    (rdFiles (rdFiles (rdT (rdT (rdT l).2.1).2.1).2.1).2.1).2.1, (rdFiles (rdFiles (rdT (rdT (rdT l).2.1).2.1).2.1).2.1).2.2)
/-- names rise -/
def bl' (a b : ByteArray) : Bool := Op.bytesLess a.toList b.toList
def upF : List Fi → Bool
  | [] => true
  | [_] => true
  | a :: b :: l => bl' a.nm b.nm && upF (b :: l)
def risF (ok : List UInt8 → Bool) (most : Nat) (l : List Fi) : Bool := l.all (fun f => ok f.nm.data.toList && decide (f.b.length ≤ 1048576)) && upF l && decide (l.length ≤ most)
def mayS (fok gok : List UInt8 → Bool) (s : Sta) : Bool := decide (s.r.length ≤ 1048576) && decide (s.t.length ≤ 1048576) && decide (s.s.length ≤ 1048576) && risF fok 64 s.tg && risF gok 16 s.ins
def decP (fok gok : List UInt8 → Bool) (l : List UInt8) : Option Sta := if (decS l).2.2 = false ∧ (decS l).2.1 = [] ∧ mayS fok gok (decS l).1 = true then some (decS l).1 else none
theorem risF_sizes {ok : List UInt8 → Bool} {most : Nat} {l : List Fi} (hok : ∀ n, ok n = true → n.length ≤ 1048576) (h : risF ok most l = true) : l.length ≤ most ∧ ∀ f ∈ l, f.nm.data.toList.length ≤ 1048576 ∧ f.b.length ≤ 1048576 := by
  unfold risF at h
  simp only [Bool.and_eq_true, List.all_eq_true, decide_eq_true_eq] at h
  exact ⟨h.2, fun f hf => ⟨hok _ (h.1.1 f hf).1, (h.1.1 f hf).2⟩⟩
theorem decS_enc (s : Sta) (h1 : s.r.length ≤ 1048576) (h2 : s.t.length ≤ 1048576) (h3 : s.s.length ≤ 1048576) (h4 : s.tg.length < 65536) (h5 : s.ins.length < 65536)
    (h6 : ∀ f ∈ s.tg, f.nm.data.toList.length ≤ 1048576 ∧ f.b.length ≤ 1048576) (h7 : ∀ f ∈ s.ins, f.nm.data.toList.length ≤ 1048576 ∧ f.b.length ≤ 1048576) : decS (stB s) = (s, [], false) := by
  have e : rdFiles (fisB s.ins) = (s.ins, [], false) := by
    have := rdFiles_next s.ins [] h5 h7
    rwa [List.append_nil] at this
  unfold decS stB
  simp only [rdT_next _ _ h1, rdT_next _ _ h2, rdT_next _ _ h3, rdFiles_next _ _ h4 h6, e]
theorem decP_enc {fok gok : List UInt8 → Bool} (hf : ∀ n, fok n = true → n.length ≤ 1048576) (hg : ∀ n, gok n = true → n.length ≤ 1048576) (s : Sta) (h : mayS fok gok s = true) : decP fok gok (stB s) = some s := by
  have hm := h
  unfold mayS at h
  simp only [Bool.and_eq_true, decide_eq_true_eq] at h
  obtain ⟨⟨⟨⟨h1, h2⟩, h3⟩, h4⟩, h5⟩ := h
  obtain ⟨h6, h7⟩ := risF_sizes hf h4
  obtain ⟨h8, h9⟩ := risF_sizes hg h5
  have e := decS_enc s h1 h2 h3 (by omega) (by omega) h7 h9
  unfold decP
  rw [e]
  simp [hm]
theorem decP_may {fok gok : List UInt8 → Bool} {l : List UInt8} {s : Sta} (h : decP fok gok l = some s) : mayS fok gok s = true := by
  unfold decP at h
  split at h
  · rename_i h1
    cases h
    exact h1.2.2
  · cases h
theorem mayS_none (fok gok : List UInt8 → Bool) : mayS fok gok Sta.none = true := by simp [mayS, Sta.none, risF, upF]
theorem stB_len (s : Sta) : 16 ≤ (stB s).length := by
  unfold stB fisB
  simp only [List.length_append, textBytes_length, beBytes_length]
  omega

/-! ### files by their names -/
def getF (l : List Fi) (n : ByteArray) : Option (List UInt8) := (l.find? (fun f => f.nm == n)).map (·.b)
def dropF (l : List Fi) (n : ByteArray) : List Fi := l.filter (fun f => !(f.nm == n))
/-- the first place at which something is true -/
def placeF (p : Fi → Bool) : List Fi → Option Nat
  | [] => none
  | f :: l => if p f then some 0 else (placeF p l).map (· + 1)
def putF (l : List Fi) (f : Fi) : List Fi :=
  match placeF (fun x => x.nm == f.nm) l with
  | some i => l.take i ++ f :: l.drop (i + 1)
  | none => match placeF (fun x => bl' f.nm x.nm) l with
    | some i => l.take i ++ f :: l.drop i
    | none => l ++ [f]
end Go.Proofs.YtgpcinfhcamgpaaGreatDoor
