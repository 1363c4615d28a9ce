/-
  The parser, in plain Lean: a state, and what each step makes of it.
  The parser, in plain Lean: blanks ahead and behind.
  The parser, in plain Lean: blanks behind a text.
  The parser, in plain Lean: a text with blanks behind it is read alike.
  The parser, in plain Lean: blanks ahead of a text and behind it: the law.
  The parser, in plain Lean: the law of blanks.
  The parser, in plain Lean: the count grows.
-/
import Derived.Test.YteofdpogjnojnaaGreatDoorVaM
import Derived.Test.YteofdpogjnojnaaGreatDoorUtfPlain
namespace Go.Proofs.YteofdpogjnojnaaGreatDoor
open Go.RowKit Utf
set_option linter.unusedVariables false
set_option linter.unusedSimpArgs false

namespace Pa
/-- the place, what is left (nothing behind a fault), how many values there were, the fault -/
structure St where
  i : Nat
  r : List UInt8
  c : Nat
  e : Int
def St.fail (p : St) (a : Nat) (e : Int) : St := if p.e = 0 then ⟨a, [], p.c, e⟩ else p
def isBl (c : UInt8) : Bool := c = 32 || c = 9 || c = 10 || c = 13
def St.adv (p : St) (n : Nat) : St := ⟨p.i + n, p.r.drop n, p.c, p.e⟩
def St.skip (p : St) : St := p.adv (p.r.takeWhile isBl).length
def St.eat (p : St) (c : UInt8) : Bool × St := if p.r.head? = some c then (true, p.adv 1) else (false, p)
def St.need (p : St) (c : UInt8) : St := if (p.eat c).1 = true then (p.eat c).2 else p.fail p.i 50
/-! texts' literals -/
def escs : List UInt8 := [34, 92, 47, 98, 102, 110, 114, 116]
def escd : List UInt8 := [34, 92, 47, 8, 12, 10, 13, 9]
def lowB (c : UInt8) : UInt8 := if 65 ≤ c.toNat ∧ c.toNat ≤ 90 then c + 32 else c
def hexOk (c : UInt8) : Bool := decide (48 ≤ c.toNat ∧ c.toNat ≤ 57) || decide (97 ≤ c.toNat ∧ c.toNat ≤ 102)
def hexN (c : UInt8) : Nat := if c.toNat ≤ 57 then c.toNat - 48 else c.toNat - 87
/-- the code of a backslash, u and four digits -/
def fourP : List UInt8 → Int
  | 92 :: 117 :: a :: b :: c :: d :: _ => if hexOk (lowB a) && hexOk (lowB b) && hexOk (lowB c) && hexOk (lowB d) then ((((hexN (lowB a) * 16 + hexN (lowB b)) * 16 + hexN (lowB c)) * 16 + hexN (lowB d) : Nat) : Int) else -1
  | _ => -1
def pairP (a b : Int) : Int := if a < 55296 ∨ 56320 ≤ a ∨ b < 56320 ∨ 57344 ≤ b then -1 else 65536 + (a - 55296) * 1024 + b - 56320
def escP (l : List UInt8) : Int × Nat :=
  match l with
  | _ :: c :: _ =>
    if c ∈ escs then (((escd.getD (escs.idxOf c) 0).toNat : Int), 2)
    else if fourP l < 0 then (0, 0)
    else if mayU (fourP l) = true then (fourP l, 6)
    else if pairP (fourP l) (fourP (l.drop 6)) < 0 then (0, 0)
    else (pairP (fourP l) (fourP (l.drop 6)), 12)
  | _ => (0, 0)
/-- what stands at a text's beginning, within a literal: a character, how many bytes it has, what is wrong -/
def partP (l : List UInt8) : Int × Nat × Int :=
  match l with
  | [] => (0, 0, 31)
  | c :: _ =>
    if c.toNat < 32 then (0, 0, 31)
    else if c = 92 then (if (escP l).2 = 0 then (0, 0, 31) else ((escP l).1, (escP l).2, 0))
    else if (nxt l).2 = 0 then (0, 0, 30) else ((nxt l).1, (nxt l).2, 0)
/-- behind the first quote: l is left, n bytes were read -/
def unqG : Nat → List UInt8 → Nat → List UInt8 → List UInt8 × Nat × Int
  | 0, _, n, _ => ([], n, 31)
  | f + 1, l, n, acc =>
    if l.head? = some 34 then (acc, n + 1, 0)
    else if (partP l).2.2 ≠ 0 then ([], n, (partP l).2.2)
    else unqG f (l.drop (partP l).2.1) (n + (partP l).2.1) (acc ++ encU (partP l).1)
def unq (l : List UInt8) : List UInt8 × Nat × Int := if l.head? = some 34 then unqG l.length (l.drop 1) 1 [] else ([], 0, 31)
def St.lit (p : St) : ByteArray × St :=
  if p.e ≠ 0 then (⟨#[]⟩, p)
  else if (unq p.r).2.2 = 0 then (⟨(unq p.r).1.toArray⟩, p.adv (unq p.r).2.1)
  else (⟨#[]⟩, p.fail (p.i + (unq p.r).2.1) (unq p.r).2.2)
/-! numbers -/
def isDig (c : UInt8) : Bool := decide (48 ≤ c.toNat ∧ c.toNat ≤ 57)
def sumP (l : List UInt8) : Nat := l.foldl (fun n c => 10 * n + (c.toNat - 48)) 0
def pv0 : PV := .mk 0 0 ⟨#[]⟩ [] [] []
def isFl (o : Option UInt8) : Bool := o = some 46 || o = some 101 || o = some 69
def numP (p : St) : St × PV :=
  let m := p.eat 45
  let s := m.2.r.takeWhile isDig
  if s = [] ∨ (s.head? = some 48 ∧ (m.1 = true ∨ 1 < s.length)) then (m.2.fail p.i 50, pv0)
  else
    let q := m.2.adv s.length
    if isFl q.r.head? = true then (q.fail q.i 51, pv0)
    else if 9007199254740991 < sumP s then (q.fail p.i 52, pv0)
    else (q, .mk 3 (if m.1 then -(sumP s : Int) else (sumP s : Int)) ⟨#[]⟩ [] [] [])
/-! items -/
section
variable {α : Type}
def itemsG (one : St → α → St × α) (en : UInt8) : Nat → St → α → St × α
  | 0, p, a => (p, a)
  | f + 1, p, a =>
    if p.e ≠ 0 then (p, a)
    else if ((one p a).1.eat en).1 = true then (((one p a).1.eat en).2, (one p a).2)
    else itemsG one en f ((one p a).1.need 44) (one p a).2
def itemsP (one : St → α → St × α) (en : UInt8) (p : St) (a : α) : St × α :=
  if (p.skip.eat en).1 = true then ((p.skip.eat en).2, a) else itemsG one en (p.skip.r.length + 2) p.skip a
end
def oneL (rd : St → St × PV) (p : St) (l : List PV) : St × List PV := ((rd p).1, l ++ [(rd p).2])
def hasK (m : List (ByteArray × PV)) (k : ByteArray) : Bool := m.any (fun x => decide (x.1 = k))
def keyP (m : List (ByteArray × PV)) (p : St) : ByteArray × St :=
  let p1 := p.skip
  let k := p1.lit
  (k.1, ((if hasK m k.1 = true then k.2.fail p1.i 53 else k.2).skip).need 58)
def oneM (rd : St → St × PV) (p : St) (m : List (ByteArray × PV)) : St × List (ByteArray × PV) := ((rd (keyP m p).2).1, m ++ [((keyP m p).1, (rd (keyP m p).2).2)])
/-- the value of a word that comes, and how many letters it has -/
def wordP (l : List UInt8) : Option (PV × Nat) :=
  if [110, 117, 108, 108].isPrefixOf l then some (.mk 1 0 ⟨#[]⟩ [] [] [], 4)
  else if [116, 114, 117, 101].isPrefixOf l then some (.mk 2 1 ⟨#[]⟩ [] [] [], 4)
  else if [102, 97, 108, 115, 101].isPrefixOf l then some (.mk 2 0 ⟨#[]⟩ [] [] [], 5)
  else none
def starts : List UInt8 := [34, 91, 123, 45, 48, 49, 50, 51, 52, 53, 54, 55, 56, 57]
def begins (l : List UInt8) : Bool := (wordP l).isSome || (match l with | c :: _ => decide (c ∈ starts) | [] => false)
def readP (rd : St → St × PV) (p : St) : St × PV :=
  match wordP p.r with
  | some (v, n) => (p.adv n, v)
  | none =>
    if p.r.head? = some 34 then (p.lit.2, .mk 4 0 p.lit.1 [] [] [])
    else if (p.eat 91).1 = true then ((itemsP (oneL rd) 93 (p.eat 91).2 []).1, .mk 5 0 ⟨#[]⟩ (itemsP (oneL rd) 93 (p.eat 91).2 []).2 [] [])
    else if (p.eat 123).1 = true then ((itemsP (oneM rd) 125 (p.eat 123).2 []).1, .mk 6 0 ⟨#[]⟩ [] ((itemsP (oneM rd) 125 (p.eat 123).2 []).2.map Prod.fst) ((itemsP (oneM rd) 125 (p.eat 123).2 []).2.map Prod.snd))
    else numP p
def St.more (p : St) : St := ⟨p.i, p.r, p.c + 1, p.e⟩
def valP : Nat → St → St × PV
  | d, p =>
    if p.skip.e ≠ 0 ∨ begins p.skip.r = false then (p.skip.fail p.skip.i 50, pv0)
    else if 4096 < p.skip.more.c then (p.skip.more.fail p.skip.i 42, pv0)
    else match d with
      | 0 => (p.skip.more.fail p.skip.i 41, pv0)
      | d + 1 => ((readP (valP d) p.skip.more).1.skip, (readP (valP d) p.skip.more).2)
def parseP (b : List UInt8) : PV × Nat × Int :=
  if 262144 < b.length then (pv0, 0, 3)
  else
    let z := valP 12 ⟨0, b, 0, 0⟩
    let q := if z.1.r ≠ [] then z.1.fail z.1.i 50 else z.1
    if q.e ≠ 0 then (pv0, q.i, q.e) else (z.2, b.length, 0)
end Pa
end Go.Proofs.YteofdpogjnojnaaGreatDoor

namespace Go.Proofs.YteofdpogjnojnaaGreatDoor
open Go.RowKit Utf
set_option linter.unusedVariables false
set_option linter.unusedSimpArgs false

namespace Pa
/-! a state further on -/
def St.sh (k : Nat) (p : St) : St := ⟨k + p.i, p.r, p.c, p.e⟩
section
variable {k : Nat} {p : St}
theorem sh_fail (a : Nat) (e : Int) : (p.sh k).fail (k + a) e = (p.fail a e).sh k := by unfold St.fail St.sh; split <;> rfl
theorem sh_fail' (e : Int) : (p.sh k).fail (p.sh k).i e = (p.fail p.i e).sh k := sh_fail p.i e
theorem sh_adv (n : Nat) : (p.sh k).adv n = (p.adv n).sh k := by unfold St.adv St.sh; simp [Nat.add_assoc]
theorem sh_skip : (p.sh k).skip = p.skip.sh k := sh_adv _
theorem sh_eat (c : UInt8) : (p.sh k).eat c = ((p.eat c).1, (p.eat c).2.sh k) := by
  unfold St.eat
  rw [show (p.sh k).r = p.r from rfl, sh_adv]
  split <;> rfl
theorem sh_need (c : UInt8) : (p.sh k).need c = (p.need c).sh k := by
  unfold St.need
  rw [sh_eat, sh_fail']
  split <;> rfl
theorem sh_lit : (p.sh k).lit = (p.lit.1, p.lit.2.sh k) := by
  unfold St.lit
  rw [show (p.sh k).r = p.r from rfl, show (p.sh k).e = p.e from rfl, show (p.sh k).i + (unq p.r).2.1 = k + (p.i + (unq p.r).2.1) from Nat.add_assoc _ _ _, sh_fail, sh_adv]
  split
  · rfl
  · split <;> rfl
theorem sh_num : numP (p.sh k) = ((numP p).1.sh k, (numP p).2) := by
  unfold numP
  simp only [sh_eat]
  rw [show (p.sh k).i = k + p.i from rfl, show ∀ q : St, (q.sh k).r = q.r from fun _ => rfl]
  simp only [sh_adv, sh_fail, sh_fail', show ∀ q : St, (q.sh k).r = q.r from fun _ => rfl]
  split
  · rfl
  · split
    · rfl
    · split <;> rfl
theorem sh_items {α : Type} {one : St → α → St × α} {en : UInt8} (h : ∀ p a, one (p.sh k) a = ((one p a).1.sh k, (one p a).2)) : ∀ (f : Nat) (p : St) (a : α), itemsG one en f (p.sh k) a = ((itemsG one en f p a).1.sh k, (itemsG one en f p a).2)
  | 0, p, a => rfl
  | f + 1, p, a => by
    unfold itemsG
    rw [show (p.sh k).e = p.e from rfl, h, sh_eat, sh_need]
    split
    · rfl
    · split
      · rfl
      · exact sh_items h f _ _
theorem sh_itemsP {α : Type} {one : St → α → St × α} {en : UInt8} (h : ∀ p a, one (p.sh k) a = ((one p a).1.sh k, (one p a).2)) (a : α) : itemsP one en (p.sh k) a = ((itemsP one en p a).1.sh k, (itemsP one en p a).2) := by
  unfold itemsP
  rw [sh_skip, sh_eat, show (p.skip.sh k).r = p.skip.r from rfl]
  split
  · rfl
  · exact sh_items h _ _ _
theorem sh_key (m : List (ByteArray × PV)) : keyP m (p.sh k) = ((keyP m p).1, (keyP m p).2.sh k) := by
  unfold keyP
  simp only [sh_skip, sh_lit, show (p.skip.sh k).i = k + p.skip.i from rfl]
  rw [sh_fail]
  refine Prod.ext rfl ?_
  show ((if _ then _ else _ : St).skip).need 58 = _
  have : (if hasK m p.skip.lit.1 = true then (p.skip.lit.2.fail p.skip.i 53).sh k else p.skip.lit.2.sh k) = (if hasK m p.skip.lit.1 = true then p.skip.lit.2.fail p.skip.i 53 else p.skip.lit.2).sh k := by split <;> rfl
  rw [this, sh_skip, sh_need]
theorem sh_read {rd : St → St × PV} (h : ∀ p, rd (p.sh k) = ((rd p).1.sh k, (rd p).2)) : readP rd (p.sh k) = ((readP rd p).1.sh k, (readP rd p).2) := by
  have h1 : ∀ q a, oneL rd (q.sh k) a = ((oneL rd q a).1.sh k, (oneL rd q a).2) := fun q a => by unfold oneL; rw [h]
  have h2 : ∀ q a, oneM rd (q.sh k) a = ((oneM rd q a).1.sh k, (oneM rd q a).2) := fun q a => by unfold oneM; rw [sh_key, h]
  unfold readP
  simp only [show (p.sh k).r = p.r from rfl, sh_lit, sh_eat, sh_itemsP h1, sh_itemsP h2, sh_num, sh_adv]
  split
  · rfl
  · split
    · rfl
    · split
      · rfl
      · split <;> rfl
theorem sh_val : ∀ (d : Nat) (p : St), valP d (p.sh k) = ((valP d p).1.sh k, (valP d p).2)
  | 0, p => by
    unfold valP
    simp only [sh_skip, show ∀ q : St, (q.sh k).r = q.r from fun _ => rfl, show ∀ q : St, (q.sh k).e = q.e from fun _ => rfl, show ∀ q : St, (q.sh k).more = q.more.sh k from fun _ => rfl, show ∀ q : St, (q.sh k).c = q.c from fun _ => rfl, show ∀ q : St, (q.sh k).i = k + q.i from fun _ => rfl, sh_fail]
    split
    · rfl
    · split <;> rfl
  | d + 1, p => by
    unfold valP
    simp only [sh_skip, show ∀ q : St, (q.sh k).r = q.r from fun _ => rfl, show ∀ q : St, (q.sh k).e = q.e from fun _ => rfl, show ∀ q : St, (q.sh k).more = q.more.sh k from fun _ => rfl, show ∀ q : St, (q.sh k).c = q.c from fun _ => rfl, show ∀ q : St, (q.sh k).i = k + q.i from fun _ => rfl, sh_fail, sh_read (sh_val d)]
    split
    · rfl
    · split
      · rfl
      · rfl
end
/-- blanks ahead -/
theorem val_ahead (d : Nat) (bl l : List UInt8) (hb : ∀ c ∈ bl, isBl c = true) : valP d ⟨0, bl ++ l, 0, 0⟩ = valP d (St.sh bl.length ⟨0, l, 0, 0⟩) := by
  have htw : (bl ++ l).takeWhile isBl = bl ++ l.takeWhile isBl := by
    clear d
    induction bl with
    | nil => rfl
    | cons c bl ih =>
      rw [List.cons_append, List.takeWhile_cons_of_pos (hb c (by simp)), ih (fun x hx => hb x (by simp [hx]))]
      rfl
  have hs : (⟨0, bl ++ l, 0, 0⟩ : St).skip = (St.sh bl.length ⟨0, l, 0, 0⟩).skip := by
    unfold St.skip St.adv St.sh
    simp only [htw, List.length_append, Nat.zero_add, Nat.add_zero]
    congr 1
    rw [List.drop_append]
    rw [List.drop_eq_nil_of_le (by omega), List.nil_append]
    congr 1
    omega
  cases d <;> (unfold valP; rw [hs])
end Pa
end Go.Proofs.YteofdpogjnojnaaGreatDoor

namespace Go.Proofs.YteofdpogjnojnaaGreatDoor
open Go.RowKit Utf
set_option linter.unusedVariables false
set_option linter.unusedSimpArgs false

namespace Pa
/-- nothing is left behind a fault -/
def Wf (p : St) : Prop := p.e ≠ 0 → p.r = []
section
variable {w : List UInt8}
/-- blanks alone -/
def AllB (w : List UInt8) : Prop := ∀ c ∈ w, isBl c = true
theorem bl_cases {c : UInt8} (h : isBl c = true) : c = 32 ∨ c = 9 ∨ c = 10 ∨ c = 13 := by
  unfold isBl at h
  simp only [Bool.or_eq_true, decide_eq_true_eq] at h
  simpa [or_assoc] using h
theorem bl_small {c : UInt8} (h : isBl c = true) : c.toNat ≤ 32 ∧ isDig c = false ∧ c ∉ starts ∧ c ∉ escs ∧ hexOk (lowB c) = false ∧ c ≠ 92 ∧ c ≠ 117 ∧ c ≠ 34 ∧ c ≠ 46 ∧ c ≠ 101 ∧ c ≠ 69 := by
  rcases bl_cases h with rfl | rfl | rfl | rfl <;> decide
theorem AllB.drop (h : AllB w) (k : Nat) : AllB (w.drop k) := fun c hc => h c (List.mem_of_mem_drop hc)
theorem AllB.head (h : AllB w) {c : UInt8} (hc : w.head? = some c) : isBl c = true := h c (List.mem_of_mem_head? hc)
/-- what has no blank and begins a text with blanks behind begins the text -/
theorem pre_len {l x y : List UInt8} (h : AllB w) (he : l ++ w = x ++ y) (hx : ∀ c ∈ x, isBl c = false) : ∃ y', l = x ++ y' ∧ y = y' ++ w := by
  rcases List.append_eq_append_iff.1 he with ⟨a, h1, h2⟩ | ⟨a, h1, h2⟩
  · cases a with
    | nil => exact ⟨[], by simpa using h1.symm, by simpa using h2.symm⟩
    | cons c a =>
      have h3 := hx c (by rw [h1]; simp)
      have h4 := h c (by rw [h2]; simp)
      rw [h3] at h4; cases h4
  · exact ⟨a, h1, h2⟩
theorem pre_app {l x : List UInt8} (h : AllB w) (hx : ∀ c ∈ x, isBl c = false) : x.isPrefixOf (l ++ w) = x.isPrefixOf l := by
  rw [Bool.eq_iff_iff, List.isPrefixOf_iff_prefix, List.isPrefixOf_iff_prefix]
  constructor
  · rintro ⟨y, hy⟩
    obtain ⟨y', h1, _⟩ := pre_len h hy.symm hx
    exact ⟨y', h1.symm⟩
  · exact fun h1 => h1.trans (List.prefix_append _ _)
theorem word_app (h : AllB w) (l : List UInt8) : wordP (l ++ w) = wordP l := by
  unfold wordP
  rw [pre_app h (by decide), pre_app h (by decide), pre_app h (by decide)]
theorem begins_app (h : AllB w) (l : List UInt8) : begins (l ++ w) = begins l := by
  unfold begins
  rw [word_app h]
  cases l with
  | cons c l => rfl
  | nil =>
    cases w with
    | nil => rfl
    | cons c w =>
      have := (bl_small (h c (by simp))).2.2.1
      simp [this]
theorem dig_app (h : AllB w) (l : List UInt8) : (l ++ w).takeWhile isDig = l.takeWhile isDig := by
  have hw : w.takeWhile isDig = [] := by
    cases w with
    | nil => rfl
    | cons c w => rw [List.takeWhile_cons_of_neg]; rw [(bl_small (h c (by simp))).2.1]; simp
  induction l with
  | nil => simpa using hw
  | cons c l ih =>
    rw [List.cons_append, List.takeWhile_cons, List.takeWhile_cons, ih]
theorem bl_all (h : AllB w) : w.takeWhile isBl = w := by
  induction w with
  | nil => rfl
  | cons c w ih => rw [List.takeWhile_cons_of_pos (h c (by simp)), ih (fun x hx => h x (by simp [hx]))]
/-- blanks ahead of a text with blanks behind -/
theorem bl_app (h : AllB w) (l : List UInt8) : (AllB l ∧ (l ++ w).takeWhile isBl = l ++ w ∧ l.takeWhile isBl = l) ∨ ((l ++ w).takeWhile isBl = l.takeWhile isBl ∧ (l.takeWhile isBl).length < l.length) := by
  induction l with
  | nil => exact .inl ⟨fun c hc => by (cases hc), bl_all h, rfl⟩
  | cons c l ih =>
    cases hc : isBl c with
    | true =>
      rw [List.cons_append, List.takeWhile_cons_of_pos hc, List.takeWhile_cons_of_pos hc]
      rcases ih with ⟨h1, h2, h3⟩ | ⟨h1, h2⟩
      · exact .inl ⟨fun x hx => by rcases List.mem_cons.1 hx with rfl | hx; exact hc; exact h1 x hx, by rw [h2], by rw [h3]⟩
      · exact .inr ⟨by rw [h1], by simp; omega⟩
    | false =>
      rw [List.cons_append, List.takeWhile_cons_of_neg (by simp [hc]), List.takeWhile_cons_of_neg (by simp [hc])]
      exact .inr ⟨rfl, by simp⟩
/-! escapes -/
theorem four_is {l : List UInt8} (h : fourP l ≠ -1) : ∃ a b c d r, l = 92 :: 117 :: a :: b :: c :: d :: r ∧ (hexOk (lowB a) && hexOk (lowB b) && hexOk (lowB c) && hexOk (lowB d)) = true ∧ fourP l = ((((hexN (lowB a) * 16 + hexN (lowB b)) * 16 + hexN (lowB c)) * 16 + hexN (lowB d) : Nat) : Int) := by
  unfold fourP at h ⊢
  split at h
  · rename_i a b c d r
    split at h
    · rename_i hx
      exact ⟨a, b, c, d, r, rfl, hx, by simp [hx]⟩
    · exact absurd rfl h
  · exact absurd rfl h
theorem hex_nb {c : UInt8} (h : hexOk (lowB c) = true) : isBl c = false := by
  cases hb : isBl c with
  | false => rfl
  | true => rw [(bl_small hb).2.2.2.2.1] at h; cases h
theorem four_app (h : AllB w) (l : List UInt8) : fourP (l ++ w) = fourP l := by
  by_cases h1 : fourP (l ++ w) = -1
  · by_cases h2 : fourP l = -1
    · rw [h1, h2]
    · obtain ⟨a, b, c, d, r, hl, hx, hv⟩ := four_is h2
      have : fourP (l ++ w) = fourP l := by
        rw [hl]
        unfold fourP
        rfl
      exact this
  · obtain ⟨a, b, c, d, r, hl, hx, hv⟩ := four_is h1
    have hx' := hx
    simp only [Bool.and_eq_true] at hx'
    obtain ⟨⟨⟨x1, x2⟩, x3⟩, x4⟩ := hx'
    obtain ⟨y, hy, _⟩ := pre_len (x := [92, 117, a, b, c, d]) (y := r) h hl (by
      intro z hz
      simp only [List.mem_cons, List.mem_nil_iff, or_false] at hz
      rcases hz with rfl | rfl | rfl | rfl | rfl | rfl
      · decide
      · decide
      · exact hex_nb x1
      · exact hex_nb x2
      · exact hex_nb x3
      · exact hex_nb x4)
    rw [hy]
    unfold fourP
    rfl
theorem four_len {l : List UInt8} (h : 0 ≤ fourP l) : 6 ≤ l.length := by
  obtain ⟨a, b, c, d, r, hl, _⟩ := four_is (by omega : fourP l ≠ -1)
  rw [hl]; simp
theorem esc_app (h : AllB w) (l : List UInt8) : escP (l ++ w) = escP l := by
  have hd : ∀ z, fourP ((l ++ w).drop 6) = z → fourP (l.drop 6) = z := fun z hz => by
    rw [← hz]
    rw [List.drop_append]
    exact (four_app (h.drop _) _).symm
  match l, hd with
  | a :: c :: r, hd =>
    have e := four_app h (a :: c :: r)
    have e2 := hd _ rfl
    unfold escP
    simp only [List.cons_append] at e e2 ⊢
    rw [e, e2]
  | [], hd =>
    show escP w = (0, 0)
    match w, h with
    | [], _ => rfl
    | [a], _ => rfl
    | a :: c :: r, h =>
      have hc := bl_small (h c (by simp))
      have hf : fourP (a :: c :: r) = -1 := by
        have := four_app h []
        simpa [fourP] using this
      unfold escP
      simp only
      rw [if_neg hc.2.2.2.1, hf]
      rfl
  | [a], hd =>
    show escP (a :: w) = (0, 0)
    match w, h with
    | [], _ => rfl
    | c :: r, h =>
      have hc := bl_small (h c (by simp))
      have hf : fourP (a :: c :: r) = -1 := by
        have := four_app h [a]
        simpa [fourP] using this
      unfold escP
      simp only
      rw [if_neg hc.2.2.2.1, hf]
      rfl
theorem enc_tail {c : Int} (hm : mayU c = true) : ∀ b ∈ (encU c).drop 1, 128 ≤ b.toNat := by
  have hmm := may_iff.1 hm
  have key : ∀ x : Int, 0 ≤ x → x < 64 → 128 ≤ ((128 + x).toNat.toUInt8).toNat := fun x h0 h1 => by
    have := toNat_toUInt8 (x := 128 + x) (by omega) (by omega)
    omega
  intro b hb
  rcases (by omega : (0 ≤ c ∧ c ≤ 127) ∨ (128 ≤ c ∧ c ≤ 2047) ∨ ((2048 ≤ c ∧ c < 55296) ∨ (57343 < c ∧ c ≤ 65535)) ∨ (65536 ≤ c ∧ c ≤ 1114111)) with k | k | k | k
  · rw [enc_one k.1 k.2] at hb; simp at hb
  · rw [enc_two k.1 k.2] at hb; simp at hb; rw [hb]; exact key _ (by omega) (by omega)
  · rw [enc_three k] at hb; simp at hb; rcases hb with rfl | rfl <;> exact key _ (by omega) (by omega)
  · rw [enc_four k.1 k.2] at hb; simp at hb; rcases hb with rfl | rfl | rfl <;> exact key _ (by omega) (by omega)
theorem nxt_app (h : AllB w) {l : List UInt8} (hl : l ≠ []) : nxt (l ++ w) = nxt l := by
  obtain ⟨c, n, hn⟩ : ∃ c n, nxt l = (c, n) := ⟨_, _, rfl⟩
  obtain ⟨c', n', hn'⟩ : ∃ c n, nxt (l ++ w) = (c, n) := ⟨_, _, rfl⟩
  by_cases h0 : n = 0
  · by_cases h1 : n' = 0
    · rw [hn, hn', (nxt_size hn).2 h0, (nxt_size hn').2 h1, h0, h1]
    · obtain ⟨q1, q2, q3⟩ := nxt_is hn' h1
      rcases Nat.lt_or_ge l.length n' with hlt | hge
      · exfalso
        cases w with
        | nil => simp at q2; omega
        | cons b w =>
          have hb := (bl_small (h b (by simp))).1
          have hpos := List.length_pos_iff.2 hl
          have hmem : b ∈ (encU c').drop 1 := by
            rw [q3]
            rw [List.mem_iff_getElem?]
            refine ⟨l.length - 1, ?_⟩
            rw [List.getElem?_drop, List.getElem?_take_of_lt (by omega), List.getElem?_append_right (by omega), show 1 + (l.length - 1) - l.length = 0 from by omega]
            rfl
          have := enc_tail q1 b hmem
          omega
      · rw [List.take_append_of_le_length hge] at q3
        have := (nxt_enc q1 hge q3).1
        rw [hn] at this
        injection this with _ this
        omega
  · obtain ⟨q1, q2, q3⟩ := nxt_is hn h0
    rw [hn]
    exact (nxt_enc q1 (by simp; omega) (by rw [List.take_append_of_le_length q2]; exact q3)).1
theorem part_app (h : AllB w) {l : List UInt8} (hl : l ≠ []) : partP (l ++ w) = partP l := by
  have e1 := esc_app h l
  have e2 := nxt_app h hl
  cases l with
  | nil => exact absurd rfl hl
  | cons c l =>
    unfold partP
    simp only [List.cons_append] at e1 e2 ⊢
    rw [e1, e2]
theorem esc_ok {l : List UInt8} (h : (escP l).2 ≠ 0) : 1 ≤ (escP l).2 ∧ (escP l).2 ≤ l.length ∧ (escP l).2 ≤ 12 ∧ mayU (escP l).1 = true := by
  have hesc : ∀ c ∈ escs, mayU (((escd.getD (escs.idxOf c) 0).toNat : Int)) = true := by decide
  unfold escP at h ⊢
  split
  · rename_i a c r
    simp only at h
    by_cases h1 : c ∈ escs
    · rw [if_pos h1]; exact ⟨by simp, by simp, by simp, hesc c h1⟩
    · rw [if_neg h1] at h ⊢
      by_cases h2 : fourP (a :: c :: r) < 0
      · rw [if_pos h2] at h; exact absurd rfl h
      · rw [if_neg h2] at h ⊢
        have h6 := four_len (by omega : 0 ≤ fourP (a :: c :: r))
        by_cases h3 : mayU (fourP (a :: c :: r)) = true
        · rw [if_pos h3]; exact ⟨by simp, h6, by simp, h3⟩
        · rw [if_neg h3] at h ⊢
          by_cases h4 : pairP (fourP (a :: c :: r)) (fourP ((a :: c :: r).drop 6)) < 0
          · rw [if_pos h4] at h; exact absurd rfl h
          · rw [if_neg h4]
            unfold pairP at h4 ⊢
            split at h4
            · exact absurd (by decide : (-1 : Int) < 0) h4
            · rename_i h5
              rw [if_neg h5]
              have h7 := four_len (l := (a :: c :: r).drop 6) (by omega)
              rw [List.length_drop] at h7
              exact ⟨by simp, by show 12 ≤ _; omega, by simp, may_iff.2 (by omega)⟩
  · rename_i h1
    split at h
    · rename_i a c r; exact absurd rfl (h1 a c r)
    · exact absurd rfl h
theorem part_ok {l : List UInt8} (h : (partP l).2.2 = 0) : 1 ≤ (partP l).2.1 ∧ (partP l).2.1 ≤ l.length ∧ (partP l).2.1 ≤ 12 ∧ mayU (partP l).1 = true := by
  cases l with
  | nil => simp [partP] at h
  | cons c l =>
    unfold partP at h ⊢
    simp only at h ⊢
    split at h
    · simp at h
    · rename_i h1
      rw [if_neg h1]
      split at h
      · rename_i h2
        rw [if_pos h2]
        split at h
        · simp at h
        · rename_i h3
          rw [if_neg h3]
          exact esc_ok h3
      · rename_i h2
        rw [if_neg h2]
        split at h
        · simp at h
        · rename_i h3
          rw [if_neg h3]
          obtain ⟨q1, q2, q3⟩ := nxt_is (l := c :: l) (c := (nxt (c :: l)).1) (n := (nxt (c :: l)).2) rfl h3
          have := (nxt_size (l := c :: l) (c := (nxt (c :: l)).1) (n := (nxt (c :: l)).2) rfl).1
          exact ⟨by show 1 ≤ (nxt (c :: l)).2; omega, q2, by show (nxt (c :: l)).2 ≤ 12; omega, q1⟩
theorem part_er (l : List UInt8) : (partP l).2.2 = 0 ∨ (partP l).2.2 = 31 ∨ (partP l).2.2 = 30 := by
  unfold partP
  split
  · simp
  · split
    · simp
    · split
      · split <;> simp
      · split <;> simp
/-- blanks end no literal -/
theorem unq_bl : ∀ (f : Nat) (w : List UInt8) (n : Nat) (acc : List UInt8), AllB w → (unqG f w n acc).2.2 ≠ 0
  | 0, w, n, acc, h => by simp [unqG]
  | f + 1, w, n, acc, h => by
    unfold unqG
    have hq : w.head? ≠ some 34 := fun hh => (bl_small (h.head hh)).2.2.2.2.2.2.2.1 rfl
    rw [if_neg hq]
    split
    · assumption
    · exact unq_bl f _ _ _ (h.drop _)
/-- a literal's reading, with blanks behind the text -/
theorem unqG_app (h : AllB w) : ∀ (f f' : Nat) (l : List UInt8) (n : Nat) (acc : List UInt8), l.length ≤ f → l.length + w.length ≤ f' →
    ((unqG f l n acc).2.2 = 0 → unqG f' (l ++ w) n acc = unqG f l n acc) ∧
    ((unqG f l n acc).2.2 ≠ 0 → (unqG f' (l ++ w) n acc).2.2 ≠ 0 ∧ ((unqG f' (l ++ w) n acc).2 = (unqG f l n acc).2 ∨ (unqG f l n acc).2.1 = n + l.length)) ∧ (unqG f l n acc).2.1 ≤ n + l.length ∧ n ≤ (unqG f l n acc).2.1
  | f, f', [], n, acc, hf, hf' => by
    have e : unqG f [] n acc = ([], n, 31) := by cases f <;> rfl
    rw [e]
    exact ⟨fun h0 => by simp at h0, fun _ => ⟨unq_bl f' _ n acc h, .inr rfl⟩, by simp, by simp⟩
  | 0, f', c :: l, n, acc, hf, hf' => by simp at hf
  | f + 1, 0, c :: l, n, acc, hf, hf' => by simp at hf'
  | f + 1, f' + 1, c :: l, n, acc, hf, hf' => by
    have hp := part_app h (l := c :: l) (by simp)
    unfold unqG
    rw [List.cons_append]
    simp only [List.head?_cons, Option.some.injEq]
    by_cases h1 : c = 34
    · rw [if_pos h1, if_pos h1]
      exact ⟨fun _ => rfl, fun h0 => absurd rfl h0, by simp, by simp⟩
    · rw [if_neg h1, if_neg h1]
      rw [← List.cons_append, hp]
      by_cases h2 : (partP (c :: l)).2.2 ≠ 0
      · rw [if_pos h2, if_pos h2]
        exact ⟨fun _ => rfl, fun _ => ⟨h2, .inl rfl⟩, by simp, by simp⟩
      · rw [if_neg h2, if_neg h2]
        obtain ⟨q1, q2, _, _⟩ := part_ok (Classical.not_not.1 h2)
        rw [List.drop_append_of_le_length q2]
        have hl : ((c :: l).drop (partP (c :: l)).2.1).length = (c :: l).length - (partP (c :: l)).2.1 := List.length_drop ..
        obtain ⟨r1, r2, r3, r4⟩ := unqG_app h f f' ((c :: l).drop (partP (c :: l)).2.1) (n + (partP (c :: l)).2.1) (acc ++ encU (partP (c :: l)).1) (by omega) (by omega)
        exact ⟨r1, fun h0 => ⟨(r2 h0).1, (r2 h0).2.imp id (fun e => by rw [e, hl]; omega)⟩, by omega, by omega⟩
theorem unq_app (h : AllB w) (l : List UInt8) : ((unq l).2.2 = 0 → unq (l ++ w) = unq l) ∧ ((unq l).2.2 ≠ 0 → (unq (l ++ w)).2.2 ≠ 0 ∧ ((unq (l ++ w)).2 = (unq l).2 ∨ (unq l).2.1 = l.length)) ∧ (unq l).2.1 ≤ l.length := by
  cases l with
  | nil =>
    have e : unq [] = ([], 0, 31) := rfl
    rw [e, List.nil_append]
    have hq : w.head? ≠ some 34 := fun hh => (bl_small (h.head hh)).2.2.2.2.2.2.2.1 rfl
    have e2 : unq w = ([], 0, 31) := by unfold unq; rw [if_neg hq]
    rw [e2]
    exact ⟨fun h0 => by simp at h0, fun _ => ⟨by simp, .inl rfl⟩, by simp⟩
  | cons c l =>
    unfold unq
    simp only [List.cons_append, List.head?_cons, Option.some.injEq]
    by_cases h1 : c = 34
    · rw [if_pos h1, if_pos h1]
      obtain ⟨r1, r2, r3, r4⟩ := unqG_app h (c :: l).length (c :: (l ++ w)).length l 1 [] (by simp) (by simp)
      simp only [List.drop_succ_cons, List.drop_zero] at *
      exact ⟨r1, fun h0 => ⟨(r2 h0).1, (r2 h0).2.imp id (fun e => by rw [e, List.length_cons]; omega)⟩, by rw [List.length_cons]; rw [List.length_cons] at r3; omega⟩
    · rw [if_neg h1, if_neg h1]
      exact ⟨fun h0 => by simp at h0, fun _ => ⟨by simp, .inl rfl⟩, by simp⟩
end
end Pa
end Go.Proofs.YteofdpogjnojnaaGreatDoor

namespace Go.Proofs.YteofdpogjnojnaaGreatDoor
open Go.RowKit Utf
set_option linter.unusedVariables false
set_option linter.unusedSimpArgs false

namespace Pa
/-- two states: of a text that ends at N, and of the text with blanks behind -/
def Sim (N : Nat) (w : List UInt8) (p p' : St) : Prop :=
  (p.e = 0 ∧ p'.e = 0 ∧ p'.c = p.c ∧ p.i + p.r.length = N ∧ ((p'.i = p.i ∧ p'.r = p.r ++ w) ∨ (p.r = [] ∧ ∃ k, k ≤ w.length ∧ p'.i = p.i + k ∧ p'.r = w.drop k))) ∨
  (p.e ≠ 0 ∧ p.r = [] ∧ p'.e ≠ 0 ∧ p'.r = [] ∧ ((p'.e = p.e ∧ p'.i = p.i) ∨ p.i = N))
section
variable {N : Nat} {w : List UInt8} {p p' : St}
theorem Sim.e (h : Sim N w p p') : p.e = 0 ↔ p'.e = 0 := by
  rcases h with ⟨h1, h2, _⟩ | ⟨h1, _, h2, _⟩
  · simp [h1, h2]
  · simp [h1, h2]
theorem fail_of {a : Nat} {e : Int} (h : p.e ≠ 0) : p.fail a e = p := by unfold St.fail; rw [if_neg h]
theorem fail_ok {a : Nat} {e : Int} (h : p.e = 0) : p.fail a e = ⟨a, [], p.c, e⟩ := by unfold St.fail; rw [if_pos h]
theorem adv_nil {n : Nat} (h : p.r = []) : p.adv n = ⟨p.i + n, [], p.c, p.e⟩ := by unfold St.adv; rw [h, List.drop_nil]
theorem skip_of (h : p.r = []) : p.skip = p := by
  unfold St.skip
  rw [h]
  unfold St.adv
  simp
theorem eat_of {c : UInt8} (h : p.r = []) : p.eat c = (false, p) := by unfold St.eat; rw [h]; rfl
theorem need_of {c : UInt8} (h : p.r = []) (he : p.e ≠ 0) : p.need c = p := by
  unfold St.need
  rw [eat_of h, if_neg (by simp), fail_of he]
theorem lit_of (he : p.e ≠ 0) : p.lit = (⟨#[]⟩, p) := by unfold St.lit; rw [if_pos he]
theorem lit_ok (he : p.e = 0) (hu : (unq p.r).2.2 = 0) : p.lit = (⟨(unq p.r).1.toArray⟩, p.adv (unq p.r).2.1) := by unfold St.lit; rw [if_neg (by simpa using he), if_pos hu]
theorem lit_no (he : p.e = 0) (hu : (unq p.r).2.2 ≠ 0) : p.lit = (⟨#[]⟩, p.fail (p.i + (unq p.r).2.1) (unq p.r).2.2) := by unfold St.lit; rw [if_neg (by simpa using he), if_neg hu]
theorem Sim.fault (h : Sim N w p p') (he : p.e ≠ 0) : p.r = [] ∧ p'.e ≠ 0 ∧ p'.r = [] := by
  rcases h with ⟨h1, _⟩ | ⟨_, h2, h3, h4, _⟩
  · exact absurd h1 he
  · exact ⟨h2, h3, h4⟩
theorem Sim.fail_same (h : Sim N w p p') {a : Nat} {e : Int} (he : e ≠ 0) : Sim N w (p.fail a e) (p'.fail a e) := by
  by_cases h0 : p.e = 0
  · rw [fail_ok h0, fail_ok (h.e.1 h0)]
    exact .inr ⟨he, rfl, he, rfl, .inl ⟨rfl, rfl⟩⟩
  · rw [fail_of h0, fail_of (fun q => h0 (h.e.2 q))]; exact h
theorem Sim.fail_end (h : Sim N w p p') {a : Nat} {e e' : Int} (he : e ≠ 0) (he' : e' ≠ 0) : Sim N w (p.fail N e) (p'.fail a e') := by
  by_cases h0 : p.e = 0
  · rw [fail_ok h0, fail_ok (h.e.1 h0)]
    exact .inr ⟨he, rfl, he', rfl, .inr rfl⟩
  · rw [fail_of h0, fail_of (fun q => h0 (h.e.2 q))]; exact h
/-- a fault at the place that is reached -/
theorem Sim.fail_here (h : Sim N w p p') {e : Int} (he : e ≠ 0) : Sim N w (p.fail p.i e) (p'.fail p'.i e) := by
  rcases h with ⟨h1, h2, h3, h4, ⟨h5, h6⟩ | ⟨h5, k, h6, h7, h8⟩⟩ | h0
  · rw [h5]; exact Sim.fail_same (.inl ⟨h1, h2, h3, h4, .inl ⟨h5, h6⟩⟩) he
  · rw [h5] at h4
    simp only [List.length_nil, Nat.add_zero] at h4
    have := Sim.fail_end (N := N) (w := w) (p := p) (p' := p') (a := p'.i) (.inl ⟨h1, h2, h3, by rw [h5]; simpa using h4, .inr ⟨h5, k, h6, h7, h8⟩⟩) he he
    rw [h4]; exact this
  · rw [fail_of h0.1, fail_of h0.2.2.1]; exact .inr h0
theorem Sim.skip (h : Sim N w p p') (hw : AllB w) : Sim N w p.skip p'.skip := by
  rcases h with ⟨h1, h2, h3, h4, ⟨h5, h6⟩ | ⟨h5, k, h6, h7, h8⟩⟩ | h0
  · unfold St.skip
    rw [h6]
    rcases bl_app hw p.r with ⟨q1, q2, q3⟩ | ⟨q1, q2⟩
    · rw [q2, q3]
      refine .inl ⟨h1, h2, h3, ?_, .inr ⟨by simp [St.adv], w.length, Nat.le_refl _, ?_, ?_⟩⟩
      · simp [St.adv]; omega
      · simp [St.adv, h5]; omega
      · simp [St.adv, h6]
    · rw [q1]
      refine .inl ⟨h1, h2, h3, ?_, .inl ⟨by simp [St.adv, h5], ?_⟩⟩
      · simp only [St.adv, List.length_drop]; omega
      · simp only [St.adv, h6]
        rw [List.drop_append_of_le_length (by omega)]
  · rw [skip_of h5]
    refine .inl ⟨h1, h2, h3, h4, .inr ⟨h5, w.length, Nat.le_refl _, ?_, ?_⟩⟩
    · unfold St.skip St.adv
      simp only [h8, bl_all (hw.drop k), List.length_drop]
      omega
    · unfold St.skip St.adv
      simp only [h8, bl_all (hw.drop k)]
      simp
      omega
  · rw [skip_of h0.2.1, skip_of h0.2.2.2.1]; exact .inr h0
theorem Sim.eat (h : Sim N w p p') (hw : AllB w) {c : UInt8} (hc : isBl c = false) : (p'.eat c).1 = (p.eat c).1 ∧ Sim N w (p.eat c).2 (p'.eat c).2 := by
  have hn : ∀ l : List UInt8, AllB l → l.head? ≠ some c := fun l hl q => by
    have := hl.head q
    rw [hc] at this; cases this
  rcases h with ⟨h1, h2, h3, h4, ⟨h5, h6⟩ | ⟨h5, k, h6, h7, h8⟩⟩ | h0
  · cases hr : p.r with
    | nil =>
      rw [eat_of hr]
      have e : p'.eat c = (false, p') := by unfold St.eat; rw [h6, hr, List.nil_append, if_neg (hn w hw)]
      rw [e]
      exact ⟨rfl, .inl ⟨h1, h2, h3, h4, .inl ⟨h5, h6⟩⟩⟩
    | cons x r =>
      unfold St.eat
      rw [h6, hr]
      simp only [List.cons_append, List.head?_cons, Option.some.injEq]
      by_cases hx : x = c
      · rw [if_pos hx, if_pos hx]
        refine ⟨rfl, .inl ⟨h1, h2, h3, ?_, .inl ⟨by simp [St.adv, h5], by simp [St.adv, h6, hr]⟩⟩⟩
        simp only [St.adv, hr, List.drop_succ_cons, List.drop_zero]
        rw [hr] at h4
        simp at h4
        omega
      · rw [if_neg hx, if_neg hx]
        exact ⟨rfl, .inl ⟨h1, h2, h3, h4, .inl ⟨h5, h6⟩⟩⟩
  · rw [eat_of h5]
    have e : p'.eat c = (false, p') := by unfold St.eat; rw [h8, if_neg (hn _ (hw.drop k))]
    rw [e]
    exact ⟨rfl, .inl ⟨h1, h2, h3, h4, .inr ⟨h5, k, h6, h7, h8⟩⟩⟩
  · rw [eat_of h0.2.1, eat_of h0.2.2.2.1]; exact ⟨rfl, .inr h0⟩
theorem Sim.need (h : Sim N w p p') (hw : AllB w) {c : UInt8} (hc : isBl c = false) : Sim N w (p.need c) (p'.need c) := by
  obtain ⟨h1, h2⟩ := h.eat hw hc
  unfold St.need
  rw [h1]
  split
  · exact h2
  · exact h.fail_here (by decide)
/-- bytes that both have -/
theorem Sim.adv (h : Sim N w p p') (hal : p'.i = p.i ∧ p'.r = p.r ++ w) (he : p.e = 0) {n : Nat} (hn : n ≤ p.r.length) : Sim N w (p.adv n) (p'.adv n) ∧ (p'.adv n).i = (p.adv n).i ∧ (p'.adv n).r = (p.adv n).r ++ w := by
  rcases h with ⟨h1, h2, h3, h4, _⟩ | h0
  · have q : (p'.adv n).i = (p.adv n).i ∧ (p'.adv n).r = (p.adv n).r ++ w := by
      simp only [St.adv, hal.1, hal.2, List.drop_append_of_le_length hn, and_self]
    exact ⟨.inl ⟨h1, h2, h3, by simp only [St.adv, List.length_drop]; omega, .inl q⟩, q⟩
  · exact absurd he h0.1
theorem Sim.lit (h : Sim N w p p') (hw : AllB w) : Sim N w p.lit.2 p'.lit.2 ∧ (p.lit.2.e = 0 → p'.lit.1 = p.lit.1) := by
  by_cases h0 : p.e = 0
  · have h0' := h.e.1 h0
    obtain ⟨u1, u2, u3⟩ := unq_app hw p.r
    rcases h with ⟨h1, h2, h3, h4, ⟨h5, h6⟩ | ⟨h5, k, h6, h7, h8⟩⟩ | hf
    · have hs : Sim N w p p' := .inl ⟨h1, h2, h3, h4, .inl ⟨h5, h6⟩⟩
      by_cases hu : (unq p.r).2.2 = 0
      · have e := u1 hu
        rw [← h6] at e
        rw [lit_ok h0 hu, lit_ok h0' (by rw [e]; exact hu), e]
        exact ⟨(hs.adv ⟨h5, h6⟩ h0 u3).1, fun _ => rfl⟩
      · obtain ⟨v1, v2⟩ := u2 hu
        rw [← h6] at v1 v2
        rw [lit_no h0 hu, lit_no h0' v1]
        refine ⟨?_, fun q => ?_⟩
        · rcases v2 with e | e
          · rw [e, h5]; exact hs.fail_same hu
          · rw [e, h4]; exact hs.fail_end hu v1
        · simp only [fail_ok h0] at q
          exact absurd q hu
    · have hs : Sim N w p p' := .inl ⟨h1, h2, h3, h4, .inr ⟨h5, k, h6, h7, h8⟩⟩
      have e1 : unq p.r = ([], 0, 31) := by rw [h5]; rfl
      have hq : (w.drop k).head? ≠ some 34 := fun hh => (bl_small ((hw.drop k).head hh)).2.2.2.2.2.2.2.1 rfl
      have e2 : unq p'.r = ([], 0, 31) := by unfold unq; rw [h8, if_neg hq]
      rw [lit_no h0 (by rw [e1]; decide), lit_no h0' (by rw [e2]; decide), e1, e2]
      refine ⟨hs.fail_here (by decide), fun q => ?_⟩
      simp only [fail_ok h0] at q
      exact absurd q (by decide)
    · exact absurd h0 hf.1
  · have := h.fault h0
    rw [lit_of h0, lit_of this.2.1]
    exact ⟨h, fun q => absurd q h0⟩
theorem Sim.al (h : Sim N w p p') (h0 : p.e = 0) : (p'.i = p.i ∧ p'.r = p.r ++ w) ∨ (p.r = [] ∧ p.i = N ∧ ∃ k, p'.r = w.drop k) := by
  rcases h with ⟨h1, h2, h3, h4, ⟨h5, h6⟩ | ⟨h5, k, h6, h7, h8⟩⟩ | hf
  · exact .inl ⟨h5, h6⟩
  · exact .inr ⟨h5, by rw [h5] at h4; simpa using h4, k, h8⟩
  · exact absurd h0 hf.1
theorem fl_app (hw : AllB w) (l : List UInt8) : isFl (l ++ w).head? = isFl l.head? := by
  cases l with
  | cons c l => rfl
  | nil =>
    cases w with
    | nil => rfl
    | cons c w =>
      have := bl_small (hw c (by simp))
      simp [isFl, this.2.2.2.2.2.2.2.2.1, this.2.2.2.2.2.2.2.2.2.1, this.2.2.2.2.2.2.2.2.2.2]
theorem Sim.num (h : Sim N w p p') (hw : AllB w) : Sim N w (numP p).1 (numP p').1 ∧ ((numP p).1.e = 0 → (numP p').2 = (numP p).2) := by
  obtain ⟨m1, m2⟩ := h.eat hw (c := 45) (by decide)
  by_cases h0 : (p.eat 45).2.e = 0
  · have hp0 : p.e = 0 := by
      unfold St.eat at h0
      split at h0 <;> exact h0
    have hnd : ∀ k, (w.drop k).takeWhile isDig = [] := fun k => by
      have := dig_app (hw.drop k) []
      simpa using this
    rcases m2.al h0 with ⟨q1, q2⟩ | ⟨q1, q2, k, q3⟩
    · have hd : (p'.eat 45).2.r.takeWhile isDig = (p.eat 45).2.r.takeWhile isDig := by rw [q2]; exact dig_app hw _
      have hle : ((p.eat 45).2.r.takeWhile isDig).length ≤ (p.eat 45).2.r.length := (List.takeWhile_prefix isDig).length_le
      obtain ⟨a1, a2, a3⟩ := m2.adv ⟨q1, q2⟩ h0 hle
      have hfl : isFl ((p'.eat 45).2.adv ((p.eat 45).2.r.takeWhile isDig).length).r.head? = isFl ((p.eat 45).2.adv ((p.eat 45).2.r.takeWhile isDig).length).r.head? := by rw [a3]; exact fl_app hw _
      have hfrom : ∀ (q q' : St) (e : Int), Sim N w q q' → e ≠ 0 → Sim N w (q.fail p.i e) (q'.fail p'.i e) := fun q q' e hq he => by
        rcases h.al hp0 with ⟨r1, _⟩ | ⟨r1, r2, r3⟩
        · rw [r1]; exact hq.fail_same he
        · rw [r2]; exact hq.fail_end he he
      unfold numP
      simp only [hd, m1, hfl, a2]
      split
      · exact ⟨hfrom _ _ _ m2 (by decide), fun _ => rfl⟩
      · split
        · exact ⟨a1.fail_same (by decide), fun _ => rfl⟩
        · split
          · exact ⟨hfrom _ _ _ a1 (by decide), fun _ => rfl⟩
          · exact ⟨a1, fun _ => rfl⟩
    · have hd : (p.eat 45).2.r.takeWhile isDig = [] := by rw [q1]; rfl
      have hd' : (p'.eat 45).2.r.takeWhile isDig = [] := by rw [q3]; exact hnd k
      unfold numP
      simp only [hd, hd', true_or, if_true]
      refine ⟨?_, fun _ => trivial⟩
      rcases h.al hp0 with ⟨r1, r2⟩ | ⟨r1, r2, r3⟩
      · rw [r1]; exact m2.fail_same (by decide)
      · rw [r2]; exact m2.fail_end (by decide) (by decide)
  · have hp0 : p.e ≠ 0 := by
      unfold St.eat at h0
      split at h0 <;> exact h0
    obtain ⟨f1, f2, f3⟩ := h.fault hp0
    have hn : ∀ q : St, q.r = [] → q.e ≠ 0 → numP q = (q, pv0) := fun q h1 h2 => by
      unfold numP
      rw [eat_of h1]
      simp only [h1, List.takeWhile_nil, true_or, if_true]
      rw [fail_of h2]
    rw [hn p f1 hp0, hn p' f3 f2]
    exact ⟨h, fun _ => rfl⟩
/-- how many rounds may be left -/
def St.mu (p : St) : Nat := if p.e = 0 then p.r.length + 1 else 0
theorem itemsG_ok {α : Type} {one : St → α → St × α} {en : UInt8} {f : Nat} {q : St} {a : α} (h : q.e = 0) : itemsG one en (f + 1) q a = if ((one q a).1.eat en).1 = true then (((one q a).1.eat en).2, (one q a).2) else itemsG one en f ((one q a).1.need 44) (one q a).2 := by
  conv => lhs; unfold itemsG
  rw [if_neg (by simpa using h)]
theorem need_mu (q : St) (c : UInt8) : (q.need c).mu ≤ q.r.length := by
  unfold St.need St.eat
  by_cases hh : q.r.head? = some c
  · rw [if_pos hh, if_pos rfl]
    unfold St.mu St.adv
    cases hr : q.r with
    | nil => rw [hr] at hh; cases hh
    | cons x r => simp only [List.drop_succ_cons, List.drop_zero, List.length_cons]; split <;> omega
  · rw [if_neg hh, if_neg (by simp)]
    by_cases he : q.e = 0
    · rw [fail_ok he]; unfold St.mu; simp
    · rw [fail_of he]; unfold St.mu; rw [if_neg he]; omega
theorem Sim.items {α : Type} {one : St → α → St × α} {en : UInt8} (hw : AllB w) (hen : isBl en = false) (hone : ∀ p p' a, Sim N w p p' → Sim N w (one p a).1 (one p' a).1 ∧ ((one p a).1.e = 0 → (one p' a).2 = (one p a).2)) (hlen : ∀ p a, (one p a).1.r.length ≤ p.r.length) :
    ∀ (f f' : Nat) (p p' : St) (a : α), Sim N w p p' → p.mu ≤ f → p'.mu ≤ f' → Sim N w (itemsG one en f p a).1 (itemsG one en f' p' a).1 ∧ ((itemsG one en f p a).1.e = 0 → (itemsG one en f' p' a).2 = (itemsG one en f p a).2)
  | 0, f', p, p', a, h, hf, hf' => by
    have h0 : p.e ≠ 0 := fun q => by unfold St.mu at hf; rw [if_pos q] at hf; omega
    have h0' : p'.e ≠ 0 := fun q => h0 (h.e.2 q)
    have e : itemsG one en f' p' a = (p', a) := by cases f' <;> unfold itemsG <;> simp [h0']
    rw [e]
    exact ⟨h, fun _ => rfl⟩
  | f + 1, f', p, p', a, h, hf, hf' => by
    by_cases h0 : p.e = 0
    · have h0' := h.e.1 h0
      obtain ⟨g, rfl⟩ : ∃ g, f' = g + 1 := ⟨f' - 1, by unfold St.mu at hf'; rw [if_pos h0'] at hf'; omega⟩
      obtain ⟨o1, o2⟩ := hone p p' a h
      obtain ⟨e1, e2⟩ := o1.eat hw hen
      have hmu : ∀ (q : St), q.e = 0 → q.mu ≤ g + 1 → ((one q a).1.need 44).mu ≤ g := fun q hq hm => by
        have h1 := need_mu (one q a).1 44
        have h2 := hlen q a
        unfold St.mu at hm
        rw [if_pos hq] at hm
        omega
      have hmu2 : ∀ (q : St), q.e = 0 → q.mu ≤ f + 1 → ((one q a).1.need 44).mu ≤ f := fun q hq hm => by
        have h1 := need_mu (one q a).1 44
        have h2 := hlen q a
        unfold St.mu at hm
        rw [if_pos hq] at hm
        omega
      rw [itemsG_ok h0, itemsG_ok h0', e1]
      by_cases hx : ((one p a).1.eat en).1 = true
      · rw [if_pos hx, if_pos hx]
        refine ⟨e2, fun q => o2 ?_⟩
        unfold St.eat at q
        split at q <;> exact q
      · rw [if_neg hx, if_neg hx]
        by_cases ho : (one p a).1.e = 0
        · rw [o2 ho]
          exact Sim.items hw hen hone hlen f g _ _ _ (o1.need hw (by decide)) (hmu2 p h0 hf) (hmu p' h0' hf')
        · have ho' : (one p' a).1.e ≠ 0 := fun q => ho (o1.e.2 q)
          obtain ⟨f1, f2, f3⟩ := o1.fault ho
          have hst : ∀ (k : Nat) (q : St) (b : α), q.e ≠ 0 → itemsG one en k q b = (q, b) := fun k q b hq => by cases k <;> unfold itemsG <;> simp [hq]
          rw [need_of f1 ho, need_of f3 f2, hst f _ _ ho, hst g _ _ ho']
          exact ⟨o1, fun q => absurd q ho⟩
    · have h0' : p'.e ≠ 0 := fun q => h0 (h.e.2 q)
      have e : ∀ k (q : St), q.e ≠ 0 → itemsG one en k q a = (q, a) := fun k q hq => by cases k <;> unfold itemsG <;> simp [hq]
      rw [e _ _ h0, e _ _ h0']
      exact ⟨h, fun _ => rfl⟩
end
end Pa
end Go.Proofs.YteofdpogjnojnaaGreatDoor

namespace Go.Proofs.YteofdpogjnojnaaGreatDoor
open Go.RowKit Utf
set_option linter.unusedVariables false
set_option linter.unusedSimpArgs false

namespace Pa
theorem adv_len (p : St) (n : Nat) : (p.adv n).r.length ≤ p.r.length := by simp [St.adv]
theorem skip_len (p : St) : p.skip.r.length ≤ p.r.length := adv_len p _
theorem fail_len (p : St) (a : Nat) (e : Int) : (p.fail a e).r.length ≤ p.r.length := by unfold St.fail; split <;> simp
theorem eat_len (p : St) (c : UInt8) : (p.eat c).2.r.length ≤ p.r.length := by unfold St.eat; split; exact adv_len p 1; exact Nat.le_refl _
theorem need_len (p : St) (c : UInt8) : (p.need c).r.length ≤ p.r.length := by unfold St.need; split; exact eat_len p c; exact fail_len p _ _
theorem lit_len (p : St) : p.lit.2.r.length ≤ p.r.length := by
  unfold St.lit
  split
  · exact Nat.le_refl _
  · split
    · exact adv_len p _
    · exact fail_len p _ _
theorem num_len (p : St) : (numP p).1.r.length ≤ p.r.length := by
  unfold numP
  simp only
  split
  · exact Nat.le_trans (fail_len _ _ _) (eat_len p _)
  · split
    · exact Nat.le_trans (fail_len _ _ _) (Nat.le_trans (adv_len _ _) (eat_len p _))
    · split
      · exact Nat.le_trans (fail_len _ _ _) (Nat.le_trans (adv_len _ _) (eat_len p _))
      · exact Nat.le_trans (adv_len _ _) (eat_len p _)
theorem items_len {α : Type} {one : St → α → St × α} {en : UInt8} (hlen : ∀ p a, (one p a).1.r.length ≤ p.r.length) : ∀ (f : Nat) (p : St) (a : α), (itemsG one en f p a).1.r.length ≤ p.r.length
  | 0, p, a => Nat.le_refl _
  | f + 1, p, a => by
    unfold itemsG
    split
    · exact Nat.le_refl _
    · split
      · exact Nat.le_trans (eat_len _ _) (hlen p a)
      · exact Nat.le_trans (items_len hlen f _ _) (Nat.le_trans (need_len _ _) (hlen p a))
theorem itemsP_len {α : Type} {one : St → α → St × α} {en : UInt8} (hlen : ∀ p a, (one p a).1.r.length ≤ p.r.length) (p : St) (a : α) : (itemsP one en p a).1.r.length ≤ p.r.length := by
  unfold itemsP
  split
  · exact Nat.le_trans (eat_len _ _) (skip_len p)
  · exact Nat.le_trans (items_len hlen _ _ _) (skip_len p)
theorem key_len (m : List (ByteArray × PV)) (p : St) : (keyP m p).2.r.length ≤ p.r.length := by
  unfold keyP
  simp only
  refine Nat.le_trans (need_len _ _) (Nat.le_trans (skip_len _) (Nat.le_trans ?_ (Nat.le_trans (lit_len _) (skip_len p))))
  split
  · exact fail_len _ _ _
  · exact Nat.le_refl _
theorem oneL_len {rd : St → St × PV} (h : ∀ p, (rd p).1.r.length ≤ p.r.length) (p : St) (a : List PV) : (oneL rd p a).1.r.length ≤ p.r.length := h p
theorem oneM_len {rd : St → St × PV} (h : ∀ p, (rd p).1.r.length ≤ p.r.length) (p : St) (a : List (ByteArray × PV)) : (oneM rd p a).1.r.length ≤ p.r.length := Nat.le_trans (h _) (key_len a p)
theorem read_len {rd : St → St × PV} (h : ∀ p, (rd p).1.r.length ≤ p.r.length) (p : St) : (readP rd p).1.r.length ≤ p.r.length := by
  unfold readP
  split
  · exact adv_len p _
  · split
    · exact lit_len p
    · split
      · exact Nat.le_trans (itemsP_len (oneL_len h) _ _) (eat_len p _)
      · split
        · exact Nat.le_trans (itemsP_len (oneM_len h) _ _) (eat_len p _)
        · exact num_len p
theorem more_skip_len (p : St) : p.skip.more.r.length ≤ p.r.length := skip_len p
theorem val_len : ∀ (d : Nat) (p : St), (valP d p).1.r.length ≤ p.r.length
  | 0, p => by
    unfold valP
    split
    · exact Nat.le_trans (fail_len _ _ _) (skip_len p)
    · split
      · exact Nat.le_trans (fail_len _ _ _) (more_skip_len p)
      · exact Nat.le_trans (fail_len _ _ _) (more_skip_len p)
  | d + 1, p => by
    unfold valP
    split
    · exact Nat.le_trans (fail_len _ _ _) (skip_len p)
    · split
      · exact Nat.le_trans (fail_len _ _ _) (more_skip_len p)
      · exact Nat.le_trans (skip_len _) (Nat.le_trans (read_len (val_len d) _) (more_skip_len p))
section
variable {N : Nat} {w : List UInt8} {p p' : St}
theorem skip_e (p : St) : p.skip.e = p.e := rfl
theorem eat_e (p : St) (c : UInt8) : (p.eat c).2.e = p.e := by unfold St.eat; split <;> rfl
theorem fail_e {p : St} {a : Nat} {e : Int} (he : e ≠ 0) (h : (p.fail a e).e = 0) : False := by
  unfold St.fail at h
  split at h
  · exact he h
  · contradiction
theorem need_e {p : St} {c : UInt8} (h : (p.need c).e = 0) : p.e = 0 := by
  unfold St.need at h
  split at h
  · rw [eat_e] at h; exact h
  · exact (fail_e (by decide) h).elim
theorem lit_e {p : St} (h : p.lit.2.e = 0) : p.e = 0 := by
  by_cases h0 : p.e = 0
  · exact h0
  · rw [lit_of h0] at h; exact h
theorem Sim.itemsP {α : Type} {one : St → α → St × α} {en : UInt8} (h : Sim N w p p') (hw : AllB w) (hen : isBl en = false) (hone : ∀ p p' a, Sim N w p p' → Sim N w (one p a).1 (one p' a).1 ∧ ((one p a).1.e = 0 → (one p' a).2 = (one p a).2)) (hlen : ∀ p a, (one p a).1.r.length ≤ p.r.length) (a : α) :
    Sim N w (itemsP one en p a).1 (itemsP one en p' a).1 ∧ ((itemsP one en p a).1.e = 0 → (itemsP one en p' a).2 = (itemsP one en p a).2) := by
  obtain ⟨h1, h2⟩ := (h.skip hw).eat hw hen
  have hmu : ∀ q : St, q.mu ≤ q.r.length + 2 := fun q => by unfold St.mu; split <;> omega
  unfold Pa.itemsP
  rw [h1]
  split
  · exact ⟨h2, fun _ => rfl⟩
  · exact Sim.items hw hen hone hlen _ _ _ _ _ (h.skip hw) (hmu _) (hmu _)
theorem Sim.key (h : Sim N w p p') (hw : AllB w) (m : List (ByteArray × PV)) : Sim N w (keyP m p).2 (keyP m p').2 ∧ ((keyP m p).2.e = 0 → (keyP m p').1 = (keyP m p).1) := by
  obtain ⟨l1, l2⟩ := (h.skip hw).lit hw
  by_cases h0 : p.skip.lit.2.e = 0
  · have e := l2 h0
    have hp0 : p.skip.e = 0 := lit_e h0
    have hf : Sim N w (if hasK m p.skip.lit.1 = true then p.skip.lit.2.fail p.skip.i 53 else p.skip.lit.2) (if hasK m p'.skip.lit.1 = true then p'.skip.lit.2.fail p'.skip.i 53 else p'.skip.lit.2) := by
      rw [e]
      split
      · rcases (h.skip hw).al hp0 with ⟨r1, _⟩ | ⟨r1, r2, _⟩
        · rw [r1]; exact l1.fail_same (by decide)
        · rw [r2]; exact l1.fail_end (by decide) (by decide)
      · exact l1
    exact ⟨(hf.skip hw).need hw (by decide), fun _ => e⟩
  · obtain ⟨f1, f2, f3⟩ := l1.fault h0
    have hst : ∀ (q : St) (c : Bool) (a : Nat), q.r = [] → q.e ≠ 0 → (if c = true then q.fail a 53 else q) = q := fun q c a h1 h2 => by split; exact fail_of h2; rfl
    unfold keyP
    simp only
    rw [hst _ _ _ f1 h0, hst _ _ _ f3 f2, skip_of f1, skip_of f3, need_of f1 h0, need_of f3 f2]
    exact ⟨l1, fun q => absurd q h0⟩
theorem Sim.oneL {rd : St → St × PV} (hrd : ∀ p p', Sim N w p p' → Sim N w (rd p).1 (rd p').1 ∧ ((rd p).1.e = 0 → (rd p').2 = (rd p).2)) (p p' : St) (a : List PV) (h : Sim N w p p') : Sim N w (Pa.oneL rd p a).1 (Pa.oneL rd p' a).1 ∧ ((Pa.oneL rd p a).1.e = 0 → (Pa.oneL rd p' a).2 = (Pa.oneL rd p a).2) := by
  obtain ⟨h1, h2⟩ := hrd p p' h
  exact ⟨h1, fun q => by show a ++ [(rd p').2] = a ++ [(rd p).2]; rw [h2 q]⟩
/-- what reads behind a fault changes nothing -/
def Still (rd : St → St × PV) : Prop := ∀ p : St, p.e ≠ 0 → (rd p).1.e ≠ 0
theorem Sim.oneM {rd : St → St × PV} (hw : AllB w) (hst : Still rd) (hrd : ∀ p p', Sim N w p p' → Sim N w (rd p).1 (rd p').1 ∧ ((rd p).1.e = 0 → (rd p').2 = (rd p).2)) (p p' : St) (a : List (ByteArray × PV)) (h : Sim N w p p') : Sim N w (Pa.oneM rd p a).1 (Pa.oneM rd p' a).1 ∧ ((Pa.oneM rd p a).1.e = 0 → (Pa.oneM rd p' a).2 = (Pa.oneM rd p a).2) := by
  obtain ⟨k1, k2⟩ := h.key hw a
  obtain ⟨h1, h2⟩ := hrd _ _ k1
  refine ⟨h1, fun q => ?_⟩
  have h0 : (keyP a p).2.e = 0 := Classical.byContradiction fun hn => hst _ hn q
  show a ++ [((keyP a p').1, (rd (keyP a p').2).2)] = a ++ [((keyP a p).1, (rd (keyP a p).2).2)]
  rw [k2 h0, h2 q]
theorem Sim.more (h : Sim N w p p') : Sim N w p.more p'.more := by
  rcases h with ⟨h1, h2, h3, h4, h5⟩ | h0
  · exact .inl ⟨h1, h2, by show p'.c + 1 = p.c + 1; rw [h3], h4, h5⟩
  · exact .inr h0
theorem word_nil {w : List UInt8} (hw : AllB w) : wordP w = none := by
  have := word_app hw []
  exact this
theorem pre_lenP {x l : List UInt8} (h : x.isPrefixOf l = true) : x.length ≤ l.length := (List.isPrefixOf_iff_prefix.1 h).length_le
theorem word_len {l : List UInt8} {v : PV} {n : Nat} (h : wordP l = some (v, n)) : n ≤ l.length := by
  unfold wordP at h
  split at h
  · rename_i h1; injection h with h; injection h with _ h; have := pre_lenP h1; simp at this; omega
  · split at h
    · rename_i h1; injection h with h; injection h with _ h; have := pre_lenP h1; simp at this; omega
    · split at h
      · rename_i h1; injection h with h; injection h with _ h; have := pre_lenP h1; simp at this; omega
      · cases h
theorem Sim.read {rd : St → St × PV} (h : Sim N w p p') (h0 : p.e = 0) (hr : p.r ≠ []) (hw : AllB w) (hst : Still rd) (hlen : ∀ p, (rd p).1.r.length ≤ p.r.length) (hrd : ∀ p p', Sim N w p p' → Sim N w (rd p).1 (rd p').1 ∧ ((rd p).1.e = 0 → (rd p').2 = (rd p).2)) :
    Sim N w (readP rd p).1 (readP rd p').1 ∧ ((readP rd p).1.e = 0 → (readP rd p').2 = (readP rd p).2) := by
  have hal : p'.i = p.i ∧ p'.r = p.r ++ w := by
    rcases h.al h0 with q | ⟨q, _⟩
    · exact q
    · exact absurd q hr
  have hwd : wordP p'.r = wordP p.r := by rw [hal.2]; exact word_app hw _
  have hhd : p'.r.head? = p.r.head? := by
    rw [hal.2]
    cases hpr : p.r with
    | nil => exact absurd hpr hr
    | cons c r => rfl
  obtain ⟨a1, a2⟩ := h.eat hw (c := 91) (by decide)
  obtain ⟨b1, b2⟩ := h.eat hw (c := 123) (by decide)
  unfold readP
  rw [hwd, hhd, a1, b1]
  split
  · rename_i v n hv
    exact ⟨(h.adv hal h0 (word_len hv)).1, fun _ => rfl⟩
  · split
    · obtain ⟨l1, l2⟩ := h.lit hw
      exact ⟨l1, fun q => by rw [l2 q]⟩
    · split
      · obtain ⟨i1, i2⟩ := a2.itemsP (one := Pa.oneL rd) hw (en := 93) (by decide) (fun q q' a hq => Sim.oneL hrd q q' a hq) (oneL_len hlen) []
        exact ⟨i1, fun q => by rw [i2 q]⟩
      · split
        · obtain ⟨i1, i2⟩ := b2.itemsP (one := Pa.oneM rd) hw (en := 125) (by decide) (fun q q' a hq => Sim.oneM hw hst hrd q q' a hq) (oneM_len hlen) []
          exact ⟨i1, fun q => by rw [i2 q]⟩
        · exact h.num hw
theorem val_still (d : Nat) : Still (valP d) := fun p h => by
  have hs : p.skip.fail p.skip.i 50 = p.skip := fail_of (p := p.skip) h
  cases d <;> (unfold valP; rw [if_pos (.inl h), hs]; exact h)
theorem Sim.val (hw : AllB w) : ∀ (d : Nat) (p p' : St), Sim N w p p' → Sim N w (valP d p).1 (valP d p').1 ∧ ((valP d p).1.e = 0 → (valP d p').2 = (valP d p).2) := by
  intro d
  induction d with
  | zero =>
    intro p p' h
    have hs := h.skip hw
    by_cases h0 : p.skip.e = 0
    · have h0' := hs.e.1 h0
      have hb : begins p'.skip.r = begins p.skip.r := by
        rcases hs.al h0 with ⟨_, q⟩ | ⟨q, _, k, q2⟩
        · rw [q]; exact begins_app hw _
        · rw [q, q2]; exact begins_app (hw.drop k) []
      unfold valP
      have hc : p'.skip.more.c = p.skip.more.c := by
        rcases hs with ⟨_, _, q, _⟩ | q
        · show p'.skip.c + 1 = p.skip.c + 1; rw [q]
        · exact absurd h0 q.1
      rw [hb, hc]
      simp only [h0, h0', ne_eq, not_true_eq_false, false_or]
      split
      · exact ⟨hs.fail_here (by decide), fun _ => rfl⟩
      · split
        · exact ⟨hs.more.fail_here (by decide), fun _ => rfl⟩
        · exact ⟨hs.more.fail_here (by decide), fun _ => rfl⟩
    · have h0' : p'.skip.e ≠ 0 := fun q => h0 (hs.e.2 q)
      unfold valP
      rw [if_pos (.inl h0), if_pos (.inl h0'), fail_of h0, fail_of h0']
      exact ⟨hs, fun q => absurd q h0⟩
  | succ d ih =>
    intro p p' h
    have hs := h.skip hw
    by_cases h0 : p.skip.e = 0
    · have h0' := hs.e.1 h0
      have hb : begins p'.skip.r = begins p.skip.r := by
        rcases hs.al h0 with ⟨_, q⟩ | ⟨q, _, k, q2⟩
        · rw [q]; exact begins_app hw _
        · rw [q, q2]; exact begins_app (hw.drop k) []
      unfold valP
      have hc : p'.skip.more.c = p.skip.more.c := by
        rcases hs with ⟨_, _, q, _⟩ | q
        · show p'.skip.c + 1 = p.skip.c + 1; rw [q]
        · exact absurd h0 q.1
      rw [hb, hc]
      simp only [h0, h0', ne_eq, not_true_eq_false, false_or]
      split
      · exact ⟨hs.fail_here (by decide), fun _ => rfl⟩
      · rename_i hbg
        split
        · exact ⟨hs.more.fail_here (by decide), fun _ => rfl⟩
        · have hne : p.skip.more.r ≠ [] := fun q => hbg (by
            have q : p.skip.r = [] := q
            rw [q]; rfl)
          obtain ⟨r1, r2⟩ := hs.more.read (rd := valP d) h0 hne hw (val_still d) (val_len d) ih
          exact ⟨r1.skip hw, fun q => r2 q⟩
    · have h0' : p'.skip.e ≠ 0 := fun q => h0 (hs.e.2 q)
      unfold valP
      rw [if_pos (.inl h0), if_pos (.inl h0'), fail_of h0, fail_of h0']
      exact ⟨hs, fun q => absurd q h0⟩
end
end Pa
end Go.Proofs.YteofdpogjnojnaaGreatDoor

namespace Go.Proofs.YteofdpogjnojnaaGreatDoor
open Go.RowKit Utf
set_option linter.unusedVariables false
set_option linter.unusedSimpArgs false

namespace Pa
theorem skip_idem (p : St) : p.skip.r.takeWhile isBl = [] := by
  show (p.r.drop (p.r.takeWhile isBl).length).takeWhile isBl = []
  have : ∀ l : List UInt8, (l.drop (l.takeWhile isBl).length).takeWhile isBl = [] := fun l => by
    induction l with
    | nil => rfl
    | cons c l ih =>
      cases hc : isBl c with
      | true => rw [List.takeWhile_cons_of_pos hc]; simpa using ih
      | false => rw [List.takeWhile_cons_of_neg (by simp [hc])]; simp [hc]
  exact this _
theorem val_skipped (d : Nat) (p : St) (h : (valP d p).1.e = 0) : (valP d p).1.r.takeWhile isBl = [] := by
  cases d with
  | zero =>
    unfold valP at h
    split at h
    · rename_i hx
      by_cases h0 : p.skip.e = 0
      · simp only [fail_ok h0] at h; exact absurd h (by decide)
      · simp only [fail_of h0] at h; exact absurd h h0
    · rename_i hx
      have h0 : p.skip.more.e = 0 := Classical.byContradiction fun q => hx (.inl q)
      split at h
      · simp only [fail_ok h0] at h; exact absurd h (by decide)
      · simp only [fail_ok h0] at h; exact absurd h (by decide)
  | succ d =>
    unfold valP at h ⊢
    split at h
    · rename_i hx
      by_cases h0 : p.skip.e = 0
      · simp only [fail_ok h0] at h; exact absurd h (by decide)
      · simp only [fail_of h0] at h; exact absurd h h0
    · rename_i hx
      rw [if_neg hx]
      have h0 : p.skip.more.e = 0 := Classical.byContradiction fun q => hx (.inl q)
      split at h
      · simp only [fail_ok h0] at h; exact absurd h (by decide)
      · rename_i hy
        rw [if_neg hy]
        exact skip_idem _
theorem bl_none {w : List UInt8} (hw : AllB w) (h : w.takeWhile isBl = []) : w = [] := by rw [bl_all hw] at h; exact h
/-- what is made of the state at the end -/
def endP (z : St × PV) (n : Nat) : PV × Nat × Int := if (if z.1.r ≠ [] then z.1.fail z.1.i 50 else z.1).e ≠ 0 then (pv0, (if z.1.r ≠ [] then z.1.fail z.1.i 50 else z.1).i, (if z.1.r ≠ [] then z.1.fail z.1.i 50 else z.1).e) else (z.2, n, 0)
theorem parse_end {b : List UInt8} (h : b.length ≤ 262144) : parseP b = endP (valP 12 ⟨0, b, 0, 0⟩) b.length := by
  unfold parseP endP
  rw [if_neg (by omega)]
theorem end_ok {z : St × PV} {n : Nat} (h : z.1.e = 0) (hr : z.1.r = []) : endP z n = (z.2, n, 0) := by
  unfold endP
  have e : (if z.1.r ≠ [] then z.1.fail z.1.i 50 else z.1) = z.1 := if_neg (by simpa using hr)
  rw [e, if_neg (by simpa using h)]
theorem end_left {z : St × PV} {n : Nat} (h : z.1.e = 0) (hr : z.1.r ≠ []) : endP z n = (pv0, z.1.i, 50) := by
  unfold endP
  rw [if_pos hr, fail_ok h]
  rfl
theorem end_no {z : St × PV} {n : Nat} (h : z.1.e ≠ 0) : endP z n = (pv0, z.1.i, z.1.e) := by
  unfold endP
  have : (if z.1.r ≠ [] then z.1.fail z.1.i 50 else z.1) = z.1 := by split; exact fail_of h; rfl
  rw [this, if_pos h]
/-- blanks ahead of a text and behind it -/
theorem parse_blanks {b ah be : List UInt8} (ha : AllB ah) (hb : AllB be) (hl : ah.length + (b.length + be.length) ≤ 262144) :
    ((parseP b).2.2 = 0 → parseP (ah ++ (b ++ be)) = ((parseP b).1, ah.length + (b.length + be.length), 0)) ∧
    ((parseP b).2.2 ≠ 0 → (parseP (ah ++ (b ++ be))).2.2 ≠ 0 ∧ (((parseP (ah ++ (b ++ be))).2.1 = (parseP b).2.1 + ah.length ∧ (parseP (ah ++ (b ++ be))).2.2 = (parseP b).2.2) ∨ (parseP b).2.1 = b.length)) := by
  rw [parse_end (b := b) (by omega), parse_end (b := ah ++ (b ++ be)) (by simp; omega), val_ahead 12 ah (b ++ be) ha, sh_val]
  have hs : Sim b.length be (⟨0, b, 0, 0⟩ : St) ⟨0, b ++ be, 0, 0⟩ := .inl ⟨rfl, rfl, rfl, by simp, .inl ⟨rfl, rfl⟩⟩
  obtain ⟨h1, h2⟩ := Sim.val hb 12 _ _ hs
  have h3 := val_skipped 12 (⟨0, b ++ be, 0, 0⟩ : St)
  generalize valP 12 ⟨0, b, 0, 0⟩ = z at h1 h2 ⊢
  generalize valP 12 ⟨0, b ++ be, 0, 0⟩ = z' at h1 h2 h3 ⊢
  have hlen : (ah ++ (b ++ be)).length = ah.length + (b.length + be.length) := by simp
  rw [hlen]
  by_cases h0 : z.1.e = 0
  · have h0' := h1.e.1 h0
    by_cases hr : z.1.r = []
    · rw [end_ok h0 hr]
      have hr' : z'.1.r = [] := by
        have := h3 h0'
        rcases h1.al h0 with ⟨_, q⟩ | ⟨_, _, k, q⟩
        · rw [hr, List.nil_append] at q; rw [q] at this ⊢; exact bl_none hb this
        · rw [q] at this ⊢; exact bl_none (hb.drop k) this
      rw [end_ok (z := (z'.1.sh ah.length, z'.2)) h0' hr']
      exact ⟨fun _ => by rw [h2 h0], fun q => absurd rfl q⟩
    · rw [end_left h0 hr]
      rcases h1.al h0 with ⟨q1, q2⟩ | ⟨q, _⟩
      · have hr' : z'.1.r ≠ [] := by rw [q2]; simp [hr]
        rw [end_left (z := (z'.1.sh ah.length, z'.2)) h0' hr']
        exact ⟨fun q => absurd (show (50 : Int) = 0 from q) (by decide), fun _ => ⟨show (50 : Int) ≠ 0 by decide, .inl ⟨by show ah.length + z'.1.i = z.1.i + ah.length; omega, rfl⟩⟩⟩
      · exact absurd q hr
  · have h0' : z'.1.e ≠ 0 := fun q => h0 (h1.e.2 q)
    rw [end_no h0, end_no (z := (z'.1.sh ah.length, z'.2)) h0']
    refine ⟨fun q => absurd q h0, fun _ => ⟨h0', ?_⟩⟩
    rcases h1 with ⟨q, _⟩ | ⟨_, _, _, _, ⟨q1, q2⟩ | q⟩
    · exact absurd q h0
    · exact .inl ⟨by show ah.length + z'.1.i = z.1.i + ah.length; omega, q1⟩
    · exact .inr q
end Pa
end Go.Proofs.YteofdpogjnojnaaGreatDoor

namespace Go.Proofs.YteofdpogjnojnaaGreatDoor
open Go.RowKit Utf
set_option linter.unusedVariables false
set_option linter.unusedSimpArgs false

namespace Pa
theorem fail_c (p : St) (a : Nat) (e : Int) : (p.fail a e).c = p.c := by unfold St.fail; split <;> rfl
theorem eat_c (p : St) (c : UInt8) : (p.eat c).2.c = p.c := by unfold St.eat; split <;> rfl
theorem need_c (p : St) (c : UInt8) : (p.need c).c = p.c := by unfold St.need; split; exact eat_c p c; exact fail_c p _ _
theorem lit_c (p : St) : p.lit.2.c = p.c := by
  unfold St.lit
  split
  · rfl
  · split
    · rfl
    · exact fail_c p _ _
theorem num_c (p : St) : (numP p).1.c = p.c := by
  unfold numP
  simp only
  split
  · rw [fail_c, eat_c]
  · split
    · rw [fail_c]; exact eat_c p 45
    · split
      · rw [fail_c]; exact eat_c p 45
      · exact eat_c p 45
theorem items_c {α : Type} {one : St → α → St × α} {en : UInt8} (h : ∀ p a, p.c ≤ (one p a).1.c) : ∀ (f : Nat) (p : St) (a : α), p.c ≤ (itemsG one en f p a).1.c
  | 0, p, a => Nat.le_refl _
  | f + 1, p, a => by
    unfold itemsG
    split
    · exact Nat.le_refl _
    · split
      · rw [eat_c]; exact h p a
      · refine Nat.le_trans (h p a) ?_
        have := items_c h f ((one p a).1.need 44) (one p a).2 (en := en)
        rw [need_c] at this
        exact this
theorem itemsP_c {α : Type} {one : St → α → St × α} {en : UInt8} (h : ∀ p a, p.c ≤ (one p a).1.c) (p : St) (a : α) : p.c ≤ (itemsP one en p a).1.c := by
  unfold itemsP
  split
  · rw [eat_c]; exact Nat.le_refl _
  · exact items_c h _ p.skip a
theorem key_c (m : List (ByteArray × PV)) (p : St) : (keyP m p).2.c = p.c := by
  unfold keyP
  simp only
  rw [need_c]
  show (if _ then _ else _ : St).c = p.c
  split
  · rw [fail_c, lit_c]; rfl
  · rw [lit_c]; rfl
theorem val_c : ∀ (d : Nat) (p : St), p.c ≤ (valP d p).1.c ∧ ((valP d p).1.e = 0 → p.c + 1 ≤ (valP d p).1.c)
  | 0, p => by
    unfold valP
    split
    · rename_i hx
      refine ⟨by rw [fail_c]; exact Nat.le_refl _, fun h => ?_⟩
      exfalso
      by_cases h0 : p.skip.e = 0
      · simp only [fail_ok h0] at h; exact absurd h (by decide)
      · simp only [fail_of h0] at h; exact absurd h h0
    · split
      · exact ⟨by rw [fail_c]; exact Nat.le_succ _, fun _ => by rw [fail_c]; exact Nat.le_refl _⟩
      · exact ⟨by rw [fail_c]; exact Nat.le_succ _, fun _ => by rw [fail_c]; exact Nat.le_refl _⟩
  | d + 1, p => by
    have hr : ∀ q : St, q.c ≤ (readP (valP d) q).1.c := fun q => by
      unfold readP
      split
      · exact Nat.le_refl _
      · split
        · rw [lit_c]; exact Nat.le_refl _
        · split
          · have := itemsP_c (one := oneL (valP d)) (en := 93) (fun p a => (val_c d p).1) (q.eat 91).2 []
            rw [eat_c] at this
            exact this
          · split
            · have := itemsP_c (one := oneM (valP d)) (en := 125) (fun p a => by
                have := (val_c d (keyP a p).2).1
                rw [key_c] at this
                exact this) (q.eat 123).2 []
              rw [eat_c] at this
              exact this
            · rw [num_c]; exact Nat.le_refl _
    unfold valP
    split
    · rename_i hx
      refine ⟨by rw [fail_c]; exact Nat.le_refl _, fun h => ?_⟩
      exfalso
      by_cases h0 : p.skip.e = 0
      · simp only [fail_ok h0] at h; exact absurd h (by decide)
      · simp only [fail_of h0] at h; exact absurd h h0
    · split
      · exact ⟨by rw [fail_c]; exact Nat.le_succ _, fun _ => by rw [fail_c]; exact Nat.le_refl _⟩
      · have := hr p.skip.more
        have e : p.skip.more.c = p.c + 1 := rfl
        rw [e] at this
        exact ⟨Nat.le_trans (Nat.le_succ _) this, fun _ => this⟩
end Pa
end Go.Proofs.YteofdpogjnojnaaGreatDoor
