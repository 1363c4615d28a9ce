/-
  The search of a path, in plain Lean: metadata, what is to be visited, what was.
  Laws of the search, in plain Lean.
  All roles that are delegated to, in plain Lean.
-/
import Derived.Test.YthidjdjcjjbpbaaGreatDoorGA
namespace Go.Proofs.YthidjdjcjjbpbaaGreatDoor
set_option linter.unusedVariables false

namespace Sea
/-- a target -/
structure PT where
  p : ByteArray
  n : Int
  h : ByteArray
/-- a delegation -/
structure PD where
  name : ByteArray
  rk : List ByteArray
  thr : Int
  term : Bool
  paths : List ByteArray
  prefs : List ByteArray
/-- a key's row: its cells -/
abbrev PK := List Value
/-- metadata -/
structure PM where
  ver : Int
  exp : Int
  ts : List PT
  ks : List PK
  ds : List PD
/-- a role's metadata -/
structure PN where
  name : ByteArray
  t : PM

def findT (path : ByteArray) (l : List PT) : Option PT := l.find? (fun x => decide (x.p = path))
/-- those that cover, up to a terminating one -/
def covering (cov : PD → Bool) : List PD → List PD
  | [] => []
  | d :: l => if cov d then (if d.term then [d] else d :: covering cov l) else covering cov l
def lastTerm (l : List PD) : Bool := match l.getLast? with | some d => d.term | none => false
abbrev Todo := PD × List PK
def pushP (cov : PD → Bool) (t : PM) (s : List Todo) : List Todo := (covering cov t.ds).map (fun d => (d, t.ks)) ++ (if lastTerm (covering cov t.ds) then [] else s)
def hasB (l : List ByteArray) (x : ByteArray) : Bool := l.any (fun y => decide (y = x))
def rest (vis : List ByteArray) (s : List Todo) : List Todo := s.dropWhile (fun x => hasB vis x.1.name)
/-- what came of a search -/
structure Res where
  x : Option PT
  vis : List ByteArray
  e : Int
  ask : List (List PK)
/-- the search: ld tells of the so many-th question, and of a name, the metadata or the fault -/
def walkP (cov : PD → Bool) (path : ByteArray) (most : Int) (ld : Nat → ByteArray → Except Int PM) (eNone eMany : Int) : Nat → PM → List Todo → List ByteArray → List (List PK) → Res
  | 0, _, _, vis, ask => ⟨none, vis, eNone, ask⟩
  | f + 1, t, s, vis, ask =>
    match findT path t.ts with
    | some x => ⟨some x, vis, 0, ask⟩
    | none =>
      match rest vis (pushP cov t s) with
      | [] => ⟨none, vis, eNone, ask⟩
      | x :: r =>
        if (vis.length : Int) = most then ⟨none, vis, eMany, ask⟩ else
        match ld vis.length x.1.name with
        | .error e => ⟨none, vis ++ [x.1.name], e, ask ++ [x.2]⟩
        | .ok t' => walkP cov path most ld eNone eMany f t' r (vis ++ [x.1.name]) (ask ++ [x.2])
/-- the first one of a name -/
def loadP (l : List PN) (name : ByteArray) : Option PM := (l.find? (fun x => decide (x.name = name))).map (·.t)
def ldOf (l : List PN) (eNone : Int) : Nat → ByteArray → Except Int PM := fun _ n => match loadP l n with | some t => .ok t | none => .error eNone
def ldStop (l : List PN) (eNone eStop : Int) (stop : Int) : Nat → ByteArray → Except Int PM := fun k n => if (k : Int) = stop then .error eStop else ldOf l eNone k n

/-- all roles: what a row of delegations adds -/
def addRoles (l : List PN) : List PD → List ByteArray → List PM → List ByteArray × List PM
  | [], out, next => (out, next)
  | d :: ds, out, next =>
    if hasB out d.name then addRoles l ds out next
    else addRoles l ds (out ++ [d.name]) (next ++ (loadP l d.name).toList)
def rolesP (l : List PN) : Nat → List ByteArray → List PM → List ByteArray
  | 0, out, _ => out
  | _ + 1, out, [] => out
  | f + 1, out, t :: next => rolesP l f (addRoles l t.ds out next).1 (addRoles l t.ds out next).2

section
variable {cov : PD → Bool} {path : ByteArray} {most eNone eMany : Int} {ld : Nat → ByteArray → Except Int PM}
theorem walkP_vis : ∀ (f : Nat) (t : PM) (s : List Todo) (vis : List ByteArray) (ask : List (List PK)), ∃ v a, (walkP cov path most ld eNone eMany f t s vis ask).vis = vis ++ v ∧ (walkP cov path most ld eNone eMany f t s vis ask).ask = ask ++ a ∧ a.length = v.length
  | 0, t, s, vis, ask => ⟨[], [], by simp [walkP], by simp [walkP], rfl⟩
  | f + 1, t, s, vis, ask => by
    unfold walkP
    split
    · exact ⟨[], [], by simp, by simp, rfl⟩
    split
    · exact ⟨[], [], by simp, by simp, rfl⟩
    rename_i x r hx
    split
    · exact ⟨[], [], by simp, by simp, rfl⟩
    split
    · exact ⟨[x.1.name], [x.2], rfl, rfl, rfl⟩
    rename_i t' ht
    obtain ⟨v, a, h1, h2, h3⟩ := walkP_vis f t' r (vis ++ [x.1.name]) (ask ++ [x.2])
    exact ⟨x.1.name :: v, x.2 :: a, by rw [h1]; simp, by rw [h2]; simp, by simp [h3]⟩
/-- more fuel changes nothing, once there is enough -/
theorem walkP_fuel : ∀ (f g : Nat) (t : PM) (s : List Todo) (vis : List ByteArray) (ask : List (List PK)), (vis.length : Int) ≤ most → most < f + vis.length → most < g + vis.length →
    walkP cov path most ld eNone eMany f t s vis ask = walkP cov path most ld eNone eMany g t s vis ask
  | 0, _, _, _, _, _, h, h1, _ => by omega
  | _ + 1, 0, _, _, _, _, h, _, h2 => by omega
  | f + 1, g + 1, t, s, vis, ask, h, h1, h2 => by
    unfold walkP
    split
    · rfl
    split
    · rfl
    split
    · rfl
    rename_i hne
    split
    · rfl
    exact walkP_fuel f g _ _ _ _ (by simp; omega) (by simp; omega) (by simp; omega)
end
end Sea
end Go.Proofs.YthidjdjcjjbpbaaGreatDoor

namespace Go.Proofs.YthidjdjcjjbpbaaGreatDoor
set_option linter.unusedVariables false

namespace Sea
variable {cov : PD → Bool} {path : ByteArray} {most eNone eMany : Int}
theorem hasB_mem {l : List ByteArray} {x : ByteArray} : hasB l x = true ↔ x ∈ l := by
  unfold hasB
  rw [List.any_eq_true]
  constructor
  · rintro ⟨y, hy, e⟩
    rw [decide_eq_true_iff] at e
    exact e ▸ hy
  · intro h
    exact ⟨x, h, by rw [decide_eq_true_iff]⟩
theorem rest_head {vis : List ByteArray} {s r : List Todo} {x : Todo} (h : rest vis s = x :: r) : x.1.name ∉ vis ∧ x ∈ s ∧ ∀ y ∈ r, y ∈ s := by
  have hx : x ∈ rest vis s := by rw [h]; exact List.mem_cons_self
  refine ⟨?_, ?_, fun y hy => ?_⟩
  · have h1 := List.head?_dropWhile_not (p := fun x : Todo => hasB vis x.1.name) s
    unfold rest at h
    rw [h] at h1
    simp only [List.head?_cons] at h1
    intro hm
    rw [hasB_mem.2 hm] at h1
    cases h1
  · exact (List.dropWhile_sublist _).subset hx
  · exact (List.dropWhile_sublist _).subset (by show y ∈ rest vis s; rw [h]; exact List.mem_cons_of_mem _ hy)
theorem covering_mem {d : PD} : ∀ {l : List PD}, d ∈ covering cov l → d ∈ l
  | [], h => h
  | a :: l, h => by
    unfold covering at h
    split at h
    · split at h
      · rw [List.mem_singleton] at h; rw [h]; exact List.mem_cons_self
      · rcases List.mem_cons.1 h with h | h
        · rw [h]; exact List.mem_cons_self
        · exact List.mem_cons_of_mem _ (covering_mem h)
    · exact List.mem_cons_of_mem _ (covering_mem h)
theorem pushP_mem {t : PM} {s : List Todo} {x : Todo} (h : x ∈ pushP cov t s) : (x.1 ∈ t.ds ∧ x.2 = t.ks) ∨ x ∈ s := by
  unfold pushP at h
  rcases List.mem_append.1 h with h | h
  · obtain ⟨d, hd, rfl⟩ := List.mem_map.1 h
    exact .inl ⟨covering_mem hd, rfl⟩
  · split at h
    · cases h
    · exact .inr h
def noM : PM := ⟨0, 0, [], [], []⟩
/-- the metadata of those that were visited -/
def metas (top : PM) (l : List PN) (vis : List ByteArray) : List PM := top :: vis.tail.map (fun n => (loadP l n).getD noM)
theorem metas_snoc {top : PM} {l : List PN} {vis : List ByteArray} (h : vis ≠ []) (n : ByteArray) : metas top l (vis ++ [n]) = metas top l vis ++ [(loadP l n).getD noM] := by
  cases vis with
  | nil => exact absurd rfl h
  | cons a v => simp [metas]
/-- what is found is the last one's, and no other's; no role is visited twice; no more than so many are -/
theorem walkP_first {top : PM} {l : List PN} (hN : eNone ≠ 0) (hM : eMany ≠ 0) : ∀ (f : Nat) (t : PM) (s : List Todo) (vis : List ByteArray) (ask : List (List PK)) (m0 : List PM),
    vis ≠ [] → vis.Nodup → (vis.length : Int) ≤ most → most < f + vis.length → metas top l vis = m0 ++ [t] → (∀ m ∈ m0, findT path m.ts = none) →
    ∃ R, R = walkP cov path most (ldOf l eNone) eNone eMany f t s vis ask ∧ R.vis.Nodup ∧ (R.vis.length : Int) ≤ most ∧ R.vis ≠ [] ∧ (R.x.isSome = true ↔ R.e = 0) ∧
      ∃ m1 t1, metas top l R.vis = m1 ++ [t1] ∧ (∀ m ∈ m1, findT path m.ts = none) ∧ findT path t1.ts = R.x
  | 0, t, s, vis, ask, m0, hne, hnd, hle, hf, hm, h0 => by omega
  | f + 1, t, s, vis, ask, m0, hne, hnd, hle, hf, hm, h0 => by
    unfold walkP
    split
    · rename_i x hx
      exact ⟨_, rfl, hnd, hle, hne, by simp, m0, t, hm, h0, hx⟩
    rename_i hx
    split
    · exact ⟨_, rfl, hnd, hle, hne, by simp [hN], m0, t, hm, h0, hx⟩
    rename_i x r hr
    obtain ⟨h1, h2, h3⟩ := rest_head hr
    split
    · exact ⟨_, rfl, hnd, hle, hne, by simp [hM], m0, t, hm, h0, hx⟩
    rename_i hmost
    have hnd' : (vis ++ [x.1.name]).Nodup := by
      rw [List.nodup_append]
      refine ⟨hnd, by simp, ?_⟩
      intro a ha b hb
      rw [List.mem_singleton] at hb
      rw [hb]
      rintro rfl
      exact h1 ha
    have hms := metas_snoc (top := top) (l := l) hne x.1.name
    rw [hm] at hms
    have h0' : ∀ m ∈ m0 ++ [t], findT path m.ts = none := fun m hmm => by
      rcases List.mem_append.1 hmm with h | h
      · exact h0 m h
      · rw [List.mem_singleton] at h; rw [h]; exact hx
    have hle' : ((vis ++ [x.1.name]).length : Int) ≤ most := by simp; omega
    split
    · rename_i e he
      have hl : loadP l x.1.name = none := by
        unfold ldOf at he
        split at he
        · cases he
        · assumption
      have hE : e = eNone := by
        unfold ldOf at he
        split at he
        · cases he
        · injection he with he; exact he.symm
      exact ⟨_, rfl, hnd', hle', by simp, by simp [hE, hN], m0 ++ [t], noM, by rw [hms, hl]; rfl, h0', rfl⟩
    · rename_i t' he
      have hl : loadP l x.1.name = some t' := by
        unfold ldOf at he
        split at he
        · rename_i q; injection he with he; rw [← he]; exact q
        · cases he
      exact walkP_first hN hM f t' r (vis ++ [x.1.name]) (ask ++ [x.2]) (m0 ++ [t]) (by simp) hnd' hle' (by simp; omega) (by rw [hms, hl]; rfl) h0'
/-- keys that a question brings are a visited one's -/
theorem walkP_ask {top : PM} {l : List PN} {ld : Nat → ByteArray → Except Int PM} (hld : ∀ k n t, ld k n = .ok t → loadP l n = some t) : ∀ (f : Nat) (t : PM) (s : List Todo) (vis : List ByteArray) (ask : List (List PK)),
    (t = top ∨ ∃ n ∈ l, t = n.t) → (∀ x ∈ s, x.2 = top.ks ∨ ∃ n ∈ l, x.2 = n.t.ks) → (∀ k ∈ ask, k = top.ks ∨ ∃ n ∈ l, k = n.t.ks) →
    ∀ k ∈ (walkP cov path most ld eNone eMany f t s vis ask).ask, k = top.ks ∨ ∃ n ∈ l, k = n.t.ks
  | 0, t, s, vis, ask, ht, hs, ha => by simpa [walkP] using ha
  | f + 1, t, s, vis, ask, ht, hs, ha => by
    have hp : ∀ x ∈ pushP cov t s, x.2 = top.ks ∨ ∃ n ∈ l, x.2 = n.t.ks := fun x hx => by
      rcases pushP_mem hx with ⟨_, h⟩ | h
      · rcases ht with e | ⟨n, hn, e⟩
        · exact .inl (by rw [h, e])
        · exact .inr ⟨n, hn, by rw [h, e]⟩
      · exact hs x h
    unfold walkP
    split
    · exact ha
    split
    · exact ha
    rename_i x r hr
    obtain ⟨_, h2, h3⟩ := rest_head hr
    have ha' : ∀ k ∈ ask ++ [x.2], k = top.ks ∨ ∃ n ∈ l, k = n.t.ks := fun k hk => by
      rcases List.mem_append.1 hk with h | h
      · exact ha k h
      · rw [List.mem_singleton] at h; rw [h]; exact hp x h2
    split
    · exact ha
    split
    · exact ha'
    rename_i t' he
    refine walkP_ask hld f t' r _ _ ?_ (fun y hy => hp y (h3 y hy)) ha'
    have h := hld _ _ _ he
    unfold loadP at h
    cases hf : l.find? (fun y => decide (y.name = x.1.name)) with
    | none => rw [hf] at h; cases h
    | some n => rw [hf] at h; injection h with h; exact .inr ⟨n, List.mem_of_find?_eq_some hf, h.symm⟩
/-- a loader that answers no further -/
theorem walkP_stop {l : List PN} {eStop stop : Int} : ∀ (f : Nat) (t : PM) (s : List Todo) (vis : List ByteArray) (ask : List (List PK)), 1 ≤ vis.length → (stop < 1 ∨ (vis.length : Int) ≤ stop) →
    ∃ R R', R = walkP cov path most (ldOf l eNone) eNone eMany f t s vis ask ∧ R' = walkP cov path most (ldStop l eNone eStop stop) eNone eMany f t s vis ask ∧
      ((1 ≤ stop ∧ stop < R.vis.length → R'.x = none ∧ R'.e = eStop ∧ R'.vis = R.vis.take (stop + 1).toNat) ∧ (¬ (1 ≤ stop ∧ stop < R.vis.length) → R' = R))
  | 0, t, s, vis, ask, h1, hs => ⟨_, _, rfl, rfl, fun ⟨h2, h3⟩ => by simp only [walkP] at h3; omega, fun _ => rfl⟩
  | f + 1, t, s, vis, ask, h1, hs => by
    unfold walkP
    split
    · exact ⟨_, _, rfl, rfl, fun ⟨h2, h3⟩ => by simp only at h3; omega, fun _ => rfl⟩
    split
    · exact ⟨_, _, rfl, rfl, fun ⟨h2, h3⟩ => by simp only at h3; omega, fun _ => rfl⟩
    rename_i x r hr
    split
    · exact ⟨_, _, rfl, rfl, fun ⟨h2, h3⟩ => by simp only at h3; omega, fun _ => rfl⟩
    by_cases he : (vis.length : Int) = stop
    · have e1 : ldStop l eNone eStop stop vis.length x.1.name = .error eStop := by unfold ldStop; rw [if_pos he]
      rw [e1]
      have htk : (vis ++ [x.1.name]).take (stop + 1).toNat = vis ++ [x.1.name] := List.take_of_length_le (by simp; omega)
      cases hq : ldOf l eNone vis.length x.1.name with
      | error e => exact ⟨_, _, rfl, rfl, fun ⟨h2, h3⟩ => ⟨rfl, rfl, htk.symm⟩, fun hn => absurd ⟨by omega, by simp; omega⟩ hn⟩
      | ok t' =>
        obtain ⟨v, a, e, _, _⟩ := walkP_vis (cov := cov) (path := path) (most := most) (ld := ldOf l eNone) (eNone := eNone) (eMany := eMany) f t' r (vis ++ [x.1.name]) (ask ++ [x.2])
        refine ⟨_, _, rfl, rfl, fun ⟨h2, h3⟩ => ⟨rfl, rfl, ?_⟩, fun hn => absurd ⟨by omega, ?_⟩ hn⟩
        · show vis ++ [x.1.name] = List.take _ (walkP _ _ _ _ _ _ _ _ _ _ _).vis
          rw [e, List.take_append_of_le_length (by simp; omega)]
          exact htk.symm
        · show stop < ((walkP _ _ _ _ _ _ _ _ _ _ _).vis.length : Int)
          rw [e]
          simp
          omega
    · have e1 : ldStop l eNone eStop stop vis.length x.1.name = ldOf l eNone vis.length x.1.name := by unfold ldStop; rw [if_neg he]
      rw [e1]
      split
      · exact ⟨_, _, rfl, rfl, fun ⟨h2, h3⟩ => by simp at h3; omega, fun _ => rfl⟩
      · rename_i t' ht'
        exact walkP_stop f t' r (vis ++ [x.1.name]) (ask ++ [x.2]) (by simp) (by rcases hs with h | h; exact .inl h; right; simp; omega)
end Sea
end Go.Proofs.YthidjdjcjjbpbaaGreatDoor

namespace Go.Proofs.YthidjdjcjjbpbaaGreatDoor
set_option linter.unusedVariables false

namespace Sea
variable {l : List PN}
/-- names of metadata that are not among some -/
def left (l : List PN) (out : List ByteArray) : Nat := l.countP (fun x => !hasB out x.name)
theorem hasB_snoc (out : List ByteArray) (n x : ByteArray) : hasB (out ++ [n]) x = (hasB out x || decide (n = x)) := by
  unfold hasB; rw [List.any_append]; simp
theorem left_snoc_le (out : List ByteArray) (n : ByteArray) : left l (out ++ [n]) ≤ left l out := by
  unfold left
  refine List.countP_mono_left fun x _ h => ?_
  rw [hasB_snoc] at h
  cases hb : hasB out x.name with
  | true => rw [hb] at h; simp at h
  | false => rfl
theorem left_snoc_lt : ∀ {l : List PN} {out : List ByteArray} {n : ByteArray} {t : PM}, hasB out n = false → loadP l n = some t → left l (out ++ [n]) + 1 ≤ left l out
  | [], out, n, t, h, hl => by cases hl
  | a :: l, out, n, t, h, hl => by
    have h1 : left (a :: l) (out ++ [n]) = left l (out ++ [n]) + (if !hasB (out ++ [n]) a.name then 1 else 0) := by unfold left; rw [List.countP_cons]
    have h2 : left (a :: l) out = left l out + (if !hasB out a.name then 1 else 0) := by unfold left; rw [List.countP_cons]
    rw [h1, h2, hasB_snoc]
    by_cases e : a.name = n
    · have h3 := left_snoc_le (l := l) out n
      rw [e, h]
      simp
      omega
    · have hl' : loadP l n = some t := by
        unfold loadP at hl ⊢
        rw [List.find?_cons_of_neg (by simpa using e)] at hl
        exact hl
      have h3 := left_snoc_lt h hl'
      have e' : decide (n = a.name) = false := by rw [decide_eq_false_iff_not]; exact fun q => e q.symm
      rw [e', Bool.or_false]
      omega
theorem addRoles_left : ∀ (ds : List PD) (out : List ByteArray) (next : List PM), (addRoles l ds out next).2.length + left l (addRoles l ds out next).1 ≤ next.length + left l out
  | [], out, next => Nat.le_refl _
  | d :: ds, out, next => by
    unfold addRoles
    split
    · exact addRoles_left ds out next
    rename_i h
    refine Nat.le_trans (addRoles_left ds _ _) ?_
    cases hl : loadP l d.name with
    | none => have := left_snoc_le (l := l) out d.name; simp; omega
    | some t => have := left_snoc_lt (Bool.eq_false_iff.2 h) hl; simp; omega
/-- what is closed: who is among them has its own among them, or waits -/
def Shut (l : List PN) (out : List ByteArray) (next : List PM) : Prop := ∀ n ∈ out, ∀ t, loadP l n = some t → t ∈ next ∨ ∀ d ∈ t.ds, d.name ∈ out
theorem addRoles_sub : ∀ (ds : List PD) (out : List ByteArray) (next : List PM), (∀ n ∈ out, n ∈ (addRoles l ds out next).1) ∧ (∀ t ∈ next, t ∈ (addRoles l ds out next).2) ∧ ∀ d ∈ ds, d.name ∈ (addRoles l ds out next).1
  | [], out, next => ⟨fun _ h => h, fun _ h => h, fun _ h => by cases h⟩
  | d :: ds, out, next => by
    unfold addRoles
    split
    · rename_i h
      obtain ⟨h1, h2, h3⟩ := addRoles_sub ds out next
      exact ⟨h1, h2, fun x hx => by
        rcases List.mem_cons.1 hx with rfl | hx
        · exact h1 _ (hasB_mem.1 h)
        · exact h3 x hx⟩
    · obtain ⟨h1, h2, h3⟩ := addRoles_sub ds (out ++ [d.name]) (next ++ (loadP l d.name).toList)
      exact ⟨fun n hn => h1 n (by simp [hn]), fun t ht => h2 t (by simp [ht]), fun x hx => by
        rcases List.mem_cons.1 hx with rfl | hx
        · exact h1 _ (by simp)
        · exact h3 x hx⟩
theorem addRoles_shut : ∀ (ds : List PD) (out : List ByteArray) (next : List PM), Shut l out next → Shut l (addRoles l ds out next).1 (addRoles l ds out next).2
  | [], out, next, h => h
  | d :: ds, out, next, h => by
    unfold addRoles
    split
    · exact addRoles_shut ds out next h
    refine addRoles_shut ds _ _ fun n hn t ht => ?_
    rcases List.mem_append.1 hn with hn | hn
    · rcases h n hn t ht with h | h
      · exact .inl (by simp [h])
      · exact .inr fun d hd => by simp [h d hd]
    · rw [List.mem_singleton] at hn
      rw [hn] at ht
      exact .inl (by simp [ht])
theorem rolesP_shut : ∀ (f : Nat) (out : List ByteArray) (next : List PM), next.length + left l out ≤ f → Shut l out next →
    Shut l (rolesP l f out next) [] ∧ (∀ n ∈ out, n ∈ rolesP l f out next) ∧ ∀ t ∈ next, ∀ d ∈ t.ds, d.name ∈ rolesP l f out next
  | 0, out, next, hf, h => by
    have : next = [] := List.eq_nil_of_length_eq_zero (by omega)
    subst this
    exact ⟨h, fun _ h => h, fun _ h => by cases h⟩
  | f + 1, out, [], hf, h => ⟨h, fun _ h => h, fun _ h => by cases h⟩
  | f + 1, out, t :: next, hf, h => by
    unfold rolesP
    have h1 := addRoles_left (l := l) t.ds out next
    obtain ⟨s1, s2, s3⟩ := addRoles_sub (l := l) t.ds out next
    have hsh : Shut l (addRoles l t.ds out next).1 (addRoles l t.ds out next).2 := by
      intro n hn u hu
      by_cases ho : n ∈ out
      · rcases h n ho u hu with h | h
        · rcases List.mem_cons.1 h with rfl | h
          · exact .inr s3
          · exact .inl (s2 u h)
        · exact .inr fun d hd => s1 _ (h d hd)
      · have h0 : Shut l ([] : List ByteArray) next := fun _ h => by cases h
        -- new names wait
        have key : ∀ (ds : List PD) (o : List ByteArray) (nx : List PM), (∀ n ∈ o, n ∉ out → ∀ u, loadP l n = some u → u ∈ nx) → ∀ n ∈ (addRoles l ds o nx).1, n ∉ out → ∀ u, loadP l n = some u → u ∈ (addRoles l ds o nx).2 := by
          intro ds
          induction ds with
          | nil => intro o nx hk; exact hk
          | cons d ds ih =>
            intro o nx hk
            unfold addRoles
            split
            · exact ih o nx hk
            · refine ih _ _ fun n hn hno u hu => ?_
              rcases List.mem_append.1 hn with hn | hn
              · simp [hk n hn hno u hu]
              · rw [List.mem_singleton] at hn
                rw [hn] at hu
                simp [hu]
        exact .inl (key t.ds out next (fun n hn hno => absurd hn hno) n hn ho u hu)
    obtain ⟨r1, r2, r3⟩ := rolesP_shut f _ _ (by simp only [List.length_cons] at hf; omega) hsh
    exact ⟨r1, fun n hn => r2 n (s1 n hn), fun u hu d hd => by
      rcases List.mem_cons.1 hu with rfl | hu
      · exact r2 _ (s3 d hd)
      · exact r3 u (s2 u hu) d hd⟩
theorem rolesP_fuel : ∀ (f g : Nat) (out : List ByteArray) (next : List PM), next.length + left l out ≤ f → next.length + left l out ≤ g → rolesP l f out next = rolesP l g out next
  | 0, g, out, next, hf, hg => by
    have : next = [] := List.eq_nil_of_length_eq_zero (by omega)
    subst this
    cases g <;> rfl
  | f + 1, 0, out, next, hf, hg => by
    have : next = [] := List.eq_nil_of_length_eq_zero (by omega)
    subst this
    rfl
  | f + 1, g + 1, out, [], hf, hg => rfl
  | f + 1, g + 1, out, t :: next, hf, hg => by
    unfold rolesP
    have h1 := addRoles_left (l := l) t.ds out next
    exact rolesP_fuel f g _ _ (by simp only [List.length_cons] at hf; omega) (by simp only [List.length_cons] at hg; omega)
/-- all roles -/
def rolesAll (l : List PN) (top : PM) : List ByteArray := rolesP l (l.length + 1) [] [top]
theorem left_le (out : List ByteArray) : left l out ≤ l.length := List.countP_le_length
/-- who is visited is one of them -/
theorem walkP_roles {cov : PD → Bool} {path : ByteArray} {most eNone eMany : Int} {ld : Nat → ByteArray → Except Int PM} (hld : ∀ k n t, ld k n = .ok t → loadP l n = some t) (R : List ByteArray) (hR : Shut l R []) : ∀ (f : Nat) (t : PM) (s : List Todo) (vis : List ByteArray) (ask : List (List PK)),
    (∀ d ∈ t.ds, d.name ∈ R) → (∀ x ∈ s, x.1.name ∈ R) → (∀ n ∈ vis.tail, n ∈ R) → vis ≠ [] → ∀ n ∈ (walkP cov path most ld eNone eMany f t s vis ask).vis.tail, n ∈ R
  | 0, t, s, vis, ask, ht, hs, hv, hne => by simpa [walkP] using hv
  | f + 1, t, s, vis, ask, ht, hs, hv, hne => by
    have hp : ∀ x ∈ pushP cov t s, x.1.name ∈ R := fun x hx => by
      rcases pushP_mem hx with ⟨h, _⟩ | h
      · exact ht _ h
      · exact hs x h
    unfold walkP
    split
    · exact hv
    split
    · exact hv
    rename_i x r hr
    obtain ⟨_, h2, h3⟩ := rest_head hr
    have hv' : ∀ n ∈ (vis ++ [x.1.name]).tail, n ∈ R := fun n hn => by
      rw [List.tail_append_of_ne_nil hne] at hn
      rcases List.mem_append.1 hn with h | h
      · exact hv n h
      · rw [List.mem_singleton] at h; rw [h]; exact hp x h2
    split
    · exact hv
    split
    · exact hv'
    rename_i t' he
    refine walkP_roles hld R hR f t' r _ _ ?_ (fun y hy => hp y (h3 y hy)) hv' (by simp)
    rcases hR _ (hp x h2) t' (hld _ _ _ he) with h | h
    · cases h
    · exact h
theorem rolesAll_walk {cov : PD → Bool} {path : ByteArray} {most eNone eMany : Int} {ld : Nat → ByteArray → Except Int PM} (hld : ∀ k n t, ld k n = .ok t → loadP l n = some t) (f : Nat) (top : PM) (v0 : ByteArray) :
    ∀ n ∈ (walkP cov path most ld eNone eMany f top [] [v0] []).vis.tail, n ∈ rolesAll l top := by
  obtain ⟨h1, h2, h3⟩ := rolesP_shut (l := l) (l.length + 1) [] [top] (by have := left_le (l := l) []; simp; omega) (fun _ h => by cases h)
  exact walkP_roles hld _ h1 f top [] [v0] [] (h3 top (by simp)) (fun _ h => by cases h) (fun _ h => by cases h) (by simp)
end Sea
end Go.Proofs.YthidjdjcjjbpbaaGreatDoor
