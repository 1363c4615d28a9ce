/-
  glob's meet and both: the search with the places seen.
-/
import Derived.Test.YtodkjhbnodcbhaaDoorSeen
import Derived.Test.YtodkjhbnodcbhaaDoorGlobBoth
import Derived.Test.YtodkjhbnodcbhaaDoorGlobW7
import Derived.Deep.QuietTactic
import Derived.BigQuiet
import Derived.StillTailTactics
namespace Go.Proofs.YtodkjhbnodcbhaaDoor
open Go.RowKit Glob Go.WideMaps Go.Maps
set_option linter.unusedVariables false

def signB (a b : UInt8) : Bool := a == b || (a == 63 || b == 63)
set_option maxHeartbeats 1000000 in
theorem sign_any (a b : UInt8) (w : World) : Calls Tryd.prog 64 #[.int .u8 (a.toNat : Int), .int .u8 (b.toNat : Int)] w fun e w' => e = .returned (.bool (signB a b)) ∧ w' = w := by
  have c1 : ((a.toNat : Int) == (b.toNat : Int)) = (a == b) := by
    rw [Bool.eq_iff_iff, beq_iff_eq, beq_iff_eq]; exact ⟨fun e => UInt8.toNat_inj.1 (by omega), fun e => by rw [e]⟩
  have c2 : ((a.toNat : Int) == 63) = (a == 63) := by
    rw [Bool.eq_iff_iff, beq_iff_eq, beq_iff_eq]; exact ⟨fun e => UInt8.toNat_inj.1 (by show _ = 63; omega), fun e => by rw [e]; rfl⟩
  have c3 : ((b.toNat : Int) == 63) = (b == 63) := by
    rw [Bool.eq_iff_iff, beq_iff_eq, beq_iff_eq]; exact ⟨fun e => UInt8.toNat_inj.1 (by show _ = 63; omega), fun e => by rw [e]; rfl⟩
  unfold signB
  generalize (a == b) = x at c1 ⊢
  generalize (a == 63) = y at c2 ⊢
  generalize (b == 63) = z at c3 ⊢
  cases x <;> cases y <;> cases z <;>
  · go_enter Tryd.func64, Tryd.ntmps64
    go_wp2
    go_ret
    exact ⟨rfl, rfl⟩
theorem drop_empty (s : ByteArray) (i : Nat) (h : i ≤ s.size) : (s.extract i s.size).toList = s.data.toList.drop i := by
  rw [Lib.toList_data]; simp [List.extract, List.take_of_length_le]
theorem has_star (l : List UInt8) (i : Nat) : Lib.hasPrefix (l.drop i) [42] = star l i := by
  unfold star Lib.hasPrefix
  rcases Nat.lt_or_ge i l.length with h | h
  · rw [List.drop_eq_getElem_cons h, List.getElem?_eq_getElem h]
    show ((42 : UInt8) == l[i] && true) = (some l[i] == some 42)
    rw [Bool.and_true, Bool.eq_iff_iff, beq_iff_eq, beq_iff_eq]
    exact ⟨fun e => by rw [← e], fun e => by injection e with e; rw [e]⟩
  · rw [List.drop_eq_nil_of_le h, List.getElem?_eq_none h]; rfl
theorem sign_L (p q : List UInt8) (i k : Nat) (hi : i < p.length) (hk : k < q.length) : signL p q i k = signB p[i] q[k] := by
  unfold signL signB
  rw [List.getElem?_eq_getElem hi, List.getElem?_eq_getElem hk]
  rw [Bool.eq_iff_iff]
  simp [Bool.or_eq_true, or_assoc]
theorem meet_in (p q : List UInt8) : ∀ (f i k : Nat) (S : List (Nat × Nat)), i ≤ p.length → k ≤ q.length → (∀ x ∈ S, x.1 ≤ p.length ∧ x.2 ≤ q.length) → ∀ x ∈ (meetF p q f i k S).2, x.1 ≤ p.length ∧ x.2 ≤ q.length
  | 0, i, k, S, _, _, h => h
  | f + 1, i, k, S, hi, hk, h => by
    unfold meetF
    by_cases hS : (i, k) ∈ S
    · rw [if_pos hS]; exact h
    rw [if_neg hS]
    have h1 : ∀ x ∈ (i, k) :: S, x.1 ≤ p.length ∧ x.2 ≤ q.length := fun x hx => by
      rcases List.mem_cons.1 hx with rfl | hx
      · exact ⟨hi, hk⟩
      · exact h x hx
    by_cases he : i = p.length ∧ k = q.length
    · rw [if_pos he]; exact h1
    rw [if_neg he]
    obtain ⟨A, hA⟩ : ∃ A, A = (if star p i then meetF p q f (i + 1) k ((i, k) :: S) else (false, (i, k) :: S)) := ⟨_, rfl⟩
    have hA2 : ∀ x ∈ A.2, x.1 ≤ p.length ∧ x.2 ≤ q.length := by
      by_cases hs : star p i = true
      · rw [if_pos hs] at hA
        rw [hA]
        have := star_lt hs
        exact meet_in p q f _ _ _ (by omega) hk h1
      · rw [if_neg hs] at hA
        rw [hA]; exact h1
    simp only [← hA]
    split
    · exact hA2
    obtain ⟨B, hB⟩ : ∃ B, B = (if star q k then meetF p q f i (k + 1) A.2 else (false, A.2)) := ⟨_, rfl⟩
    have hB2 : ∀ x ∈ B.2, x.1 ≤ p.length ∧ x.2 ≤ q.length := by
      by_cases hs : star q k = true
      · rw [if_pos hs] at hB
        rw [hB]
        have := star_lt hs
        exact meet_in p q f _ _ _ hi (by omega) hA2
      · rw [if_neg hs] at hB
        rw [hB]; exact hA2
    simp only [← hB]
    split
    · exact hB2
    split
    · rename_i hc; exact meet_in p q f _ _ _ hi (by omega) hB2
    split
    · rename_i hc; exact meet_in p q f _ _ _ (by omega) hk hB2
    split
    · rename_i hc; exact meet_in p q f _ _ _ (by omega) (by omega) hB2
    exact hB2
/-- what the search leaves -/
def MeetP (p q : List UInt8) (f i k M : Nat) (S : List (Nat × Nat)) (w : World) (e : Ending) (w' : World) : Prop :=
  e = .returned (.bool (meetF p q f i k S).1) ∧ Seen w' M (meetF p q f i k S).2 ∧ Fr (· = M) w w'
set_option maxRecDepth 100000 in
set_option maxHeartbeats 1000000 in
theorem meet_seen (p q : ByteArray) (X M i k : Nat) (S : List (Nat × Nat)) (w : World) (hi : i ≤ 100000) (hk : k ≤ 100000) (hX : Blk w X 57 #[.string p, .string q, .map (some M)]) (hM : Seen w M S) (hin : (i, k) ∈ S) :
    Calls Tryd.prog 53 #[.pointer (some ⟨X, 0, none⟩), .int .i64 (i : Int), .int .i64 (k : Int)] w fun e w' => e = .returned (.bool false) ∧ ∃ n, w' = (w.alloc (.cells #[.int .i64 (i : Int), .int .i64 (k : Int)] 67)).drewN n := by
  have hX1 := hX.alloc (.cells #[.int .i64 (i : Int), .int .i64 (k : Int)] 67)
  have hXc := hX1.cell 2
  have hat := (Blk.new w 67 #[.int .i64 (i : Int), .int .i64 (k : Int)])
  have hat0 := hat.cell 0
  have hat1 := hat.cell 1
  have hlk2 : ∀ n, (Instr.lookup 55 (.map (some M)) (.agg #[.int .i64 (i : Int), .int .i64 (k : Int)]) false).run Tryd.prog ((w.alloc (.cells #[.int .i64 (i : Int), .int .i64 (k : Int)] 67)).drewN n) = .ok (.bool true) ((w.alloc (.cells #[.int .i64 (i : Int), .int .i64 (k : Int)] 67)).drewN n) := fun n => by
    rw [(hM.alloc (.cells #[.int .i64 (i : Int), .int .i64 (k : Int)] 67) |>.drewN n).look (i := i) (k := k) (by omega) (by omega), decide_eq_true hin]
  clear hin hat hX hX1
  go_enter Tryd.func53, Tryd.ntmps53
  go_wp2
  go_quiet (fail)
  go_wp2
  go_ret
  exact ⟨rfl, _, rfl⟩
set_option maxRecDepth 100000 in
set_option maxHeartbeats 8000000 in
theorem meet_any (p q : ByteArray) (X M : Nat) (hp : p.size ≤ 1000) (hq : q.size ≤ 1000) : ∀ (f i k : Nat) (S : List (Nat × Nat)) (w : World), i ≤ p.size → k ≤ q.size → (p.size - i) + (q.size - k) < f → (∀ x ∈ S, x.1 ≤ p.size ∧ x.2 ≤ q.size) →
    Blk w X 57 #[.string p, .string q, .map (some M)] → Seen w M S →
    Calls Tryd.prog 53 #[.pointer (some ⟨X, 0, none⟩), .int .i64 (i : Int), .int .i64 (k : Int)] w (MeetP p.data.toList q.data.toList f i k M S w) := by
  intro f
  induction f with
  | zero => intro i k S w _ _ h; omega
  | succ f ih =>
    intro i k S w hi hk hf hS hX hM
    have hpl : p.data.toList.length = p.size := by cases p; simp [ByteArray.size]
    have hql : q.data.toList.length = q.size := by cases q; simp [ByteArray.size]
    by_cases hin : (i, k) ∈ S
    · refine (meet_seen p q X M i k S w (by omega) (by omega) hX hM hin).mono ?_
      rintro e w' ⟨rfl, n, rfl⟩
      have e1 : meetF p.data.toList q.data.toList (f + 1) i k S = (false, S) := by unfold meetF; rw [if_pos hin]
      refine ⟨by rw [e1], by rw [e1]; exact hM.alloc _, ((Fr.refl _ _).alloc _).drewN _⟩
    · have HIH := Lib.hid ih
      clear ih
      have hNe : X ≠ M := hM.not_blk hX
      have hSl : S.length < maxLen := by
        have := grid_le hM.1 hS
        have h2 : (p.size + 1) * (q.size + 1) ≤ 1001 * 1001 := Nat.mul_le_mul (by omega) (by omega)
        simp only [maxLen]; omega
      have hF1 : Fr (· = M) w (w.alloc (.cells #[.int .i64 (i : Int), .int .i64 (k : Int)] 67)) := (Fr.refl _ _).alloc _
      have hX1 := hX.alloc (.cells #[.int .i64 (i : Int), .int .i64 (k : Int)] 67)
      have hM1 := hM.alloc (.cells #[.int .i64 (i : Int), .int .i64 (k : Int)] 67)
      have hat := (Blk.new w 67 #[.int .i64 (i : Int), .int .i64 (k : Int)])
      have hatM : w.heap.size ≠ M := hM1.not_blk hat
      have hXc := hX1.cell 2
      have hat0 := hat.cell 0
      have hat1 := hat.cell 1
      have hlk2 : ∀ n, (Instr.lookup 55 (.map (some M)) (.agg #[.int .i64 (i : Int), .int .i64 (k : Int)]) false).run Tryd.prog ((w.alloc (.cells #[.int .i64 (i : Int), .int .i64 (k : Int)] 67)).drewN n) = .ok (.bool false) ((w.alloc (.cells #[.int .i64 (i : Int), .int .i64 (k : Int)] 67)).drewN n) := fun n => by
        rw [(hM1.drewN n).look (i := i) (k := k) (by omega) (by omega), decide_eq_false hin]
      have HIN := Lib.hid hin
      have HPL := Lib.hid hpl
      have HQL := Lib.hid hql
      clear hin hpl hql
      go_enter Tryd.func53, Tryd.ntmps53
      go_wp2
      go_quiet (fail)
      clear hlk2 hXc hat0 hat1
      have hF2 := hF1.drewN nq
      have hX2 := hX1.drewN nq
      have hM2 := hM1.drewN nq
      have hat2 := hat.drewN nq
      generalize (w.alloc (.cells #[.int .i64 (i : Int), .int .i64 (k : Int)] 67)).drewN nq = W1 at hF2 hX2 hM2 hat2 ⊢
      clear hF1 hX1 hM1 hat hX hM
      obtain ⟨W2, hup, hM3, hg3⟩ := (show Seen W1.drew M S from hM2).put (i := i) (k := k) (by omega) (by omega) hSl HIN.out
      have hXc := hX2.cell 2
      have hat0 := hat2.cell 0
      have hat1 := hat2.cell 1
      go_wp2
      go_still_tail 5, (by kernel_rfl)
      change wpList _ _ _ _ _ (World.drew _)
      -- WAYS
      go_wp2
      clear hXc hat0 hat1 hup hat2
      have hb1 : ∀ x ∈ (i, k) :: S, x.1 ≤ p.size ∧ x.2 ≤ q.size := fun x hx => by
        rcases List.mem_cons.1 hx with rfl | hx
        · exact ⟨hi, hk⟩
        · exact hS x hx
      have ci : ((i + 1 : Nat) : Int) = (i : Int) + 1 := by omega
      have ck : ((k + 1 : Nat) : Int) = (k : Int) + 1 := by omega
      have HCI := Lib.hid ci
      have HCK := Lib.hid ck
      have HHp := fun W => Tryd.strings_HasPrefix (p.extract i p.size) ⟨#[42]⟩ W
      have HHq := fun W => Tryd.strings_HasPrefix (q.extract k q.size) ⟨#[42]⟩ W
      have dp := drop_empty p i hi
      have dq := drop_empty q k hk
      rw [← Lib.toList_data (p.extract i p.size), dp, show (⟨#[42]⟩ : ByteArray).data.toList = [42] from rfl, has_star] at HHp
      rw [← Lib.toList_data (q.extract k q.size), dq, show (⟨#[42]⟩ : ByteArray).data.toList = [42] from rfl, has_star] at HHq
      have HE : Hid ((i = p.size ∧ k = q.size → meetF p.data.toList q.data.toList (f + 1) i k S = (true, (i, k) :: S))) := fun h => by
        unfold meetF; rw [if_neg HIN.out, if_pos ⟨by rw [HPL.out]; exact h.1, by rw [HQL.out]; exact h.2⟩]
      have ep0 : i < p.size → (p.extract i p.size).toList.isEmpty = false := fun h => by
        rw [dp, List.isEmpty_eq_false_iff]; intro e; have := congrArg List.length e; rw [List.length_drop, HPL.out, List.length_nil] at this; omega
      have ep1 : i = p.size → (p.extract i p.size).toList.isEmpty = true := fun h => by rw [dp, List.drop_eq_nil_of_le (by rw [HPL.out]; omega)]; rfl
      have eq0 : k < q.size → (q.extract k q.size).toList.isEmpty = false := fun h => by
        rw [dq, List.isEmpty_eq_false_iff]; intro e; have := congrArg List.length e; rw [List.length_drop, HQL.out, List.length_nil] at this; omega
      have eq1 : k = q.size → (q.extract k q.size).toList.isEmpty = true := fun h => by rw [dq, List.drop_eq_nil_of_le (by rw [HQL.out]; omega)]; rfl
      have sp0 : i = p.size → star p.data.toList i = false := fun h => by unfold star; rw [List.getElem?_eq_none (by rw [HPL.out]; omega)]; rfl
      have sq0 : k = q.size → star q.data.toList k = false := fun h => by unfold star; rw [List.getElem?_eq_none (by rw [HQL.out]; omega)]; rfl
      clear ci ck dp dq
      have hi' : (i : Int) ≤ (p.size : Int) := by omega
      have hk' : (k : Int) ≤ (q.size : Int) := by omega
      have hi0 : (0 : Int) ≤ (i : Int) := by omega
      have hk0 : (0 : Int) ≤ (k : Int) := by omega
      have EP0 := Lib.hid ep0
      have EP1 := Lib.hid ep1
      have EQ0 := Lib.hid eq0
      have EQ1 := Lib.hid eq1
      have SP0 := Lib.hid sp0
      have SQ0 := Lib.hid sq0
      have HHP := Lib.hid HHp
      have HHQ := Lib.hid HHq
      clear ep0 ep1 eq0 eq1 sp0 sq0 HHp HHq
      have hX3 := (hX2.drew).grown hg3 (by simpa using hNe)
      have hF3 : Fr (· = M) w W2 := (hF2.drew).grown hg3 (fun k hk _ => by injection hk with hk; exact hk.symm)
      have hXp := hX3.cell 0
      have hXq := hX3.cell 1
      go_quiet (fail)
      have hF3 := hF3.drewN nq
      have hX3 := hX3.drewN nq
      have hM3 := hM3.drewN nq
      clear hXp hXq
      generalize W2.drewN nq = W3 at hF3 hX3 hM3 ⊢
      clear hg3 hF2 hX2 hM2
      by_cases hfin : i = p.size ∧ k = q.size
      · have HZ := Lib.hid (HE.out hfin)
        have s1 := SP0.out hfin.1
        have s2 := SQ0.out hfin.2
        have e1 := EP1.out hfin.1
        have e2 := EQ1.out hfin.2
        rw [s1] at HHP
        rw [s2] at HHQ
        clear s1 s2 hfin
        go_wp2_with fail
        refine (HHP.out _).mono ?_
        rintro e w' ⟨rfl, rfl⟩
        go_wp2_with fail
        refine (HHQ.out _).mono ?_
        rintro e w' ⟨rfl, rfl⟩
        go_wp2
        go_ret
        exact ⟨by rw [HZ.out]; rfl, by rw [HZ.out]; exact hM3, hF3⟩
      · have HE : Hid (meetF p.data.toList q.data.toList (f + 1) i k S = (
          let A := if star p.data.toList i then meetF p.data.toList q.data.toList f (i + 1) k ((i, k) :: S) else (false, (i, k) :: S)
          if A.1 then A else
          let B := if star q.data.toList k then meetF p.data.toList q.data.toList f i (k + 1) A.2 else (false, A.2)
          if B.1 then B else
          if star p.data.toList i = true ∧ star q.data.toList k = false ∧ k < q.data.toList.length then meetF p.data.toList q.data.toList f i (k + 1) B.2
          else if star q.data.toList k = true ∧ star p.data.toList i = false ∧ i < p.data.toList.length then meetF p.data.toList q.data.toList f (i + 1) k B.2
          else if star p.data.toList i = false ∧ star q.data.toList k = false ∧ i < p.data.toList.length ∧ k < q.data.toList.length ∧ signL p.data.toList q.data.toList i k = true then meetF p.data.toList q.data.toList f (i + 1) (k + 1) B.2
          else (false, B.2))) := by
          show _ = _
          conv => lhs; unfold meetF
          rw [if_neg HIN.out, if_neg (by rw [HPL.out, HQL.out]; exact hfin)]
        have HF := Lib.hid hfin
        clear hfin
        have ci := HCI.out
        have ck := HCK.out
        have CI := Lib.hid ci
        have CK := Lib.hid ck
        cases hsp : star p.data.toList i with
        | true =>
          have hlt : i < p.size := by have := star_lt hsp; rwa [HPL.out] at this
          rw [hsp] at HHP
          have HSP := Lib.hid hsp
          clear hsp
          have HA := HIH.out (i + 1) (k) ((i, k) :: S) _ (by omega) (by omega) (by omega) hb1 hX3 hM3
          have hbdA := meet_in p.data.toList q.data.toList f (i + 1) (k) ((i, k) :: S) (by rw [HPL.out]; omega) (by rw [HQL.out]; omega) (by rw [HPL.out, HQL.out]; exact hb1)
          rw [HPL.out, HQL.out] at hbdA
          unfold MeetP at HA
          obtain ⟨⟨xA, SA⟩, heA⟩ : ∃ A, A = meetF p.data.toList q.data.toList f (i + 1) (k) ((i, k) :: S) := ⟨_, rfl⟩
          rw [← heA] at HA hbdA
          rw [ci] at HA
          have heA' := Lib.hid heA.symm
          have HA' := Lib.hid HA
          clear heA HA
          cases hsq : star q.data.toList k with
          | true =>
            have hkt : k < q.size := by have := star_lt hsq; rwa [HQL.out] at this
            rw [hsq] at HHQ
            have HSQ := Lib.hid hsq
            clear hsq
            have e1 := EP0.out hlt
            have e2 := EQ0.out hkt
            clear ci ck
            go_wp2_with fail
            refine (HHP.out _).mono ?_
            rintro e w' ⟨rfl, rfl⟩
            go_wp2_with fail
            refine (HHQ.out _).mono ?_
            rintro e w' ⟨rfl, rfl⟩
            cases xA with
            | true =>
              go_wp2_with fail
              refine HA'.out.mono ?_
              rintro e w4 ⟨rfl, hM4, hF4⟩
              have hX4 := hX3.fr hF4 hNe
              have hF4 := hF3.trans hF4
              have HZ : Hid (meetF p.data.toList q.data.toList (f + 1) i k S = (true, SA)) := by
                show _ = _
                rw [HE.out]
                simp [HSP.out, heA'.out]
              go_wp2
              go_ret
              exact ⟨by rw [HZ.out]; rfl, by rw [HZ.out]; exact hM4, hF4⟩
            | false =>
              go_wp2_with fail
              refine HA'.out.mono ?_
              rintro e w4 ⟨rfl, hM4, hF4⟩
              have hX4 := hX3.fr hF4 hNe
              have hF4 := hF3.trans hF4
              have hbA := hbdA
              have ck := CK.out
              have HB := HIH.out (i) (k + 1) SA _ (by omega) (by omega) (by omega) hbA hX4 hM4
              have hbdB := meet_in p.data.toList q.data.toList f (i) (k + 1) SA (by rw [HPL.out]; omega) (by rw [HQL.out]; omega) (by rw [HPL.out, HQL.out]; exact hbA)
              rw [HPL.out, HQL.out] at hbdB
              unfold MeetP at HB
              obtain ⟨⟨xB, SB⟩, heB⟩ : ∃ A, A = meetF p.data.toList q.data.toList f (i) (k + 1) SA := ⟨_, rfl⟩
              rw [← heB] at HB hbdB
              rw [ck] at HB
              have heB' := Lib.hid heB.symm
              have HB' := Lib.hid HB
              clear heB HB
              clear ck
              cases xB with
              | true =>
                go_wp2_with fail
                refine HB'.out.mono ?_
                rintro e w5 ⟨rfl, hM5, hF5⟩
                have hX5 := hX4.fr hF5 hNe
                have hF5 := hF4.trans hF5
                have HZ : Hid (meetF p.data.toList q.data.toList (f + 1) i k S = (true, SB)) := by
                  show _ = _
                  rw [HE.out]
                  simp [HSP.out, HSQ.out, heA'.out, heB'.out]
                go_wp2
                go_ret
                exact ⟨by rw [HZ.out]; rfl, by rw [HZ.out]; exact hM5, hF5⟩
              | false =>
                go_wp2_with fail
                refine HB'.out.mono ?_
                rintro e w5 ⟨rfl, hM5, hF5⟩
                have hX5 := hX4.fr hF5 hNe
                have hF5 := hF4.trans hF5
                have HZ : Hid (meetF p.data.toList q.data.toList (f + 1) i k S = (false, SB)) := by
                  show _ = _
                  rw [HE.out]
                  simp [HSP.out, HSQ.out, heA'.out, heB'.out]
                go_wp2
                go_ret
                exact ⟨by rw [HZ.out]; rfl, by rw [HZ.out]; exact hM5, hF5⟩
          | false =>
            rw [hsq] at HHQ
            have HSQ := Lib.hid hsq
            clear hsq
            rcases (by omega : k < q.size ∨ k = q.size) with hkt | hke
            · have e1 := EP0.out hlt
              have e2 := EQ0.out hkt
              clear ci ck
              go_wp2_with fail
              refine (HHP.out _).mono ?_
              rintro e w' ⟨rfl, rfl⟩
              go_wp2_with fail
              refine (HHQ.out _).mono ?_
              rintro e w' ⟨rfl, rfl⟩
              cases xA with
              | true =>
                go_wp2_with fail
                refine HA'.out.mono ?_
                rintro e w4 ⟨rfl, hM4, hF4⟩
                have hX4 := hX3.fr hF4 hNe
                have hF4 := hF3.trans hF4
                have HZ : Hid (meetF p.data.toList q.data.toList (f + 1) i k S = (true, SA)) := by
                  show _ = _
                  rw [HE.out]
                  simp [HSP.out, heA'.out]
                go_wp2
                go_ret
                exact ⟨by rw [HZ.out]; rfl, by rw [HZ.out]; exact hM4, hF4⟩
              | false =>
                go_wp2_with fail
                refine HA'.out.mono ?_
                rintro e w4 ⟨rfl, hM4, hF4⟩
                have hX4 := hX3.fr hF4 hNe
                have hF4 := hF3.trans hF4
                have hbA := hbdA
                have ck := CK.out
                have HC := HIH.out (i) (k + 1) SA _ (by omega) (by omega) (by omega) hbA hX4 hM4
                have hbdC := meet_in p.data.toList q.data.toList f (i) (k + 1) SA (by rw [HPL.out]; omega) (by rw [HQL.out]; omega) (by rw [HPL.out, HQL.out]; exact hbA)
                rw [HPL.out, HQL.out] at hbdC
                unfold MeetP at HC
                obtain ⟨⟨xC, SC⟩, heC⟩ : ∃ A, A = meetF p.data.toList q.data.toList f (i) (k + 1) SA := ⟨_, rfl⟩
                rw [← heC] at HC hbdC
                rw [ck] at HC
                have heC' := Lib.hid heC.symm
                have HC' := Lib.hid HC
                clear heC HC
                clear ck
                go_wp2_with fail
                refine HC'.out.mono ?_
                rintro e w5 ⟨rfl, hM5, hF5⟩
                have hX5 := hX4.fr hF5 hNe
                have hF5 := hF4.trans hF5
                have HZ : Hid (meetF p.data.toList q.data.toList (f + 1) i k S = (xC, SC)) := by
                  show _ = _
                  rw [HE.out]
                  simp [HSP.out, HSQ.out, heA'.out, heC'.out, HQL.out, hkt]
                go_wp2
                go_ret
                exact ⟨by rw [HZ.out]; rfl, by rw [HZ.out]; exact hM5, hF5⟩
            · have e1 := EP0.out hlt
              have e2 := EQ1.out hke
              have HKE := Lib.hid (show ¬ k < q.size from by omega)
              clear hke
              clear ci ck
              go_wp2_with fail
              refine (HHP.out _).mono ?_
              rintro e w' ⟨rfl, rfl⟩
              go_wp2_with fail
              refine (HHQ.out _).mono ?_
              rintro e w' ⟨rfl, rfl⟩
              cases xA with
              | true =>
                go_wp2_with fail
                refine HA'.out.mono ?_
                rintro e w4 ⟨rfl, hM4, hF4⟩
                have hX4 := hX3.fr hF4 hNe
                have hF4 := hF3.trans hF4
                have HZ : Hid (meetF p.data.toList q.data.toList (f + 1) i k S = (true, SA)) := by
                  show _ = _
                  rw [HE.out]
                  simp [HSP.out, heA'.out]
                go_wp2
                go_ret
                exact ⟨by rw [HZ.out]; rfl, by rw [HZ.out]; exact hM4, hF4⟩
              | false =>
                go_wp2_with fail
                refine HA'.out.mono ?_
                rintro e w4 ⟨rfl, hM4, hF4⟩
                have hX4 := hX3.fr hF4 hNe
                have hF4 := hF3.trans hF4
                have HZ : Hid (meetF p.data.toList q.data.toList (f + 1) i k S = (false, SA)) := by
                  show _ = _
                  rw [HE.out]
                  simp [HSP.out, HSQ.out, heA'.out, HQL.out, HKE.out]
                go_wp2
                go_ret
                exact ⟨by rw [HZ.out]; rfl, by rw [HZ.out]; exact hM4, hF4⟩
        | false =>
          rw [hsp] at HHP
          have HSP := Lib.hid hsp
          clear hsp
          cases hsq : star q.data.toList k with
          | true =>
            have hkt : k < q.size := by have := star_lt hsq; rwa [HQL.out] at this
            rw [hsq] at HHQ
            have HSQ := Lib.hid hsq
            clear hsq
            have HB := HIH.out (i) (k + 1) ((i, k) :: S) _ (by omega) (by omega) (by omega) hb1 hX3 hM3
            have hbdB := meet_in p.data.toList q.data.toList f (i) (k + 1) ((i, k) :: S) (by rw [HPL.out]; omega) (by rw [HQL.out]; omega) (by rw [HPL.out, HQL.out]; exact hb1)
            rw [HPL.out, HQL.out] at hbdB
            unfold MeetP at HB
            obtain ⟨⟨xB, SB⟩, heB⟩ : ∃ A, A = meetF p.data.toList q.data.toList f (i) (k + 1) ((i, k) :: S) := ⟨_, rfl⟩
            rw [← heB] at HB hbdB
            rw [ck] at HB
            have heB' := Lib.hid heB.symm
            have HB' := Lib.hid HB
            clear heB HB
            rcases (by omega : i < p.size ∨ i = p.size) with hlt | hie
            · have e1 := EP0.out hlt
              have e2 := EQ0.out hkt
              clear ci ck
              go_wp2_with fail
              refine (HHP.out _).mono ?_
              rintro e w' ⟨rfl, rfl⟩
              go_wp2_with fail
              refine (HHQ.out _).mono ?_
              rintro e w' ⟨rfl, rfl⟩
              cases xB with
              | true =>
                go_wp2_with fail
                refine HB'.out.mono ?_
                rintro e w4 ⟨rfl, hM4, hF4⟩
                have hX4 := hX3.fr hF4 hNe
                have hF4 := hF3.trans hF4
                have HZ : Hid (meetF p.data.toList q.data.toList (f + 1) i k S = (true, SB)) := by
                  show _ = _
                  rw [HE.out]
                  simp [HSP.out, HSQ.out, heB'.out]
                go_wp2
                go_ret
                exact ⟨by rw [HZ.out]; rfl, by rw [HZ.out]; exact hM4, hF4⟩
              | false =>
                go_wp2_with fail
                refine HB'.out.mono ?_
                rintro e w4 ⟨rfl, hM4, hF4⟩
                have hX4 := hX3.fr hF4 hNe
                have hF4 := hF3.trans hF4
                have hbB := hbdB
                have ci := CI.out
                have HD := HIH.out (i + 1) (k) SB _ (by omega) (by omega) (by omega) hbB hX4 hM4
                have hbdD := meet_in p.data.toList q.data.toList f (i + 1) (k) SB (by rw [HPL.out]; omega) (by rw [HQL.out]; omega) (by rw [HPL.out, HQL.out]; exact hbB)
                rw [HPL.out, HQL.out] at hbdD
                unfold MeetP at HD
                obtain ⟨⟨xD, SD⟩, heD⟩ : ∃ A, A = meetF p.data.toList q.data.toList f (i + 1) (k) SB := ⟨_, rfl⟩
                rw [← heD] at HD hbdD
                rw [ci] at HD
                have heD' := Lib.hid heD.symm
                have HD' := Lib.hid HD
                clear heD HD
                clear ci
                go_wp2_with fail
                refine HD'.out.mono ?_
                rintro e w5 ⟨rfl, hM5, hF5⟩
                have hX5 := hX4.fr hF5 hNe
                have hF5 := hF4.trans hF5
                have HZ : Hid (meetF p.data.toList q.data.toList (f + 1) i k S = (xD, SD)) := by
                  show _ = _
                  rw [HE.out]
                  simp [HSP.out, HSQ.out, heB'.out, heD'.out, HPL.out, hlt]
                go_wp2
                go_ret
                exact ⟨by rw [HZ.out]; rfl, by rw [HZ.out]; exact hM5, hF5⟩
            · have e1 := EP1.out hie
              have e2 := EQ0.out hkt
              have HIE := Lib.hid (show ¬ i < p.size from by omega)
              clear hie
              clear ci ck
              go_wp2_with fail
              refine (HHP.out _).mono ?_
              rintro e w' ⟨rfl, rfl⟩
              go_wp2_with fail
              refine (HHQ.out _).mono ?_
              rintro e w' ⟨rfl, rfl⟩
              cases xB with
              | true =>
                go_wp2_with fail
                refine HB'.out.mono ?_
                rintro e w4 ⟨rfl, hM4, hF4⟩
                have hX4 := hX3.fr hF4 hNe
                have hF4 := hF3.trans hF4
                have HZ : Hid (meetF p.data.toList q.data.toList (f + 1) i k S = (true, SB)) := by
                  show _ = _
                  rw [HE.out]
                  simp [HSP.out, HSQ.out, heB'.out]
                go_wp2
                go_ret
                exact ⟨by rw [HZ.out]; rfl, by rw [HZ.out]; exact hM4, hF4⟩
              | false =>
                go_wp2_with fail
                refine HB'.out.mono ?_
                rintro e w4 ⟨rfl, hM4, hF4⟩
                have hX4 := hX3.fr hF4 hNe
                have hF4 := hF3.trans hF4
                have HZ : Hid (meetF p.data.toList q.data.toList (f + 1) i k S = (false, SB)) := by
                  show _ = _
                  rw [HE.out]
                  simp [HSP.out, HSQ.out, heB'.out, HPL.out, HIE.out]
                go_wp2
                go_ret
                exact ⟨by rw [HZ.out]; rfl, by rw [HZ.out]; exact hM4, hF4⟩
          | false =>
            rw [hsq] at HHQ
            have HSQ := Lib.hid hsq
            clear hsq
            rcases (by have := HF.out; omega : (i = p.size ∧ k < q.size) ∨ (i < p.size ∧ k = q.size) ∨ (i < p.size ∧ k < q.size)) with ⟨hie, hkt⟩ | ⟨hlt, hke⟩ | ⟨hlt, hkt⟩
            · have e1 := EP1.out hie
              have e2 := EQ0.out hkt
              have HIE := Lib.hid (show ¬ i < p.size from by omega)
              clear hie
              clear ci ck
              go_wp2_with fail
              refine (HHP.out _).mono ?_
              rintro e w' ⟨rfl, rfl⟩
              go_wp2_with fail
              refine (HHQ.out _).mono ?_
              rintro e w' ⟨rfl, rfl⟩
              have HZ : Hid (meetF p.data.toList q.data.toList (f + 1) i k S = (false, (i, k) :: S)) := by
                show _ = _
                rw [HE.out]
                simp [HSP.out, HSQ.out, HPL.out, HIE.out]
              go_wp2
              go_ret
              exact ⟨by rw [HZ.out]; rfl, by rw [HZ.out]; exact hM3, hF3⟩
            · have e1 := EP0.out hlt
              have e2 := EQ1.out hke
              have HKE := Lib.hid (show ¬ k < q.size from by omega)
              clear hke
              clear ci ck
              go_wp2_with fail
              refine (HHP.out _).mono ?_
              rintro e w' ⟨rfl, rfl⟩
              go_wp2_with fail
              refine (HHQ.out _).mono ?_
              rintro e w' ⟨rfl, rfl⟩
              have HZ : Hid (meetF p.data.toList q.data.toList (f + 1) i k S = (false, (i, k) :: S)) := by
                show _ = _
                rw [HE.out]
                simp [HSP.out, HSQ.out, HQL.out, HKE.out]
              go_wp2
              go_ret
              exact ⟨by rw [HZ.out]; rfl, by rw [HZ.out]; exact hM3, hF3⟩
            · obtain ⟨a, ha⟩ : ∃ a, a = p[i] := ⟨_, rfl⟩
              obtain ⟨b, hb⟩ : ∃ b, b = q[k] := ⟨_, rfl⟩
              have hsg : signL p.data.toList q.data.toList i k = signB a b := by rw [ha, hb]; exact sign_L _ _ _ _ (by rw [HPL.out]; exact hlt) (by rw [HQL.out]; exact hkt)
              have hpz : (p.extract i p.size).size = p.size - i := by rw [ByteArray.size_extract]; omega
              have hqz : (q.extract k q.size).size = q.size - k := by rw [ByteArray.size_extract]; omega
              have hpa : ∀ h, (p.extract i p.size)[0]'h = a := fun h => by rw [ha, ByteArray.getElem_extract]; simp
              have hqb : ∀ h, (q.extract k q.size)[0]'h = b := fun h => by rw [hb, ByteArray.getElem_extract]; simp
              have hpz1 : 0 < (p.extract i p.size).size := by omega
              have hqz1 : 0 < (q.extract k q.size).size := by omega
              have hpz2 : (0 : Int) < ((p.extract i p.size).size : Int) := by omega
              have hqz2 : (0 : Int) < ((q.extract k q.size).size : Int) := by omega
              have hpz3 : 0 < p.size - i := by omega
              have hqz3 : 0 < q.size - k := by omega
              have hpa := hpa hpz1
              have hqb := hqb hqz1
              clear hpz hqz ha hb
              have HSG := Lib.hid hsg
              clear hsg
              have e1 := EP0.out hlt
              have e2 := EQ0.out hkt
              clear ci ck
              go_wp2_with fail
              refine (HHP.out _).mono ?_
              rintro e w' ⟨rfl, rfl⟩
              go_wp2_with fail
              refine (HHQ.out _).mono ?_
              rintro e w' ⟨rfl, rfl⟩
              have HSI := sign_any a b
              cases hsb : signB a b with
              | false =>
                rw [hsb] at HSI HSG
                have HSI := Lib.hid HSI
                clear hsb
                go_wp2
                go_quiet ((go_at_call 64; exact Calls.quiet_of_same (HSI.out _)))
                have HZ : Hid (meetF p.data.toList q.data.toList (f + 1) i k S = (false, (i, k) :: S)) := by
                  show _ = _
                  rw [HE.out]
                  simp [HSP.out, HSQ.out, HPL.out, HQL.out, hlt, hkt, HSG.out]
                have hM4 := hM3.drewN nq
                have hF4 := hF3.drewN nq
                go_wp2
                go_ret
                exact ⟨by rw [HZ.out]; rfl, by rw [HZ.out]; exact hM4, hF4⟩
              | true =>
                rw [hsb] at HSI HSG
                have HSI := Lib.hid HSI
                clear hsb
                go_wp2
                refine wp_region_still_tail 11 (by kernel_rfl) (by kernel_rfl) ?_
                simp only [List.take_succ_cons, List.take_zero, List.drop_succ_cons, List.drop_zero]
                change wpStill _ _ (World.drew _) _ _ _
                repeat still_step
                still_call ((HSI.out _).mono fun _ _ ⟨a, b⟩ => ⟨a, b⟩)
                repeat still_step
                refine wpStill_nil ?_
                change wpList _ _ _ _ _ (World.drew _)
                have hX4 := hX3.drew
                have hM4 := hM3.drewN 1
                have hF4 := hF3.drew
                have ci := CI.out
                have ck := CK.out
                have HG := HIH.out (i + 1) (k + 1) ((i, k) :: S) _ (by omega) (by omega) (by omega) hb1 hX4 hM4
                have hbdG := meet_in p.data.toList q.data.toList f (i + 1) (k + 1) ((i, k) :: S) (by rw [HPL.out]; omega) (by rw [HQL.out]; omega) (by rw [HPL.out, HQL.out]; exact hb1)
                rw [HPL.out, HQL.out] at hbdG
                unfold MeetP at HG
                obtain ⟨⟨xG, SG⟩, heG⟩ : ∃ A, A = meetF p.data.toList q.data.toList f (i + 1) (k + 1) ((i, k) :: S) := ⟨_, rfl⟩
                rw [← heG] at HG hbdG
                rw [ci] at HG
                rw [ck] at HG
                have heG' := Lib.hid heG.symm
                have HG' := Lib.hid HG
                clear heG HG
                clear ci ck
                go_wp2_with fail
                refine HG'.out.mono ?_
                rintro e w5 ⟨rfl, hM5, hF5⟩
                have hX5 := hX4.fr hF5 hNe
                have hF5 := hF4.trans hF5
                have HZ : Hid (meetF p.data.toList q.data.toList (f + 1) i k S = (xG, SG)) := by
                  show _ = _
                  rw [HE.out]
                  simp [HSP.out, HSQ.out, HPL.out, HQL.out, hlt, hkt, HSG.out, heG'.out]
                go_wp2
                go_ret
                exact ⟨by rw [HZ.out]; rfl, by rw [HZ.out]; exact hM5, hF5⟩
end Go.Proofs.YtodkjhbnodcbhaaDoor
