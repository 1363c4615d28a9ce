/-
  container/heap: Fix, Push, Remove over a row.
-/
import Derived.Test.YtdhilhjiccpkkaaDueW8
namespace Go.Proofs.Ytdhilhjiccpkkaa
open Go.RowKit
attribute [local go_sem ↓] Go.wp_at_zero Go.wp_at_succ
set_option linter.unusedVariables false

def FixPost (w : World) (base r M : Nat) (v : Value) (l : List Du) (e : Ending) (w' : World) : Prop :=
  ∃ l', e = .returned (.tuple #[]) ∧ l'.Perm l ∧ IsHeap ltD (gd l') l.length ∧ HR w' base r M v l' ∧ Fr (RS r M v) w w'
set_option maxRecDepth 100000 in
set_option maxHeartbeats 4000000 in
theorem hfix_any {w : World} {base r M : Nat} {v : Value} {l : List Du} (h : HR w base r M v l) {i : Nat} (hh : Hole ltD (gd l) l.length i) (hi : i < l.length) :
    Calls Try.prog 30 #[.iface 52 (.pointer (some ⟨r, 0, none⟩)), .int .i64 (i : Int)] w fun e w' => FixPost w base r M v l e w' := by
  have HL := Lib.hid (row_len h)
  have HD := Lib.hid (down_any h hh hi (Nat.le_refl _))
  have HI := Lib.hid hi
  have ml := fun w => meth_len ⟨r, 0, none⟩ w
  obtain ⟨N, hN⟩ : ∃ N, N = l.length := ⟨_, rfl⟩
  rw [← hN] at HL HD hi
  have HN := Lib.hid hN
  clear h hh hN
  go_enter Try.func30, Try.ntmps30
  go_wp2_with (go_at_call 26; refine HL.out.mono ?_; rintro e w ⟨rfl, rfl⟩)
  refine HD.out.mono ?_
  rintro e w1 ⟨l', b, rfl, h1, h2, h3, h4, h5, h6⟩
  have H1 := Lib.hid h1
  have H3 := Lib.hid h3
  have H4 := Lib.hid h4
  cases b with
  | true =>
    have H5 := Lib.hid (h5 rfl)
    clear h1 h2 h3 h4 h5 h6
    go_wp2_with fail
    go_end0
    exact ⟨l', rfl, H1.out, by rw [← HN.out]; exact H5.out, H3.out, H4.out⟩
  | false =>
    obtain ⟨e1, e2⟩ := h6 rfl
    have HU := Lib.hid (up_any h3 (n := N) (j := i) (by rw [e1]; exact e2) (by rw [h1.length_eq]; exact HI.out))
    clear h1 h2 h3 h4 h5 h6 e1 e2
    go_wp2_with fail
    refine HU.out.mono ?_
    rintro e w2 ⟨l2, rfl, k1, k2, k3, k4, k5⟩
    have K := Lib.hid (k1.trans H1.out)
    have K2 := Lib.hid k2
    have K4 := Lib.hid k4
    have K5 := Lib.hid (H4.out.trans k5)
    clear k1 k2 k3 k4 k5
    go_wp2_with fail
    go_end0
    exact ⟨l2, rfl, K.out, by rw [← HN.out]; exact K2.out, K4.out, K5.out⟩
def HPushPost (w : World) (base r M : Nat) (v : Value) (l : List Du) (d : Du) (e : Ending) (w' : World) : Prop :=
  ∃ l' v', e = .returned (.tuple #[]) ∧ l'.Perm (l ++ [d]) ∧ IsHeap ltD (gd l') l'.length ∧ HR w' base r M v' l' ∧ Fr (RS r M v) w w' ∧ ∀ g, v'.ownBlock = some g → v.ownBlock = some g ∨ w.heap.size ≤ g
set_option maxRecDepth 100000 in
set_option maxHeartbeats 4000000 in
theorem hpush_any {w : World} {base r M : Nat} {v : Value} {l : List Du} (h : HR w base r M v l) (hh : IsHeap ltD (gd l) l.length) (d : Du) (hd : d.1 ∉ Nm l) (hok : OkDu d) (hlt : l.length < 256) :
    Calls Try.prog 31 #[.iface 52 (.pointer (some ⟨r, 0, none⟩)), .iface 44 (.agg #[.string d.1, .int .i64 d.2])] w fun e w' => HPushPost w base r M v l d e w' := by
  have HP := Lib.hid (row_push h d hd hok hlt)
  have HH := Lib.hid hh
  have ml := fun w => meth_len ⟨r, 0, none⟩ w
  have mp := fun w => meth_push ⟨r, 0, none⟩ w
  obtain ⟨N, hN⟩ : ∃ N, N = l.length := ⟨_, rfl⟩
  have HN := Lib.hid hN
  rw [← hN] at hlt
  obtain ⟨a, b⟩ := d
  clear h hh hd hok hN
  go_enter Try.func31, Try.ntmps31
  go_wp2_with fail
  refine HP.out.mono ?_
  rintro e w1 ⟨v', rfl, h1, h2, h3⟩
  have hlen : (l ++ [((a, b) : Du)]).length = N + 1 := by rw [List.length_append, HN.out]; rfl
  have HL := Lib.hid (row_len h1)
  have HU := Lib.hid (up_any h1 (n := N + 1) (j := N) (by rw [HN.out]; exact up_push HH.out (fun k hk => gd_append hk)) (by rw [hlen]; omega))
  rw [hlen] at HL
  have H1 := Lib.hid h1
  have H2 := Lib.hid h2
  have H3 := Lib.hid h3
  have HLN := Lib.hid hlen
  have HE : Hid (((N + 1 : Nat) : Int) - 1 = (N : Int)) := Lib.hid (by omega)
  clear h1 h2 h3 hlen
  go_wp2_with (go_at_call 26; refine HL.out.mono ?_; rintro e w1 ⟨rfl, rfl⟩)
  refine HU.out.mono ?_
  rintro e w2 ⟨l2, rfl, k1, k2, k3, k4, k5⟩
  have K1 := Lib.hid k1
  have K2 := Lib.hid k2
  have K4 := Lib.hid k4
  have K5 : Hid (Fr (RS r M v) w w2) := Lib.hid (H2.out.trans_new k5 (fun j hj e => by
    rcases e with e | e | e
    · exact .inl e
    · exact .inr (.inl e)
    · rcases H3.out j e with h | h
      · exact .inr (.inr h)
      · omega))
  clear k1 k2 k3 k4 k5
  go_wp2_with fail
  go_end0
  exact ⟨l2, v', rfl, K1.out, by rw [K1.out.length_eq, HLN.out]; exact K2.out, K4.out, K5.out, H3.out⟩
theorem drop_last {l : List Du} {n : Nat} (h : l.length = n + 1) : l = l.dropLast ++ [gd l n] := by
  have hne : l ≠ [] := by intro e; subst e; simp at h
  conv => lhs; rw [← List.dropLast_concat_getLast hne]
  rw [List.getLast_eq_getElem]
  congr 2
  rw [gd_at (by omega)]
  congr 1
  omega
theorem erase_perm {l : List Du} {i : Nat} (hi : i < l.length) : (gd l i :: l.eraseIdx i).Perm l := by
  rw [gd_at hi]
  induction l generalizing i with
  | nil => simp at hi
  | cons a l ih =>
    cases i with
    | zero => exact List.Perm.refl _
    | succ i =>
      have := ih (i := i) (by simpa using hi)
      simp only [List.getElem_cons_succ, List.eraseIdx_cons_succ]
      exact (List.Perm.swap _ _ _).trans (this.cons a)
theorem perm_erase {l m : List Du} {i : Nat} (hi : i < l.length) (h : (m ++ [gd l i]).Perm l) : m.Perm (l.eraseIdx i) := by
  have h1 : (gd l i :: m).Perm (gd l i :: l.eraseIdx i) := (List.perm_append_singleton _ _).symm.trans (h.trans (erase_perm hi).symm)
  exact h1.cons_inv
def RemPost (w : World) (base r M : Nat) (v : Value) (l : List Du) (i n : Nat) (e : Ending) (w' : World) : Prop :=
  ∃ l' v' x, e = .returned x ∧ l'.Perm (l.eraseIdx i) ∧ IsHeap ltD (gd l') n ∧ l'.length = n ∧ HR w' base r M v' l' ∧ Fr (RS r M v) w w' ∧ v'.ownBlock = v.ownBlock
/-- what is left to do behind the moves: the last place holds what goes -/
theorem pop_done {w w1 : World} {base r M : Nat} {v : Value} {l l1 : List Du} {i n : Nat} (hi : i < l.length) (h1 : l1.Perm l) (hn : l1.length = n + 1) (hh : IsHeap ltD (gd l1) n) (hl : gd l1 n = gd l i) (hr : HR w1 base r M v l1) (hf : Fr (RS r M v) w w1) :
    Calls Try.prog 81 #[.pointer (some ⟨r, 0, none⟩)] w1 fun e w' => RemPost w base r M v l i n e w' := by
  have e := drop_last hn
  have hlen : l1.dropLast.length = n := by rw [List.length_dropLast]; omega
  rw [e] at hr
  refine (row_pop hr).mono ?_
  rintro e1 w2 ⟨v', rfl, k1, k2, k3⟩
  refine ⟨l1.dropLast, v', _, rfl, ?_, ?_, hlen, k1, hf.trans k2, k3⟩
  · refine perm_erase hi ?_
    rw [← hl, ← e]
    exact h1
  · refine heap_congr hh (fun k hk => ?_)
    conv => rhs; rw [e]
    rw [gd_append (by omega)]
set_option maxRecDepth 100000 in
set_option maxHeartbeats 4000000 in
theorem hremove_any {w : World} {base r M : Nat} {v : Value} {l : List Du} (h : HR w base r M v l) {i n : Nat} (hh : IsHeap ltD (gd l) l.length) (hn : l.length = n + 1) (hi : i < n + 1) :
    Calls Try.prog 32 #[.iface 52 (.pointer (some ⟨r, 0, none⟩)), .int .i64 (i : Int)] w fun e w' => RemPost w base r M v l i n e w' := by
  have HL := Lib.hid (row_len h)
  rw [hn] at HL
  have HE : Hid (((n + 1 : Nat) : Int) - 1 = (n : Int)) := Lib.hid (by omega)
  have hfew := h.few
  have hin : i < l.length := by omega
  rw [hn] at hfew
  have HIN := Lib.hid hin
  have HLN := Lib.hid hn
  have HHP := Lib.hid hh
  have HR0 := Lib.hid h
  have ml := fun w => meth_len ⟨r, 0, none⟩ w
  have mp := fun w => meth_pop ⟨r, 0, none⟩ w
  have ms := fun w => meth_swap ⟨r, 0, none⟩ w
  clear h hn hh hin
  rcases (by omega : i = n ∨ i < n) with he | hlt
  · subst he
    have d1 : ((i : Int) != (i : Int)) = false := by simp
    have d2 : (i != i) = false := by simp
    have HP := Lib.hid (pop_done (w := w) HIN.out (List.Perm.refl l) HLN.out (heap_le HHP.out (by rw [HLN.out]; omega)) rfl HR0.out (Fr.refl _ _))
    go_enter Try.func32, Try.ntmps32
    go_wp2_with (go_at_call 26; refine HL.out.mono ?_; rintro e w ⟨rfl, rfl⟩)
    refine HP.out.mono ?_
    rintro e w2 ⟨l2, v2, x, rfl, k⟩
    have K := Lib.hid k
    clear k
    go_wp2_with fail
    go_ret
    exact ⟨l2, v2, x, rfl, K.out⟩
  · have d1 : ((n : Int) != (i : Int)) = true := by rw [bne_iff_ne]; omega
    have d2 : (n != i) = true := by rw [bne_iff_ne]; omega
    have HS := Lib.hid (row_swap HR0.out (i := i) (k := n) HIN.out (by rw [HLN.out]; omega) (by omega))
    go_enter Try.func32, Try.ntmps32
    go_wp2_with (go_at_call 26; refine HL.out.mono ?_; rintro e w ⟨rfl, rfl⟩)
    refine HS.out.mono ?_
    rintro e w1 ⟨rfl, s1, s2⟩
    have hnl : n < l.length := by rw [HLN.out]; omega
    have hhole : Hole ltD (gd (swL l i n)) n i := hole_of_heap ordD (heap_le HHP.out (by omega)) (fun k hk hki => by rw [swL_gd HIN.out hnl, sw_o _ hki (by omega)])
    have HD := Lib.hid (down_any s1 hhole hlt (by rw [swL_length]; omega))
    have HN : Hid (gd (swL l i n) n = gd l i) := Lib.hid (by rw [swL_gd HIN.out hnl, sw_r])
    have HSP : Hid ((swL l i n).Perm l) := Lib.hid (swL_perm HIN.out hnl)
    have HF1 := Lib.hid s2
    clear s1 s2 hnl hhole HS
    go_wp2_with fail
    refine HD.out.mono ?_
    rintro e w2 ⟨l', b, rfl, h1, h2, h3, h4, h5, h6⟩
    have H1 : Hid (l'.Perm l) := Lib.hid (h1.trans HSP.out)
    have H2 : Hid (gd l' n = gd l i) := Lib.hid ((h2 n (Nat.le_refl _)).trans HN.out)
    have H3 := Lib.hid h3
    have H4 : Hid (Fr (RS r M v) w w2) := Lib.hid (HF1.out.trans h4)
    have HLL : Hid (l'.length = n + 1) := Lib.hid (by rw [H1.out.length_eq]; exact HLN.out)
    cases b with
    | true =>
      have HP := Lib.hid (pop_done HIN.out H1.out HLL.out (h5 rfl) H2.out H3.out H4.out)
      clear h1 h2 h3 h4 h5 h6
      go_wp2_with fail
      refine HP.out.mono ?_
      rintro e w3 ⟨l2, v2, x, rfl, k⟩
      have K := Lib.hid k
      clear k
      go_wp2_with fail
      go_ret
      exact ⟨l2, v2, x, rfl, K.out⟩
    | false =>
      obtain ⟨e1, e2⟩ := h6 rfl
      have HU := Lib.hid (up_any h3 (n := n) (j := i) (by rw [e1]; exact e2) (by rw [HLL.out]; omega))
      clear h1 h2 h3 h4 h5 h6 e1 e2
      go_wp2_with fail
      refine HU.out.mono ?_
      rintro e w3 ⟨l2, rfl, k1, k2, k3, k4, k5⟩
      have HP := Lib.hid (pop_done HIN.out (k1.trans H1.out) (by rw [k1.length_eq]; exact HLL.out) k2 ((k3 n hlt).trans H2.out) k4 (H4.out.trans k5))
      clear k1 k2 k3 k4 k5
      go_wp2_with fail
      refine HP.out.mono ?_
      rintro e w4 ⟨l2, v2, x, rfl, k⟩
      have K := Lib.hid k
      clear k
      go_wp2_with fail
      go_ret
      exact ⟨l2, v2, x, rfl, K.out⟩
end Go.Proofs.Ytdhilhjiccpkkaa
