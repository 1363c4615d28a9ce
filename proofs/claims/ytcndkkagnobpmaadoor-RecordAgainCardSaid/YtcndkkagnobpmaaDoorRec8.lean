/-
  record: a commit while the power stays.
-/
import Derived.Test.YtcndkkagnobpmaaDoorRec7
namespace Go.Proofs.YtcndkkagnobpmaaDoor
open Go.RowKit
set_option linter.unusedVariables false

/-- a disk in memory that is on and stays on, with a record of half blocks a half from block first on -/
structure RecOn (w : World) (d s M first half N : Nat) (T : List UInt8) (K : Dk) : Prop where
  disk : DiskAt w d s M 0 K
  on : K.off = false
  left : K.left < 0
  full : Full K
  rec_ : RecOK K first half N T
  inn : first + 2 * half ≤ K.sure.length
  two : 2 ≤ half
theorem RecOn.fr {S : Nat → Prop} {w w' : World} {d s M first half N : Nat} {T : List UInt8} {K : Dk} (h : RecOn w d s M first half N T K) (hf : Fr S w w') (hS : ∀ k, DS d s M k → ¬ S k) (hN : ∀ g, S g → g < w.heap.size → NoBy w g) : RecOn w' d s M first half N T K :=
  ⟨h.disk.fr hf hS hN, h.on, h.left, h.full, h.rec_, h.inn, h.two⟩
theorem RecOn.below {w w' : World} {d s M first half N : Nat} {T : List UInt8} {K : Dk} (h : RecOn w d s M first half N T K) (hb : Below w.heap.size w w') : RecOn w' d s M first half N T K :=
  ⟨h.disk.below hb, h.on, h.left, h.full, h.rec_, h.inn, h.two⟩
/-- what is behind a commit that goes well -/
def OnPost (d s M r first half num : Nat) (T : List UInt8) (K : Dk) (w : World) (e : Ending) (w' : World) : Prop :=
  e = .returned (.int .i64 0) ∧ (∃ K', RecOn w' d s M first half (num + 1) T K' ∧ K'.sure.length = K.sure.length ∧ ∀ j, j < K.sure.length → (j < first ∨ first + 2 * half ≤ j) → K'.now j = K.now j) ∧
  RecAt w' r d first half (num + 1) T false ∧ Fr (fun k => DS d s M k ∨ k = r) w w'
theorem rcommit_on {d s M r first half num : Nat} {T0 : List UInt8} {K : Dk} (A : Option Addr) (n c : Nat) (T : List UInt8) (w : World) (h : RecOn w d s M first half num T0 K) (htab : TabK w) (hR : RecAt w r d first half num T0 false)
    (hT : RB w A T) (hTn : T.length = n) (hc : n ≤ c) (hcm : c ≤ 9223372036854775807) (hn : n ≤ 64 * (half - 1)) (hnum : num < 1152921504606846976) :
    Calls Tryd.prog 14 #[.pointer (some ⟨r, 0, none⟩), .slice A n c] w fun e w' => OnPost d s M r first half num T K w e w' := by
  obtain ⟨h1, h2, h3⟩ := commit_left K (first + (num + 1) % 2 * half) (num + 1) T h.left h.on
  have hok := commit_ok K first half num T0 T h.rec_ h.full h.inn h.two (by omega) (by omega) hnum h2
  have hfull := commit_full K (first + (num + 1) % 2 * half) (num + 1) T h2 h.full
  have hlen := commit_len K (first + (num + 1) % 2 * half) (num + 1) T
  refine (rcommit_any A n c T w h.disk htab hR h.on h.two h.inn hT hTn hc hcm hn hnum (by omega)).mono ?_
  rintro e w' ⟨rfl, ⟨n', hn', hD⟩, hRA, hf⟩
  rw [h2, if_neg (by simp)] at hRA
  have e0 := hn' h2
  subst e0
  refine ⟨by unfold offE; rw [h2]; rfl, ⟨_, ⟨hD, h2, by rw [h1]; exact h.left, hfull, hok, by rw [hlen]; exact h.inn, h.two⟩, hlen, fun j hj hout => ?_⟩, hRA, hf⟩
  have hch : chunksN T ≤ half - 1 := by unfold chunksN; omega
  have htwo := h.two
  rw [commit_now K _ _ T h2 hj]
  rcases (by omega : (num + 1) % 2 = 0 ∨ (num + 1) % 2 = 1) with e | e
  · rw [e, if_neg (by omega), if_neg (by omega)]
  · rw [e, if_neg (by omega), if_neg (by omega)]
theorem open_on {d s M first half num : Nat} {T0 : List UInt8} {K : Dk} (count : Nat) (w : World) (h : RecOn w d s M first half num T0 K) (htab : TabK w) (hc : count = 2 * half) :
    Calls Tryd.prog 9 #[.pointer (some ⟨d, 0, none⟩), .int .i64 (first : Int), .int .i64 (count : Int)] w fun e w' => ∃ r, e = .returned (.tuple #[.pointer (some ⟨r, 0, none⟩), .int .i64 0]) ∧ w.heap.size ≤ r ∧ RecAt w' r d first half num T0 false ∧ Below w.heap.size w w' := by
  have := open_ok first count half w htab h.disk h.on hc h.two (by have := h.inn; omega) h.full
  rw [h.rec_.open_] at this
  exact this
theorem RecOn.rec_ds {w : World} {d s M first half N N' f' h' : Nat} {T T' : List UInt8} {K : Dk} {r d' : Nat} {dead : Bool} (h : RecOn w d s M first half N T K) (hR : RecAt w r d' f' h' N' T' dead) : ¬ DS d s M r := by
  obtain ⟨A5, c5, hb5, _⟩ := hR
  rintro (e | e | e)
  · obtain ⟨cap, hb, _⟩ := h.disk.blk
    exact hb5.ne_ hb (by decide) e
  · obtain ⟨cs, hb, _⟩ := h.disk.row
    exact hb5.ne_ hb (by decide) e
  · obtain ⟨f, hm, _⟩ := h.disk.map
    exact hm.not_blk hb5 e
end Go.Proofs.YtcndkkagnobpmaaDoor
