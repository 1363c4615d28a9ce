/-
  No cell of these rows narrows 'for every input' (looked for: loops, veiled, ifaces, maps, wideKeys, modest, calm, conditions, laid).
  DERIVED. THE GIVEN ROWS OF THIS SEAT. 5 by the template 'for every input the law returns true; each argument reads behind the call as it read before'; 0 by the template 'total and deterministic' (their statements: YtdhilhjiccpkkaaTotals.lean).
  GIVEN WITH THE SEED: the statements are not yours to turn. If you find one false, say at which input.
  Laid BY PROGRAM, IN A SANDBOX (cutbox-rows.mjs): the forced cells as the released guide's own fill.sh prints them over the translation 38e55b81a0ff27f6… (all of the seat's roots in one cut). By AI agents, Wed Nov 11 2026. No macro, syntax, notation, axiom, sorry.
-/
import Derived.Test.YtdhilhjiccpkkaaChecked
import GoSem.Claim
import GoSem.ClaimJoined
import GoSem.ClaimMapViews
import Derived.JoinedTies
import Derived.KernelRfl
namespace Go.Proofs.Ytdhilhjiccpkkaa
/- THE CELL 'sum', in the pinned program and in every row, IS THE sha256 OF THE DUMP (.gsa) THAT YtdhilhjiccpkkaaProg.lean LOADS. Nothing in Lean hashes anything: it is a label: what it is worth is what the hold of that sum in a sandbox is worth. -/
noncomputable def Try.pinned : Pinned := { name := "ytdhilhjiccpkkaa", sum := "38e55b81a0ff27f68b2e5f93dadc7d89208642197ab4ea4b354c3906ca73946b", checked := Try.checked }
namespace Rows
def none {H : Type} : Left H := { results := [], args := [] }

/-- 'pursuivantlaw11.DueDoes': WHATEVER THE INPUT: true; the input reads as it did. -/
def dueDoesSpec : ChangeSpec := { name := "dueDoes", fn := fun _ => fun
  | [d] => { results := [.lit (.bool true)], args := [d] }
  | _ => none }
def dueDoesRow : OpenClaim := { program := "ytdhilhjiccpkkaa", sum := "38e55b81a0ff27f68b2e5f93dadc7d89208642197ab4ea4b354c3906ca73946b", func := "pursuivant/pursuivantlaw11.DueDoes", spec := "dueDoes", unfollowed := true, recurses := true, apart := false }
def DueDoesSaid : Prop := dueDoesRow.holds Try.pinned (OpenSpec.ofChange dueDoesSpec)

/-- ITS FALSE NEIGHBOUR: 'it returns false'. Refute it at one input. -/
def dueDoesWrong : ChangeSpec := { name := "dueDoes", fn := fun _ => fun
  | [d] => { results := [.lit (.bool false)], args := [d] }
  | _ => none }
def DueDoesWrongFalsely : Prop := dueDoesRow.holds Try.pinned (OpenSpec.ofChange dueDoesWrong)

/-- 'pursuivantlaw11.DueFull': WHATEVER THE INPUT: true; the input reads as it did. -/
def dueFullSpec : ChangeSpec := { name := "dueFull", fn := fun _ => fun
  | [d1, d2] => { results := [.lit (.bool true)], args := [d1, d2] }
  | _ => none }
def dueFullRow : OpenClaim := { program := "ytdhilhjiccpkkaa", sum := "38e55b81a0ff27f68b2e5f93dadc7d89208642197ab4ea4b354c3906ca73946b", func := "pursuivant/pursuivantlaw11.DueFull", spec := "dueFull", unfollowed := true, recurses := true, apart := false }
def DueFullSaid : Prop := dueFullRow.holds Try.pinned (OpenSpec.ofChange dueFullSpec)

/-- ITS FALSE NEIGHBOUR: 'it returns false'. Refute it at one input. -/
def dueFullWrong : ChangeSpec := { name := "dueFull", fn := fun _ => fun
  | [d1, d2] => { results := [.lit (.bool false)], args := [d1, d2] }
  | _ => none }
def DueFullWrongFalsely : Prop := dueFullRow.holds Try.pinned (OpenSpec.ofChange dueFullWrong)

/-- 'pursuivantlaw11.DueParts': WHATEVER THE INPUT: true; the input reads as it did. -/
def duePartsSpec : ChangeSpec := { name := "dueParts", fn := fun _ => fun
  | [d1, d2] => { results := [.lit (.bool true)], args := [d1, d2] }
  | _ => none }
def duePartsRow : OpenClaim := { program := "ytdhilhjiccpkkaa", sum := "38e55b81a0ff27f68b2e5f93dadc7d89208642197ab4ea4b354c3906ca73946b", func := "pursuivant/pursuivantlaw11.DueParts", spec := "dueParts", unfollowed := true, recurses := true, apart := false }
def DuePartsSaid : Prop := duePartsRow.holds Try.pinned (OpenSpec.ofChange duePartsSpec)

/-- ITS FALSE NEIGHBOUR: 'it returns false'. Refute it at one input. -/
def duePartsWrong : ChangeSpec := { name := "dueParts", fn := fun _ => fun
  | [d1, d2] => { results := [.lit (.bool false)], args := [d1, d2] }
  | _ => none }
def DuePartsWrongFalsely : Prop := duePartsRow.holds Try.pinned (OpenSpec.ofChange duePartsWrong)

/-- 'pursuivantlaw11.DueEach': WHATEVER THE INPUT: true; the input reads as it did. -/
def dueEachSpec : ChangeSpec := { name := "dueEach", fn := fun _ => fun
  | [d1, d2] => { results := [.lit (.bool true)], args := [d1, d2] }
  | _ => none }
def dueEachRow : OpenClaim := { program := "ytdhilhjiccpkkaa", sum := "38e55b81a0ff27f68b2e5f93dadc7d89208642197ab4ea4b354c3906ca73946b", func := "pursuivant/pursuivantlaw11.DueEach", spec := "dueEach", unfollowed := true, recurses := true, apart := false }
def DueEachSaid : Prop := dueEachRow.holds Try.pinned (OpenSpec.ofChange dueEachSpec)

/-- ITS FALSE NEIGHBOUR: 'it returns false'. Refute it at one input. -/
def dueEachWrong : ChangeSpec := { name := "dueEach", fn := fun _ => fun
  | [d1, d2] => { results := [.lit (.bool false)], args := [d1, d2] }
  | _ => none }
def DueEachWrongFalsely : Prop := dueEachRow.holds Try.pinned (OpenSpec.ofChange dueEachWrong)

/-- 'pursuivantlaw11.DueNobody': WHATEVER THE INPUT: true; the input reads as it did. -/
def dueNobodySpec : ChangeSpec := { name := "dueNobody", fn := fun _ => fun
  | [d] => { results := [.lit (.bool true)], args := [d] }
  | _ => none }
def dueNobodyRow : OpenClaim := { program := "ytdhilhjiccpkkaa", sum := "38e55b81a0ff27f68b2e5f93dadc7d89208642197ab4ea4b354c3906ca73946b", func := "pursuivant/pursuivantlaw11.DueNobody", spec := "dueNobody", unfollowed := true, recurses := true, apart := false }
def DueNobodySaid : Prop := dueNobodyRow.holds Try.pinned (OpenSpec.ofChange dueNobodySpec)

/-- ITS FALSE NEIGHBOUR: 'it returns false'. Refute it at one input. -/
def dueNobodyWrong : ChangeSpec := { name := "dueNobody", fn := fun _ => fun
  | [d] => { results := [.lit (.bool false)], args := [d] }
  | _ => none }
def DueNobodyWrongFalsely : Prop := dueNobodyRow.holds Try.pinned (OpenSpec.ofChange dueNobodyWrong)

/- THE SECOND FORM. 'bulk': how many values and letters a reading holds, each counted each time it is reached (what is shared counts as often as it is met; a slice's spare places count too). A statement '..UptoSaid' is the law's where the arguments, and the package variables that the reading takes, are together of bulk at most 1048576: NARROWER than '..Said'. Prove '..Said' where nothing that the law and all that it calls make is longer than what came in: it says more and counts as full. Else prove '..UptoSaid'. A law counts once. -/
mutual
def uptoBulk {H : Type} : DataW H → Nat
  | .lit (.string bytes) => bytes.length + 1
  | .lit _ => 1
  | .nil => 1
  | .ptr d => uptoBulk d + 1
  | .slice elems spare => uptoBulkAll elems + uptoBulkAll spare + 1
  | .agg parts => uptoBulkAll parts + 1
  | .iface _ d => uptoBulk d + 1
  | .map entries => uptoBulkEntries entries + 1
  | .held _ => 1
def uptoBulkAll {H : Type} : List (DataW H) → Nat
  | [] => 0
  | d :: r => uptoBulk d + uptoBulkAll r
def uptoBulkEntries {H : Type} : List (Lit × DataW H) → Nat
  | [] => 0
  | x :: r => uptoBulkEntry x + uptoBulkEntries r
def uptoBulkEntry {H : Type} : Lit × DataW H → Nat
  | (.string bytes, d) => bytes.length + uptoBulk d + 1
  | (_, d) => uptoBulk d + 1
 end
def uptoSmall : (H : Type) → List (DataW H) → Bool := fun _ ds => decide (uptoBulkAll ds ≤ 1048576)
def OpenSpec.upto (s : _root_.Go.ChangeSpec) : _root_.Go.OpenSpec := { _root_.Go.OpenSpec.ofChange s with cond := some uptoSmall }

/-- 'pursuivantlaw11.DueDoes', WHERE WHAT IT READS IS OF BULK AT MOST 1048576: true; the input reads as it did. -/
def dueDoesUptoRow : OpenClaim := { program := "ytdhilhjiccpkkaa", sum := "38e55b81a0ff27f68b2e5f93dadc7d89208642197ab4ea4b354c3906ca73946b", func := "pursuivant/pursuivantlaw11.DueDoes", spec := "dueDoes", unfollowed := true, recurses := true, apart := false, narrowed := true }
def DueDoesUptoSaid : Prop := dueDoesUptoRow.holds Try.pinned (OpenSpec.upto dueDoesSpec)

/-- 'pursuivantlaw11.DueFull', WHERE WHAT IT READS IS OF BULK AT MOST 1048576: true; the input reads as it did. -/
def dueFullUptoRow : OpenClaim := { program := "ytdhilhjiccpkkaa", sum := "38e55b81a0ff27f68b2e5f93dadc7d89208642197ab4ea4b354c3906ca73946b", func := "pursuivant/pursuivantlaw11.DueFull", spec := "dueFull", unfollowed := true, recurses := true, apart := false, narrowed := true }
def DueFullUptoSaid : Prop := dueFullUptoRow.holds Try.pinned (OpenSpec.upto dueFullSpec)

/-- 'pursuivantlaw11.DueParts', WHERE WHAT IT READS IS OF BULK AT MOST 1048576: true; the input reads as it did. -/
def duePartsUptoRow : OpenClaim := { program := "ytdhilhjiccpkkaa", sum := "38e55b81a0ff27f68b2e5f93dadc7d89208642197ab4ea4b354c3906ca73946b", func := "pursuivant/pursuivantlaw11.DueParts", spec := "dueParts", unfollowed := true, recurses := true, apart := false, narrowed := true }
def DuePartsUptoSaid : Prop := duePartsUptoRow.holds Try.pinned (OpenSpec.upto duePartsSpec)

/-- 'pursuivantlaw11.DueEach', WHERE WHAT IT READS IS OF BULK AT MOST 1048576: true; the input reads as it did. -/
def dueEachUptoRow : OpenClaim := { program := "ytdhilhjiccpkkaa", sum := "38e55b81a0ff27f68b2e5f93dadc7d89208642197ab4ea4b354c3906ca73946b", func := "pursuivant/pursuivantlaw11.DueEach", spec := "dueEach", unfollowed := true, recurses := true, apart := false, narrowed := true }
def DueEachUptoSaid : Prop := dueEachUptoRow.holds Try.pinned (OpenSpec.upto dueEachSpec)

/-- 'pursuivantlaw11.DueNobody', WHERE WHAT IT READS IS OF BULK AT MOST 1048576: true; the input reads as it did. -/
def dueNobodyUptoRow : OpenClaim := { program := "ytdhilhjiccpkkaa", sum := "38e55b81a0ff27f68b2e5f93dadc7d89208642197ab4ea4b354c3906ca73946b", func := "pursuivant/pursuivantlaw11.DueNobody", spec := "dueNobody", unfollowed := true, recurses := true, apart := false, narrowed := true }
def DueNobodyUptoSaid : Prop := dueNobodyUptoRow.holds Try.pinned (OpenSpec.upto dueNobodySpec)

end Rows
end Go.Proofs.Ytdhilhjiccpkkaa
