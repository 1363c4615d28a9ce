/-
  NARROWER THAN 'FOR EVERY INPUT', by the rows' own cells (each row's printed sentence says how): GlobNames: laid · GlobItself: laid · GlobWider: laid · GlobOverlaps: laid · GlobMeets: laid · GlobFirsts: laid.
  DERIVED. THE GIVEN ROWS OF THIS SEAT. 6 by the template 'for every input the law returns true; each argument reads behind the call as it read before'; 0 by the template 'total and deterministic' (their statements: YtodkjhbnodcbhaaDoorTotals.lean).
  GIVEN WITH THE SEED: the statements are not yours to turn. If you find one false, say at which input.
  Laid BY PROGRAM, IN A SANDBOX (cutbox-rows.mjs): the forced cells as the released guide's own fill.sh prints them over the translation 156dd45d96feb29a… (all of the seat's roots in one cut). By AI agents, Wed Nov 11 2026. No macro, syntax, notation, axiom, sorry.
-/
import Derived.Test.YtodkjhbnodcbhaaDoorChecked
import GoSem.PinnedTables
import GoSem.Claim
import GoSem.ClaimJoined
import GoSem.ClaimMapViews
import Derived.JoinedTies
import Derived.KernelRfl
namespace Go.Proofs.YtodkjhbnodcbhaaDoor
/- THE CELL 'sum', in the pinned program and in every row, IS THE sha256 OF THE DUMP (.gsa) THAT YtodkjhbnodcbhaaDoorProg.lean LOADS. Nothing in Lean hashes anything: it is a label: what it is worth is what the hold of that sum in a sandbox is worth. -/
noncomputable def Tryd.pinned : Pinned := { name := "ytodkjhbnodcbhaadoor", sum := "156dd45d96feb29aca73a41e657deb9721dd8f8a3e5b36db39f310fed457884c", checked := Tryd.checked }
namespace Rows
def none {H : Type} : Left H := { results := [], args := [] }

/- WHAT THE LISTED PACKAGE-LEVEL VARIABLES READ AS WHEN THE CALL BEGINS. Each datum BY PROGRAM (the guide's laid-datum.mjs) off the statement by which the dump's own 'gosem.cut.vars' lays the variable. In a bare row this is a premise. The card (YtodkjhbnodcbhaaDoorCards.lean) ties it to the program's text. -/
def laid_unicode_utf8_acceptRanges {H : Type} : DataW H := .agg [.agg [.lit (.int .u8 128), .lit (.int .u8 191)], .agg [.lit (.int .u8 160), .lit (.int .u8 191)], .agg [.lit (.int .u8 128), .lit (.int .u8 159)], .agg [.lit (.int .u8 144), .lit (.int .u8 191)], .agg [.lit (.int .u8 128), .lit (.int .u8 143)], .agg [.lit (.int .u8 0), .lit (.int .u8 0)], .agg [.lit (.int .u8 0), .lit (.int .u8 0)], .agg [.lit (.int .u8 0), .lit (.int .u8 0)], .agg [.lit (.int .u8 0), .lit (.int .u8 0)], .agg [.lit (.int .u8 0), .lit (.int .u8 0)], .agg [.lit (.int .u8 0), .lit (.int .u8 0)], .agg [.lit (.int .u8 0), .lit (.int .u8 0)], .agg [.lit (.int .u8 0), .lit (.int .u8 0)], .agg [.lit (.int .u8 0), .lit (.int .u8 0)], .agg [.lit (.int .u8 0), .lit (.int .u8 0)], .agg [.lit (.int .u8 0), .lit (.int .u8 0)]]
/-- One of Go's own tables, pinned by name: the form's constant. -/
def laid_unicode_utf8_first : DataW Unit := Go.Pinned.utf8First

/-- 'pursuivantlaw12.GlobNames': WHATEVER THE INPUT: true; the input reads as it did. -/
def globNamesSpec : ChangeSpec := { name := "globNames", fn := fun _ => fun
  | [d] => { results := [.lit (.bool true)], args := [d] }
  | _ => none }
def globNamesRow : OpenClaim := { program := "ytodkjhbnodcbhaadoor", sum := "156dd45d96feb29aca73a41e657deb9721dd8f8a3e5b36db39f310fed457884c", func := "pursuivant/pursuivantlaw12.GlobNames", spec := "globNames", inPlace := ["internal/bytealg.IndexByteString", "internal/bytealg.CountString", "internal/bytealg.IndexString"], unfollowed := true, recurses := true, named := ["unicode/utf8.first", "unicode/utf8.acceptRanges", "internal/bytealg.MaxLen"], plainKeys := false, apart := false, laid := [("unicode/utf8.acceptRanges", laid_unicode_utf8_acceptRanges), ("unicode/utf8.first", laid_unicode_utf8_first)] }
def GlobNamesSaid : Prop := globNamesRow.holds Tryd.pinned (OpenSpec.ofChange globNamesSpec)

/-- ITS FALSE NEIGHBOUR: 'it returns false'. Refute it at one input. -/
def globNamesWrong : ChangeSpec := { name := "globNames", fn := fun _ => fun
  | [d] => { results := [.lit (.bool false)], args := [d] }
  | _ => none }
def GlobNamesWrongFalsely : Prop := globNamesRow.holds Tryd.pinned (OpenSpec.ofChange globNamesWrong)

/-- 'pursuivantlaw12.GlobItself': WHATEVER THE INPUT: true; the input reads as it did. -/
def globItselfSpec : ChangeSpec := { name := "globItself", fn := fun _ => fun
  | [d1, d2] => { results := [.lit (.bool true)], args := [d1, d2] }
  | _ => none }
def globItselfRow : OpenClaim := { program := "ytodkjhbnodcbhaadoor", sum := "156dd45d96feb29aca73a41e657deb9721dd8f8a3e5b36db39f310fed457884c", func := "pursuivant/pursuivantlaw12.GlobItself", spec := "globItself", inPlace := ["internal/bytealg.IndexByteString", "internal/bytealg.CountString", "internal/bytealg.IndexString"], unfollowed := true, recurses := true, named := ["unicode/utf8.first", "unicode/utf8.acceptRanges", "internal/bytealg.MaxLen"], plainKeys := false, apart := false, laid := [("unicode/utf8.acceptRanges", laid_unicode_utf8_acceptRanges), ("unicode/utf8.first", laid_unicode_utf8_first)] }
def GlobItselfSaid : Prop := globItselfRow.holds Tryd.pinned (OpenSpec.ofChange globItselfSpec)

/-- ITS FALSE NEIGHBOUR: 'it returns false'. Refute it at one input. -/
def globItselfWrong : ChangeSpec := { name := "globItself", fn := fun _ => fun
  | [d1, d2] => { results := [.lit (.bool false)], args := [d1, d2] }
  | _ => none }
def GlobItselfWrongFalsely : Prop := globItselfRow.holds Tryd.pinned (OpenSpec.ofChange globItselfWrong)

/-- 'pursuivantlaw12.GlobWider': WHATEVER THE INPUT: true; the input reads as it did. -/
def globWiderSpec : ChangeSpec := { name := "globWider", fn := fun _ => fun
  | [d1, d2, d3, d4] => { results := [.lit (.bool true)], args := [d1, d2, d3, d4] }
  | _ => none }
def globWiderRow : OpenClaim := { program := "ytodkjhbnodcbhaadoor", sum := "156dd45d96feb29aca73a41e657deb9721dd8f8a3e5b36db39f310fed457884c", func := "pursuivant/pursuivantlaw12.GlobWider", spec := "globWider", inPlace := ["internal/bytealg.IndexByteString", "internal/bytealg.CountString", "internal/bytealg.IndexString"], unfollowed := true, recurses := true, named := ["unicode/utf8.first", "unicode/utf8.acceptRanges", "internal/bytealg.MaxLen"], plainKeys := false, apart := false, laid := [("unicode/utf8.acceptRanges", laid_unicode_utf8_acceptRanges), ("unicode/utf8.first", laid_unicode_utf8_first)] }
def GlobWiderSaid : Prop := globWiderRow.holds Tryd.pinned (OpenSpec.ofChange globWiderSpec)

/-- ITS FALSE NEIGHBOUR: 'it returns false'. Refute it at one input. -/
def globWiderWrong : ChangeSpec := { name := "globWider", fn := fun _ => fun
  | [d1, d2, d3, d4] => { results := [.lit (.bool false)], args := [d1, d2, d3, d4] }
  | _ => none }
def GlobWiderWrongFalsely : Prop := globWiderRow.holds Tryd.pinned (OpenSpec.ofChange globWiderWrong)

/-- 'pursuivantlaw12.GlobOverlaps': WHATEVER THE INPUT: true; the input reads as it did. -/
def globOverlapsSpec : ChangeSpec := { name := "globOverlaps", fn := fun _ => fun
  | [d1, d2] => { results := [.lit (.bool true)], args := [d1, d2] }
  | _ => none }
def globOverlapsRow : OpenClaim := { program := "ytodkjhbnodcbhaadoor", sum := "156dd45d96feb29aca73a41e657deb9721dd8f8a3e5b36db39f310fed457884c", func := "pursuivant/pursuivantlaw12.GlobOverlaps", spec := "globOverlaps", inPlace := ["internal/bytealg.IndexByteString", "internal/bytealg.CountString", "internal/bytealg.IndexString"], unfollowed := true, recurses := true, named := ["unicode/utf8.first", "unicode/utf8.acceptRanges", "internal/bytealg.MaxLen"], plainKeys := false, apart := false, laid := [("unicode/utf8.acceptRanges", laid_unicode_utf8_acceptRanges), ("unicode/utf8.first", laid_unicode_utf8_first)] }
def GlobOverlapsSaid : Prop := globOverlapsRow.holds Tryd.pinned (OpenSpec.ofChange globOverlapsSpec)

/-- ITS FALSE NEIGHBOUR: 'it returns false'. Refute it at one input. -/
def globOverlapsWrong : ChangeSpec := { name := "globOverlaps", fn := fun _ => fun
  | [d1, d2] => { results := [.lit (.bool false)], args := [d1, d2] }
  | _ => none }
def GlobOverlapsWrongFalsely : Prop := globOverlapsRow.holds Tryd.pinned (OpenSpec.ofChange globOverlapsWrong)

/-- 'pursuivantlaw12.GlobMeets': WHATEVER THE INPUT: true; the input reads as it did. -/
def globMeetsSpec : ChangeSpec := { name := "globMeets", fn := fun _ => fun
  | [d1, d2, d3] => { results := [.lit (.bool true)], args := [d1, d2, d3] }
  | _ => none }
def globMeetsRow : OpenClaim := { program := "ytodkjhbnodcbhaadoor", sum := "156dd45d96feb29aca73a41e657deb9721dd8f8a3e5b36db39f310fed457884c", func := "pursuivant/pursuivantlaw12.GlobMeets", spec := "globMeets", inPlace := ["internal/bytealg.IndexByteString", "internal/bytealg.CountString", "internal/bytealg.IndexString"], unfollowed := true, recurses := true, named := ["unicode/utf8.first", "unicode/utf8.acceptRanges", "internal/bytealg.MaxLen"], plainKeys := false, apart := false, laid := [("unicode/utf8.acceptRanges", laid_unicode_utf8_acceptRanges), ("unicode/utf8.first", laid_unicode_utf8_first)] }
def GlobMeetsSaid : Prop := globMeetsRow.holds Tryd.pinned (OpenSpec.ofChange globMeetsSpec)

/-- ITS FALSE NEIGHBOUR: 'it returns false'. Refute it at one input. -/
def globMeetsWrong : ChangeSpec := { name := "globMeets", fn := fun _ => fun
  | [d1, d2, d3] => { results := [.lit (.bool false)], args := [d1, d2, d3] }
  | _ => none }
def GlobMeetsWrongFalsely : Prop := globMeetsRow.holds Tryd.pinned (OpenSpec.ofChange globMeetsWrong)

/-- 'pursuivantlaw12.GlobFirsts': WHATEVER THE INPUT: true; the input reads as it did. -/
def globFirstsSpec : ChangeSpec := { name := "globFirsts", fn := fun _ => fun
  | [d] => { results := [.lit (.bool true)], args := [d] }
  | _ => none }
def globFirstsRow : OpenClaim := { program := "ytodkjhbnodcbhaadoor", sum := "156dd45d96feb29aca73a41e657deb9721dd8f8a3e5b36db39f310fed457884c", func := "pursuivant/pursuivantlaw12.GlobFirsts", spec := "globFirsts", inPlace := ["internal/bytealg.IndexByteString", "internal/bytealg.CountString", "internal/bytealg.IndexString"], unfollowed := true, recurses := true, named := ["unicode/utf8.first", "unicode/utf8.acceptRanges", "internal/bytealg.MaxLen"], plainKeys := false, apart := false, laid := [("unicode/utf8.acceptRanges", laid_unicode_utf8_acceptRanges), ("unicode/utf8.first", laid_unicode_utf8_first)] }
def GlobFirstsSaid : Prop := globFirstsRow.holds Tryd.pinned (OpenSpec.ofChange globFirstsSpec)

/-- ITS FALSE NEIGHBOUR: 'it returns false'. Refute it at one input. -/
def globFirstsWrong : ChangeSpec := { name := "globFirsts", fn := fun _ => fun
  | [d] => { results := [.lit (.bool false)], args := [d] }
  | _ => none }
def GlobFirstsWrongFalsely : Prop := globFirstsRow.holds Tryd.pinned (OpenSpec.ofChange globFirstsWrong)

/- THE SECOND FORM. 'bulk': how many values and letters a reading holds, each counted each time it is reached (what is shared counts as often as it is met; a slice's spare places count too). A statement '..UptoSaid' is the law's where the arguments, and the package variables that the reading takes, are together of bulk at most 1048576: NARROWER than '..Said'. Prove '..Said' where nothing that the law and all that it calls make is longer than what came in: it says more and counts as full. Else prove '..UptoSaid'. A law counts once. -/
mutual
def uptoBulk {H : Type} : DataW H → Nat
  | .lit (.string bytes) => bytes.length + 1
  | .lit _ => 1
  | .nil => 1
  | .ptr d => uptoBulk d + 1
  | .slice elems spare => uptoBulkAll elems + uptoBulkAll spare + 1
  | .agg parts => uptoBulkAll parts + 1
  | .iface _ d => uptoBulk d + 1
  | .map entries => uptoBulkEntries entries + 1
  | .held _ => 1
def uptoBulkAll {H : Type} : List (DataW H) → Nat
  | [] => 0
  | d :: r => uptoBulk d + uptoBulkAll r
def uptoBulkEntries {H : Type} : List (Lit × DataW H) → Nat
  | [] => 0
  | x :: r => uptoBulkEntry x + uptoBulkEntries r
def uptoBulkEntry {H : Type} : Lit × DataW H → Nat
  | (.string bytes, d) => bytes.length + uptoBulk d + 1
  | (_, d) => uptoBulk d + 1
 end
def uptoSmall : (H : Type) → List (DataW H) → Bool := fun _ ds => decide (uptoBulkAll ds ≤ 1048576)
def OpenSpec.upto (s : _root_.Go.ChangeSpec) : _root_.Go.OpenSpec := { _root_.Go.OpenSpec.ofChange s with cond := some uptoSmall }

/-- 'pursuivantlaw12.GlobNames', WHERE WHAT IT READS IS OF BULK AT MOST 1048576: true; the input reads as it did. -/
def globNamesUptoRow : OpenClaim := { program := "ytodkjhbnodcbhaadoor", sum := "156dd45d96feb29aca73a41e657deb9721dd8f8a3e5b36db39f310fed457884c", func := "pursuivant/pursuivantlaw12.GlobNames", spec := "globNames", inPlace := ["internal/bytealg.IndexByteString", "internal/bytealg.CountString", "internal/bytealg.IndexString"], unfollowed := true, recurses := true, named := ["unicode/utf8.first", "unicode/utf8.acceptRanges", "internal/bytealg.MaxLen"], plainKeys := false, apart := false, laid := [("unicode/utf8.acceptRanges", laid_unicode_utf8_acceptRanges), ("unicode/utf8.first", laid_unicode_utf8_first)], narrowed := true }
def GlobNamesUptoSaid : Prop := globNamesUptoRow.holds Tryd.pinned (OpenSpec.upto globNamesSpec)

/-- 'pursuivantlaw12.GlobItself', WHERE WHAT IT READS IS OF BULK AT MOST 1048576: true; the input reads as it did. -/
def globItselfUptoRow : OpenClaim := { program := "ytodkjhbnodcbhaadoor", sum := "156dd45d96feb29aca73a41e657deb9721dd8f8a3e5b36db39f310fed457884c", func := "pursuivant/pursuivantlaw12.GlobItself", spec := "globItself", inPlace := ["internal/bytealg.IndexByteString", "internal/bytealg.CountString", "internal/bytealg.IndexString"], unfollowed := true, recurses := true, named := ["unicode/utf8.first", "unicode/utf8.acceptRanges", "internal/bytealg.MaxLen"], plainKeys := false, apart := false, laid := [("unicode/utf8.acceptRanges", laid_unicode_utf8_acceptRanges), ("unicode/utf8.first", laid_unicode_utf8_first)], narrowed := true }
def GlobItselfUptoSaid : Prop := globItselfUptoRow.holds Tryd.pinned (OpenSpec.upto globItselfSpec)

/-- 'pursuivantlaw12.GlobWider', WHERE WHAT IT READS IS OF BULK AT MOST 1048576: true; the input reads as it did. -/
def globWiderUptoRow : OpenClaim := { program := "ytodkjhbnodcbhaadoor", sum := "156dd45d96feb29aca73a41e657deb9721dd8f8a3e5b36db39f310fed457884c", func := "pursuivant/pursuivantlaw12.GlobWider", spec := "globWider", inPlace := ["internal/bytealg.IndexByteString", "internal/bytealg.CountString", "internal/bytealg.IndexString"], unfollowed := true, recurses := true, named := ["unicode/utf8.first", "unicode/utf8.acceptRanges", "internal/bytealg.MaxLen"], plainKeys := false, apart := false, laid := [("unicode/utf8.acceptRanges", laid_unicode_utf8_acceptRanges), ("unicode/utf8.first", laid_unicode_utf8_first)], narrowed := true }
def GlobWiderUptoSaid : Prop := globWiderUptoRow.holds Tryd.pinned (OpenSpec.upto globWiderSpec)

/-- 'pursuivantlaw12.GlobOverlaps', WHERE WHAT IT READS IS OF BULK AT MOST 1048576: true; the input reads as it did. -/
def globOverlapsUptoRow : OpenClaim := { program := "ytodkjhbnodcbhaadoor", sum := "156dd45d96feb29aca73a41e657deb9721dd8f8a3e5b36db39f310fed457884c", func := "pursuivant/pursuivantlaw12.GlobOverlaps", spec := "globOverlaps", inPlace := ["internal/bytealg.IndexByteString", "internal/bytealg.CountString", "internal/bytealg.IndexString"], unfollowed := true, recurses := true, named := ["unicode/utf8.first", "unicode/utf8.acceptRanges", "internal/bytealg.MaxLen"], plainKeys := false, apart := false, laid := [("unicode/utf8.acceptRanges", laid_unicode_utf8_acceptRanges), ("unicode/utf8.first", laid_unicode_utf8_first)], narrowed := true }
def GlobOverlapsUptoSaid : Prop := globOverlapsUptoRow.holds Tryd.pinned (OpenSpec.upto globOverlapsSpec)

/-- 'pursuivantlaw12.GlobMeets', WHERE WHAT IT READS IS OF BULK AT MOST 1048576: true; the input reads as it did. -/
def globMeetsUptoRow : OpenClaim := { program := "ytodkjhbnodcbhaadoor", sum := "156dd45d96feb29aca73a41e657deb9721dd8f8a3e5b36db39f310fed457884c", func := "pursuivant/pursuivantlaw12.GlobMeets", spec := "globMeets", inPlace := ["internal/bytealg.IndexByteString", "internal/bytealg.CountString", "internal/bytealg.IndexString"], unfollowed := true, recurses := true, named := ["unicode/utf8.first", "unicode/utf8.acceptRanges", "internal/bytealg.MaxLen"], plainKeys := false, apart := false, laid := [("unicode/utf8.acceptRanges", laid_unicode_utf8_acceptRanges), ("unicode/utf8.first", laid_unicode_utf8_first)], narrowed := true }
def GlobMeetsUptoSaid : Prop := globMeetsUptoRow.holds Tryd.pinned (OpenSpec.upto globMeetsSpec)

/-- 'pursuivantlaw12.GlobFirsts', WHERE WHAT IT READS IS OF BULK AT MOST 1048576: true; the input reads as it did. -/
def globFirstsUptoRow : OpenClaim := { program := "ytodkjhbnodcbhaadoor", sum := "156dd45d96feb29aca73a41e657deb9721dd8f8a3e5b36db39f310fed457884c", func := "pursuivant/pursuivantlaw12.GlobFirsts", spec := "globFirsts", inPlace := ["internal/bytealg.IndexByteString", "internal/bytealg.CountString", "internal/bytealg.IndexString"], unfollowed := true, recurses := true, named := ["unicode/utf8.first", "unicode/utf8.acceptRanges", "internal/bytealg.MaxLen"], plainKeys := false, apart := false, laid := [("unicode/utf8.acceptRanges", laid_unicode_utf8_acceptRanges), ("unicode/utf8.first", laid_unicode_utf8_first)], narrowed := true }
def GlobFirstsUptoSaid : Prop := globFirstsUptoRow.holds Tryd.pinned (OpenSpec.upto globFirstsSpec)

end Rows
end Go.Proofs.YtodkjhbnodcbhaaDoor
