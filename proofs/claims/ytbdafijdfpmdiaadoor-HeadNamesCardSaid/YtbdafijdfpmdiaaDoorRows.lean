/-
  NARROWER THAN 'FOR EVERY INPUT', by the rows' own cells (each row's printed sentence says how): HeadFinds: laid · HeadSets: laid · HeadLines: laid · HeadBack: laid · HeadOthers: laid · HeadStrips: laid · HeadNames: laid.
  DERIVED. THE GIVEN ROWS OF THIS SEAT. 7 by the template 'for every input the law returns true; each argument reads behind the call as it read before'; 0 by the template 'total and deterministic' (their statements: YtbdafijdfpmdiaaDoorTotals.lean).
  GIVEN WITH THE SEED: the statements are not yours to turn. If you find one false, say at which input.
  Laid BY PROGRAM, IN A SANDBOX (cutbox-rows.mjs): the forced cells as the released guide's own fill.sh prints them over the translation aeaa0c1edeb7d286… (all of the seat's roots in one cut). By AI agents, Wed Nov 11 2026. No macro, syntax, notation, axiom, sorry.
-/
import Derived.Test.YtbdafijdfpmdiaaDoorChecked
import GoSem.PinnedTables
import GoSem.Claim
import GoSem.ClaimJoined
import GoSem.ClaimMapViews
import Derived.JoinedTies
import Derived.KernelRfl
namespace Go.Proofs.YtbdafijdfpmdiaaDoor
/- THE CELL 'sum', in the pinned program and in every row, IS THE sha256 OF THE DUMP (.gsa) THAT YtbdafijdfpmdiaaDoorProg.lean LOADS. Nothing in Lean hashes anything: it is a label: what it is worth is what the hold of that sum in a sandbox is worth. -/
noncomputable def Tryd.pinned : Pinned := { name := "ytbdafijdfpmdiaadoor", sum := "aeaa0c1edeb7d2867a6e777db39320f8941b7d5a2b4903b8972de613eaafa2eb", checked := Tryd.checked }
namespace Rows
def none {H : Type} : Left H := { results := [], args := [] }

/- WHAT THE LISTED PACKAGE-LEVEL VARIABLES READ AS WHEN THE CALL BEGINS. Each datum BY PROGRAM (the guide's laid-datum.mjs) off the statement by which the dump's own 'gosem.cut.vars' lays the variable. In a bare row this is a premise. The card (YtbdafijdfpmdiaaDoorCards.lean) ties it to the program's text. -/
def laid_unicode_utf8_acceptRanges {H : Type} : DataW H := .agg [.agg [.lit (.int .u8 128), .lit (.int .u8 191)], .agg [.lit (.int .u8 160), .lit (.int .u8 191)], .agg [.lit (.int .u8 128), .lit (.int .u8 159)], .agg [.lit (.int .u8 144), .lit (.int .u8 191)], .agg [.lit (.int .u8 128), .lit (.int .u8 143)], .agg [.lit (.int .u8 0), .lit (.int .u8 0)], .agg [.lit (.int .u8 0), .lit (.int .u8 0)], .agg [.lit (.int .u8 0), .lit (.int .u8 0)], .agg [.lit (.int .u8 0), .lit (.int .u8 0)], .agg [.lit (.int .u8 0), .lit (.int .u8 0)], .agg [.lit (.int .u8 0), .lit (.int .u8 0)], .agg [.lit (.int .u8 0), .lit (.int .u8 0)], .agg [.lit (.int .u8 0), .lit (.int .u8 0)], .agg [.lit (.int .u8 0), .lit (.int .u8 0)], .agg [.lit (.int .u8 0), .lit (.int .u8 0)], .agg [.lit (.int .u8 0), .lit (.int .u8 0)]]
/-- One of Go's own tables, pinned by name: the form's constant. -/
def laid_unicode_utf8_first : DataW Unit := Go.Pinned.utf8First

/-- 'chinoiserielaw04.HeadFinds': WHATEVER THE INPUT: true; the input reads as it did. -/
def headFindsSpec : ChangeSpec := { name := "headFinds", fn := fun _ => fun
  | [d1, d2, d3] => { results := [.lit (.bool true)], args := [d1, d2, d3] }
  | _ => none }
def headFindsRow : OpenClaim := { program := "ytbdafijdfpmdiaadoor", sum := "aeaa0c1edeb7d2867a6e777db39320f8941b7d5a2b4903b8972de613eaafa2eb", func := "chinoiserie/chinoiserielaw04.HeadFinds", spec := "headFinds", inPlace := ["internal/bytealg.IndexByteString", "internal/bytealg.IndexString"], unfollowed := true, recurses := true, named := ["unicode/utf8.first", "unicode/utf8.acceptRanges", "internal/bytealg.MaxLen"], apart := false, laid := [("unicode/utf8.acceptRanges", laid_unicode_utf8_acceptRanges), ("unicode/utf8.first", laid_unicode_utf8_first)] }
def HeadFindsSaid : Prop := headFindsRow.holds Tryd.pinned (OpenSpec.ofChange headFindsSpec)

/-- ITS FALSE NEIGHBOUR: 'it returns false'. Refute it at one input. -/
def headFindsWrong : ChangeSpec := { name := "headFinds", fn := fun _ => fun
  | [d1, d2, d3] => { results := [.lit (.bool false)], args := [d1, d2, d3] }
  | _ => none }
def HeadFindsWrongFalsely : Prop := headFindsRow.holds Tryd.pinned (OpenSpec.ofChange headFindsWrong)

/-- 'chinoiserielaw04.HeadSets': WHATEVER THE INPUT: true; the input reads as it did. -/
def headSetsSpec : ChangeSpec := { name := "headSets", fn := fun _ => fun
  | [d1, d2, d3] => { results := [.lit (.bool true)], args := [d1, d2, d3] }
  | _ => none }
def headSetsRow : OpenClaim := { program := "ytbdafijdfpmdiaadoor", sum := "aeaa0c1edeb7d2867a6e777db39320f8941b7d5a2b4903b8972de613eaafa2eb", func := "chinoiserie/chinoiserielaw04.HeadSets", spec := "headSets", inPlace := ["internal/bytealg.IndexByteString", "internal/bytealg.IndexString"], unfollowed := true, recurses := true, named := ["unicode/utf8.first", "unicode/utf8.acceptRanges", "internal/bytealg.MaxLen"], apart := false, laid := [("unicode/utf8.acceptRanges", laid_unicode_utf8_acceptRanges), ("unicode/utf8.first", laid_unicode_utf8_first)] }
def HeadSetsSaid : Prop := headSetsRow.holds Tryd.pinned (OpenSpec.ofChange headSetsSpec)

/-- ITS FALSE NEIGHBOUR: 'it returns false'. Refute it at one input. -/
def headSetsWrong : ChangeSpec := { name := "headSets", fn := fun _ => fun
  | [d1, d2, d3] => { results := [.lit (.bool false)], args := [d1, d2, d3] }
  | _ => none }
def HeadSetsWrongFalsely : Prop := headSetsRow.holds Tryd.pinned (OpenSpec.ofChange headSetsWrong)

/-- 'chinoiserielaw04.HeadLines': WHATEVER THE INPUT: true; the input reads as it did. -/
def headLinesSpec : ChangeSpec := { name := "headLines", fn := fun _ => fun
  | [d] => { results := [.lit (.bool true)], args := [d] }
  | _ => none }
def headLinesRow : OpenClaim := { program := "ytbdafijdfpmdiaadoor", sum := "aeaa0c1edeb7d2867a6e777db39320f8941b7d5a2b4903b8972de613eaafa2eb", func := "chinoiserie/chinoiserielaw04.HeadLines", spec := "headLines", inPlace := ["internal/bytealg.IndexByteString", "internal/bytealg.IndexString"], unfollowed := true, recurses := true, named := ["internal/bytealg.MaxLen", "unicode/utf8.first", "unicode/utf8.acceptRanges"], apart := false, laid := [("unicode/utf8.acceptRanges", laid_unicode_utf8_acceptRanges), ("unicode/utf8.first", laid_unicode_utf8_first)] }
def HeadLinesSaid : Prop := headLinesRow.holds Tryd.pinned (OpenSpec.ofChange headLinesSpec)

/-- ITS FALSE NEIGHBOUR: 'it returns false'. Refute it at one input. -/
def headLinesWrong : ChangeSpec := { name := "headLines", fn := fun _ => fun
  | [d] => { results := [.lit (.bool false)], args := [d] }
  | _ => none }
def HeadLinesWrongFalsely : Prop := headLinesRow.holds Tryd.pinned (OpenSpec.ofChange headLinesWrong)

/-- 'chinoiserielaw04.HeadBack': WHATEVER THE INPUT: true; the input reads as it did. -/
def headBackSpec : ChangeSpec := { name := "headBack", fn := fun _ => fun
  | [d] => { results := [.lit (.bool true)], args := [d] }
  | _ => none }
def headBackRow : OpenClaim := { program := "ytbdafijdfpmdiaadoor", sum := "aeaa0c1edeb7d2867a6e777db39320f8941b7d5a2b4903b8972de613eaafa2eb", func := "chinoiserie/chinoiserielaw04.HeadBack", spec := "headBack", inPlace := ["internal/bytealg.IndexByteString", "internal/bytealg.IndexString"], unfollowed := true, recurses := true, named := ["internal/bytealg.MaxLen", "unicode/utf8.first", "unicode/utf8.acceptRanges"], apart := false, laid := [("unicode/utf8.acceptRanges", laid_unicode_utf8_acceptRanges), ("unicode/utf8.first", laid_unicode_utf8_first)] }
def HeadBackSaid : Prop := headBackRow.holds Tryd.pinned (OpenSpec.ofChange headBackSpec)

/-- ITS FALSE NEIGHBOUR: 'it returns false'. Refute it at one input. -/
def headBackWrong : ChangeSpec := { name := "headBack", fn := fun _ => fun
  | [d] => { results := [.lit (.bool false)], args := [d] }
  | _ => none }
def HeadBackWrongFalsely : Prop := headBackRow.holds Tryd.pinned (OpenSpec.ofChange headBackWrong)

/-- 'chinoiserielaw04.HeadOthers': WHATEVER THE INPUT: true; the input reads as it did. -/
def headOthersSpec : ChangeSpec := { name := "headOthers", fn := fun _ => fun
  | [d1, d2, d3] => { results := [.lit (.bool true)], args := [d1, d2, d3] }
  | _ => none }
def headOthersRow : OpenClaim := { program := "ytbdafijdfpmdiaadoor", sum := "aeaa0c1edeb7d2867a6e777db39320f8941b7d5a2b4903b8972de613eaafa2eb", func := "chinoiserie/chinoiserielaw04.HeadOthers", spec := "headOthers", inPlace := ["internal/bytealg.IndexByteString", "internal/bytealg.IndexString"], unfollowed := true, recurses := true, named := ["unicode/utf8.first", "unicode/utf8.acceptRanges", "internal/bytealg.MaxLen"], apart := false, laid := [("unicode/utf8.acceptRanges", laid_unicode_utf8_acceptRanges), ("unicode/utf8.first", laid_unicode_utf8_first)] }
def HeadOthersSaid : Prop := headOthersRow.holds Tryd.pinned (OpenSpec.ofChange headOthersSpec)

/-- ITS FALSE NEIGHBOUR: 'it returns false'. Refute it at one input. -/
def headOthersWrong : ChangeSpec := { name := "headOthers", fn := fun _ => fun
  | [d1, d2, d3] => { results := [.lit (.bool false)], args := [d1, d2, d3] }
  | _ => none }
def HeadOthersWrongFalsely : Prop := headOthersRow.holds Tryd.pinned (OpenSpec.ofChange headOthersWrong)

/-- 'chinoiserielaw04.HeadStrips': WHATEVER THE INPUT: true; the input reads as it did. -/
def headStripsSpec : ChangeSpec := { name := "headStrips", fn := fun _ => fun
  | [d1, d2, d3] => { results := [.lit (.bool true)], args := [d1, d2, d3] }
  | _ => none }
def headStripsRow : OpenClaim := { program := "ytbdafijdfpmdiaadoor", sum := "aeaa0c1edeb7d2867a6e777db39320f8941b7d5a2b4903b8972de613eaafa2eb", func := "chinoiserie/chinoiserielaw04.HeadStrips", spec := "headStrips", inPlace := ["internal/bytealg.IndexByteString", "internal/bytealg.IndexString"], unfollowed := true, recurses := true, named := ["internal/bytealg.MaxLen", "unicode/utf8.first", "unicode/utf8.acceptRanges"], apart := false, laid := [("unicode/utf8.acceptRanges", laid_unicode_utf8_acceptRanges), ("unicode/utf8.first", laid_unicode_utf8_first)] }
def HeadStripsSaid : Prop := headStripsRow.holds Tryd.pinned (OpenSpec.ofChange headStripsSpec)

/-- ITS FALSE NEIGHBOUR: 'it returns false'. Refute it at one input. -/
def headStripsWrong : ChangeSpec := { name := "headStrips", fn := fun _ => fun
  | [d1, d2, d3] => { results := [.lit (.bool false)], args := [d1, d2, d3] }
  | _ => none }
def HeadStripsWrongFalsely : Prop := headStripsRow.holds Tryd.pinned (OpenSpec.ofChange headStripsWrong)

/-- 'chinoiserielaw04.HeadNames': WHATEVER THE INPUT: true; the input reads as it did. -/
def headNamesSpec : ChangeSpec := { name := "headNames", fn := fun _ => fun
  | [] => { results := [.lit (.bool true)], args := [] }
  | _ => none }
def headNamesRow : OpenClaim := { program := "ytbdafijdfpmdiaadoor", sum := "aeaa0c1edeb7d2867a6e777db39320f8941b7d5a2b4903b8972de613eaafa2eb", func := "chinoiserie/chinoiserielaw04.HeadNames", spec := "headNames", inPlace := ["internal/bytealg.IndexByteString", "internal/bytealg.IndexString"], unfollowed := true, recurses := true, named := ["internal/bytealg.MaxLen", "unicode/utf8.first", "unicode/utf8.acceptRanges"], apart := false, laid := [("unicode/utf8.acceptRanges", laid_unicode_utf8_acceptRanges), ("unicode/utf8.first", laid_unicode_utf8_first)] }
def HeadNamesSaid : Prop := headNamesRow.holds Tryd.pinned (OpenSpec.ofChange headNamesSpec)

/-- ITS FALSE NEIGHBOUR: 'it returns false'. Refute it at one input. -/
def headNamesWrong : ChangeSpec := { name := "headNames", fn := fun _ => fun
  | [] => { results := [.lit (.bool false)], args := [] }
  | _ => none }
def HeadNamesWrongFalsely : Prop := headNamesRow.holds Tryd.pinned (OpenSpec.ofChange headNamesWrong)

/- THE SECOND FORM. 'bulk': how many values and letters a reading holds, each counted each time it is reached (what is shared counts as often as it is met; a slice's spare places count too). A statement '..UptoSaid' is the law's where the arguments, and the package variables that the reading takes, are together of bulk at most 1048576: NARROWER than '..Said'. Prove '..Said' where nothing that the law and all that it calls make is longer than what came in: it says more and counts as full. Else prove '..UptoSaid'. A law counts once. -/
mutual
def uptoBulk {H : Type} : DataW H → Nat
  | .lit (.string bytes) => bytes.length + 1
  | .lit _ => 1
  | .nil => 1
  | .ptr d => uptoBulk d + 1
  | .slice elems spare => uptoBulkAll elems + uptoBulkAll spare + 1
  | .agg parts => uptoBulkAll parts + 1
  | .iface _ d => uptoBulk d + 1
  | .map entries => uptoBulkEntries entries + 1
  | .held _ => 1
def uptoBulkAll {H : Type} : List (DataW H) → Nat
  | [] => 0
  | d :: r => uptoBulk d + uptoBulkAll r
def uptoBulkEntries {H : Type} : List (Lit × DataW H) → Nat
  | [] => 0
  | x :: r => uptoBulkEntry x + uptoBulkEntries r
def uptoBulkEntry {H : Type} : Lit × DataW H → Nat
  | (.string bytes, d) => bytes.length + uptoBulk d + 1
  | (_, d) => uptoBulk d + 1
 end
def uptoSmall : (H : Type) → List (DataW H) → Bool := fun _ ds => decide (uptoBulkAll ds ≤ 1048576)
def OpenSpec.upto (s : _root_.Go.ChangeSpec) : _root_.Go.OpenSpec := { _root_.Go.OpenSpec.ofChange s with cond := some uptoSmall }

/-- 'chinoiserielaw04.HeadFinds', WHERE WHAT IT READS IS OF BULK AT MOST 1048576: true; the input reads as it did. -/
def headFindsUptoRow : OpenClaim := { program := "ytbdafijdfpmdiaadoor", sum := "aeaa0c1edeb7d2867a6e777db39320f8941b7d5a2b4903b8972de613eaafa2eb", func := "chinoiserie/chinoiserielaw04.HeadFinds", spec := "headFinds", inPlace := ["internal/bytealg.IndexByteString", "internal/bytealg.IndexString"], unfollowed := true, recurses := true, named := ["unicode/utf8.first", "unicode/utf8.acceptRanges", "internal/bytealg.MaxLen"], apart := false, laid := [("unicode/utf8.acceptRanges", laid_unicode_utf8_acceptRanges), ("unicode/utf8.first", laid_unicode_utf8_first)], narrowed := true }
def HeadFindsUptoSaid : Prop := headFindsUptoRow.holds Tryd.pinned (OpenSpec.upto headFindsSpec)

/-- 'chinoiserielaw04.HeadSets', WHERE WHAT IT READS IS OF BULK AT MOST 1048576: true; the input reads as it did. -/
def headSetsUptoRow : OpenClaim := { program := "ytbdafijdfpmdiaadoor", sum := "aeaa0c1edeb7d2867a6e777db39320f8941b7d5a2b4903b8972de613eaafa2eb", func := "chinoiserie/chinoiserielaw04.HeadSets", spec := "headSets", inPlace := ["internal/bytealg.IndexByteString", "internal/bytealg.IndexString"], unfollowed := true, recurses := true, named := ["unicode/utf8.first", "unicode/utf8.acceptRanges", "internal/bytealg.MaxLen"], apart := false, laid := [("unicode/utf8.acceptRanges", laid_unicode_utf8_acceptRanges), ("unicode/utf8.first", laid_unicode_utf8_first)], narrowed := true }
def HeadSetsUptoSaid : Prop := headSetsUptoRow.holds Tryd.pinned (OpenSpec.upto headSetsSpec)

/-- 'chinoiserielaw04.HeadLines', WHERE WHAT IT READS IS OF BULK AT MOST 1048576: true; the input reads as it did. -/
def headLinesUptoRow : OpenClaim := { program := "ytbdafijdfpmdiaadoor", sum := "aeaa0c1edeb7d2867a6e777db39320f8941b7d5a2b4903b8972de613eaafa2eb", func := "chinoiserie/chinoiserielaw04.HeadLines", spec := "headLines", inPlace := ["internal/bytealg.IndexByteString", "internal/bytealg.IndexString"], unfollowed := true, recurses := true, named := ["internal/bytealg.MaxLen", "unicode/utf8.first", "unicode/utf8.acceptRanges"], apart := false, laid := [("unicode/utf8.acceptRanges", laid_unicode_utf8_acceptRanges), ("unicode/utf8.first", laid_unicode_utf8_first)], narrowed := true }
def HeadLinesUptoSaid : Prop := headLinesUptoRow.holds Tryd.pinned (OpenSpec.upto headLinesSpec)

/-- 'chinoiserielaw04.HeadBack', WHERE WHAT IT READS IS OF BULK AT MOST 1048576: true; the input reads as it did. -/
def headBackUptoRow : OpenClaim := { program := "ytbdafijdfpmdiaadoor", sum := "aeaa0c1edeb7d2867a6e777db39320f8941b7d5a2b4903b8972de613eaafa2eb", func := "chinoiserie/chinoiserielaw04.HeadBack", spec := "headBack", inPlace := ["internal/bytealg.IndexByteString", "internal/bytealg.IndexString"], unfollowed := true, recurses := true, named := ["internal/bytealg.MaxLen", "unicode/utf8.first", "unicode/utf8.acceptRanges"], apart := false, laid := [("unicode/utf8.acceptRanges", laid_unicode_utf8_acceptRanges), ("unicode/utf8.first", laid_unicode_utf8_first)], narrowed := true }
def HeadBackUptoSaid : Prop := headBackUptoRow.holds Tryd.pinned (OpenSpec.upto headBackSpec)

/-- 'chinoiserielaw04.HeadOthers', WHERE WHAT IT READS IS OF BULK AT MOST 1048576: true; the input reads as it did. -/
def headOthersUptoRow : OpenClaim := { program := "ytbdafijdfpmdiaadoor", sum := "aeaa0c1edeb7d2867a6e777db39320f8941b7d5a2b4903b8972de613eaafa2eb", func := "chinoiserie/chinoiserielaw04.HeadOthers", spec := "headOthers", inPlace := ["internal/bytealg.IndexByteString", "internal/bytealg.IndexString"], unfollowed := true, recurses := true, named := ["unicode/utf8.first", "unicode/utf8.acceptRanges", "internal/bytealg.MaxLen"], apart := false, laid := [("unicode/utf8.acceptRanges", laid_unicode_utf8_acceptRanges), ("unicode/utf8.first", laid_unicode_utf8_first)], narrowed := true }
def HeadOthersUptoSaid : Prop := headOthersUptoRow.holds Tryd.pinned (OpenSpec.upto headOthersSpec)

/-- 'chinoiserielaw04.HeadStrips', WHERE WHAT IT READS IS OF BULK AT MOST 1048576: true; the input reads as it did. -/
def headStripsUptoRow : OpenClaim := { program := "ytbdafijdfpmdiaadoor", sum := "aeaa0c1edeb7d2867a6e777db39320f8941b7d5a2b4903b8972de613eaafa2eb", func := "chinoiserie/chinoiserielaw04.HeadStrips", spec := "headStrips", inPlace := ["internal/bytealg.IndexByteString", "internal/bytealg.IndexString"], unfollowed := true, recurses := true, named := ["internal/bytealg.MaxLen", "unicode/utf8.first", "unicode/utf8.acceptRanges"], apart := false, laid := [("unicode/utf8.acceptRanges", laid_unicode_utf8_acceptRanges), ("unicode/utf8.first", laid_unicode_utf8_first)], narrowed := true }
def HeadStripsUptoSaid : Prop := headStripsUptoRow.holds Tryd.pinned (OpenSpec.upto headStripsSpec)

/-- 'chinoiserielaw04.HeadNames', WHERE WHAT IT READS IS OF BULK AT MOST 1048576: true; the input reads as it did. -/
def headNamesUptoRow : OpenClaim := { program := "ytbdafijdfpmdiaadoor", sum := "aeaa0c1edeb7d2867a6e777db39320f8941b7d5a2b4903b8972de613eaafa2eb", func := "chinoiserie/chinoiserielaw04.HeadNames", spec := "headNames", inPlace := ["internal/bytealg.IndexByteString", "internal/bytealg.IndexString"], unfollowed := true, recurses := true, named := ["internal/bytealg.MaxLen", "unicode/utf8.first", "unicode/utf8.acceptRanges"], apart := false, laid := [("unicode/utf8.acceptRanges", laid_unicode_utf8_acceptRanges), ("unicode/utf8.first", laid_unicode_utf8_first)], narrowed := true }
def HeadNamesUptoSaid : Prop := headNamesUptoRow.holds Tryd.pinned (OpenSpec.upto headNamesSpec)

end Rows
end Go.Proofs.YtbdafijdfpmdiaaDoor
