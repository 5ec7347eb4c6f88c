/-
  DERIVED. GIVEN WITH THE SEED: THE CARDS: each row of YtbdafijdfpmdiaaDoorRows.lean that lists a variable, with what it lists TIED to the program's text (the seventh form; the later family's looks); each row that meets fmt, with fmt's text TOLD by the authors' own Lean function (tested against real Go, not proved from fmt's source: count such statements apart). THE CARD IS WHAT COUNTS. Prove the row's statement (the work); the ties are given (YtbdafijdfpmdiaaDoorTie.lean); close each card by the builder's one call (the guide's Derived/Test/ToyasCard.lean, 'card_holds'). Laid BY PROGRAM, IN A SANDBOX (cutbox-door.mjs). By AI agents, Wed Nov 11 2026. No macro, syntax, notation, axiom, sorry.
-/
import Derived.Test.YtbdafijdfpmdiaaDoorRows
import GoSem.ClaimSeven
namespace Go.Proofs.YtbdafijdfpmdiaaDoor
namespace Rows

/-- THE TIED CARD OF 'chinoiserielaw04.HeadFinds'. -/
def headFindsCard : Claim7 := { stood := { row := headFindsRow, standIns := [], harness := (true, "b52793853f7ad4947f44632153f255ceae379fea1c4dbe3ad42620cfed415225"), looks := false }, kinds := [], alts := [], laidByText := true, laidKinds := [.data, .pinned], laidTests := true, laidLooks := .later }
def HeadFindsCardSaid : Prop := Claim7.holds Tryd.pinned (.plain (OpenSpec.ofChange headFindsSpec)) headFindsCard

/-- THE TIED CARD OF 'chinoiserielaw04.HeadSets'. -/
def headSetsCard : Claim7 := { stood := { row := headSetsRow, standIns := [], harness := (true, "b52793853f7ad4947f44632153f255ceae379fea1c4dbe3ad42620cfed415225"), looks := false }, kinds := [], alts := [], laidByText := true, laidKinds := [.data, .pinned], laidTests := true, laidLooks := .later }
def HeadSetsCardSaid : Prop := Claim7.holds Tryd.pinned (.plain (OpenSpec.ofChange headSetsSpec)) headSetsCard

/-- THE TIED CARD OF 'chinoiserielaw04.HeadLines'. -/
def headLinesCard : Claim7 := { stood := { row := headLinesRow, standIns := [], harness := (true, "b52793853f7ad4947f44632153f255ceae379fea1c4dbe3ad42620cfed415225"), looks := false }, kinds := [], alts := [], laidByText := true, laidKinds := [.data, .pinned], laidTests := true, laidLooks := .later }
def HeadLinesCardSaid : Prop := Claim7.holds Tryd.pinned (.plain (OpenSpec.ofChange headLinesSpec)) headLinesCard

/-- THE TIED CARD OF 'chinoiserielaw04.HeadBack'. -/
def headBackCard : Claim7 := { stood := { row := headBackRow, standIns := [], harness := (true, "b52793853f7ad4947f44632153f255ceae379fea1c4dbe3ad42620cfed415225"), looks := false }, kinds := [], alts := [], laidByText := true, laidKinds := [.data, .pinned], laidTests := true, laidLooks := .later }
def HeadBackCardSaid : Prop := Claim7.holds Tryd.pinned (.plain (OpenSpec.ofChange headBackSpec)) headBackCard

/-- THE TIED CARD OF 'chinoiserielaw04.HeadOthers'. -/
def headOthersCard : Claim7 := { stood := { row := headOthersRow, standIns := [], harness := (true, "b52793853f7ad4947f44632153f255ceae379fea1c4dbe3ad42620cfed415225"), looks := false }, kinds := [], alts := [], laidByText := true, laidKinds := [.data, .pinned], laidTests := true, laidLooks := .later }
def HeadOthersCardSaid : Prop := Claim7.holds Tryd.pinned (.plain (OpenSpec.ofChange headOthersSpec)) headOthersCard

/-- THE TIED CARD OF 'chinoiserielaw04.HeadStrips'. -/
def headStripsCard : Claim7 := { stood := { row := headStripsRow, standIns := [], harness := (true, "b52793853f7ad4947f44632153f255ceae379fea1c4dbe3ad42620cfed415225"), looks := false }, kinds := [], alts := [], laidByText := true, laidKinds := [.data, .pinned], laidTests := true, laidLooks := .later }
def HeadStripsCardSaid : Prop := Claim7.holds Tryd.pinned (.plain (OpenSpec.ofChange headStripsSpec)) headStripsCard

/-- THE TIED CARD OF 'chinoiserielaw04.HeadNames'. -/
def headNamesCard : Claim7 := { stood := { row := headNamesRow, standIns := [], harness := (true, "b52793853f7ad4947f44632153f255ceae379fea1c4dbe3ad42620cfed415225"), looks := false }, kinds := [], alts := [], laidByText := true, laidKinds := [.data, .pinned], laidTests := true, laidLooks := .later }
def HeadNamesCardSaid : Prop := Claim7.holds Tryd.pinned (.plain (OpenSpec.ofChange headNamesSpec)) headNamesCard

/-- THE SECOND FORM's CARD OF 'chinoiserielaw04.HeadFinds'. -/
def headFindsUptoCard : Claim7 := { stood := { row := headFindsUptoRow, standIns := [], harness := (true, "b52793853f7ad4947f44632153f255ceae379fea1c4dbe3ad42620cfed415225"), looks := false }, kinds := [], alts := [], laidByText := true, laidKinds := [.data, .pinned], laidTests := true, laidLooks := .later }
def HeadFindsUptoCardSaid : Prop := Claim7.holds Tryd.pinned (.plain (OpenSpec.upto headFindsSpec)) headFindsUptoCard

/-- THE SECOND FORM's CARD OF 'chinoiserielaw04.HeadSets'. -/
def headSetsUptoCard : Claim7 := { stood := { row := headSetsUptoRow, standIns := [], harness := (true, "b52793853f7ad4947f44632153f255ceae379fea1c4dbe3ad42620cfed415225"), looks := false }, kinds := [], alts := [], laidByText := true, laidKinds := [.data, .pinned], laidTests := true, laidLooks := .later }
def HeadSetsUptoCardSaid : Prop := Claim7.holds Tryd.pinned (.plain (OpenSpec.upto headSetsSpec)) headSetsUptoCard

/-- THE SECOND FORM's CARD OF 'chinoiserielaw04.HeadLines'. -/
def headLinesUptoCard : Claim7 := { stood := { row := headLinesUptoRow, standIns := [], harness := (true, "b52793853f7ad4947f44632153f255ceae379fea1c4dbe3ad42620cfed415225"), looks := false }, kinds := [], alts := [], laidByText := true, laidKinds := [.data, .pinned], laidTests := true, laidLooks := .later }
def HeadLinesUptoCardSaid : Prop := Claim7.holds Tryd.pinned (.plain (OpenSpec.upto headLinesSpec)) headLinesUptoCard

/-- THE SECOND FORM's CARD OF 'chinoiserielaw04.HeadBack'. -/
def headBackUptoCard : Claim7 := { stood := { row := headBackUptoRow, standIns := [], harness := (true, "b52793853f7ad4947f44632153f255ceae379fea1c4dbe3ad42620cfed415225"), looks := false }, kinds := [], alts := [], laidByText := true, laidKinds := [.data, .pinned], laidTests := true, laidLooks := .later }
def HeadBackUptoCardSaid : Prop := Claim7.holds Tryd.pinned (.plain (OpenSpec.upto headBackSpec)) headBackUptoCard

/-- THE SECOND FORM's CARD OF 'chinoiserielaw04.HeadOthers'. -/
def headOthersUptoCard : Claim7 := { stood := { row := headOthersUptoRow, standIns := [], harness := (true, "b52793853f7ad4947f44632153f255ceae379fea1c4dbe3ad42620cfed415225"), looks := false }, kinds := [], alts := [], laidByText := true, laidKinds := [.data, .pinned], laidTests := true, laidLooks := .later }
def HeadOthersUptoCardSaid : Prop := Claim7.holds Tryd.pinned (.plain (OpenSpec.upto headOthersSpec)) headOthersUptoCard

/-- THE SECOND FORM's CARD OF 'chinoiserielaw04.HeadStrips'. -/
def headStripsUptoCard : Claim7 := { stood := { row := headStripsUptoRow, standIns := [], harness := (true, "b52793853f7ad4947f44632153f255ceae379fea1c4dbe3ad42620cfed415225"), looks := false }, kinds := [], alts := [], laidByText := true, laidKinds := [.data, .pinned], laidTests := true, laidLooks := .later }
def HeadStripsUptoCardSaid : Prop := Claim7.holds Tryd.pinned (.plain (OpenSpec.upto headStripsSpec)) headStripsUptoCard

/-- THE SECOND FORM's CARD OF 'chinoiserielaw04.HeadNames'. -/
def headNamesUptoCard : Claim7 := { stood := { row := headNamesUptoRow, standIns := [], harness := (true, "b52793853f7ad4947f44632153f255ceae379fea1c4dbe3ad42620cfed415225"), looks := false }, kinds := [], alts := [], laidByText := true, laidKinds := [.data, .pinned], laidTests := true, laidLooks := .later }
def HeadNamesUptoCardSaid : Prop := Claim7.holds Tryd.pinned (.plain (OpenSpec.upto headNamesSpec)) headNamesUptoCard
end Rows
end Go.Proofs.YtbdafijdfpmdiaaDoor
