/-
  DERIVED. GIVEN WITH THE SEED: THE CARDS: each row of YtipmnecfbbjahaaDoorRows.lean that lists a variable, with what it lists TIED to the program's text (the seventh form; the later family's looks); each row that meets fmt, with fmt's text TOLD by the authors' own Lean function (tested against real Go, not proved from fmt's source: count such statements apart). THE CARD IS WHAT COUNTS. Prove the row's statement (the work); the ties are given (YtipmnecfbbjahaaDoorTie.lean); close each card by the builder's one call (the guide's Derived/Test/ToyasCard.lean, 'card_holds'). Laid BY PROGRAM, IN A SANDBOX (cutbox-door.mjs). By AI agents, Wed Nov 11 2026. No macro, syntax, notation, axiom, sorry.
-/
import Derived.Test.YtipmnecfbbjahaaDoorRows
import GoSem.ClaimSeven
namespace Go.Proofs.YtipmnecfbbjahaaDoor
namespace Rows

/-- THE TIED CARD OF 'chinoiserielaw06.HostNorms'. -/
def hostNormsCard : Claim7 := { stood := { row := hostNormsRow, standIns := [], harness := (true, "7db2d9a37240253c7e5ca9365547ff6ffa1de11719791cf85ef6045ed1659813"), looks := true }, kinds := [], alts := [], laidByText := true, laidKinds := [.data, .data, .data, .sentinel, .sentinel], laidTests := true, laidLooks := .later }
def HostNormsCardSaid : Prop := Claim7.holds Tryd.pinned (.plain (OpenSpec.ofChange hostNormsSpec)) hostNormsCard

/-- THE TIED CARD OF 'chinoiserielaw06.HostWrites'. -/
def hostWritesCard : Claim7 := { stood := { row := hostWritesRow, standIns := [], harness := (true, "7db2d9a37240253c7e5ca9365547ff6ffa1de11719791cf85ef6045ed1659813"), looks := true }, kinds := [], alts := [], laidByText := true, laidKinds := [.data, .data, .data, .sentinel, .sentinel], laidTests := true, laidLooks := .later }
def HostWritesCardSaid : Prop := Claim7.holds Tryd.pinned (.plain (OpenSpec.ofChange hostWritesSpec)) hostWritesCard

/-- THE TIED CARD OF 'chinoiserielaw06.HostBack'. -/
def hostBackCard : Claim7 := { stood := { row := hostBackRow, standIns := [], harness := (true, "7db2d9a37240253c7e5ca9365547ff6ffa1de11719791cf85ef6045ed1659813"), looks := true }, kinds := [], alts := [], laidByText := true, laidKinds := [.data, .data, .data, .sentinel, .sentinel], laidTests := true, laidLooks := .later }
def HostBackCardSaid : Prop := Claim7.holds Tryd.pinned (.plain (OpenSpec.ofChange hostBackSpec)) hostBackCard

/-- THE TIED CARD OF 'chinoiserielaw06.HostOnce'. -/
def hostOnceCard : Claim7 := { stood := { row := hostOnceRow, standIns := [], harness := (true, "7db2d9a37240253c7e5ca9365547ff6ffa1de11719791cf85ef6045ed1659813"), looks := true }, kinds := [], alts := [], laidByText := true, laidKinds := [.data, .data, .data, .sentinel, .sentinel], laidTests := true, laidLooks := .later }
def HostOnceCardSaid : Prop := Claim7.holds Tryd.pinned (.plain (OpenSpec.ofChange hostOnceSpec)) hostOnceCard

/-- THE TIED CARD OF 'chinoiserielaw06.HostWild'. -/
def hostWildCard : Claim7 := { stood := { row := hostWildRow, standIns := [], harness := (true, "7db2d9a37240253c7e5ca9365547ff6ffa1de11719791cf85ef6045ed1659813"), looks := true }, kinds := [], alts := [], laidByText := true, laidKinds := [.data, .data, .data, .sentinel, .sentinel], laidTests := true, laidLooks := .later }
def HostWildCardSaid : Prop := Claim7.holds Tryd.pinned (.plain (OpenSpec.ofChange hostWildSpec)) hostWildCard

/-- THE TIED CARD OF 'chinoiserielaw06.HostBytes'. -/
def hostBytesCard : Claim7 := { stood := { row := hostBytesRow, standIns := [], harness := (true, "7db2d9a37240253c7e5ca9365547ff6ffa1de11719791cf85ef6045ed1659813"), looks := true }, kinds := [], alts := [], laidByText := true, laidKinds := [.data, .data, .data, .sentinel, .sentinel], laidTests := true, laidLooks := .later }
def HostBytesCardSaid : Prop := Claim7.holds Tryd.pinned (.plain (OpenSpec.ofChange hostBytesSpec)) hostBytesCard

/-- THE TIED CARD OF 'chinoiserielaw06.HostKnown'. -/
def hostKnownCard : Claim7 := { stood := { row := hostKnownRow, standIns := [], harness := (true, "7db2d9a37240253c7e5ca9365547ff6ffa1de11719791cf85ef6045ed1659813"), looks := true }, kinds := [], alts := [], laidByText := true, laidKinds := [.data, .data, .data, .sentinel, .sentinel], laidTests := true, laidLooks := .later }
def HostKnownCardSaid : Prop := Claim7.holds Tryd.pinned (.plain (OpenSpec.ofChange hostKnownSpec)) hostKnownCard

/-- THE SECOND FORM's CARD OF 'chinoiserielaw06.HostNorms'. -/
def hostNormsUptoCard : Claim7 := { stood := { row := hostNormsUptoRow, standIns := [], harness := (true, "7db2d9a37240253c7e5ca9365547ff6ffa1de11719791cf85ef6045ed1659813"), looks := true }, kinds := [], alts := [], laidByText := true, laidKinds := [.data, .data, .data, .sentinel, .sentinel], laidTests := true, laidLooks := .later }
def HostNormsUptoCardSaid : Prop := Claim7.holds Tryd.pinned (.plain (OpenSpec.upto hostNormsSpec)) hostNormsUptoCard

/-- THE SECOND FORM's CARD OF 'chinoiserielaw06.HostWrites'. -/
def hostWritesUptoCard : Claim7 := { stood := { row := hostWritesUptoRow, standIns := [], harness := (true, "7db2d9a37240253c7e5ca9365547ff6ffa1de11719791cf85ef6045ed1659813"), looks := true }, kinds := [], alts := [], laidByText := true, laidKinds := [.data, .data, .data, .sentinel, .sentinel], laidTests := true, laidLooks := .later }
def HostWritesUptoCardSaid : Prop := Claim7.holds Tryd.pinned (.plain (OpenSpec.upto hostWritesSpec)) hostWritesUptoCard

/-- THE SECOND FORM's CARD OF 'chinoiserielaw06.HostBack'. -/
def hostBackUptoCard : Claim7 := { stood := { row := hostBackUptoRow, standIns := [], harness := (true, "7db2d9a37240253c7e5ca9365547ff6ffa1de11719791cf85ef6045ed1659813"), looks := true }, kinds := [], alts := [], laidByText := true, laidKinds := [.data, .data, .data, .sentinel, .sentinel], laidTests := true, laidLooks := .later }
def HostBackUptoCardSaid : Prop := Claim7.holds Tryd.pinned (.plain (OpenSpec.upto hostBackSpec)) hostBackUptoCard

/-- THE SECOND FORM's CARD OF 'chinoiserielaw06.HostOnce'. -/
def hostOnceUptoCard : Claim7 := { stood := { row := hostOnceUptoRow, standIns := [], harness := (true, "7db2d9a37240253c7e5ca9365547ff6ffa1de11719791cf85ef6045ed1659813"), looks := true }, kinds := [], alts := [], laidByText := true, laidKinds := [.data, .data, .data, .sentinel, .sentinel], laidTests := true, laidLooks := .later }
def HostOnceUptoCardSaid : Prop := Claim7.holds Tryd.pinned (.plain (OpenSpec.upto hostOnceSpec)) hostOnceUptoCard

/-- THE SECOND FORM's CARD OF 'chinoiserielaw06.HostWild'. -/
def hostWildUptoCard : Claim7 := { stood := { row := hostWildUptoRow, standIns := [], harness := (true, "7db2d9a37240253c7e5ca9365547ff6ffa1de11719791cf85ef6045ed1659813"), looks := true }, kinds := [], alts := [], laidByText := true, laidKinds := [.data, .data, .data, .sentinel, .sentinel], laidTests := true, laidLooks := .later }
def HostWildUptoCardSaid : Prop := Claim7.holds Tryd.pinned (.plain (OpenSpec.upto hostWildSpec)) hostWildUptoCard

/-- THE SECOND FORM's CARD OF 'chinoiserielaw06.HostBytes'. -/
def hostBytesUptoCard : Claim7 := { stood := { row := hostBytesUptoRow, standIns := [], harness := (true, "7db2d9a37240253c7e5ca9365547ff6ffa1de11719791cf85ef6045ed1659813"), looks := true }, kinds := [], alts := [], laidByText := true, laidKinds := [.data, .data, .data, .sentinel, .sentinel], laidTests := true, laidLooks := .later }
def HostBytesUptoCardSaid : Prop := Claim7.holds Tryd.pinned (.plain (OpenSpec.upto hostBytesSpec)) hostBytesUptoCard

/-- THE SECOND FORM's CARD OF 'chinoiserielaw06.HostKnown'. -/
def hostKnownUptoCard : Claim7 := { stood := { row := hostKnownUptoRow, standIns := [], harness := (true, "7db2d9a37240253c7e5ca9365547ff6ffa1de11719791cf85ef6045ed1659813"), looks := true }, kinds := [], alts := [], laidByText := true, laidKinds := [.data, .data, .data, .sentinel, .sentinel], laidTests := true, laidLooks := .later }
def HostKnownUptoCardSaid : Prop := Claim7.holds Tryd.pinned (.plain (OpenSpec.upto hostKnownSpec)) hostKnownUptoCard
end Rows
end Go.Proofs.YtipmnecfbbjahaaDoor
