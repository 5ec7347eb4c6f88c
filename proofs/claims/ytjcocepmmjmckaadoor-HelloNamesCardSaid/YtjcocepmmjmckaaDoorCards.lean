/-
  DERIVED. GIVEN WITH THE SEED: THE CARDS: each row of YtjcocepmmjmckaaDoorRows.lean that lists a variable, with what it lists TIED to the program's text (the seventh form; the later family's looks); each row that meets fmt, with fmt's text TOLD by the authors' own Lean function (tested against real Go, not proved from fmt's source: count such statements apart). THE CARD IS WHAT COUNTS. Prove the row's statement (the work); the ties are given (YtjcocepmmjmckaaDoorTie.lean); close each card by the builder's one call (the guide's Derived/Test/ToyasCard.lean, 'card_holds'). Laid BY PROGRAM, IN A SANDBOX (cutbox-door.mjs). By AI agents, Wed Nov 11 2026. No macro, syntax, notation, axiom, sorry.
-/
import Derived.Test.YtjcocepmmjmckaaDoorRows
import GoSem.ClaimSeven
namespace Go.Proofs.YtjcocepmmjmckaaDoor
namespace Rows

/-- THE TIED CARD OF 'chinoiserielaw07.HelloNames'. -/
def helloNamesCard : Claim7 := { stood := { row := helloNamesRow, standIns := [], harness := (true, "8bb8cb183504005fe8130f7d9fe3cfbea586456a685b853c97ad32564f950240"), looks := true }, kinds := [], alts := [], laidByText := true, laidKinds := [.data, .data, .data, .sentinel, .sentinel], laidTests := true, laidLooks := .later }
def HelloNamesCardSaid : Prop := Claim7.holds Tryd.pinned (.plain (OpenSpec.ofChange helloNamesSpec)) helloNamesCard

/-- THE TIED CARD OF 'chinoiserielaw07.HelloParses'. -/
def helloParsesCard : Claim7 := { stood := { row := helloParsesRow, standIns := [], harness := (true, "8bb8cb183504005fe8130f7d9fe3cfbea586456a685b853c97ad32564f950240"), looks := true }, kinds := [], alts := [], laidByText := true, laidKinds := [.data, .data, .data, .sentinel, .sentinel], laidTests := true, laidLooks := .later }
def HelloParsesCardSaid : Prop := Claim7.holds Tryd.pinned (.plain (OpenSpec.ofChange helloParsesSpec)) helloParsesCard

/-- THE TIED CARD OF 'chinoiserielaw07.HelloBack'. -/
def helloBackCard : Claim7 := { stood := { row := helloBackRow, standIns := [], harness := (true, "8bb8cb183504005fe8130f7d9fe3cfbea586456a685b853c97ad32564f950240"), looks := true }, kinds := [], alts := [], laidByText := true, laidKinds := [.data, .data, .data, .sentinel, .sentinel], laidTests := true, laidLooks := .later }
def HelloBackCardSaid : Prop := Claim7.holds Tryd.pinned (.plain (OpenSpec.ofChange helloBackSpec)) helloBackCard

/-- THE TIED CARD OF 'chinoiserielaw07.HelloAgain'. -/
def helloAgainCard : Claim7 := { stood := { row := helloAgainRow, standIns := [], harness := (true, "8bb8cb183504005fe8130f7d9fe3cfbea586456a685b853c97ad32564f950240"), looks := true }, kinds := [], alts := [], laidByText := true, laidKinds := [.data, .data, .data, .sentinel, .sentinel], laidTests := true, laidLooks := .later }
def HelloAgainCardSaid : Prop := Claim7.holds Tryd.pinned (.plain (OpenSpec.ofChange helloAgainSpec)) helloAgainCard

/-- THE TIED CARD OF 'chinoiserielaw07.HelloCut'. -/
def helloCutCard : Claim7 := { stood := { row := helloCutRow, standIns := [], harness := (true, "8bb8cb183504005fe8130f7d9fe3cfbea586456a685b853c97ad32564f950240"), looks := true }, kinds := [], alts := [], laidByText := true, laidKinds := [.data, .data, .data, .sentinel, .sentinel], laidTests := true, laidLooks := .later }
def HelloCutCardSaid : Prop := Claim7.holds Tryd.pinned (.plain (OpenSpec.ofChange helloCutSpec)) helloCutCard

/-- THE SECOND FORM's CARD OF 'chinoiserielaw07.HelloNames'. -/
def helloNamesUptoCard : Claim7 := { stood := { row := helloNamesUptoRow, standIns := [], harness := (true, "8bb8cb183504005fe8130f7d9fe3cfbea586456a685b853c97ad32564f950240"), looks := true }, kinds := [], alts := [], laidByText := true, laidKinds := [.data, .data, .data, .sentinel, .sentinel], laidTests := true, laidLooks := .later }
def HelloNamesUptoCardSaid : Prop := Claim7.holds Tryd.pinned (.plain (OpenSpec.upto helloNamesSpec)) helloNamesUptoCard

/-- THE SECOND FORM's CARD OF 'chinoiserielaw07.HelloParses'. -/
def helloParsesUptoCard : Claim7 := { stood := { row := helloParsesUptoRow, standIns := [], harness := (true, "8bb8cb183504005fe8130f7d9fe3cfbea586456a685b853c97ad32564f950240"), looks := true }, kinds := [], alts := [], laidByText := true, laidKinds := [.data, .data, .data, .sentinel, .sentinel], laidTests := true, laidLooks := .later }
def HelloParsesUptoCardSaid : Prop := Claim7.holds Tryd.pinned (.plain (OpenSpec.upto helloParsesSpec)) helloParsesUptoCard

/-- THE SECOND FORM's CARD OF 'chinoiserielaw07.HelloBack'. -/
def helloBackUptoCard : Claim7 := { stood := { row := helloBackUptoRow, standIns := [], harness := (true, "8bb8cb183504005fe8130f7d9fe3cfbea586456a685b853c97ad32564f950240"), looks := true }, kinds := [], alts := [], laidByText := true, laidKinds := [.data, .data, .data, .sentinel, .sentinel], laidTests := true, laidLooks := .later }
def HelloBackUptoCardSaid : Prop := Claim7.holds Tryd.pinned (.plain (OpenSpec.upto helloBackSpec)) helloBackUptoCard

/-- THE SECOND FORM's CARD OF 'chinoiserielaw07.HelloAgain'. -/
def helloAgainUptoCard : Claim7 := { stood := { row := helloAgainUptoRow, standIns := [], harness := (true, "8bb8cb183504005fe8130f7d9fe3cfbea586456a685b853c97ad32564f950240"), looks := true }, kinds := [], alts := [], laidByText := true, laidKinds := [.data, .data, .data, .sentinel, .sentinel], laidTests := true, laidLooks := .later }
def HelloAgainUptoCardSaid : Prop := Claim7.holds Tryd.pinned (.plain (OpenSpec.upto helloAgainSpec)) helloAgainUptoCard

/-- THE SECOND FORM's CARD OF 'chinoiserielaw07.HelloCut'. -/
def helloCutUptoCard : Claim7 := { stood := { row := helloCutUptoRow, standIns := [], harness := (true, "8bb8cb183504005fe8130f7d9fe3cfbea586456a685b853c97ad32564f950240"), looks := true }, kinds := [], alts := [], laidByText := true, laidKinds := [.data, .data, .data, .sentinel, .sentinel], laidTests := true, laidLooks := .later }
def HelloCutUptoCardSaid : Prop := Claim7.holds Tryd.pinned (.plain (OpenSpec.upto helloCutSpec)) helloCutUptoCard
end Rows
end Go.Proofs.YtjcocepmmjmckaaDoor
