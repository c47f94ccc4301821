/-
  DERIVED. GIVEN WITH THE SEED: THE CARDS: each row of YtddbfjgodbfaoaaDoorRows.lean that lists a variable, with what it lists TIED to the program's text (the seventh form; the later family's looks); each row that meets fmt, with fmt's text TOLD by the authors' own Lean function (tested against real Go, not proved from fmt's source: count such statements apart). THE CARD IS WHAT COUNTS. Prove the row's statement (the work); the ties are given (YtddbfjgodbfaoaaDoorTie.lean); close each card by the builder's one call (the guide's Derived/Test/ToyasCard.lean, 'card_holds'). Laid BY PROGRAM, IN A SANDBOX (cutbox-door.mjs). By AI agents, Wed Nov 11 2026. No macro, syntax, notation, axiom, sorry.
-/
import Derived.Test.YtddbfjgodbfaoaaDoorRows
import GoSem.ClaimSeven
namespace Go.Proofs.YtddbfjgodbfaoaaDoor
namespace Rows

/-- THE TIED CARD OF 'castellanlaw08.BlockDoes'. -/
def blockDoesCard : Claim7 := { stood := { row := blockDoesRow, standIns := [], harness := (true, "c3fc81baa855257402cbc0179af60ab3c03419440fcea4c204e822c83a59097f"), looks := true }, kinds := [], alts := [], laidByText := true, laidKinds := [.handle], laidTests := true, laidLooks := .later }
def BlockDoesCardSaid : Prop := Claim7.holds Tryd.pinned (.plain (OpenSpec.ofChange blockDoesSpec)) blockDoesCard

/-- THE TIED CARD OF 'castellanlaw08.BlockKeeps'. -/
def blockKeepsCard : Claim7 := { stood := { row := blockKeepsRow, standIns := [], harness := (true, "c3fc81baa855257402cbc0179af60ab3c03419440fcea4c204e822c83a59097f"), looks := true }, kinds := [], alts := [], laidByText := true, laidKinds := [.handle], laidTests := true, laidLooks := .later }
def BlockKeepsCardSaid : Prop := Claim7.holds Tryd.pinned (.plain (OpenSpec.ofChange blockKeepsSpec)) blockKeepsCard

/-- THE TIED CARD OF 'castellanlaw08.BlockFull'. -/
def blockFullCard : Claim7 := { stood := { row := blockFullRow, standIns := [], harness := (true, "c3fc81baa855257402cbc0179af60ab3c03419440fcea4c204e822c83a59097f"), looks := true }, kinds := [], alts := [], laidByText := true, laidKinds := [.handle], laidTests := true, laidLooks := .later }
def BlockFullCardSaid : Prop := Claim7.holds Tryd.pinned (.plain (OpenSpec.ofChange blockFullSpec)) blockFullCard

/-- THE SECOND FORM's CARD OF 'castellanlaw08.BlockDoes'. -/
def blockDoesUptoCard : Claim7 := { stood := { row := blockDoesUptoRow, standIns := [], harness := (true, "c3fc81baa855257402cbc0179af60ab3c03419440fcea4c204e822c83a59097f"), looks := true }, kinds := [], alts := [], laidByText := true, laidKinds := [.handle], laidTests := true, laidLooks := .later }
def BlockDoesUptoCardSaid : Prop := Claim7.holds Tryd.pinned (.plain (OpenSpec.upto blockDoesSpec)) blockDoesUptoCard

/-- THE SECOND FORM's CARD OF 'castellanlaw08.BlockKeeps'. -/
def blockKeepsUptoCard : Claim7 := { stood := { row := blockKeepsUptoRow, standIns := [], harness := (true, "c3fc81baa855257402cbc0179af60ab3c03419440fcea4c204e822c83a59097f"), looks := true }, kinds := [], alts := [], laidByText := true, laidKinds := [.handle], laidTests := true, laidLooks := .later }
def BlockKeepsUptoCardSaid : Prop := Claim7.holds Tryd.pinned (.plain (OpenSpec.upto blockKeepsSpec)) blockKeepsUptoCard

/-- THE SECOND FORM's CARD OF 'castellanlaw08.BlockFull'. -/
def blockFullUptoCard : Claim7 := { stood := { row := blockFullUptoRow, standIns := [], harness := (true, "c3fc81baa855257402cbc0179af60ab3c03419440fcea4c204e822c83a59097f"), looks := true }, kinds := [], alts := [], laidByText := true, laidKinds := [.handle], laidTests := true, laidLooks := .later }
def BlockFullUptoCardSaid : Prop := Claim7.holds Tryd.pinned (.plain (OpenSpec.upto blockFullSpec)) blockFullUptoCard
end Rows
end Go.Proofs.YtddbfjgodbfaoaaDoor
