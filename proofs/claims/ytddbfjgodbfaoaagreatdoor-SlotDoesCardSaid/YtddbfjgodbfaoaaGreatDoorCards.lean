/-
  DERIVED. GIVEN WITH THE SEED: THE CARDS: each row of YtddbfjgodbfaoaaGreatDoorRows.lean that lists a variable, with what it lists TIED to the program's text (the seventh form; the later family's looks); each row that meets fmt, with fmt's text TOLD by the authors' own Lean function (tested against real Go, not proved from fmt's source: count such statements apart). THE CARD IS WHAT COUNTS. Prove the row's statement (the work); the ties are given (YtddbfjgodbfaoaaGreatDoorTie.lean); close each card by the builder's one call (the guide's Derived/Test/ToyasCard.lean, 'card_holds'). Laid BY PROGRAM, IN A SANDBOX (cutbox-door.mjs). By AI agents, Wed Nov 11 2026. No macro, syntax, notation, axiom, sorry.
-/
import Derived.Test.YtddbfjgodbfaoaaGreatDoorRows
import GoSem.ClaimSeven
namespace Go.Proofs.YtddbfjgodbfaoaaGreatDoor
namespace Rows

/-- THE TIED CARD OF 'castellanlaw10.SlotDoes'. -/
def slotDoesCard : Claim7 := { stood := { row := slotDoesRow, standIns := [], harness := (true, "da1c5a93998b6f02255e9b33770e866f93d0abd298fa9a6af9007610d39c4581"), looks := true }, kinds := [], alts := [], laidByText := true, laidKinds := [.handle], laidTests := true, laidLooks := .later }
def SlotDoesCardSaid : Prop := Claim7.holds Tryz.pinned (.plain (OpenSpec.ofChange slotDoesSpec)) slotDoesCard

/-- THE TIED CARD OF 'castellanlaw09.ChainOpens'. -/
def chainOpensCard : Claim7 := { stood := { row := chainOpensRow, standIns := [], harness := (true, "da1c5a93998b6f02255e9b33770e866f93d0abd298fa9a6af9007610d39c4581"), looks := true }, kinds := [], alts := [], laidByText := true, laidKinds := [.handle], laidTests := true, laidLooks := .later }
def ChainOpensCardSaid : Prop := Claim7.holds Tryz.pinned (.plain (OpenSpec.ofChange chainOpensSpec)) chainOpensCard

/-- THE TIED CARD OF 'castellanlaw09.ChainDoes'. -/
def chainDoesCard : Claim7 := { stood := { row := chainDoesRow, standIns := [], harness := (true, "da1c5a93998b6f02255e9b33770e866f93d0abd298fa9a6af9007610d39c4581"), looks := true }, kinds := [], alts := [], laidByText := true, laidKinds := [.handle], laidTests := true, laidLooks := .later }
def ChainDoesCardSaid : Prop := Claim7.holds Tryz.pinned (.plain (OpenSpec.ofChange chainDoesSpec)) chainDoesCard

/-- THE SECOND FORM's CARD OF 'castellanlaw10.SlotDoes'. -/
def slotDoesUptoCard : Claim7 := { stood := { row := slotDoesUptoRow, standIns := [], harness := (true, "da1c5a93998b6f02255e9b33770e866f93d0abd298fa9a6af9007610d39c4581"), looks := true }, kinds := [], alts := [], laidByText := true, laidKinds := [.handle], laidTests := true, laidLooks := .later }
def SlotDoesUptoCardSaid : Prop := Claim7.holds Tryz.pinned (.plain (OpenSpec.upto slotDoesSpec)) slotDoesUptoCard

/-- THE SECOND FORM's CARD OF 'castellanlaw09.ChainOpens'. -/
def chainOpensUptoCard : Claim7 := { stood := { row := chainOpensUptoRow, standIns := [], harness := (true, "da1c5a93998b6f02255e9b33770e866f93d0abd298fa9a6af9007610d39c4581"), looks := true }, kinds := [], alts := [], laidByText := true, laidKinds := [.handle], laidTests := true, laidLooks := .later }
def ChainOpensUptoCardSaid : Prop := Claim7.holds Tryz.pinned (.plain (OpenSpec.upto chainOpensSpec)) chainOpensUptoCard

/-- THE SECOND FORM's CARD OF 'castellanlaw09.ChainDoes'. -/
def chainDoesUptoCard : Claim7 := { stood := { row := chainDoesUptoRow, standIns := [], harness := (true, "da1c5a93998b6f02255e9b33770e866f93d0abd298fa9a6af9007610d39c4581"), looks := true }, kinds := [], alts := [], laidByText := true, laidKinds := [.handle], laidTests := true, laidLooks := .later }
def ChainDoesUptoCardSaid : Prop := Claim7.holds Tryz.pinned (.plain (OpenSpec.upto chainDoesSpec)) chainDoesUptoCard
end Rows
end Go.Proofs.YtddbfjgodbfaoaaGreatDoor
