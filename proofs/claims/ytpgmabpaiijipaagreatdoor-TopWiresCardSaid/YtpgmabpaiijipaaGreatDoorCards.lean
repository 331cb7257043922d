/-
  DERIVED. GIVEN WITH THE SEED: THE CARDS: each row of YtpgmabpaiijipaaGreatDoorRows.lean that lists a variable, with what it lists TIED to the program's text (the seventh form; the later family's looks); each row that meets fmt, with fmt's text TOLD by the authors' own Lean function (tested against real Go, not proved from fmt's source: count such statements apart). THE CARD IS WHAT COUNTS. Prove the row's statement (the work); the ties are given (YtpgmabpaiijipaaGreatDoorTie.lean); close each card by the builder's one call (the guide's Derived/Test/ToyasCard.lean, 'card_holds'). Laid BY PROGRAM, IN A SANDBOX (cutbox-door.mjs). By AI agents, Wed Nov 11 2026. No macro, syntax, notation, axiom, sorry.
-/
import Derived.Test.YtpgmabpaiijipaaGreatDoorRows
import GoSem.ClaimSeven
namespace Go.Proofs.YtpgmabpaiijipaaGreatDoor
namespace Rows

/-- THE TIED CARD OF 'squelchtop.TopBudget'. -/
def topBudgetCard : Claim7 := { stood := { row := topBudgetRow, standIns := [], harness := (true, "d432387f4b80547cb28bf7f7205f4742d65ed9924ab9dc44752cb90f71188789"), looks := true }, kinds := [], alts := [], laidByText := true, laidKinds := [.data, .data, .data, .data, .pinned], laidTests := true, laidLooks := .later }
def TopBudgetCardSaid : Prop := Claim7.holds Tryz.pinned (.plain (OpenSpec.ofChange topBudgetSpec)) topBudgetCard

/-- THE TIED CARD OF 'squelchtop.TopWires'. -/
def topWiresCard : Claim7 := { stood := { row := topWiresRow, standIns := [], harness := (true, "d432387f4b80547cb28bf7f7205f4742d65ed9924ab9dc44752cb90f71188789"), looks := true }, kinds := [], alts := [], laidByText := true, laidKinds := [.data, .data, .data, .data, .pinned], laidTests := true, laidLooks := .later }
def TopWiresCardSaid : Prop := Claim7.holds Tryz.pinned (.plain (OpenSpec.ofChange topWiresSpec)) topWiresCard

/-- THE SECOND FORM's CARD OF 'squelchtop.TopBudget'. -/
def topBudgetUptoCard : Claim7 := { stood := { row := topBudgetUptoRow, standIns := [], harness := (true, "d432387f4b80547cb28bf7f7205f4742d65ed9924ab9dc44752cb90f71188789"), looks := true }, kinds := [], alts := [], laidByText := true, laidKinds := [.data, .data, .data, .data, .pinned], laidTests := true, laidLooks := .later }
def TopBudgetUptoCardSaid : Prop := Claim7.holds Tryz.pinned (.plain (OpenSpec.upto topBudgetSpec)) topBudgetUptoCard

/-- THE SECOND FORM's CARD OF 'squelchtop.TopWires'. -/
def topWiresUptoCard : Claim7 := { stood := { row := topWiresUptoRow, standIns := [], harness := (true, "d432387f4b80547cb28bf7f7205f4742d65ed9924ab9dc44752cb90f71188789"), looks := true }, kinds := [], alts := [], laidByText := true, laidKinds := [.data, .data, .data, .data, .pinned], laidTests := true, laidLooks := .later }
def TopWiresUptoCardSaid : Prop := Claim7.holds Tryz.pinned (.plain (OpenSpec.upto topWiresSpec)) topWiresUptoCard
end Rows
end Go.Proofs.YtpgmabpaiijipaaGreatDoor
