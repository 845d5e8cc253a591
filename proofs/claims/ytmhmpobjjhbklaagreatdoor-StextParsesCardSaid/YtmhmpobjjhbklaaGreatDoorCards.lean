/-
  DERIVED. GIVEN WITH THE SEED: THE CARDS: each row of YtmhmpobjjhbklaaGreatDoorRows.lean that lists a variable, with what it lists TIED to the program's text (the seventh form; the later family's looks); each row that meets fmt, with fmt's text TOLD by the authors' own Lean function (tested against real Go, not proved from fmt's source: count such statements apart). THE CARD IS WHAT COUNTS. Prove the row's statement (the work); the ties are given (YtmhmpobjjhbklaaGreatDoorTie.lean); close each card by the builder's one call (the guide's Derived/Test/ToyasCard.lean, 'card_holds'). Laid BY PROGRAM, IN A SANDBOX (cutbox-door.mjs). By AI agents, Wed Nov 11 2026. No macro, syntax, notation, axiom, sorry.
-/
import Derived.Test.YtmhmpobjjhbklaaGreatDoorRows
import GoSem.ClaimSeven
namespace Go.Proofs.YtmhmpobjjhbklaaGreatDoor
namespace Rows

/-- THE TIED CARD OF 'millwrightlaw40.StextPrints'. -/
def stextPrintsCard : Claim7 := { stood := { row := stextPrintsRow, standIns := [], harness := (true, "ee400b263b56ea29a5107f2788982d4195e1861c06b48946959a5f7ddb365728"), looks := true }, kinds := [], alts := [], laidByText := true, laidKinds := [.data, .data, .data, .data, .sentinel, .sentinel, .listed, .data, .pinned], laidTests := true, laidLooks := .later }
def StextPrintsCardSaid : Prop := Claim7.holds Tryz.pinned (.plain (OpenSpec.ofChange stextPrintsSpec)) stextPrintsCard

/-- THE TIED CARD OF 'millwrightlaw40.StextParses'. -/
def stextParsesCard : Claim7 := { stood := { row := stextParsesRow, standIns := [], harness := (true, "ee400b263b56ea29a5107f2788982d4195e1861c06b48946959a5f7ddb365728"), looks := true }, kinds := [], alts := [], laidByText := true, laidKinds := [.data, .data, .data, .data, .sentinel, .sentinel, .listed, .data, .pinned], laidTests := true, laidLooks := .later }
def StextParsesCardSaid : Prop := Claim7.holds Tryz.pinned (.plain (OpenSpec.ofChange stextParsesSpec)) stextParsesCard

/-- THE TIED CARD OF 'millwrightlaw40.StextBack'. -/
def stextBackCard : Claim7 := { stood := { row := stextBackRow, standIns := [], harness := (true, "ee400b263b56ea29a5107f2788982d4195e1861c06b48946959a5f7ddb365728"), looks := true }, kinds := [], alts := [], laidByText := true, laidKinds := [.data, .data, .data, .data, .sentinel, .sentinel, .listed, .data, .pinned], laidTests := true, laidLooks := .later }
def StextBackCardSaid : Prop := Claim7.holds Tryz.pinned (.plain (OpenSpec.ofChange stextBackSpec)) stextBackCard

/-- THE TIED CARD OF 'millwrightlaw40.StextAgain'. -/
def stextAgainCard : Claim7 := { stood := { row := stextAgainRow, standIns := [], harness := (true, "ee400b263b56ea29a5107f2788982d4195e1861c06b48946959a5f7ddb365728"), looks := true }, kinds := [], alts := [], laidByText := true, laidKinds := [.data, .data, .data, .data, .sentinel, .sentinel, .listed, .data, .pinned], laidTests := true, laidLooks := .later }
def StextAgainCardSaid : Prop := Claim7.holds Tryz.pinned (.plain (OpenSpec.ofChange stextAgainSpec)) stextAgainCard

/-- THE SECOND FORM's CARD OF 'millwrightlaw40.StextPrints'. -/
def stextPrintsUptoCard : Claim7 := { stood := { row := stextPrintsUptoRow, standIns := [], harness := (true, "ee400b263b56ea29a5107f2788982d4195e1861c06b48946959a5f7ddb365728"), looks := true }, kinds := [], alts := [], laidByText := true, laidKinds := [.data, .data, .data, .data, .sentinel, .sentinel, .listed, .data, .pinned], laidTests := true, laidLooks := .later }
def StextPrintsUptoCardSaid : Prop := Claim7.holds Tryz.pinned (.plain (OpenSpec.upto stextPrintsSpec)) stextPrintsUptoCard

/-- THE SECOND FORM's CARD OF 'millwrightlaw40.StextParses'. -/
def stextParsesUptoCard : Claim7 := { stood := { row := stextParsesUptoRow, standIns := [], harness := (true, "ee400b263b56ea29a5107f2788982d4195e1861c06b48946959a5f7ddb365728"), looks := true }, kinds := [], alts := [], laidByText := true, laidKinds := [.data, .data, .data, .data, .sentinel, .sentinel, .listed, .data, .pinned], laidTests := true, laidLooks := .later }
def StextParsesUptoCardSaid : Prop := Claim7.holds Tryz.pinned (.plain (OpenSpec.upto stextParsesSpec)) stextParsesUptoCard

/-- THE SECOND FORM's CARD OF 'millwrightlaw40.StextBack'. -/
def stextBackUptoCard : Claim7 := { stood := { row := stextBackUptoRow, standIns := [], harness := (true, "ee400b263b56ea29a5107f2788982d4195e1861c06b48946959a5f7ddb365728"), looks := true }, kinds := [], alts := [], laidByText := true, laidKinds := [.data, .data, .data, .data, .sentinel, .sentinel, .listed, .data, .pinned], laidTests := true, laidLooks := .later }
def StextBackUptoCardSaid : Prop := Claim7.holds Tryz.pinned (.plain (OpenSpec.upto stextBackSpec)) stextBackUptoCard

/-- THE SECOND FORM's CARD OF 'millwrightlaw40.StextAgain'. -/
def stextAgainUptoCard : Claim7 := { stood := { row := stextAgainUptoRow, standIns := [], harness := (true, "ee400b263b56ea29a5107f2788982d4195e1861c06b48946959a5f7ddb365728"), looks := true }, kinds := [], alts := [], laidByText := true, laidKinds := [.data, .data, .data, .data, .sentinel, .sentinel, .listed, .data, .pinned], laidTests := true, laidLooks := .later }
def StextAgainUptoCardSaid : Prop := Claim7.holds Tryz.pinned (.plain (OpenSpec.upto stextAgainSpec)) stextAgainUptoCard
end Rows
end Go.Proofs.YtmhmpobjjhbklaaGreatDoor
