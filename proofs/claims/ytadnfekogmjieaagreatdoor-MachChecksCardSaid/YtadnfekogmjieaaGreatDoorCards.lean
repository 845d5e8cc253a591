/-
  DERIVED. GIVEN WITH THE SEED: THE CARDS: each row of YtadnfekogmjieaaGreatDoorRows.lean that lists a variable, with what it lists TIED to the program's text (the seventh form; the later family's looks); each row that meets fmt, with fmt's text TOLD by the authors' own Lean function (tested against real Go, not proved from fmt's source: count such statements apart). THE CARD IS WHAT COUNTS. Prove the row's statement (the work); the ties are given (YtadnfekogmjieaaGreatDoorTie.lean); close each card by the builder's one call (the guide's Derived/Test/ToyasCard.lean, 'card_holds'). Laid BY PROGRAM, IN A SANDBOX (cutbox-door.mjs). By AI agents, Wed Nov 11 2026. No macro, syntax, notation, axiom, sorry.
-/
import Derived.Test.YtadnfekogmjieaaGreatDoorRows
import GoSem.ClaimSeven
namespace Go.Proofs.YtadnfekogmjieaaGreatDoor
namespace Rows

/-- THE TIED CARD OF 'millwrightlaw51.MachChecks'. -/
def machChecksCard : Claim7 := { stood := { row := machChecksRow, standIns := [], harness := (true, "a544288c7f361731b74cd352bf8452efbda664c9a8533239e24ed7f100fd8607"), looks := true }, kinds := [], alts := [], laidByText := true, laidKinds := [.data, .data, .data, .data, .sentinel, .sentinel, .listed, .data, .data, .pinned], laidTests := true, laidLooks := .later }
def MachChecksCardSaid : Prop := Claim7.holds Tryz.pinned (.plain (OpenSpec.ofChange machChecksSpec)) machChecksCard

/-- THE TIED CARD OF 'millwrightlaw51.MachPrints'. -/
def machPrintsCard : Claim7 := { stood := { row := machPrintsRow, standIns := [], harness := (true, "a544288c7f361731b74cd352bf8452efbda664c9a8533239e24ed7f100fd8607"), looks := true }, kinds := [], alts := [], laidByText := true, laidKinds := [.data, .data, .data, .data, .sentinel, .sentinel, .listed, .data, .data, .pinned], laidTests := true, laidLooks := .later }
def MachPrintsCardSaid : Prop := Claim7.holds Tryz.pinned (.plain (OpenSpec.ofChange machPrintsSpec)) machPrintsCard

/-- THE TIED CARD OF 'millwrightlaw51.MachParses'. -/
def machParsesCard : Claim7 := { stood := { row := machParsesRow, standIns := [], harness := (true, "a544288c7f361731b74cd352bf8452efbda664c9a8533239e24ed7f100fd8607"), looks := true }, kinds := [], alts := [], laidByText := true, laidKinds := [.data, .data, .data, .data, .sentinel, .sentinel, .listed, .data, .data, .pinned], laidTests := true, laidLooks := .later }
def MachParsesCardSaid : Prop := Claim7.holds Tryz.pinned (.plain (OpenSpec.ofChange machParsesSpec)) machParsesCard

/-- THE TIED CARD OF 'millwrightlaw51.MachBack'. -/
def machBackCard : Claim7 := { stood := { row := machBackRow, standIns := [], harness := (true, "a544288c7f361731b74cd352bf8452efbda664c9a8533239e24ed7f100fd8607"), looks := true }, kinds := [], alts := [], laidByText := true, laidKinds := [.data, .data, .data, .data, .sentinel, .sentinel, .listed, .data, .data, .pinned], laidTests := true, laidLooks := .later }
def MachBackCardSaid : Prop := Claim7.holds Tryz.pinned (.plain (OpenSpec.ofChange machBackSpec)) machBackCard

/-- THE TIED CARD OF 'millwrightlaw51.MachMore'. -/
def machMoreCard : Claim7 := { stood := { row := machMoreRow, standIns := [], harness := (true, "a544288c7f361731b74cd352bf8452efbda664c9a8533239e24ed7f100fd8607"), looks := true }, kinds := [], alts := [], laidByText := true, laidKinds := [.data, .data, .data, .data, .sentinel, .sentinel, .listed, .data, .data, .pinned], laidTests := true, laidLooks := .later }
def MachMoreCardSaid : Prop := Claim7.holds Tryz.pinned (.plain (OpenSpec.ofChange machMoreSpec)) machMoreCard

/-- THE TIED CARD OF 'millwrightlaw51.MachTurned'. -/
def machTurnedCard : Claim7 := { stood := { row := machTurnedRow, standIns := [], harness := (true, "a544288c7f361731b74cd352bf8452efbda664c9a8533239e24ed7f100fd8607"), looks := true }, kinds := [], alts := [], laidByText := true, laidKinds := [.data, .data, .data, .data, .sentinel, .sentinel, .listed, .data, .data, .pinned], laidTests := true, laidLooks := .later }
def MachTurnedCardSaid : Prop := Claim7.holds Tryz.pinned (.plain (OpenSpec.ofChange machTurnedSpec)) machTurnedCard

/-- THE SECOND FORM's CARD OF 'millwrightlaw51.MachChecks'. -/
def machChecksUptoCard : Claim7 := { stood := { row := machChecksUptoRow, standIns := [], harness := (true, "a544288c7f361731b74cd352bf8452efbda664c9a8533239e24ed7f100fd8607"), looks := true }, kinds := [], alts := [], laidByText := true, laidKinds := [.data, .data, .data, .data, .sentinel, .sentinel, .listed, .data, .data, .pinned], laidTests := true, laidLooks := .later }
def MachChecksUptoCardSaid : Prop := Claim7.holds Tryz.pinned (.plain (OpenSpec.upto machChecksSpec)) machChecksUptoCard

/-- THE SECOND FORM's CARD OF 'millwrightlaw51.MachPrints'. -/
def machPrintsUptoCard : Claim7 := { stood := { row := machPrintsUptoRow, standIns := [], harness := (true, "a544288c7f361731b74cd352bf8452efbda664c9a8533239e24ed7f100fd8607"), looks := true }, kinds := [], alts := [], laidByText := true, laidKinds := [.data, .data, .data, .data, .sentinel, .sentinel, .listed, .data, .data, .pinned], laidTests := true, laidLooks := .later }
def MachPrintsUptoCardSaid : Prop := Claim7.holds Tryz.pinned (.plain (OpenSpec.upto machPrintsSpec)) machPrintsUptoCard

/-- THE SECOND FORM's CARD OF 'millwrightlaw51.MachParses'. -/
def machParsesUptoCard : Claim7 := { stood := { row := machParsesUptoRow, standIns := [], harness := (true, "a544288c7f361731b74cd352bf8452efbda664c9a8533239e24ed7f100fd8607"), looks := true }, kinds := [], alts := [], laidByText := true, laidKinds := [.data, .data, .data, .data, .sentinel, .sentinel, .listed, .data, .data, .pinned], laidTests := true, laidLooks := .later }
def MachParsesUptoCardSaid : Prop := Claim7.holds Tryz.pinned (.plain (OpenSpec.upto machParsesSpec)) machParsesUptoCard

/-- THE SECOND FORM's CARD OF 'millwrightlaw51.MachBack'. -/
def machBackUptoCard : Claim7 := { stood := { row := machBackUptoRow, standIns := [], harness := (true, "a544288c7f361731b74cd352bf8452efbda664c9a8533239e24ed7f100fd8607"), looks := true }, kinds := [], alts := [], laidByText := true, laidKinds := [.data, .data, .data, .data, .sentinel, .sentinel, .listed, .data, .data, .pinned], laidTests := true, laidLooks := .later }
def MachBackUptoCardSaid : Prop := Claim7.holds Tryz.pinned (.plain (OpenSpec.upto machBackSpec)) machBackUptoCard

/-- THE SECOND FORM's CARD OF 'millwrightlaw51.MachMore'. -/
def machMoreUptoCard : Claim7 := { stood := { row := machMoreUptoRow, standIns := [], harness := (true, "a544288c7f361731b74cd352bf8452efbda664c9a8533239e24ed7f100fd8607"), looks := true }, kinds := [], alts := [], laidByText := true, laidKinds := [.data, .data, .data, .data, .sentinel, .sentinel, .listed, .data, .data, .pinned], laidTests := true, laidLooks := .later }
def MachMoreUptoCardSaid : Prop := Claim7.holds Tryz.pinned (.plain (OpenSpec.upto machMoreSpec)) machMoreUptoCard

/-- THE SECOND FORM's CARD OF 'millwrightlaw51.MachTurned'. -/
def machTurnedUptoCard : Claim7 := { stood := { row := machTurnedUptoRow, standIns := [], harness := (true, "a544288c7f361731b74cd352bf8452efbda664c9a8533239e24ed7f100fd8607"), looks := true }, kinds := [], alts := [], laidByText := true, laidKinds := [.data, .data, .data, .data, .sentinel, .sentinel, .listed, .data, .data, .pinned], laidTests := true, laidLooks := .later }
def MachTurnedUptoCardSaid : Prop := Claim7.holds Tryz.pinned (.plain (OpenSpec.upto machTurnedSpec)) machTurnedUptoCard
end Rows
end Go.Proofs.YtadnfekogmjieaaGreatDoor
