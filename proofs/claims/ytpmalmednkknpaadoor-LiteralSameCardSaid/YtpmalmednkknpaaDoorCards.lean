/-
  DERIVED. GIVEN WITH THE SEED: THE CARDS: each row of YtpmalmednkknpaaDoorRows.lean that lists a variable, with what it lists TIED to the program's text (the seventh form; the later family's looks); each row that meets fmt, with fmt's text TOLD by the authors' own Lean function (tested against real Go, not proved from fmt's source: count such statements apart). THE CARD IS WHAT COUNTS. Prove the row's statement (the work); the ties are given (YtpmalmednkknpaaDoorTie.lean); close each card by the builder's one call (the guide's Derived/Test/ToyasCard.lean, 'card_holds'). Laid BY PROGRAM, IN A SANDBOX (cutbox-door.mjs). By AI agents, Wed Nov 11 2026. No macro, syntax, notation, axiom, sorry.
-/
import Derived.Test.YtpmalmednkknpaaDoorRows
import GoSem.ClaimSeven
namespace Go.Proofs.YtpmalmednkknpaaDoor
namespace Rows

/-- THE TIED CARD OF 'millwrightlaw16.LiteralQuotes'. -/
def literalQuotesCard : Claim7 := { stood := { row := literalQuotesRow, standIns := [], harness := (true, "080c9be28e3d224ccc1374e40f60e6cd15ad2abbf4071b8d9f9f5405559a92f4"), looks := false }, kinds := [], alts := [], laidByText := true, laidKinds := [.data, .data, .data], laidTests := true, laidLooks := .later }
def LiteralQuotesCardSaid : Prop := Claim7.holds Tryd.pinned (.plain (OpenSpec.ofChange literalQuotesSpec)) literalQuotesCard

/-- THE TIED CARD OF 'millwrightlaw16.LiteralNums'. -/
def literalNumsCard : Claim7 := { stood := { row := literalNumsRow, standIns := [], harness := (true, "080c9be28e3d224ccc1374e40f60e6cd15ad2abbf4071b8d9f9f5405559a92f4"), looks := false }, kinds := [], alts := [], laidByText := true, laidKinds := [.data, .data, .data], laidTests := true, laidLooks := .later }
def LiteralNumsCardSaid : Prop := Claim7.holds Tryd.pinned (.plain (OpenSpec.ofChange literalNumsSpec)) literalNumsCard

/-- THE TIED CARD OF 'millwrightlaw16.LiteralNats'. -/
def literalNatsCard : Claim7 := { stood := { row := literalNatsRow, standIns := [], harness := (true, "080c9be28e3d224ccc1374e40f60e6cd15ad2abbf4071b8d9f9f5405559a92f4"), looks := false }, kinds := [], alts := [], laidByText := true, laidKinds := [.data, .data, .data], laidTests := true, laidLooks := .later }
def LiteralNatsCardSaid : Prop := Claim7.holds Tryd.pinned (.plain (OpenSpec.ofChange literalNatsSpec)) literalNatsCard

/-- THE TIED CARD OF 'millwrightlaw16.LiteralTexts'. -/
def literalTextsCard : Claim7 := { stood := { row := literalTextsRow, standIns := [], harness := (true, "080c9be28e3d224ccc1374e40f60e6cd15ad2abbf4071b8d9f9f5405559a92f4"), looks := false }, kinds := [], alts := [], laidByText := true, laidKinds := [.data, .data, .data], laidTests := true, laidLooks := .later }
def LiteralTextsCardSaid : Prop := Claim7.holds Tryd.pinned (.plain (OpenSpec.ofChange literalTextsSpec)) literalTextsCard

/-- THE TIED CARD OF 'millwrightlaw16.LiteralNames'. -/
def literalNamesCard : Claim7 := { stood := { row := literalNamesRow, standIns := [], harness := (true, "080c9be28e3d224ccc1374e40f60e6cd15ad2abbf4071b8d9f9f5405559a92f4"), looks := false }, kinds := [], alts := [], laidByText := true, laidKinds := [.data, .data, .data], laidTests := true, laidLooks := .later }
def LiteralNamesCardSaid : Prop := Claim7.holds Tryd.pinned (.plain (OpenSpec.ofChange literalNamesSpec)) literalNamesCard

/-- THE TIED CARD OF 'millwrightlaw16.LiteralBack'. -/
def literalBackCard : Claim7 := { stood := { row := literalBackRow, standIns := [], harness := (true, "080c9be28e3d224ccc1374e40f60e6cd15ad2abbf4071b8d9f9f5405559a92f4"), looks := false }, kinds := [], alts := [], laidByText := true, laidKinds := [.data, .data, .data], laidTests := true, laidLooks := .later }
def LiteralBackCardSaid : Prop := Claim7.holds Tryd.pinned (.plain (OpenSpec.ofChange literalBackSpec)) literalBackCard

/-- THE TIED CARD OF 'millwrightlaw16.LiteralSame'. -/
def literalSameCard : Claim7 := { stood := { row := literalSameRow, standIns := [], harness := (true, "080c9be28e3d224ccc1374e40f60e6cd15ad2abbf4071b8d9f9f5405559a92f4"), looks := false }, kinds := [], alts := [], laidByText := true, laidKinds := [.data, .data, .data], laidTests := true, laidLooks := .later }
def LiteralSameCardSaid : Prop := Claim7.holds Tryd.pinned (.plain (OpenSpec.ofChange literalSameSpec)) literalSameCard

/-- THE TIED CARD OF 'millwrightlaw16.LiteralRange'. -/
def literalRangeCard : Claim7 := { stood := { row := literalRangeRow, standIns := [], harness := (true, "080c9be28e3d224ccc1374e40f60e6cd15ad2abbf4071b8d9f9f5405559a92f4"), looks := false }, kinds := [], alts := [], laidByText := true, laidKinds := [.data, .data, .data], laidTests := true, laidLooks := .later }
def LiteralRangeCardSaid : Prop := Claim7.holds Tryd.pinned (.plain (OpenSpec.ofChange literalRangeSpec)) literalRangeCard

/-- THE SECOND FORM's CARD OF 'millwrightlaw16.LiteralQuotes'. -/
def literalQuotesUptoCard : Claim7 := { stood := { row := literalQuotesUptoRow, standIns := [], harness := (true, "080c9be28e3d224ccc1374e40f60e6cd15ad2abbf4071b8d9f9f5405559a92f4"), looks := false }, kinds := [], alts := [], laidByText := true, laidKinds := [.data, .data, .data], laidTests := true, laidLooks := .later }
def LiteralQuotesUptoCardSaid : Prop := Claim7.holds Tryd.pinned (.plain (OpenSpec.upto literalQuotesSpec)) literalQuotesUptoCard

/-- THE SECOND FORM's CARD OF 'millwrightlaw16.LiteralNums'. -/
def literalNumsUptoCard : Claim7 := { stood := { row := literalNumsUptoRow, standIns := [], harness := (true, "080c9be28e3d224ccc1374e40f60e6cd15ad2abbf4071b8d9f9f5405559a92f4"), looks := false }, kinds := [], alts := [], laidByText := true, laidKinds := [.data, .data, .data], laidTests := true, laidLooks := .later }
def LiteralNumsUptoCardSaid : Prop := Claim7.holds Tryd.pinned (.plain (OpenSpec.upto literalNumsSpec)) literalNumsUptoCard

/-- THE SECOND FORM's CARD OF 'millwrightlaw16.LiteralNats'. -/
def literalNatsUptoCard : Claim7 := { stood := { row := literalNatsUptoRow, standIns := [], harness := (true, "080c9be28e3d224ccc1374e40f60e6cd15ad2abbf4071b8d9f9f5405559a92f4"), looks := false }, kinds := [], alts := [], laidByText := true, laidKinds := [.data, .data, .data], laidTests := true, laidLooks := .later }
def LiteralNatsUptoCardSaid : Prop := Claim7.holds Tryd.pinned (.plain (OpenSpec.upto literalNatsSpec)) literalNatsUptoCard

/-- THE SECOND FORM's CARD OF 'millwrightlaw16.LiteralTexts'. -/
def literalTextsUptoCard : Claim7 := { stood := { row := literalTextsUptoRow, standIns := [], harness := (true, "080c9be28e3d224ccc1374e40f60e6cd15ad2abbf4071b8d9f9f5405559a92f4"), looks := false }, kinds := [], alts := [], laidByText := true, laidKinds := [.data, .data, .data], laidTests := true, laidLooks := .later }
def LiteralTextsUptoCardSaid : Prop := Claim7.holds Tryd.pinned (.plain (OpenSpec.upto literalTextsSpec)) literalTextsUptoCard

/-- THE SECOND FORM's CARD OF 'millwrightlaw16.LiteralNames'. -/
def literalNamesUptoCard : Claim7 := { stood := { row := literalNamesUptoRow, standIns := [], harness := (true, "080c9be28e3d224ccc1374e40f60e6cd15ad2abbf4071b8d9f9f5405559a92f4"), looks := false }, kinds := [], alts := [], laidByText := true, laidKinds := [.data, .data, .data], laidTests := true, laidLooks := .later }
def LiteralNamesUptoCardSaid : Prop := Claim7.holds Tryd.pinned (.plain (OpenSpec.upto literalNamesSpec)) literalNamesUptoCard

/-- THE SECOND FORM's CARD OF 'millwrightlaw16.LiteralBack'. -/
def literalBackUptoCard : Claim7 := { stood := { row := literalBackUptoRow, standIns := [], harness := (true, "080c9be28e3d224ccc1374e40f60e6cd15ad2abbf4071b8d9f9f5405559a92f4"), looks := false }, kinds := [], alts := [], laidByText := true, laidKinds := [.data, .data, .data], laidTests := true, laidLooks := .later }
def LiteralBackUptoCardSaid : Prop := Claim7.holds Tryd.pinned (.plain (OpenSpec.upto literalBackSpec)) literalBackUptoCard

/-- THE SECOND FORM's CARD OF 'millwrightlaw16.LiteralSame'. -/
def literalSameUptoCard : Claim7 := { stood := { row := literalSameUptoRow, standIns := [], harness := (true, "080c9be28e3d224ccc1374e40f60e6cd15ad2abbf4071b8d9f9f5405559a92f4"), looks := false }, kinds := [], alts := [], laidByText := true, laidKinds := [.data, .data, .data], laidTests := true, laidLooks := .later }
def LiteralSameUptoCardSaid : Prop := Claim7.holds Tryd.pinned (.plain (OpenSpec.upto literalSameSpec)) literalSameUptoCard

/-- THE SECOND FORM's CARD OF 'millwrightlaw16.LiteralRange'. -/
def literalRangeUptoCard : Claim7 := { stood := { row := literalRangeUptoRow, standIns := [], harness := (true, "080c9be28e3d224ccc1374e40f60e6cd15ad2abbf4071b8d9f9f5405559a92f4"), looks := false }, kinds := [], alts := [], laidByText := true, laidKinds := [.data, .data, .data], laidTests := true, laidLooks := .later }
def LiteralRangeUptoCardSaid : Prop := Claim7.holds Tryd.pinned (.plain (OpenSpec.upto literalRangeSpec)) literalRangeUptoCard
end Rows
end Go.Proofs.YtpmalmednkknpaaDoor
