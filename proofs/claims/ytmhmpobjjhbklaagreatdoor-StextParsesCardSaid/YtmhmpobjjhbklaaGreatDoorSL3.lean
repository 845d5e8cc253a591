/-
  Layer 40, the laws: StextPrints.
-/
import Derived.Test.YtmhmpobjjhbklaaGreatDoorPD
import Derived.Test.YtmhmpobjjhbklaaGreatDoorSR4
import Derived.Test.YtmhmpobjjhbklaaGreatDoorSR5
import Derived.Deep.RegionHeld3
set_option linter.unusedVariables false
set_option linter.unusedSimpArgs false
namespace Go.Proofs.YtmhmpobjjhbklaaGreatDoor
namespace St
end St
open Go.RowKit
open St (InR)
end Go.Proofs.YtmhmpobjjhbklaaGreatDoor
