/-
  Layer 40, the reference: May. (Printed by gen_sr4.py.)
-/
import Derived.Test.YtmhmpobjjhbklaaGreatDoorTk
import Derived.Test.YtmhmpobjjhbklaaGreatDoorSR3
set_option linter.unusedVariables false
set_option linter.unusedSimpArgs false
namespace Go.Proofs.YtmhmpobjjhbklaaGreatDoor
namespace St
end St
open Go.RowKit
open St (InR)
end Go.Proofs.YtmhmpobjjhbklaaGreatDoor
