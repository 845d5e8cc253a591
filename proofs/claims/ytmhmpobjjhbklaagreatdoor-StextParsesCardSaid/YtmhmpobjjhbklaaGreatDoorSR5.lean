/-
  Layer 40, the reference: Print. (Printed by gen_sr5.py.)
-/
import Derived.Test.YtmhmpobjjhbklaaGreatDoorSR4
import Derived.Test.YtmhmpobjjhbklaaGreatDoorSP1
set_option linter.unusedVariables false
set_option linter.unusedSimpArgs false
namespace Go.Proofs.YtmhmpobjjhbklaaGreatDoor
namespace St
end St
open Go.RowKit
open St (InR)

end Go.Proofs.YtmhmpobjjhbklaaGreatDoor
