/-
  Layer 51: what the checker asks of an opcode: access, begins, of, number, Sig. (Printed by gen_mc1.py.)
-/
import Derived.Test.YtadnfekogmjieaaGreatDoorFGI
import Derived.Test.YtadnfekogmjieaaGreatDoorFGJ
import Derived.Test.YtadnfekogmjieaaGreatDoorFGE
import Derived.Test.YtadnfekogmjieaaGreatDoorFTk
import Derived.Deep.RegionHeld3
set_option linter.unusedVariables false
set_option linter.unusedSimpArgs false
namespace Go.Proofs.YtadnfekogmjieaaGreatDoor
open Go.RowKit
end Go.Proofs.YtadnfekogmjieaaGreatDoor
