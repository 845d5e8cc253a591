/-
  Layer 51: opcode.Width. (Printed by gen_mc3.py.)
-/
import Derived.Test.YtadnfekogmjieaaGreatDoorFMC2
set_option linter.unusedVariables false
set_option linter.unusedSimpArgs false
namespace Go.Proofs.YtadnfekogmjieaaGreatDoor
open Go.RowKit
namespace Mc
end Mc
end Go.Proofs.YtadnfekogmjieaaGreatDoor
