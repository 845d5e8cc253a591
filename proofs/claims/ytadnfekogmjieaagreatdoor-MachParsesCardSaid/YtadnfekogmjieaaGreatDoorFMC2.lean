/-
  Layer 51: opcode.Sig: how many operands and results. (Printed by gen_mc2.py.)
-/
import Derived.Test.YtadnfekogmjieaaGreatDoorFMC1
set_option linter.unusedVariables false
set_option linter.unusedSimpArgs false
namespace Go.Proofs.YtadnfekogmjieaaGreatDoor
open Go.RowKit
end Go.Proofs.YtadnfekogmjieaaGreatDoor
