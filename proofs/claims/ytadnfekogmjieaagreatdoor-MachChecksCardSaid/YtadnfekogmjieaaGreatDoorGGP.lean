/-
  Layer 51, the reference: ints, ps: lists compared.
-/
import Derived.Test.YtadnfekogmjieaaGreatDoorGGL
set_option linter.unusedVariables false
set_option linter.unusedSimpArgs false
namespace Go.Proofs.YtadnfekogmjieaaGreatDoor
open Go.RowKit
open Mc (Pl Mi Mf)
end Go.Proofs.YtadnfekogmjieaaGreatDoor
