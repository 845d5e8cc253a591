/-
  Layer 51, the reference: split, at, number, kind.
-/
import Derived.Test.YtadnfekogmjieaaGreatDoorGGI
import Derived.Test.YtadnfekogmjieaaGreatDoorGGQ
import Derived.Test.YtadnfekogmjieaaGreatDoorGGH
set_option linter.unusedVariables false
set_option linter.unusedSimpArgs false
namespace Go.Proofs.YtadnfekogmjieaaGreatDoor
open Go.RowKit
open Mc (Pl Mi Mf)
attribute [local go_sem] ByteArray.extract_mk
namespace Mc
end Mc
namespace Mc
end Mc
namespace Mc
end Mc
end Go.Proofs.YtadnfekogmjieaaGreatDoor
