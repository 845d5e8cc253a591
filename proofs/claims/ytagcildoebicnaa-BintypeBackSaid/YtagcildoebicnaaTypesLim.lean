/-
  Limits, Table, Global and Fits of the reference, Table and Global of the program: contracts.
-/
import Derived.Test.YtagcildoebicnaaTypesOne
set_option linter.unusedVariables false
namespace Go.Proofs.Ytagcildoebicnaa
open Go.RowKit

theorem one_below {w w1 : World} {o : Obj} (hb : Below (w.alloc o).heap.size (w.alloc o) w1) : Below w.heap.size w w1 := by
  have b : Below w.heap.size w (w.alloc o) := (Below.refl _ _).alloc (Nat.le_refl _) o
  exact b.trans (hb.mono b.size)

def Ty.table (el mn mx : Int) (has : Bool) : Bool := Ty.ref el && Ty.limits mn mx has 1024

end Go.Proofs.Ytagcildoebicnaa
