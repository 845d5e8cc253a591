/-
  Layer 51, the program: access and named. (Printed by gen_mc6.py.)
-/
import Derived.Test.YtadnfekogmjieaaGreatDoorFMC5
import Derived.Test.YtadnfekogmjieaaGreatDoorFTk
import Derived.Deep.Cut
import Derived.Deep.CutRange
set_option linter.unusedVariables false
set_option linter.unusedSimpArgs false
namespace Go.Proofs.YtadnfekogmjieaaGreatDoor
open Go.RowKit
open Mc (Pl Mi Mf Th Wt)
structure B2 (w W : World) (tv mv : Array Value) : Prop where
  bel : Below w.heap.size w W
  th : Var W w.heap.size tv 97
  mi : Var W (w.heap.size + 1) mv 61
theorem B2.new (w : World) (tv mv : Array Value) : B2 w ((w.alloc (.cells tv 97)).alloc (.cells mv 61)) tv mv :=
  ⟨(((Below.refl w.heap.size w).alloc (Nat.le_refl _) _).alloc (by simp) _), ((Var.new w _ _).alloc _), by have h := Var.new (w.alloc (.cells tv 97)) mv 61; simpa using h⟩
theorem B2.below {w W W' : World} {tv mv : Array Value} (h : B2 w W tv mv) (hb : Below W.heap.size W W') : B2 w W' tv mv := ⟨h.bel.trans (hb.mono h.bel.size), var_keep h.th hb, var_keep h.mi hb⟩
end Go.Proofs.YtadnfekogmjieaaGreatDoor
