/-
  The reference's New and Push.
-/
import Derived.Test.YtbnddnoognoekaaScopeRef4
import Derived.Handy
set_option linter.unusedVariables false
namespace Go.Proofs.Ytbnddnoognoekaa
open Go.RowKit Go.Maps

set_option maxHeartbeats 1000000 in
set_option maxRecDepth 100000 in
theorem rnew_any (W : World) :
    Calls Try.prog 17 #[] W fun e w' => e = .returned (.agg (refCells (fun _ => .slice none 0 0) (.slice none 0 0))) ∧ Below W.heap.size W w' := by
  unfold refCells
  go_enter Try.func17, Try.ntmps17
  go_wp2
  go_returns
  exact ⟨rfl, (Below.refl _ _).alloc (Nat.le_refl _) _⟩
end Go.Proofs.Ytbnddnoognoekaa
