/-
  Right, Limits, Fits, Find, OfByte; the chapter's examples.
-/
import Derived.Test.YtagcildoebicnaaBtTy
set_option linter.unusedVariables false
namespace Go.Proofs.Ytagcildoebicnaa
open Go.RowKit

theorem limits_any (mn mx : Int) (has : Bool) (most : Int) (w : World) :
    Calls Try.prog 66 #[.agg #[.int .i64 mn, .int .i64 mx, .bool has], .int .i64 most] w fun e w' => e = .returned (.bool (Ty.limits mn mx has most)) ∧ Below w.heap.size w w' := by
  unfold Ty.limits
  by_cases h1 : mn < 0
  · rw [if_pos (.inl h1)]
    go_enter Try.func66, Try.ntmps66
    go_wp2
    go_ret
    exact ⟨rfl, (Below.refl _ _).alloc (Nat.le_refl _) _⟩
  by_cases h2 : most < mn
  · rw [if_pos (.inr h2)]
    go_enter Try.func66, Try.ntmps66
    go_wp2
    go_ret
    exact ⟨rfl, (Below.refl _ _).alloc (Nat.le_refl _) _⟩
  rw [if_neg (by omega)]
  rcases has with _ | _
  · rw [if_pos rfl]
    go_enter Try.func66, Try.ntmps66
    go_wp2
    go_ret
    exact ⟨rfl, (Below.refl _ _).alloc (Nat.le_refl _) _⟩
  · rw [if_neg (by decide)]
    rcases h3 : decide (mn ≤ mx) with _ | _ <;> rcases h4 : decide (mx ≤ most) with _ | _
    all_goals
      go_enter Try.func66, Try.ntmps66
      go_wp2
      go_ret
      exact ⟨by simp, (Below.refl _ _).alloc (Nat.le_refl _) _⟩

theorem RdI.lit {w : World} {B : Nat} {xs : List Int} (cs : Array Value) (e : TypeId) (h : cs.toList = xs.map (Value.int .i64)) (hB : w.heap.size < B) : RdI (w.alloc (.cells cs e)) B (some ⟨w.heap.size, 0, none⟩) xs := by
  refine ⟨by simp, fun _ => ⟨_, rfl, hB, fun j u hj => ?_⟩⟩
  exact World.news_of_block (cs := cs) (t := e) (fr := (0, 0)) (heap_alloc_new w _) j u (by rw [h]; exact hj)

end Go.Proofs.Ytagcildoebicnaa
