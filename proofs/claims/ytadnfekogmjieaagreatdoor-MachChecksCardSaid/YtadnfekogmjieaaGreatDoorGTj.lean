/-
  Shorter forms of the steps through a region that draws its order: the operation is found by rfl.
-/
import Derived.Test.YtadnfekogmjieaaGreatDoorGTk
set_option linter.unusedVariables false
namespace Go.Proofs.YtadnfekogmjieaaGreatDoor
section
variable {P : Program} {ops : Array Oper} {Q : Exit → Act → World → Prop} {md : Region.Mode} {S : World → Prop} {v : Value} {fuel : Nat} {listed : Array Bool} {a : Act} {w : World} {i : Nat} {d : Option Tmp} {x : Op} {t : TypeId} {p : String} {f : Array Edge} {g : Option (Nat × Bool)}
theorem tj (hi : ops[i]? = some ⟨d, x, t, p, f, g⟩) (h : wpAnyH P md ops Q S fuel (listed.setIfInBounds i true) (a.put d v) w)
    (hw : Region.wanted ⟨d, x, t, p, f, g⟩ (yielded ops a.tmps) = true := by rfl) (hy : ∀ w, S w → (execOp a.eval ⟨d, x, t, p, f, g⟩).run P w = .ok (.value v) w := by intro w hSw; (try dsimp only at hSw); go_simp; (try (with_reducible rfl)))
    (hS : S w := by assumption) (hs : Region.noSelect ops = true := by kernel_rfl) (hf : Region.free md ops listed i = true := by kernel_rfl) (hr : (Region.ready md ops listed).contains i = true := by kernel_rfl)
    (hQ : ∀ c a w, Q (.panic c) (a.put d v) w → Q (.panic c) a w := by exact fun _ _ _ h => h) : wpAnyH P md ops Q S (fuel + 1) listed a w := tk hi h hw hy hS hs hf hr hQ
theorem tjN (hi : ops[i]? = some ⟨d, x, t, p, f, g⟩) (h : wpAnyH P md ops Q S fuel (listed.setIfInBounds i true) (a.put d undef) w) (hw : Region.wanted ⟨d, x, t, p, f, g⟩ (yielded ops a.tmps) = false := by rfl)
    (hS : S w := by assumption) (hs : Region.noSelect ops = true := by kernel_rfl) (hf : Region.free md ops listed i = true := by kernel_rfl) (hr : (Region.ready md ops listed).contains i = true := by kernel_rfl)
    (hQ : ∀ c a w, Q (.panic c) (a.put d undef) w → Q (.panic c) a w := by exact fun _ _ _ h => h) : wpAnyH P md ops Q S (fuel + 1) listed a w := tkN hi h hw hS hs hf hr hQ
end
end Go.Proofs.YtadnfekogmjieaaGreatDoor
