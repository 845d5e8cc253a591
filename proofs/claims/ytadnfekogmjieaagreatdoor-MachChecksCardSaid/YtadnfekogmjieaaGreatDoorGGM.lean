/-
  Layer 51, plain: how long the text of light code is.
  Layer 51, plain: what code that was printed is bounded by.
-/
import Derived.Test.YtadnfekogmjieaaGreatDoorGGI
import Derived.Test.YtadnfekogmjieaaGreatDoorGGK
set_option linter.unusedVariables false
set_option linter.unusedSimpArgs false
namespace Go.Proofs.YtadnfekogmjieaaGreatDoor.Mc
structure Mf.Light (f : Mf) : Prop where
  code : f.code.length ≤ 80
  ps : f.ps.length ≤ 20
  rs : f.rs.length ≤ 20
  ins : ∀ x ∈ f.code, x.d.length ≤ 20 ∧ x.s.length ≤ 20 ∧ x.tos.length ≤ 20
theorem split_head (s : W) : ((Lib.split s [10]).headD []).length ≤ s.length := by
  obtain ⟨j1, j2⟩ := join_split [10] (by simp) s.length s (Nat.le_refl _)
  obtain ⟨w, L, hL⟩ := List.exists_cons_of_ne_nil j2
  rw [hL] at j1 ⊢
  rw [List.headD_cons, ← j1, Lib.join_cons, List.length_append]
  omega
end Go.Proofs.YtadnfekogmjieaaGreatDoor.Mc
set_option linter.unusedVariables false
set_option linter.unusedSimpArgs false
namespace Go.Proofs.YtadnfekogmjieaaGreatDoor.Mc
end Go.Proofs.YtadnfekogmjieaaGreatDoor.Mc
