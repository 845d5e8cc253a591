/-
  What a parameter of type Func (a struct of two lists of value types) is when it comes in: opened for the frames of TypesFuncs and TypesBack.
-/
import Derived.Test.YtkljmdekihlkeaaTypesText
import Derived.WalkKit
import Derived.ProofKit
import Derived.Below
import Derived.OpenShut
import Derived.Lib.SmallJoins
set_option linter.unusedVariables false
namespace Go.Proofs.Ytkljmdekihlkeaa
open Go.ChangeShapes Go.WideShapes Go.ChangeAt Go.RowKit Go.Joins Go.Deep

/-- A slice of integers that came in reads as its list. -/
theorem row_ints {H : Type} {enc : TypeId × Value → H} {w : World} {base : Nat} {held : Bool} {n : Nat} {v : Value} {y : DataW H × List MemPlace}
    (h : DataW.trod enc Try.prog w base (fun _ => true) held n 39 [v] = some y) :
    ∃ (A : Option Addr) (c : Nat) (vs : List Int), v = .slice A vs.length c ∧ RdI w w.heap.size A vs := by
  rcases open_ints Try.underlying39 Try.underlying28 (by kernel_rfl) h with ⟨hcs, _⟩ | ⟨x, l, c, zs, hcs, _, hl, hm, hz, _, hcell, hwz⟩
  · simp at hcs
    subst hcs
    exact ⟨none, 0, [], rfl, ⟨rfl, fun hp => absurd hp (by simp)⟩⟩
  · simp at hcs hz
    subst hcs
    refine ⟨some x, c, zs.take l, by simp; omega, ⟨by simp, fun hp => ⟨x, rfl, ?_, fun j u hj => ?_⟩⟩⟩
    · have hp' : 0 < zs.length := by simp at hp; omega
      have := hcell 0 hp'
      have hb := block_lt_of_cell this
      rwa [block_of_add] at hb
    · have hj' : j < (zs.take l).length := by
        rcases Nat.lt_or_ge j (zs.take l).length with h | h
        · exact h
        · rw [List.getElem?_eq_none (by simpa using h)] at hj; cases hj
      have hj2 : j < zs.length := by simp at hj'; omega
      rw [hcell j hj2]
      rw [List.getElem?_eq_getElem (by simpa using hj')] at hj
      simp at hj
      rw [← hj]
      simp [hj2]

theorem open_func {H : Type} {enc : TypeId × Value → H} {w : World} {base : Nat} {held : Bool} {r : Reach} {b0 : Nat} {v : Value} {d : DataW H} {p : List MemPlace}
    (hv : Value.okWide Try.prog w r b0 41 v) (h : DataW.Trod enc Try.prog w base (fun _ => true) held 41 v d p) :
    ∃ (A1 A2 : Option Addr) (c1 c2 : Nat) (ps rs : List Int), v = .agg #[.slice A1 ps.length c1, .slice A2 rs.length c2] ∧ RdI w w.heap.size A1 ps ∧ RdI w w.heap.size A2 rs := by
  obtain ⟨v0, v1, y0, y1, n, rfl, _, _, h0, h1⟩ := open_agg2 Try.underlying41 (by kernel_rfl) (by kernel_rfl) hv h
  obtain ⟨A1, c1, ps, rfl, k0⟩ := row_ints h0
  obtain ⟨A2, c2, rs, rfl, k1⟩ := row_ints h1
  exact ⟨A1, A2, c1, c2, ps, rs, rfl, k0, k1⟩
end Go.Proofs.Ytkljmdekihlkeaa
