/-
  What a parameter that is a slice of strings is when it comes in.
-/
import Derived.Test.YtbnddnoognoekaaScopeLabels
import Derived.WalkKit
import Derived.ProofKit
import Derived.Below
import Derived.OpenShut
import Derived.SliceStrings
import Derived.Lib.SmallJoins
set_option linter.unusedVariables false
namespace Go.Proofs.Ytbnddnoognoekaa
open Go.ChangeShapes Go.WideShapes Go.ChangeAt Go.RowKit Go.Joins Go.Deep

theorem open_strs {H : Type} {enc : TypeId × Value → H} {w : World} {base : Nat} {held : Bool} {r : Reach} {b0 : Nat} {v : Value} {d : DataW H} {p : List MemPlace}
    (hv : Value.okWide Try.prog w r b0 22 v) (h : DataW.Trod enc Try.prog w base (fun _ => true) held 22 v d p) :
    ∃ (A : Option Addr) (c : Nat) (l : List Nm), v = .slice A l.length c ∧ RdS w w.heap.size A l := by
  obtain ⟨a0, len0, cap0, rfl⟩ := okWide_slice Try.underlying22 hv
  obtain ⟨fuel, hf⟩ := h
  rcases Go.ChangeShapes.open_strings Try.underlying22 Try.underlying9 (by kernel_rfl) hf with ⟨hcs, _⟩ | ⟨x, l, c, ss, hcs, _, hl, hm, hz, _, hcell, hws⟩
  · simp [Value.cells] at hcs
    obtain ⟨rfl, rfl, rfl⟩ := hcs
    exact ⟨none, 0, [], rfl, ⟨rfl, fun hp => absurd hp (by simp)⟩⟩
  · simp [Value.cells] at hcs hz
    obtain ⟨rfl, rfl, rfl⟩ := hcs
    refine ⟨some x, cap0, (ss.take len0).map (fun s => s.data.toList), by simp; omega, ⟨by simp, fun hp => ⟨x, rfl, ?_, fun j u hj => ?_⟩⟩⟩
    · have hp' : 0 < ss.length := by simp at hp; omega
      have := hcell 0 hp'
      have hb := block_lt_of_cell this
      rwa [block_of_add] at hb
    · have hj' : j < (ss.take len0).length := by
        rcases Nat.lt_or_ge j (ss.take len0).length with h | h
        · exact h
        · rw [List.getElem?_eq_none (by simpa using h)] at hj; cases hj
      have hj2 : j < ss.length := by simp at hj'; omega
      rw [hcell j hj2]
      rw [List.getElem?_eq_getElem (by simpa using hj')] at hj
      simp [str] at hj
      rw [← hj]
      simp [hj2]
end Go.Proofs.Ytbnddnoognoekaa
