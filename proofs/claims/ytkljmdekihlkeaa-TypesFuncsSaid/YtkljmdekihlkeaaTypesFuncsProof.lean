/-
  The law TypesFuncs of the given program returns true for every input and leaves its arguments as they were.
  The frame follows the kit's proof-skeleton; the structs are opened in TypesFrame; the walk is in the imported texts.
-/
import Derived.Test.YtkljmdekihlkeaaRows
import Derived.Test.YtkljmdekihlkeaaTypesFuncs
import Derived.Test.YtkljmdekihlkeaaTypesFrame
import Derived.WalkKit
import Derived.ProofKit
import Derived.Below
import Derived.OpenShut
import Derived.ShutString
import Derived.Carry
import Derived.Lib.SmallJoins
namespace Go.Proofs.Ytkljmdekihlkeaa.typesFuncs
open Go.ChangeShapes Go.WideShapes Go.ChangeAt Go.RowKit Go.Joins Go.Deep
set_option linter.unusedVariables false

theorem own : ownKnob Try.prog.godebug = none := by kernel_rfl
theorem laid : laidOutB Try.prog = true := by kernel_rfl

theorem walk (A1 A2 B1 B2 : Option Addr) (c1 c2 d1 d2 : Nat) (ps rs qs ss : List Int) (w : World) (h0 : RdI w w.heap.size A1 ps) (h1 : RdI w w.heap.size A2 rs) (h2 : RdI w w.heap.size B1 qs) (h3 : RdI w w.heap.size B2 ss) :
    Calls Try.prog 5 #[.agg #[.slice A1 ps.length c1, .slice A2 rs.length c2], .agg #[.slice B1 qs.length d1, .slice B2 ss.length d2]] w fun e w' => e = .returned (.bool true) ∧ Below w.heap.size w w' := by
  cases k1 : (decide (ps.length ≤ 100) && decide (rs.length ≤ 100))
  · exact funcs_no1 A1 A2 B1 B2 c1 c2 d1 d2 ps rs qs ss w h0 h1 h2 h3 k1
  · cases k2 : (decide (qs.length ≤ 100) && decide (ss.length ≤ 100))
    · exact funcs_no2 A1 A2 B1 B2 c1 c2 d1 d2 ps rs qs ss w h0 h1 h2 h3 k1 k2
    · simp at k1 k2
      exact funcs_yes A1 A2 B1 B2 c1 c2 d1 d2 ps rs qs ss w h0 h1 h2 h3 k1.1 k1.2 k2.1 k2.2

set_option maxRecDepth 100000 in
theorem lifted (os : Os) (started : os.Started) (H : Type) (enc : TypeId × Value → H) :
    ReturnsInHanded {} Try.checked os 5 .any (Rows.typesFuncsSpec.pre6 enc Try.prog Try.f5 Rows.typesFuncsRow.domain false) (Rows.typesFuncsSpec.post enc Try.prog Try.f5 false true false false) := by
  refine returnsInHanded_of_change (C := Try.checked) own started (by kernel_rfl) Try.func5
    (ChangeSpec.witness6 (enc := enc) (C := Try.checked) false ⟨#[], #[.agg #[.slice none 0 0, .slice none 0 0], .agg #[.slice none 0 0, .slice none 0 0]], []⟩ 8 (by kernel_rfl) (by kernel_rfl) (by kernel_rfl) (by kernel_rfl)) ?_
  intro W base args ds gs before hval0 hW hcnd _
  have hval : ∀ (j : Nat) t v, Try.f5.params[j]? = some t → args[j]? = some v → Value.okWide Try.prog W .any base t v := hval0
  have hW' := hW
  obtain ⟨p, q, hA0, hV, rfl, hfz, hnd⟩ := hW
  have hA : DataW.TrodAll enc Try.prog W 0 (fun _ => true) true Try.f5.params.toList args.toList ds p := hA0
  rw [Try.params5] at hA hval
  obtain ⟨v0, vs0, d0, ds0, p0, q0, hargs, rfl, rfl, h0, r0⟩ := trodAll_cons hA
  obtain ⟨v1, vs1, d1, ds1, p1, q1, rfl, rfl, rfl, h1, r1⟩ := trodAll_cons r0
  obtain ⟨rfl, rfl, rfl⟩ := trodAll_nil r1
  obtain rfl : args = #[v0, v1] := by cases args; simp_all
  obtain ⟨rfl, rfl⟩ := trodVars_none hV
  obtain ⟨A1, A2, c1, c2, ps, rs, rfl, k0, k1⟩ := open_func (hval 0 41 v0 rfl rfl) h0
  obtain ⟨B1, B2, e1, e2, qs, ss, rfl, k2, k3⟩ := open_func (hval 1 41 v1 rfl rfl) h1
  clear hA0 hval0
  simp only [List.append_nil] at hW'
  refine (walk A1 A2 B1 B2 c1 c2 e1 e2 ps rs qs ss W k0 k1 k2 k3).mono fun e W' ⟨he, hg⟩ => ?_
  subst he
  have lt0 : ∀ x ∈ p0, x.block < W.heap.size := by obtain ⟨m, hm⟩ := h0; exact DataW.trod_lt m _ _ _ hm
  have lt1 : ∀ x ∈ p1, x.block < W.heap.size := by obtain ⟨m, hm⟩ := h1; exact DataW.trod_lt m _ _ _ hm
  exact ⟨_, rfl, _, _, _, [], _, [], hW', (trodAll_cons_mk (shut_bool Try.underlying4 _) trodAll_mk0), (trodAll_cons_mk (Below.trod laid (by kernel_rfl) (of_decide_eq_true (by kernel_rfl)) h0 hg lt0) (trodAll_cons_mk (Below.trod laid (by kernel_rfl) (of_decide_eq_true (by kernel_rfl)) h1 hg lt1) trodAll_mk0)), rfl, hg.frame _, fun h => by cases h⟩

theorem over : Rows.typesFuncsRow.holds Try.pinned (OpenSpec.ofChange Rows.typesFuncsSpec) :=
  OpenClaim.holds_of_wide 5 Try.f5 rfl rfl rfl rfl rfl rfl rfl ⟨rfl, rfl, rfl, rfl, rfl⟩ rfl rfl rfl rfl rfl (by kernel_rfl) Try.func5 (by kernel_rfl)
    (of_decide_eq_true (by kernel_rfl)) (by unfold Func.isWrapper; first | (rw [if_pos (by decide +kernel)]; kernel_rfl) | (rw [if_neg (by decide +kernel)]; exact ⟨rfl, rfl⟩))
    (fun os started H enc _ => lifted os started H enc)

theorem proved : Rows.TypesFuncsSaid :=
  over
end Go.Proofs.Ytkljmdekihlkeaa.typesFuncs
