/-
  The law TypesBack of the given program returns true for every input and leaves its arguments as they were.
  The frame follows the kit's proof-skeleton; the structs are opened in TypesFrame; the walk is in the imported texts.
-/
import Derived.Test.YtkljmdekihlkeaaRows
import Derived.Test.YtkljmdekihlkeaaTypesBackA
import Derived.Test.YtkljmdekihlkeaaTypesBackN
import Derived.Test.YtkljmdekihlkeaaTypesBackY
import Derived.Test.YtkljmdekihlkeaaTypesBackZ
import Derived.Test.YtkljmdekihlkeaaTypesFrame
import Derived.WalkKit
import Derived.ProofKit
import Derived.Below
import Derived.OpenShut
import Derived.ShutString
import Derived.Carry
import Derived.Lib.SmallJoins
namespace Go.Proofs.Ytkljmdekihlkeaa.typesBack
open Go.ChangeShapes Go.WideShapes Go.ChangeAt Go.RowKit Go.Joins Go.Deep
set_option linter.unusedVariables false

theorem own : ownKnob Try.prog.godebug = none := by kernel_rfl
theorem laid : laidOutB Try.prog = true := by kernel_rfl

theorem walk (t : Int) (A1 A2 B1 B2 : Option Addr) (c1 c2 d1 d2 : Nat) (ps rs qs ss : List Int) (w : World) (h0 : RdI w w.heap.size A1 ps) (h1 : RdI w w.heap.size A2 rs) (h2 : RdI w w.heap.size B1 qs) (h3 : RdI w w.heap.size B2 ss) :
    Calls Try.prog 7 #[.int .i64 t, .agg #[.slice A1 ps.length c1, .slice A2 rs.length c2], .agg #[.slice B1 qs.length d1, .slice B2 ss.length d2]] w fun e w' => e = .returned (.bool true) ∧ Below w.heap.size w w' := by
  cases k1 : (decide (ps.length ≤ 100) && decide (rs.length ≤ 100))
  · exact back_no1 t A1 A2 B1 B2 c1 c2 d1 d2 ps rs qs ss w h0 h1 h2 h3 k1
  cases k2 : (decide (qs.length ≤ 100) && decide (ss.length ≤ 100))
  · exact back_no2 t A1 A2 B1 B2 c1 c2 d1 d2 ps rs qs ss w h0 h1 h2 h3 k1 k2
  simp at k1 k2
  cases hv : Ty.val t
  · cases ra : (Ty.right ps && Ty.right rs)
    · exact back_N1 t A1 A2 B1 B2 c1 c2 d1 d2 ps rs qs ss w h0 h1 h2 h3 k1.1 k1.2 k2.1 k2.2 hv ra
    cases rb_ : (Ty.right qs && Ty.right ss)
    · exact back_N2 t A1 A2 B1 B2 c1 c2 d1 d2 ps rs qs ss w h0 h1 h2 h3 k1.1 k1.2 k2.1 k2.2 hv ra rb_
    · exact back_N3 t A1 A2 B1 B2 c1 c2 d1 d2 ps rs qs ss w h0 h1 h2 h3 k1.1 k1.2 k2.1 k2.2 hv ra rb_ _ rfl
  rcases Ty.num_ref hv with ⟨hn, hr⟩ | ⟨hn, hr⟩
  · cases ra : (Ty.right ps && Ty.right rs)
    · exact back_Y1 t A1 A2 B1 B2 c1 c2 d1 d2 ps rs qs ss w h0 h1 h2 h3 k1.1 k1.2 k2.1 k2.2 hv hn hr ra
    cases rb_ : (Ty.right qs && Ty.right ss)
    · exact back_Y2 t A1 A2 B1 B2 c1 c2 d1 d2 ps rs qs ss w h0 h1 h2 h3 k1.1 k1.2 k2.1 k2.2 hv hn hr ra rb_
    · exact back_Y3 t A1 A2 B1 B2 c1 c2 d1 d2 ps rs qs ss w h0 h1 h2 h3 k1.1 k1.2 k2.1 k2.2 hv hn hr ra rb_ _ rfl
  · cases ra : (Ty.right ps && Ty.right rs)
    · exact back_Z1 t A1 A2 B1 B2 c1 c2 d1 d2 ps rs qs ss w h0 h1 h2 h3 k1.1 k1.2 k2.1 k2.2 hv hn hr ra
    cases rb_ : (Ty.right qs && Ty.right ss)
    · exact back_Z2 t A1 A2 B1 B2 c1 c2 d1 d2 ps rs qs ss w h0 h1 h2 h3 k1.1 k1.2 k2.1 k2.2 hv hn hr ra rb_
    · exact back_Z3 t A1 A2 B1 B2 c1 c2 d1 d2 ps rs qs ss w h0 h1 h2 h3 k1.1 k1.2 k2.1 k2.2 hv hn hr ra rb_ _ rfl

set_option maxRecDepth 100000 in
theorem lifted (os : Os) (started : os.Started) (H : Type) (enc : TypeId × Value → H) :
    ReturnsInHanded {} Try.checked os 7 .any (Rows.typesBackSpec.pre6 enc Try.prog Try.f7 Rows.typesBackRow.domain false) (Rows.typesBackSpec.post enc Try.prog Try.f7 false true false false) := by
  refine returnsInHanded_of_change (C := Try.checked) own started (by kernel_rfl) Try.func7
    (ChangeSpec.witness6 (enc := enc) (C := Try.checked) false ⟨#[], #[.int .i64 0, .agg #[.slice none 0 0, .slice none 0 0], .agg #[.slice none 0 0, .slice none 0 0]], []⟩ 8 (by kernel_rfl) (by kernel_rfl) (by kernel_rfl) (by kernel_rfl)) ?_
  intro W base args ds gs before hval0 hW hcnd _
  have hval : ∀ (j : Nat) t v, Try.f7.params[j]? = some t → args[j]? = some v → Value.okWide Try.prog W .any base t v := hval0
  have hW' := hW
  obtain ⟨p, q, hA0, hV, rfl, hfz, hnd⟩ := hW
  have hA : DataW.TrodAll enc Try.prog W 0 (fun _ => true) true Try.f7.params.toList args.toList ds p := hA0
  rw [Try.params7] at hA hval
  obtain ⟨v0, vs0, d0, ds0, p0, q0, hargs, rfl, rfl, h0, r0⟩ := trodAll_cons hA
  obtain ⟨v1, vs1, d1, ds1, p1, q1, rfl, rfl, rfl, h1, r1⟩ := trodAll_cons r0
  obtain ⟨v2, vs2, d2, ds2, p2, q2, rfl, rfl, rfl, h2, r2⟩ := trodAll_cons r1
  obtain ⟨rfl, rfl, rfl⟩ := trodAll_nil r2
  obtain rfl : args = #[v0, v1, v2] := by cases args; simp_all
  obtain ⟨rfl, rfl⟩ := trodVars_none hV
  obtain ⟨t, rfl, rfl, rfl, w0⟩ := open_int Try.underlying3 (hval 0 3 v0 rfl rfl) h0
  obtain ⟨A1, A2, c1, c2, ps, rs, rfl, k0, k1⟩ := open_func (hval 1 41 v1 rfl rfl) h1
  obtain ⟨B1, B2, e1, e2, qs, ss, rfl, k2, k3⟩ := open_func (hval 2 41 v2 rfl rfl) h2
  clear hA0 hval0
  simp only [List.append_nil] at hW'
  refine (walk t A1 A2 B1 B2 c1 c2 e1 e2 ps rs qs ss W k0 k1 k2 k3).mono fun e W' ⟨he, hg⟩ => ?_
  subst he
  have lt2 : ∀ x ∈ p2, x.block < W.heap.size := by obtain ⟨m, hm⟩ := h2; exact DataW.trod_lt m _ _ _ hm
  have lt1 : ∀ x ∈ p1, x.block < W.heap.size := by obtain ⟨m, hm⟩ := h1; exact DataW.trod_lt m _ _ _ hm
  exact ⟨_, rfl, _, _, _, [], _, [], hW', (trodAll_cons_mk (shut_bool Try.underlying4 _) trodAll_mk0), (trodAll_cons_mk (shut_int Try.underlying3 w0) (trodAll_cons_mk (Below.trod laid (by kernel_rfl) (of_decide_eq_true (by kernel_rfl)) h1 hg lt1) (trodAll_cons_mk (Below.trod laid (by kernel_rfl) (of_decide_eq_true (by kernel_rfl)) h2 hg lt2) trodAll_mk0))), rfl, hg.frame _, fun h => by cases h⟩

theorem over : Rows.typesBackRow.holds Try.pinned (OpenSpec.ofChange Rows.typesBackSpec) :=
  OpenClaim.holds_of_wide 7 Try.f7 rfl rfl rfl rfl rfl rfl rfl ⟨rfl, rfl, rfl, rfl, rfl⟩ rfl rfl rfl rfl rfl (by kernel_rfl) Try.func7 (by kernel_rfl)
    (of_decide_eq_true (by kernel_rfl)) (by unfold Func.isWrapper; first | (rw [if_pos (by decide +kernel)]; kernel_rfl) | (rw [if_neg (by decide +kernel)]; exact ⟨rfl, rfl⟩))
    (fun os started H enc _ => lifted os started H enc)

theorem proved : Rows.TypesBackSaid :=
  over
end Go.Proofs.Ytkljmdekihlkeaa.typesBack
