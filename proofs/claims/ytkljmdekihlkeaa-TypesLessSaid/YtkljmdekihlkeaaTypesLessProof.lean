/-
  The law TypesLess of the given program returns true for every input and leaves its arguments as they were.
  The frame follows the kit's proof-skeleton; the struct and the array of structs are opened here; the walk is in the imported texts.
-/
import Derived.Test.YtkljmdekihlkeaaRows
import Derived.Test.YtkljmdekihlkeaaTypesLess
import Derived.WalkKit
import Derived.ProofKit
import Derived.Below
import Derived.OpenShut
import Derived.ShutString
import Derived.Carry
import Derived.Lib.SmallJoins
namespace Go.Proofs.Ytkljmdekihlkeaa.typesLess
open Go.ChangeShapes Go.WideShapes Go.ChangeAt Go.RowKit Go.Joins Go.Deep
set_option linter.unusedVariables false

theorem own : ownKnob Try.prog.godebug = none := by kernel_rfl
theorem laid : laidOutB Try.prog = true := by kernel_rfl
theorem cells3 : Try.prog.cellsOf 3 = 1 := by kernel_rfl
theorem cells4 : Try.prog.cellsOf 4 = 1 := by kernel_rfl
theorem cells23 : Try.prog.cellsOf 23 = 3 := by kernel_rfl
theorem cells24 : Try.prog.cellsOf 24 = 6 := by kernel_rfl

section
variable {H : Type} {enc : TypeId × Value → H} {w : World} {base : Nat} {spare : Nat → Bool} {held : Bool}
/-- Three cells that read as Limits: two integers and a bool. -/
theorem lim_cells {fuel : Nat} {c0 c1 c2 : Value} {x : DataW H × List MemPlace} (h : DataW.trod enc Try.prog w base spare held fuel 23 [c0, c1, c2] = some x) :
    ∃ (mn mx : Int) (hs : Bool), c0 = .int .i64 mn ∧ c1 = .int .i64 mx ∧ c2 = .bool hs := by
  obtain ⟨y0, y1, y2, n, hx, hl, h0, h1, h2⟩ := trod_struct3 Try.underlying23 h
  have k0 : DataW.trod enc Try.prog w base spare held n 3 [c0] = some y0 := by simpa [cells3] using h0
  have k1 : DataW.trod enc Try.prog w base spare held n 3 [c1] = some y1 := by simpa [cells3] using h1
  have k2 : DataW.trod enc Try.prog w base spare held n 4 [c2] = some y2 := by simpa [cells4] using h2
  obtain ⟨mn, e0, _⟩ := DataW.trod_int Try.underlying3 k0
  obtain ⟨mx, e1, _⟩ := DataW.trod_int Try.underlying3 k1
  obtain ⟨hs, e2, _⟩ := DataW.trod_bool Try.underlying4 k2
  refine ⟨mn, mx, hs, ?_, ?_, ?_⟩
  · simpa using e0
  · simpa using e1
  · simpa using e2
theorem array6 {α : Type} {cs : Array α} (h : cs.size = 6) : ∃ c0 c1 c2 c3 c4 c5, cs = #[c0, c1, c2, c3, c4, c5] := by
  obtain ⟨l⟩ := cs
  match l, h with
  | [c0, c1, c2, c3, c4, c5], _ => exact ⟨c0, c1, c2, c3, c4, c5, rfl⟩
theorem open_lim {r : Reach} {b0 : Nat} {v : Value} {d : DataW H} {p : List MemPlace} (hv : Value.okWide Try.prog w r b0 23 v) (h : DataW.Trod enc Try.prog w base spare held 23 v d p) :
    ∃ (mn mx : Int) (hs : Bool), v = .agg #[.int .i64 mn, .int .i64 mx, .bool hs] := by
  obtain ⟨cs, rfl, hsz⟩ := okWide_struct Try.underlying23 hv
  obtain ⟨c0, c1, c2, rfl⟩ := array3 (hsz.trans cells23)
  obtain ⟨fuel, hf⟩ := h
  obtain ⟨mn, mx, hs, rfl, rfl, rfl⟩ := lim_cells (c0 := c0) (c1 := c1) (c2 := c2) (by simpa [Value.cells] using hf)
  exact ⟨mn, mx, hs, rfl⟩
theorem okWide_array {r : Reach} {b0 : Nat} {t e : TypeId} {n : Nat} {v : Value} (ht : Try.prog.underlying t = some (.array n e)) (h : Value.okWide Try.prog w r b0 t v) : ∃ cs, v = .agg cs ∧ cs.size = Try.prog.cellsOf t := by
  simp only [Value.okWide, ht] at h
  obtain ⟨cs, h1, h2, _⟩ := h
  exact ⟨cs, h1, h2⟩
theorem open_two {r : Reach} {b0 : Nat} {v : Value} {d : DataW H} {p : List MemPlace} (hv : Value.okWide Try.prog w r b0 24 v) (h : DataW.Trod enc Try.prog w base spare held 24 v d p) :
    ∃ (mn mx : Int) (hs : Bool) (mn' mx' : Int) (hs' : Bool), v = .agg #[.int .i64 mn, .int .i64 mx, .bool hs, .int .i64 mn', .int .i64 mx', .bool hs'] := by
  obtain ⟨cs, rfl, hsz⟩ := okWide_array Try.underlying24 hv
  obtain ⟨c0, c1, c2, c3, c4, c5, rfl⟩ := array6 (hsz.trans cells24)
  obtain ⟨fuel, hf⟩ := h
  obtain ⟨xs, m, _, _, _, hlen, hi⟩ := DataW.trod_array Try.underlying24 hf
  have h0 := hi 0 (by omega)
  have h1 := hi 1 (by omega)
  rw [List.getElem?_eq_getElem (by omega)] at h0 h1
  obtain ⟨mn, mx, hs, rfl, rfl, rfl⟩ := lim_cells (c0 := c0) (c1 := c1) (c2 := c2) (by simpa [Value.cells, cells23] using h0)
  obtain ⟨mn', mx', hs', rfl, rfl, rfl⟩ := lim_cells (c0 := c3) (c1 := c4) (c2 := c5) (by simpa [Value.cells, cells23] using h1)
  exact ⟨mn, mx, hs, mn', mx', hs', rfl⟩
end

set_option maxRecDepth 100000 in
theorem lifted (os : Os) (started : os.Started) (H : Type) (enc : TypeId × Value → H) :
    ReturnsInHanded {} Try.checked os 3 .any (Rows.typesLessSpec.pre6 enc Try.prog Try.f3 Rows.typesLessRow.domain false) (Rows.typesLessSpec.post enc Try.prog Try.f3 false true false false) := by
  refine returnsInHanded_of_change (C := Try.checked) own started (by kernel_rfl) Try.func3
    (ChangeSpec.witness6 (enc := enc) (C := Try.checked) false ⟨#[], #[.int .i64 0, .agg #[.int .i64 0, .int .i64 0, .bool false], .agg #[.int .i64 0, .int .i64 0, .bool false, .int .i64 0, .int .i64 0, .bool false]], []⟩ 8 (by kernel_rfl) (by kernel_rfl) (by kernel_rfl) (by kernel_rfl)) ?_
  intro W base args ds gs before hval0 hW hcnd _
  have hval : ∀ (j : Nat) t v, Try.f3.params[j]? = some t → args[j]? = some v → Value.okWide Try.prog W .any base t v := hval0
  have hW' := hW
  obtain ⟨p, q, hA0, hV, rfl, hfz, hnd⟩ := hW
  have hA : DataW.TrodAll enc Try.prog W 0 (fun _ => true) true Try.f3.params.toList args.toList ds p := hA0
  rw [Try.params3] at hA hval
  obtain ⟨v0, vs0, d0, ds0, p0, q0, hargs, rfl, rfl, h0, r0⟩ := trodAll_cons hA
  obtain ⟨v1, vs1, d1, ds1, p1, q1, rfl, rfl, rfl, h1, r1⟩ := trodAll_cons r0
  obtain ⟨v2, vs2, d2, ds2, p2, q2, rfl, rfl, rfl, h2, r2⟩ := trodAll_cons r1
  obtain ⟨rfl, rfl, rfl⟩ := trodAll_nil r2
  obtain rfl : args = #[v0, v1, v2] := by cases args; simp_all
  obtain ⟨rfl, rfl⟩ := trodVars_none hV
  obtain ⟨a0, rfl, rfl, rfl, w0⟩ := open_int Try.underlying3 (hval 0 3 v0 rfl rfl) h0
  obtain ⟨hmn, hmx, hh, rfl⟩ := open_lim (hval 1 23 v1 rfl rfl) h1
  obtain ⟨amn, amx, ah, bmn, bmx, bh, rfl⟩ := open_two (hval 2 24 v2 rfl rfl) h2
  clear hA0 hval0
  simp only [List.append_nil] at hW'
  refine (typesLess_walk a0 hmn hmx hh amn amx ah bmn bmx bh W).mono fun e W' ⟨he, hg⟩ => ?_
  subst he
  have lt1 : ∀ x ∈ p1, x.block < W.heap.size := by obtain ⟨m, hm⟩ := h1; exact DataW.trod_lt m _ _ _ hm
  have lt2 : ∀ x ∈ p2, x.block < W.heap.size := by obtain ⟨m, hm⟩ := h2; exact DataW.trod_lt m _ _ _ hm
  exact ⟨_, rfl, _, _, _, [], _, [], hW', (trodAll_cons_mk (shut_bool Try.underlying4 _) trodAll_mk0), (trodAll_cons_mk (shut_int Try.underlying3 w0) (trodAll_cons_mk (Below.trod laid (by kernel_rfl) (of_decide_eq_true (by kernel_rfl)) h1 hg lt1) (trodAll_cons_mk (Below.trod laid (by kernel_rfl) (of_decide_eq_true (by kernel_rfl)) h2 hg lt2) trodAll_mk0))), rfl, hg.frame _, fun h => by cases h⟩

theorem over : Rows.typesLessRow.holds Try.pinned (OpenSpec.ofChange Rows.typesLessSpec) :=
  OpenClaim.holds_of_wide 3 Try.f3 rfl rfl rfl rfl rfl rfl rfl ⟨rfl, rfl, rfl, rfl, rfl⟩ rfl rfl rfl rfl rfl (by kernel_rfl) Try.func3 (by kernel_rfl)
    (of_decide_eq_true (by kernel_rfl)) (by unfold Func.isWrapper; first | (rw [if_pos (by decide +kernel)]; kernel_rfl) | (rw [if_neg (by decide +kernel)]; exact ⟨rfl, rfl⟩))
    (fun os started H enc _ => lifted os started H enc)

theorem proved : Rows.TypesLessSaid :=
  over
end Go.Proofs.Ytkljmdekihlkeaa.typesLess
