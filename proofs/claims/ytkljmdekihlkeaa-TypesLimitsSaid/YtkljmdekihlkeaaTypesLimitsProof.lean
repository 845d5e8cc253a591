/-
  The law TypesLimits of the given program returns true for every input and leaves its argument as it was.
  The frame follows the kit's proof-skeleton; the struct of structs is opened here; the walk is in the imported texts.
-/
import Derived.Test.YtkljmdekihlkeaaRows
import Derived.Test.YtkljmdekihlkeaaTypesLimits
import Derived.WalkKit
import Derived.ProofKit
import Derived.Below
import Derived.OpenShut
import Derived.ShutString
import Derived.Carry
import Derived.Lib.SmallJoins
namespace Go.Proofs.Ytkljmdekihlkeaa.typesLimits
open Go.ChangeShapes Go.WideShapes Go.ChangeAt Go.RowKit Go.Joins Go.Deep
set_option linter.unusedVariables false

theorem own : ownKnob Try.prog.godebug = none := by kernel_rfl
theorem laid : laidOutB Try.prog = true := by kernel_rfl
theorem cells3 : Try.prog.cellsOf 3 = 1 := by kernel_rfl
theorem cells4 : Try.prog.cellsOf 4 = 1 := by kernel_rfl
theorem cells28 : Try.prog.cellsOf 28 = 1 := by kernel_rfl
theorem cells23 : Try.prog.cellsOf 23 = 3 := by kernel_rfl
theorem cells30 : Try.prog.cellsOf 30 = 4 := by kernel_rfl
theorem cells32 : Try.prog.cellsOf 32 = 2 := by kernel_rfl
theorem cells34 : Try.prog.cellsOf 34 = 11 := by kernel_rfl

section
variable {H : Type} {enc : TypeId × Value → H} {w : World} {base : Nat} {spare : Nat → Bool} {held : Bool}
/-- Three cells that read as Limits: two integers and a bool. -/
theorem lim_cells {fuel : Nat} {c0 c1 c2 : Value} {x : DataW H × List MemPlace} (h : DataW.trod enc Try.prog w base spare held fuel 23 [c0, c1, c2] = some x) :
    ∃ (mn mx : Int) (hs : Bool), c0 = .int .i64 mn ∧ c1 = .int .i64 mx ∧ c2 = .bool hs := by
  obtain ⟨y0, y1, y2, n, hx, hl, h0, h1, h2⟩ := trod_struct3 Try.underlying23 h
  have k0 : DataW.trod enc Try.prog w base spare held n 3 [c0] = some y0 := by simpa [cells3] using h0
  have k1 : DataW.trod enc Try.prog w base spare held n 3 [c1] = some y1 := by simpa [cells3] using h1
  have k2 : DataW.trod enc Try.prog w base spare held n 4 [c2] = some y2 := by simpa [cells4] using h2
  obtain ⟨mn, e0, _⟩ := DataW.trod_int Try.underlying3 k0
  obtain ⟨mx, e1, _⟩ := DataW.trod_int Try.underlying3 k1
  obtain ⟨hs, e2, _⟩ := DataW.trod_bool Try.underlying4 k2
  refine ⟨mn, mx, hs, ?_, ?_, ?_⟩
  · simpa using e0
  · simpa using e1
  · simpa using e2
theorem tab_cells {fuel : Nat} {c0 c1 c2 c3 : Value} {x : DataW H × List MemPlace} (h : DataW.trod enc Try.prog w base spare held fuel 30 [c0, c1, c2, c3] = some x) :
    ∃ (el mn mx : Int) (hs : Bool), c0 = .int .i64 el ∧ c1 = .int .i64 mn ∧ c2 = .int .i64 mx ∧ c3 = .bool hs := by
  obtain ⟨y0, y1, n, hx, hl, h0, h1⟩ := trod_struct2 Try.underlying30 h
  have k0 : DataW.trod enc Try.prog w base spare held n 28 [c0] = some y0 := by simpa [cells28] using h0
  have k1 : DataW.trod enc Try.prog w base spare held n 23 [c1, c2, c3] = some y1 := by simpa [cells23] using h1
  obtain ⟨el, e0, _⟩ := DataW.trod_int Try.underlying28 k0
  obtain ⟨mn, mx, hs, rfl, rfl, rfl⟩ := lim_cells k1
  exact ⟨el, mn, mx, hs, by simpa using e0, rfl, rfl, rfl⟩
theorem glo_cells {fuel : Nat} {c0 c1 : Value} {x : DataW H × List MemPlace} (h : DataW.trod enc Try.prog w base spare held fuel 32 [c0, c1] = some x) :
    ∃ (v : Int) (m : Bool), c0 = .int .i64 v ∧ c1 = .bool m := by
  obtain ⟨y0, y1, n, hx, hl, h0, h1⟩ := trod_struct2 Try.underlying32 h
  have k0 : DataW.trod enc Try.prog w base spare held n 28 [c0] = some y0 := by simpa [cells28] using h0
  have k1 : DataW.trod enc Try.prog w base spare held n 4 [c1] = some y1 := by simpa [cells4] using h1
  obtain ⟨v, e0, _⟩ := DataW.trod_int Try.underlying28 k0
  obtain ⟨m, e1, _⟩ := DataW.trod_bool Try.underlying4 k1
  exact ⟨v, m, by simpa using e0, by simpa using e1⟩
theorem array11 {α : Type} {cs : Array α} (h : cs.size = 11) : ∃ c0 c1 c2 c3 c4 c5 c6 c7 c8 c9 c10, cs = #[c0, c1, c2, c3, c4, c5, c6, c7, c8, c9, c10] := by
  obtain ⟨l⟩ := cs
  match l, h with
  | [c0, c1, c2, c3, c4, c5, c6, c7, c8, c9, c10], _ => exact ⟨c0, c1, c2, c3, c4, c5, c6, c7, c8, c9, c10, rfl⟩
theorem open_imp {r : Reach} {b0 : Nat} {v : Value} {d : DataW H} {p : List MemPlace} (hv : Value.okWide Try.prog w r b0 34 v) (h : DataW.Trod enc Try.prog w base spare held 34 v d p) :
    ∃ (el mn mx : Int) (has : Bool) (gv : Int) (gm : Bool) (wmn wmx : Int) (wh : Bool) (most now : Int), v = .agg #[.int .i64 el, .int .i64 mn, .int .i64 mx, .bool has, .int .i64 gv, .bool gm, .int .i64 wmn, .int .i64 wmx, .bool wh, .int .i64 most, .int .i64 now] := by
  obtain ⟨cs, rfl, hsz⟩ := okWide_struct Try.underlying34 hv
  obtain ⟨c0, c1, c2, c3, c4, c5, c6, c7, c8, c9, c10, rfl⟩ := array11 (hsz.trans cells34)
  obtain ⟨fuel, hf⟩ := h
  obtain ⟨xs, n, _, _, _, hlen, hi⟩ := DataW.trod_struct Try.underlying34 hf
  have h0 := hi 0 _ rfl
  have h1 := hi 1 _ rfl
  have h2 := hi 2 _ rfl
  have h3 := hi 3 _ rfl
  have h4 := hi 4 _ rfl
  have hl5 : xs.length = 5 := by simpa using hlen
  rw [List.getElem?_eq_getElem (by omega)] at h0 h1 h2 h3 h4
  obtain ⟨el, mn, mx, has, rfl, rfl, rfl, rfl⟩ := tab_cells (c0 := c0) (c1 := c1) (c2 := c2) (c3 := c3) (by simpa [Value.cells, cells30] using h0)
  obtain ⟨gv, gm, rfl, rfl⟩ := glo_cells (c0 := c4) (c1 := c5) (by simpa [Value.cells, cells32] using h1)
  obtain ⟨wmn, wmx, wh, rfl, rfl, rfl⟩ := lim_cells (c0 := c6) (c1 := c7) (c2 := c8) (by simpa [Value.cells, cells23] using h2)
  obtain ⟨most, e3, _⟩ := DataW.trod_int (cs := [c9]) Try.underlying3 (by simpa [Value.cells, cells3] using h3)
  obtain ⟨now, e4, _⟩ := DataW.trod_int (cs := [c10]) Try.underlying3 (by simpa [Value.cells, cells3] using h4)
  simp only [List.cons.injEq, and_true] at e3 e4
  subst e3 e4
  exact ⟨el, mn, mx, has, gv, gm, wmn, wmx, wh, most, now, rfl⟩
end

set_option maxRecDepth 100000 in
theorem lifted (os : Os) (started : os.Started) (H : Type) (enc : TypeId × Value → H) :
    ReturnsInHanded {} Try.checked os 4 .any (Rows.typesLimitsSpec.pre6 enc Try.prog Try.f4 Rows.typesLimitsRow.domain false) (Rows.typesLimitsSpec.post enc Try.prog Try.f4 false true false false) := by
  refine returnsInHanded_of_change (C := Try.checked) own started (by kernel_rfl) Try.func4
    (ChangeSpec.witness6 (enc := enc) (C := Try.checked) false ⟨#[], #[.agg #[.int .i64 0, .int .i64 0, .int .i64 0, .bool false, .int .i64 0, .bool false, .int .i64 0, .int .i64 0, .bool false, .int .i64 0, .int .i64 0]], []⟩ 8 (by kernel_rfl) (by kernel_rfl) (by kernel_rfl) (by kernel_rfl)) ?_
  intro W base args ds gs before hval0 hW hcnd _
  have hval : ∀ (j : Nat) t v, Try.f4.params[j]? = some t → args[j]? = some v → Value.okWide Try.prog W .any base t v := hval0
  have hW' := hW
  obtain ⟨p, q, hA0, hV, rfl, hfz, hnd⟩ := hW
  have hA : DataW.TrodAll enc Try.prog W 0 (fun _ => true) true Try.f4.params.toList args.toList ds p := hA0
  rw [Try.params4] at hA hval
  obtain ⟨v0, vs0, d0, ds0, p0, q0, hargs, rfl, rfl, h0, r0⟩ := trodAll_cons hA
  obtain ⟨rfl, rfl, rfl⟩ := trodAll_nil r0
  obtain rfl : args = #[v0] := by cases args; simp_all
  obtain ⟨rfl, rfl⟩ := trodVars_none hV
  obtain ⟨el, mn, mx, has, gv, gm, wmn, wmx, wh, most, now, rfl⟩ := open_imp (hval 0 34 v0 rfl rfl) h0
  clear hA0 hval0
  simp only [List.append_nil] at hW'
  refine (typesLimits_walk el mn mx has gv gm wmn wmx wh most now W).mono fun e W' ⟨he, hg⟩ => ?_
  subst he
  have lt0 : ∀ x ∈ p0, x.block < W.heap.size := by obtain ⟨m, hm⟩ := h0; exact DataW.trod_lt m _ _ _ hm
  exact ⟨_, rfl, _, _, _, [], _, [], hW', (trodAll_cons_mk (shut_bool Try.underlying4 _) trodAll_mk0), (trodAll_cons_mk (Below.trod laid (by kernel_rfl) (of_decide_eq_true (by kernel_rfl)) h0 hg lt0) trodAll_mk0), rfl, hg.frame _, fun h => by cases h⟩

theorem over : Rows.typesLimitsRow.holds Try.pinned (OpenSpec.ofChange Rows.typesLimitsSpec) :=
  OpenClaim.holds_of_wide 4 Try.f4 rfl rfl rfl rfl rfl rfl rfl ⟨rfl, rfl, rfl, rfl, rfl⟩ rfl rfl rfl rfl rfl (by kernel_rfl) Try.func4 (by kernel_rfl)
    (of_decide_eq_true (by kernel_rfl)) (by unfold Func.isWrapper; first | (rw [if_pos (by decide +kernel)]; kernel_rfl) | (rw [if_neg (by decide +kernel)]; exact ⟨rfl, rfl⟩))
    (fun os started H enc _ => lifted os started H enc)

theorem proved : Rows.TypesLimitsSaid :=
  over
end Go.Proofs.Ytkljmdekihlkeaa.typesLimits
