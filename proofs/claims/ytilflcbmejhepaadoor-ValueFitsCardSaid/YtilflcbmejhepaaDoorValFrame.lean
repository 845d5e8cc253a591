/-
  What the rows' laid variables give: the table of powers, the two errors; the witness's world meets the condition; a value's two cells.
-/
import Derived.Test.YtilflcbmejhepaaDoorValLaws2
import Derived.Test.YtilflcbmejhepaaDoorRows
import Derived.LaidMore
import Derived.OpenShut
import Derived.ProofKit
import Derived.Stop.FmtTextKit
import Derived.Stop.LaidErr
import Derived.Lib.SmallJoins
set_option linter.unusedVariables false
namespace Go.Proofs.YtilflcbmejhepaaDoor
open Go.ChangeShapes Go.WideShapes Go.ChangeAt Go.WideMaps Go.WideElems Go.RowKit Go.Joins

def laid5 : List (String × DataW Unit) := [("math/bits.deBruijn32tab", Rows.laid_math_bits_deBruijn32tab), ("math/bits.deBruijn64tab", Rows.laid_math_bits_deBruijn64tab), ("internal/strconv.uint64pow10", Rows.laid_internal_strconv_uint64pow10), ("strconv.ErrRange", Rows.laid_strconv_ErrRange), ("strconv.ErrSyntax", Rows.laid_strconv_ErrSyntax)]

set_option maxRecDepth 100000 in
theorem door_met (os : Os) (args : Array Value) : laidMetH Tryd.prog laid5 ((World.doorLaid Tryd.prog 4000 os).forCall (fun _ _ => 0) ⟨#[], args, []⟩).memory :=
  laidMetH_of_parts3 (fuel := 8) (laidMet_of_run' 8 (by kernel_rfl) (by kernel_rfl)) (by kernel_rfl) (by kernel_rfl)
theorem laid_pow : (Rows.laid_internal_strconv_uint64pow10 : DataW Unit) = Lib.tabData .u64 Lib.pow10Tab := by kernel_rfl

theorem tab_of_laid {W : World} (h : laidMetH Tryd.prog laid5 W) : Tab W := by
  rw [MakeChecks.laidMetH_plain _ _ _ (by kernel_rfl)] at h
  obtain ⟨ps, ⟨g0, t0, cs0, f0, p0, q0, hg0, ht0, hv0, hd0, ⟨g1, t1, cs1, f1, p1, q1, hg1, ht1, hv1, hd1, ⟨g2, t2, cs2, f2, p2, q2, hg2, ht2, hv2, hd2, _⟩, _⟩, _⟩, _, _⟩ := h
  rw [laid_pow] at hd2
  obtain ⟨g, hgg⟩ : ∃ g, Tryd.prog.globalNamed "internal/strconv.uint64pow10" = some g := ⟨g2, hg2⟩
  obtain ⟨tt, htt⟩ : ∃ t, (Tryd.prog.globals[g2]?).map (·.type) = some t := ⟨t2, ht2⟩
  unfold Tab Lib.TabIs
  rw [hv2]
  have hk : ((Tryd.prog.globalNamed "internal/strconv.uint64pow10").bind fun g => (Tryd.prog.globals[g]?).map (·.type)) = some t2 := by rw [hg2]; exact ht2
  have := Lib.cells_of_tab (t := t2) (e := 23) (n := 20) (k := .u64) (zs := Lib.pow10Tab) ?_ Tryd.underlying23 (by kernel_rfl) ?_ hd2
  · rw [← this]
  · obtain ⟨t, e1, e2⟩ : ∃ t, ((Tryd.prog.globalNamed "internal/strconv.uint64pow10").bind fun g => (Tryd.prog.globals[g]?).map (·.type)) = some t ∧ Tryd.prog.underlying t = some (.array 20 23) := by
      refine ⟨_, rfl, ?_⟩
      kernel_rfl
    rw [hk] at e1
    cases e1
    exact e2
  · obtain ⟨t, e1, e2⟩ : ∃ t, ((Tryd.prog.globalNamed "internal/strconv.uint64pow10").bind fun g => (Tryd.prog.globals[g]?).map (·.type)) = some t ∧ Tryd.prog.cellsOf t = 20 := by
      refine ⟨_, rfl, ?_⟩
      kernel_rfl
    rw [hk] at e1
    cases e1
    exact e2

theorem bounds_i64 {n : Int} (h : (Lit.int .i64 n).wf = true) : -9223372036854775808 ≤ n ∧ n ≤ 9223372036854775807 := by
  have := Go.Extern.FmtText.int_bounds h
  simpa [IntKind.min, IntKind.max, IntKind.signed, IntKind.bits] using this
theorem bounds_u64 {n : Int} (h : (Lit.int .u64 n).wf = true) : 0 ≤ n ∧ n ≤ 18446744073709551615 := by
  have := Go.Extern.FmtText.int_bounds h
  simpa [IntKind.min, IntKind.max, IntKind.signed, IntKind.bits] using this
theorem u64_of (a : Int) (h : (Lit.int .u64 a).wf = true) : ((a.toNat : Nat) : Int) = a := by have := bounds_u64 h; omega
theorem u64_lt {a : Int} (h : (Lit.int .u64 a).wf = true) : a.toNat < 18446744073709551616 := by have := bounds_u64 h; omega

theorem star_errorString : "*" ++ "errors.errorString" = "*errors.errorString" := by decide
theorem row_errorString (u : TypeId) (h : Tryd.prog.typeName? 3 u = some "*errors.errorString") : u = 101 :=
  typeName_ptr_named (nm := "errors.errorString") (by rw [star_errorString]; kernel_rfl) (by kernel_rfl) (by decide) u (by rw [star_errorString]; exact h)
theorem glob_of_laid {W : World} (h : laidMetH Tryd.prog laid5 W) : Glob W := by
  have ht := tab_of_laid h
  rw [MakeChecks.laidMetH_plain _ _ _ (by kernel_rfl)] at h
  have hL := h.tail.tail.tail
  obtain ⟨g3, e3, f3⟩ : ∃ g, Tryd.prog.globalNamed "strconv.ErrRange" = some g ∧ (Tryd.prog.globals[g]?).map (·.type) = some 64 := ⟨_, rfl, by kernel_rfl⟩
  obtain ⟨g4, e4, f4⟩ : ∃ g, Tryd.prog.globalNamed "strconv.ErrSyntax" = some g ∧ (Tryd.prog.globals[g]?).map (·.type) = some 64 := ⟨_, rfl, by kernel_rfl⟩
  obtain ⟨a0, s0, hv0, -, -, -⟩ := laid_sentinel hL e3 f3 Tryd.underlying64 row_errorString Tryd.underlying101 Tryd.underlying103 rfl rfl Tryd.underlying9 (by kernel_rfl) (by kernel_rfl)
  obtain ⟨a1, s1, hv1, -, -, -⟩ := laid_sentinel hL.tail e4 f4 Tryd.underlying64 row_errorString Tryd.underlying101 Tryd.underlying103 rfl rfl Tryd.underlying9 (by kernel_rfl) (by kernel_rfl)
  exact ⟨ht, ⟨_, _, hv1⟩, ⟨_, _, hv0⟩⟩

section
variable {H : Type} {enc : TypeId × Value → H} {w : World} {base : Nat} {held : Bool} {r : Reach} {b0 : Nat} {v : Value} {d : DataW H} {p : List MemPlace}
theorem open_val (hv : Value.okWide Tryd.prog w r b0 25 v) (h : DataW.Trod enc Tryd.prog w base (fun _ => true) held 25 v d p) :
    ∃ (x : Val.V), v = vv x ∧ x.n < 18446744073709551616 := by
  obtain ⟨v0, v1, y0, y1, n, rfl, _, _, h0, h1⟩ := open_agg2 Tryd.underlying25 (by kernel_rfl) (by kernel_rfl) hv h
  obtain ⟨t, e0, _, _⟩ := DataW.trod_int Tryd.underlying22 h0
  obtain ⟨m, e1, _, wf⟩ := DataW.trod_int Tryd.underlying23 h1
  obtain rfl : v0 = .int .i64 t := by simpa using e0
  obtain rfl : v1 = .int .u64 m := by simpa using e1
  refine ⟨⟨t, m.toNat⟩, ?_, u64_lt wf⟩
  unfold vv
  dsimp only
  rw [u64_of m wf]
end
end Go.Proofs.YtilflcbmejhepaaDoor
