/-
  Layer 51, the frame: a parameter that is machine code, read out of memory.
  Layer 51, the frame: what the rows' listed variables give; a world that holds them.
-/
import Derived.Test.YtadnfekogmjieaaGreatDoorRows
import Derived.Test.YtadnfekogmjieaaGreatDoorFGF
import Derived.Deep.Slices
import Derived.Deep.Fields
import Derived.ChangeSame
import Derived.OpenShut
import Derived.Stop.FmtTextKit
import Derived.Lib.SmallJoins
import Derived.Lay
import Derived.LaidMore
import Derived.Lib.LaidU8
import Derived.Lib.LaidTab
import Derived.Stop.Joined
import Derived.Stop.LaidErr
import Derived.ProofKit
set_option linter.unusedVariables false
set_option linter.unusedSimpArgs false
namespace Go.Proofs.YtadnfekogmjieaaGreatDoor
open Go.ChangeShapes Go.WideShapes Go.Deep Go.RowKit
open Mc (Pl Mi Mf)
theorem add_plain (g o n : Nat) : (⟨g, o, none⟩ : Addr).add n = ⟨g, o + n, none⟩ := by
  unfold Addr.add
  split
  · rename_i h; subst h; rfl
  · rfl
section
variable {H : Type} {enc : TypeId × Value → H} {w : World} {base : Nat} {held : Bool} {spare : Nat → Bool}
end
end Go.Proofs.YtadnfekogmjieaaGreatDoor
set_option linter.unusedVariables false
set_option linter.unusedSimpArgs false
namespace Go.Proofs.YtadnfekogmjieaaGreatDoor
open Go.ChangeShapes Go.WideShapes Go.ChangeAt Go.RowKit Go.Joins Go.Deep
def laid10 : List (String × DataW Unit) := [("math/bits.deBruijn32tab", Rows.laid_math_bits_deBruijn32tab), ("math/bits.deBruijn64tab", Rows.laid_math_bits_deBruijn64tab), ("internal/strconv.uint64pow10", Rows.laid_internal_strconv_uint64pow10), ("unicode/utf8.acceptRanges", Rows.laid_unicode_utf8_acceptRanges), ("strconv.ErrRange", Rows.laid_strconv_ErrRange), ("strconv.ErrSyntax", Rows.laid_strconv_ErrSyntax), ("unicode.White_Space", Rows.laid_unicode_White_Space), ("strings.asciiSpace", Rows.laid_strings_asciiSpace), ("millwright/mach.rows", Rows.laid_millwright_mach_rows), ("unicode/utf8.first", Rows.laid_unicode_utf8_first)]
set_option maxRecDepth 100000 in
theorem laid_pow : (Rows.laid_internal_strconv_uint64pow10 : DataW Unit) = Lib.tabData .u64 Lib.pow10Tab := by kernel_rfl
set_option maxRecDepth 100000 in
theorem laid_spc : (Rows.laid_strings_asciiSpace : DataW Unit) = Lib.tabData .u8 Lib.asciiSpaceTab := by kernel_rfl
set_option maxRecDepth 100000 in
theorem laid_wht : (Rows.laid_unicode_White_Space : DataW Unit) = Lib.whiteData := by kernel_rfl
set_option maxRecDepth 100000 in
theorem white_extra : WhiteExtra Tryz.prog Tryz.lays199_ren := ⟨by kernel_rfl, by kernel_rfl, by kernel_rfl, by kernel_rfl, by kernel_rfl, by kernel_rfl, by kernel_rfl, by kernel_rfl⟩
set_option maxRecDepth 100000 in
theorem wht_of {W : World} (hL : laidMet Tryz.prog laid10 W) : Lib.WhiteTab 6 W := by
  have h := whiteTab_of_reads Tryz.lays199 white_extra (w := W) (by
    rw [← laid_wht]
    exact Lib.laidMet.reads hL (by unfold laid10; simp))
  exact h
theorem star_errorString : "*" ++ "errors.errorString" = "*errors.errorString" := by decide
theorem row_errorString (u : TypeId) (h : Tryz.prog.typeName? 3 u = some "*errors.errorString") : u = 280 :=
  typeName_ptr_named (nm := "errors.errorString") (by rw [star_errorString]; kernel_rfl) (by kernel_rfl) (by decide) u (by rw [star_errorString]; exact h)
/-! The table of kinds. -/
def rwData (r : Mc.Rw) : DataW Unit := .agg [.lit (.string r.w), .lit (.bool r.op), .lit (.bool r.a), .lit (.bool r.b), .lit (.bool r.n), .lit (.bool r.t)]
set_option maxRecDepth 100000 in
theorem laid_rows : (Rows.laid_millwright_mach_rows : DataW Unit) = .agg (Mc.rws.map rwData) := by kernel_rfl
set_option maxRecDepth 100000 in
theorem cells_row : Tryz.prog.cellsOf 143 = 6 := by kernel_rfl
set_option maxRecDepth 100000 in
theorem row_of {w : World} {base : Nat} {sp : Nat → Bool} {held : Bool} {m : Nat} {cs : List Value} {r : Mc.Rw} {p : List MemPlace} (h : DataW.trod (fun _ => ()) Tryz.prog w base sp held m 143 cs = some (rwData r, p)) : cs = encRw r := by
  obtain ⟨xs, n, rfl, hx, hlen, hxl, hf⟩ := DataW.trod_struct Tryz.underlying143 h
  rw [cells_row] at hlen
  match cs, hlen with
  | [v0, v1, v2, v3, v4, v5], _ =>
    have hxl2 : xs.length = 6 := hxl
    match xs, hxl2 with
    | [x0, x1, x2, x3, x4, x5], _ =>
      have t0 := hf 0 _ rfl
      have t1 := hf 1 _ rfl
      have t2 := hf 2 _ rfl
      have t3 := hf 3 _ rfl
      have t4 := hf 4 _ rfl
      have t5 := hf 5 _ rfl
      replace t0 : DataW.trod (fun _ => ()) Tryz.prog w base sp held n 9 [v0] = some x0 := t0
      replace t1 : DataW.trod (fun _ => ()) Tryz.prog w base sp held n 4 [v1] = some x1 := t1
      replace t2 : DataW.trod (fun _ => ()) Tryz.prog w base sp held n 4 [v2] = some x2 := t2
      replace t3 : DataW.trod (fun _ => ()) Tryz.prog w base sp held n 4 [v3] = some x3 := t3
      replace t4 : DataW.trod (fun _ => ()) Tryz.prog w base sp held n 4 [v4] = some x4 := t4
      replace t5 : DataW.trod (fun _ => ()) Tryz.prog w base sp held n 4 [v5] = some x5 := t5
      obtain ⟨s, e0, f0, _⟩ := DataW.trod_string Tryz.underlying9 t0
      obtain ⟨b1, e1, f1⟩ := DataW.trod_bool Tryz.underlying4 t1
      obtain ⟨b2, e2, f2⟩ := DataW.trod_bool Tryz.underlying4 t2
      obtain ⟨b3, e3, f3⟩ := DataW.trod_bool Tryz.underlying4 t3
      obtain ⟨b4, e4, f4⟩ := DataW.trod_bool Tryz.underlying4 t4
      obtain ⟨b5, e5, f5⟩ := DataW.trod_bool Tryz.underlying4 t5
      subst f0 f1 f2 f3 f4 f5
      have hh := congrArg Prod.fst hx
      unfold rwData at hh
      simp only [List.map_cons, List.map_nil, DataW.agg.injEq, List.cons.injEq, DataW.lit.injEq, Lit.string.injEq, Lit.bool.injEq, and_true] at hh
      obtain ⟨g0, g1, g2, g3, g4, g5⟩ := hh
      simp only [List.cons.injEq, and_true] at e0 e1 e2 e3 e4 e5
      subst e0 e1 e2 e3 e4 e5
      unfold encRw
      rw [g0, g1, g2, g3, g4, g5]
set_option maxRecDepth 100000 in
theorem rws_of {W : World} (h : Lib.VarReads Tryz.prog W "millwright/mach.rows" (.agg (Mc.rws.map rwData))) : Rws W := by
  obtain ⟨g, t, cs, fuel, p, hg, hty, hv, ht⟩ := h
  obtain rfl : g = 0 := (Option.some.inj ((show Tryz.prog.globalNamed "millwright/mach.rows" = some 0 by kernel_rfl).symm.trans hg)).symm
  obtain rfl : t = 144 := (Option.some.inj ((show (Tryz.prog.globals[0]?).map (·.type) = some 144 by kernel_rfl).symm.trans hty)).symm
  obtain ⟨xs, m, rfl, hx, hcl, hxl, hel⟩ := DataW.trod_array Tryz.underlying144 ht
  have hxs : xs.map (·.1) = Mc.rws.map rwData := by
    have := congrArg Prod.fst hx
    simpa using this.symm
  have hcs : ∀ q, q < 24 → (hq : q < Mc.rws.length) → (cs.toList.drop (q * 6)).take 6 = encRw Mc.rws[q] := by
    intro q h24 hq
    have h1 := hel q h24
    rw [cells_row] at h1
    have hq2 : q < xs.length := by omega
    rw [List.getElem?_eq_getElem hq2] at h1
    have h2 : xs[q].1 = rwData Mc.rws[q] := by
      have h3 : (xs.map (·.1))[q]'(by rw [List.length_map]; exact hq2) = (Mc.rws.map rwData)[q]'(by rw [List.length_map]; exact hq) := by simp only [hxs]
      rwa [List.getElem_map, List.getElem_map] at h3
    obtain ⟨⟨x, px⟩, hxq⟩ : ∃ y, xs[q] = y := ⟨_, rfl⟩
    rw [hxq] at h1 h2
    dsimp only at h2
    subst h2
    exact row_of h1
  intro i v hi
  have hlt : i < 144 := by
    rcases Nat.lt_or_ge i 144 with h | h
    · exact h
    · rw [List.getElem?_eq_none (by rw [rowCells_len]; exact h)] at hi; cases hi
  rw [World.var?_cell hg hv i, ← Array.getElem?_toList]
  have hq : i / 6 < Mc.rws.length := by rw [Mc.rws_len]; omega
  have e1 : i = i / 6 * 6 + i % 6 := by omega
  have h1 := flat_at encRw_len Mc.rws (i / 6) hq (i % 6) (by omega)
  rw [← e1] at h1
  have h2 : rowCells[i]? = (encRw Mc.rws[i / 6])[i % 6]? := h1
  rw [h2, ← hcs (i / 6) (by omega) hq, List.getElem?_take, if_pos (by omega), List.getElem?_drop, ← e1] at hi
  exact hi
set_option maxRecDepth 100000 in
theorem glob_of_laid {W : World} (h : laidMetH Tryz.prog laid10 W) (hS : W.ShapedOpen Tryz.prog) : GlobM W := by
  rw [MakeChecks.laidMetH_plain _ _ _ (by kernel_rfl)] at h
  obtain ⟨g2, e2, f2⟩ : ∃ g, Tryz.prog.globalNamed "internal/strconv.uint64pow10" = some g ∧ (Tryz.prog.globals[g]?).map (·.type) = some 260 := ⟨_, rfl, by kernel_rfl⟩
  obtain ⟨g7, e7, f7⟩ : ∃ g, Tryz.prog.globalNamed "strings.asciiSpace" = some g ∧ (Tryz.prog.globals[g]?).map (·.type) = some 255 := ⟨_, rfl, by kernel_rfl⟩
  have hw := wht_of h
  have hr := rws_of (by
    rw [← laid_rows]
    exact Lib.laidMet.reads h (by unfold laid10; simp))
  have h2 := h.tail.tail
  have h7 := h2.tail.tail.tail.tail.tail
  rw [laid_pow] at h2
  rw [laid_spc] at h7
  have hL := h.tail.tail.tail.tail
  obtain ⟨g3, e3, f3⟩ : ∃ g, Tryz.prog.globalNamed "strconv.ErrRange" = some g ∧ (Tryz.prog.globals[g]?).map (·.type) = some 106 := ⟨_, rfl, by kernel_rfl⟩
  obtain ⟨g4, e4, f4⟩ : ∃ g, Tryz.prog.globalNamed "strconv.ErrSyntax" = some g ∧ (Tryz.prog.globals[g]?).map (·.type) = some 106 := ⟨_, rfl, by kernel_rfl⟩
  obtain ⟨a0, s0, hv0, -, -, -⟩ := laid_sentinel hL e3 f3 Tryz.underlying106 row_errorString Tryz.underlying280 Tryz.underlying282 rfl rfl Tryz.underlying9 (by kernel_rfl) (by kernel_rfl)
  obtain ⟨a1, s1, hv1, -, -, -⟩ := laid_sentinel hL.tail e4 f4 Tryz.underlying106 row_errorString Tryz.underlying280 Tryz.underlying282 rfl rfl Tryz.underlying9 (by kernel_rfl) (by kernel_rfl)
  exact ⟨⟨Lib.tabIs_of_head e2 f2 Tryz.underlying260 Tryz.underlying56 (by kernel_rfl) (by kernel_rfl) h2, ⟨_, _, hv1⟩, ⟨_, _, hv0⟩, Lib.tabIs_of_head e7 f7 Tryz.underlying255 Tryz.underlying5 (by kernel_rfl) (by kernel_rfl) h7, hw, Tryz.laysM219.s1_3 W hS⟩, hr⟩
set_option maxRecDepth 100000 in
theorem laid10_met (os : Os) (args : Array Value) : laidMetH Tryz.prog laid10 ((World.laidAll Tryz.prog os laid10).forCall (fun _ _ => 0) ⟨#[], args, []⟩).memory := by
  rw [MakeChecks.laidMetH_plain _ _ _ (by kernel_rfl)]
  exact laidMet_laidAll _ (by kernel_rfl) (by kernel_rfl)
set_option maxRecDepth 100000 in
theorem laid10_shaped (os : Os) (args : Array Value) : ((World.laidAll Tryz.prog os laid10).forCall (fun _ _ => 0) ⟨#[], args, []⟩).Shaped Tryz.prog :=
  World.shaped_of_ZipB (by kernel_rfl) (by kernel_rfl)
end Go.Proofs.YtadnfekogmjieaaGreatDoor
