/-
  What a parameter of type Things is when it comes in, opened.
-/
import Derived.Test.YtagcildoebicnaaBtFrame
set_option linter.unusedVariables false
set_option maxRecDepth 100000
namespace Go.Proofs.Ytagcildoebicnaa
open Go.ChangeShapes Go.WideShapes Go.ChangeAt Go.RowKit Go.Joins Go.Deep

theorem arr14 {α : Type} {cs : Array α} (h : cs.size = 14) : ∃ c0 c1 c2 c3 c4 c5 c6 c7 c8 c9 c10 c11 c12 c13, cs = #[c0, c1, c2, c3, c4, c5, c6, c7, c8, c9, c10, c11, c12, c13] := by
  obtain ⟨l⟩ := cs
  match l, h with
  | [c0, c1, c2, c3, c4, c5, c6, c7, c8, c9, c10, c11, c12, c13], _ => exact ⟨c0, c1, c2, c3, c4, c5, c6, c7, c8, c9, c10, c11, c12, c13, rfl⟩
theorem func_cells {H : Type} {enc : TypeId × Value → H} {w : World} {base : Nat} {held : Bool} {fuel : Nat} {c0 c1 : Value} {x : DataW H × List MemPlace} (h : DataW.trod enc Try.prog w base (fun _ => true) held fuel 76 [c0, c1] = some x) :
    ∃ (A1 A2 : Option Addr) (e1 e2 : Nat) (ps rs : List Int), c0 = .slice A1 ps.length e1 ∧ c1 = .slice A2 rs.length e2 ∧ RdI w w.heap.size A1 ps ∧ RdI w w.heap.size A2 rs ∧ ps.length ≤ maxLen ∧ rs.length ≤ maxLen := by
  obtain ⟨y0, y1, n, hx, hl, h0, h1⟩ := trod_struct2 Try.underlying76 h
  have k0 : DataW.trod enc Try.prog w base (fun _ => true) held n 74 [c0] = some y0 := by simpa [cellsS] using h0
  have k1 : DataW.trod enc Try.prog w base (fun _ => true) held n 74 [c1] = some y1 := by simpa [cellsS] using h1
  obtain ⟨A1, e1, ps, rfl, r1, m1⟩ := row_ints k0
  obtain ⟨A2, e2, rs, rfl, r2, m2⟩ := row_ints k1
  exact ⟨A1, A2, e1, e2, ps, rs, rfl, rfl, r1, r2, m1, m2⟩
theorem open_things {H : Type} {enc : TypeId × Value → H} {w : World} {base : Nat} {held : Bool} {r : Reach} {b0 : Nat} {v : Value} {d : DataW H} {p : List MemPlace}
    (hv : Value.okWide Try.prog w r b0 90 v) (h : DataW.Trod enc Try.prog w base (fun _ => true) held 90 v d p) :
    ∃ (A1 A2 : Option Addr) (e1 e2 : Nat) (ps rs : List Int) (lmn lmx : Int) (lh : Bool) (tel tmn tmx : Int) (th : Bool) (gv : Int) (gm : Bool) (bk bt bi : Int),
      v = .agg #[.slice A1 ps.length e1, .slice A2 rs.length e2, .int .i64 lmn, .int .i64 lmx, .bool lh, .int .i64 tel, .int .i64 tmn, .int .i64 tmx, .bool th, .int .i64 gv, .bool gm, .int .i64 bk, .int .i64 bt, .int .i64 bi] ∧
      RdI w w.heap.size A1 ps ∧ RdI w w.heap.size A2 rs ∧ ps.length ≤ maxLen ∧ rs.length ≤ maxLen := by
  obtain ⟨cs, rfl, hsz⟩ := okWide_struct Try.underlying90 hv
  obtain ⟨c0, c1, c2, c3, c4, c5, c6, c7, c8, c9, c10, c11, c12, c13, rfl⟩ := arr14 (hsz.trans cellsX)
  obtain ⟨fuel, hf⟩ := h
  obtain ⟨xs, n, _, _, _, hlen, hi⟩ := DataW.trod_struct Try.underlying90 hf
  have h0 := hi 0 _ rfl
  have h1 := hi 1 _ rfl
  have h2 := hi 2 _ rfl
  have h3 := hi 3 _ rfl
  have h4 := hi 4 _ rfl
  have hl5 : xs.length = 5 := by simpa using hlen
  rw [List.getElem?_eq_getElem (by omega)] at h0 h1 h2 h3 h4
  obtain ⟨A1, A2, e1, e2, ps, rs, rfl, rfl, r1, r2, m1, m2⟩ := func_cells (c0 := c0) (c1 := c1) (by simpa [Value.cells, cellsF] using h0)
  obtain ⟨lmn, lmx, lh, rfl, rfl, rfl⟩ := lim_cells (c0 := c2) (c1 := c3) (c2 := c4) (by simpa [Value.cells, cellsL] using h1)
  obtain ⟨tel, tmn, tmx, th, rfl, rfl, rfl, rfl⟩ := tab_cells (c0 := c5) (c1 := c6) (c2 := c7) (c3 := c8) (by simpa [Value.cells, cellsT] using h2)
  obtain ⟨gv, gm, rfl, rfl⟩ := glo_cells (c0 := c9) (c1 := c10) (by simpa [Value.cells, cellsG] using h3)
  obtain ⟨bk, bt, bi, rfl, rfl, rfl⟩ := blk_cells (c0 := c11) (c1 := c12) (c2 := c13) (by simpa [Value.cells, cellsB] using h4)
  exact ⟨A1, A2, e1, e2, ps, rs, lmn, lmx, lh, tel, tmn, tmx, th, gv, gm, bk, bt, bi, rfl, r1, r2, m1, m2⟩
end Go.Proofs.Ytagcildoebicnaa
