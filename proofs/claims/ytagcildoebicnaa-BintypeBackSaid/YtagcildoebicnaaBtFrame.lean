/-
  What the parameters of chapter 10's laws are when they come in: bytes, and the types of layer 10, opened.
-/
import Derived.Test.YtagcildoebicnaaBtLaw3
import Derived.WalkKit
import Derived.ProofKit
import Derived.Below
import Derived.OpenShut
import Derived.Lib.SmallJoins
set_option linter.unusedVariables false
set_option maxRecDepth 100000
namespace Go.Proofs.Ytagcildoebicnaa
open Go.ChangeShapes Go.WideShapes Go.ChangeAt Go.RowKit Go.Joins Go.Deep

/-- A slice of integers that came in reads as its list. -/
theorem row_ints {H : Type} {enc : TypeId × Value → H} {w : World} {base : Nat} {held : Bool} {n : Nat} {v : Value} {y : DataW H × List MemPlace}
    (h : DataW.trod enc Try.prog w base (fun _ => true) held n 74 [v] = some y) :
    ∃ (A : Option Addr) (c : Nat) (vs : List Int), v = .slice A vs.length c ∧ RdI w w.heap.size A vs ∧ vs.length ≤ maxLen := by
  rcases open_ints Try.underlying74 Try.underlying23 (by kernel_rfl) h with ⟨hcs, _⟩ | ⟨x, l, c, zs, hcs, _, hl, hm, hz, _, hcell, hwz⟩
  · simp at hcs
    subst hcs
    exact ⟨none, 0, [], rfl, ⟨rfl, fun hp => absurd hp (by simp)⟩, Nat.zero_le _⟩
  · simp at hcs hz
    subst hcs
    refine ⟨some x, c, zs.take l, by simp; omega, ⟨by simp, fun hp => ⟨x, rfl, ?_, fun j u hj => ?_⟩⟩, by simp; omega⟩
    · have hp' : 0 < zs.length := by simp at hp; omega
      have := hcell 0 hp'
      have hb := block_lt_of_cell this
      rwa [block_of_add] at hb
    · have hj' : j < (zs.take l).length := by
        rcases Nat.lt_or_ge j (zs.take l).length with h | h
        · exact h
        · rw [List.getElem?_eq_none (by simpa using h)] at hj; cases hj
      have hj2 : j < zs.length := by simp at hj'; omega
      rw [hcell j hj2]
      rw [List.getElem?_eq_getElem (by simpa using hj')] at hj
      simp at hj
      rw [← hj]
      simp [hj2]

theorem open_func {H : Type} {enc : TypeId × Value → H} {w : World} {base : Nat} {held : Bool} {r : Reach} {b0 : Nat} {v : Value} {d : DataW H} {p : List MemPlace}
    (hv : Value.okWide Try.prog w r b0 76 v) (h : DataW.Trod enc Try.prog w base (fun _ => true) held 76 v d p) :
    ∃ (A1 A2 : Option Addr) (c1 c2 : Nat) (ps rs : List Int), v = .agg #[.slice A1 ps.length c1, .slice A2 rs.length c2] ∧ RdI w w.heap.size A1 ps ∧ RdI w w.heap.size A2 rs ∧ ps.length ≤ maxLen ∧ rs.length ≤ maxLen := by
  obtain ⟨v0, v1, y0, y1, n, rfl, _, _, h0, h1⟩ := open_agg2 Try.underlying76 (by kernel_rfl) (by kernel_rfl) hv h
  obtain ⟨A1, c1, ps, rfl, k0, m0⟩ := row_ints h0
  obtain ⟨A2, c2, rs, rfl, k1, m1⟩ := row_ints h1
  exact ⟨A1, A2, c1, c2, ps, rs, rfl, k0, k1, m0, m1⟩

/-- A slice of bytes that came in. -/
theorem open_bytes {H : Type} {enc : TypeId × Value → H} {w : World} {base : Nat} {held : Bool} {r : Reach} {b0 : Nat} {v : Value} {d : DataW H} {p : List MemPlace}
    (hv : Value.okWide Try.prog w r b0 22 v) (h : DataW.Trod enc Try.prog w base (fun _ => true) held 22 v d p) :
    ∃ (A : Option Addr) (c : Nat) (l : List UInt8), v = .slice A l.length c ∧ RdB w w.heap.size A l ∧ l.length ≤ c ∧ c ≤ maxLen := by
  obtain ⟨a0, len0, cap0, rfl⟩ := okWide_slice Try.underlying22 hv
  obtain ⟨fuel, hf⟩ := h
  have w0 : ∃ zs : List Int, (a0 = none ∧ len0 = 0 ∧ cap0 = 0 ∧ zs = []) ∨ ∃ x, a0 = some x ∧ len0 ≤ cap0 ∧ cap0 ≤ maxLen ∧ zs.length = cap0 ∧ (∀ i, i < zs.length → w.cell? (x.add i) = some (.int .u8 (zs.getD i 0))) ∧ ∀ n ∈ zs, (Lit.int .u8 n).wf = true := by
    rcases open_ints Try.underlying22 Try.underlying5 (by kernel_rfl) hf with ⟨hcs, _⟩ | ⟨x, l, c, zs, hcs, _, hl, hm, hz, _, hcell, hwz⟩
    · simp [Value.cells] at hcs
      obtain ⟨rfl, rfl, rfl⟩ := hcs
      exact ⟨[], .inl ⟨rfl, rfl, rfl, rfl⟩⟩
    · simp [Value.cells] at hcs
      obtain ⟨rfl, rfl, rfl⟩ := hcs
      exact ⟨zs, .inr ⟨_, rfl, hl, hm, by simpa using hz, hcell, hwz⟩⟩
  obtain ⟨zs, w0⟩ := w0
  obtain ⟨l, rfl, hr, hc, hm⟩ := row_bytes w0
  exact ⟨a0, cap0, l, rfl, hr, hc, hm⟩

theorem cells3 : Try.prog.cellsOf 3 = 1 := by kernel_rfl
theorem cells4 : Try.prog.cellsOf 4 = 1 := by kernel_rfl
theorem cellsV : Try.prog.cellsOf 23 = 1 := by kernel_rfl
theorem cellsL : Try.prog.cellsOf 52 = 3 := by kernel_rfl
theorem cellsT : Try.prog.cellsOf 54 = 4 := by kernel_rfl
theorem cellsG : Try.prog.cellsOf 67 = 2 := by kernel_rfl
theorem cellsB : Try.prog.cellsOf 25 = 3 := by kernel_rfl
theorem cellsF : Try.prog.cellsOf 76 = 2 := by kernel_rfl
theorem cellsS : Try.prog.cellsOf 74 = 1 := by kernel_rfl
theorem cellsX : Try.prog.cellsOf 90 = 14 := by kernel_rfl

section
variable {H : Type} {enc : TypeId × Value → H} {w : World} {base : Nat} {spare : Nat → Bool} {held : Bool}
theorem lim_cells {fuel : Nat} {c0 c1 c2 : Value} {x : DataW H × List MemPlace} (h : DataW.trod enc Try.prog w base spare held fuel 52 [c0, c1, c2] = some x) :
    ∃ (mn mx : Int) (hs : Bool), c0 = .int .i64 mn ∧ c1 = .int .i64 mx ∧ c2 = .bool hs := by
  obtain ⟨y0, y1, y2, n, hx, hl, h0, h1, h2⟩ := trod_struct3 Try.underlying52 h
  have k0 : DataW.trod enc Try.prog w base spare held n 3 [c0] = some y0 := by simpa [cells3] using h0
  have k1 : DataW.trod enc Try.prog w base spare held n 3 [c1] = some y1 := by simpa [cells3] using h1
  have k2 : DataW.trod enc Try.prog w base spare held n 4 [c2] = some y2 := by simpa [cells4] using h2
  obtain ⟨mn, e0, _⟩ := DataW.trod_int Try.underlying3 k0
  obtain ⟨mx, e1, _⟩ := DataW.trod_int Try.underlying3 k1
  obtain ⟨hs, e2, _⟩ := DataW.trod_bool Try.underlying4 k2
  exact ⟨mn, mx, hs, by simpa using e0, by simpa using e1, by simpa using e2⟩
theorem blk_cells {fuel : Nat} {c0 c1 c2 : Value} {x : DataW H × List MemPlace} (h : DataW.trod enc Try.prog w base spare held fuel 25 [c0, c1, c2] = some x) :
    ∃ (k t i : Int), c0 = .int .i64 k ∧ c1 = .int .i64 t ∧ c2 = .int .i64 i := by
  obtain ⟨y0, y1, y2, n, hx, hl, h0, h1, h2⟩ := trod_struct3 Try.underlying25 h
  have k0 : DataW.trod enc Try.prog w base spare held n 3 [c0] = some y0 := by simpa [cells3] using h0
  have k1 : DataW.trod enc Try.prog w base spare held n 23 [c1] = some y1 := by simpa [cellsV] using h1
  have k2 : DataW.trod enc Try.prog w base spare held n 3 [c2] = some y2 := by simpa [cells3] using h2
  obtain ⟨mn, e0, _⟩ := DataW.trod_int Try.underlying3 k0
  obtain ⟨mx, e1, _⟩ := DataW.trod_int Try.underlying23 k1
  obtain ⟨hs, e2, _⟩ := DataW.trod_int Try.underlying3 k2
  exact ⟨mn, mx, hs, by simpa using e0, by simpa using e1, by simpa using e2⟩
theorem tab_cells {fuel : Nat} {c0 c1 c2 c3 : Value} {x : DataW H × List MemPlace} (h : DataW.trod enc Try.prog w base spare held fuel 54 [c0, c1, c2, c3] = some x) :
    ∃ (el mn mx : Int) (hs : Bool), c0 = .int .i64 el ∧ c1 = .int .i64 mn ∧ c2 = .int .i64 mx ∧ c3 = .bool hs := by
  obtain ⟨y0, y1, n, hx, hl, h0, h1⟩ := trod_struct2 Try.underlying54 h
  have k0 : DataW.trod enc Try.prog w base spare held n 23 [c0] = some y0 := by simpa [cellsV] using h0
  have k1 : DataW.trod enc Try.prog w base spare held n 52 [c1, c2, c3] = some y1 := by simpa [cellsL] using h1
  obtain ⟨el, e0, _⟩ := DataW.trod_int Try.underlying23 k0
  obtain ⟨mn, mx, hs, rfl, rfl, rfl⟩ := lim_cells k1
  exact ⟨el, mn, mx, hs, by simpa using e0, rfl, rfl, rfl⟩
theorem glo_cells {fuel : Nat} {c0 c1 : Value} {x : DataW H × List MemPlace} (h : DataW.trod enc Try.prog w base spare held fuel 67 [c0, c1] = some x) :
    ∃ (v : Int) (m : Bool), c0 = .int .i64 v ∧ c1 = .bool m := by
  obtain ⟨y0, y1, n, hx, hl, h0, h1⟩ := trod_struct2 Try.underlying67 h
  have k0 : DataW.trod enc Try.prog w base spare held n 23 [c0] = some y0 := by simpa [cellsV] using h0
  have k1 : DataW.trod enc Try.prog w base spare held n 4 [c1] = some y1 := by simpa [cells4] using h1
  obtain ⟨v, e0, _⟩ := DataW.trod_int Try.underlying23 k0
  obtain ⟨m, e1, _⟩ := DataW.trod_bool Try.underlying4 k1
  exact ⟨v, m, by simpa using e0, by simpa using e1⟩
end
theorem arr2 {α : Type} {cs : Array α} (h : cs.size = 2) : ∃ a b, cs = #[a, b] := by
  obtain ⟨l⟩ := cs
  match l, h with
  | [a, b], _ => exact ⟨a, b, rfl⟩
theorem arr3 {α : Type} {cs : Array α} (h : cs.size = 3) : ∃ a b c, cs = #[a, b, c] := by
  obtain ⟨l⟩ := cs
  match l, h with
  | [a, b, c], _ => exact ⟨a, b, c, rfl⟩
theorem arr4 {α : Type} {cs : Array α} (h : cs.size = 4) : ∃ a b c d, cs = #[a, b, c, d] := by
  obtain ⟨l⟩ := cs
  match l, h with
  | [a, b, c, d], _ => exact ⟨a, b, c, d, rfl⟩
section
variable {H : Type} {enc : TypeId × Value → H} {w : World} {base : Nat} {held : Bool} {r : Reach} {b0 : Nat} {v : Value} {d : DataW H} {p : List MemPlace}
theorem open_lim (hv : Value.okWide Try.prog w r b0 52 v) (h : DataW.Trod enc Try.prog w base (fun _ => true) held 52 v d p) :
    ∃ (mn mx : Int) (hs : Bool), v = .agg #[.int .i64 mn, .int .i64 mx, .bool hs] := by
  obtain ⟨cs, rfl, hsz⟩ := okWide_struct Try.underlying52 hv
  obtain ⟨c0, c1, c2, rfl⟩ := arr3 (hsz.trans cellsL)
  obtain ⟨fuel, hf⟩ := h
  obtain ⟨mn, mx, hs, rfl, rfl, rfl⟩ := lim_cells (c0 := c0) (c1 := c1) (c2 := c2) (by simpa [Value.cells] using hf)
  exact ⟨mn, mx, hs, rfl⟩
theorem open_blk (hv : Value.okWide Try.prog w r b0 25 v) (h : DataW.Trod enc Try.prog w base (fun _ => true) held 25 v d p) :
    ∃ (k t i : Int), v = .agg #[.int .i64 k, .int .i64 t, .int .i64 i] := by
  obtain ⟨cs, rfl, hsz⟩ := okWide_struct Try.underlying25 hv
  obtain ⟨c0, c1, c2, rfl⟩ := arr3 (hsz.trans cellsB)
  obtain ⟨fuel, hf⟩ := h
  obtain ⟨k, t, i, rfl, rfl, rfl⟩ := blk_cells (c0 := c0) (c1 := c1) (c2 := c2) (by simpa [Value.cells] using hf)
  exact ⟨k, t, i, rfl⟩
theorem open_tab (hv : Value.okWide Try.prog w r b0 54 v) (h : DataW.Trod enc Try.prog w base (fun _ => true) held 54 v d p) :
    ∃ (el mn mx : Int) (hs : Bool), v = .agg #[.int .i64 el, .int .i64 mn, .int .i64 mx, .bool hs] := by
  obtain ⟨cs, rfl, hsz⟩ := okWide_struct Try.underlying54 hv
  obtain ⟨c0, c1, c2, c3, rfl⟩ := arr4 (hsz.trans cellsT)
  obtain ⟨fuel, hf⟩ := h
  obtain ⟨el, mn, mx, hs, rfl, rfl, rfl, rfl⟩ := tab_cells (c0 := c0) (c1 := c1) (c2 := c2) (c3 := c3) (by simpa [Value.cells] using hf)
  exact ⟨el, mn, mx, hs, rfl⟩
theorem open_glo (hv : Value.okWide Try.prog w r b0 67 v) (h : DataW.Trod enc Try.prog w base (fun _ => true) held 67 v d p) :
    ∃ (t : Int) (m : Bool), v = .agg #[.int .i64 t, .bool m] := by
  obtain ⟨cs, rfl, hsz⟩ := okWide_struct Try.underlying67 hv
  obtain ⟨c0, c1, rfl⟩ := arr2 (hsz.trans cellsG)
  obtain ⟨fuel, hf⟩ := h
  obtain ⟨t, m, rfl, rfl⟩ := glo_cells (c0 := c0) (c1 := c1) (by simpa [Value.cells] using hf)
  exact ⟨t, m, rfl⟩
end
end Go.Proofs.Ytagcildoebicnaa
