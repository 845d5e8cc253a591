/-
  What the law's list of calls is when it comes in.
-/
import Derived.Test.YtbnddnoognoekaaScopePlays3
import Derived.Test.YtbnddnoognoekaaScopeFrame
import Derived.Test.YtbnddnoognoekaaOpenF
set_option linter.unusedVariables false
namespace Go.Proofs.Ytbnddnoognoekaa
open Go.ChangeShapes Go.WideShapes Go.ChangeAt Go.RowKit Go.Joins Go.Deep

instance : Inhabited ActV := ⟨⟨0, 0, []⟩⟩
theorem open_acts {H : Type} {enc : TypeId × Value → H} {w : World} {base : Nat} {held : Bool} {r : Reach} {b0 : Nat} {v : Value} {d : DataW H} {p : List MemPlace}
    (hv : Value.okWide Try.prog w r b0 35 v) (h : DataW.Trod enc Try.prog w base (fun _ => true) held 35 v d p) :
    ∃ (A : Option Addr) (c : Nat) (l : List ActV), v = .slice A l.length c ∧ RdA w w.heap.size A l ∧ l.length ≤ 9223372036854775807 ∧ ∀ a ∈ l, (Lit.int .i64 a.c).wf = true ∧ (Lit.int .i64 a.k).wf = true := by
  obtain ⟨a0, len0, cap0, rfl⟩ := okWide_slice Try.underlying35 hv
  obtain ⟨fuel, hf⟩ := h
  rcases slice_fields Try.underlying35 Try.underlying42 (by kernel_rfl) (by kernel_rfl) hf with hcs | ⟨a, len, cap, hcs, hl, hm, hi⟩
  · simp [Value.cells] at hcs
    obtain ⟨rfl, rfl, rfl⟩ := hcs
    exact ⟨none, 0, [], rfl, Reads.none_, by simp, by simp⟩
  · simp [Value.cells] at hcs
    obtain ⟨rfl, rfl, rfl⟩ := hcs
    obtain ⟨V, hV⟩ := choose_lt (n := len0) (α := ActV) (p := fun i (q : ActV) => w.cell? (a.add (i * 3)) = some (.int .i64 q.c) ∧ w.cell? (a.add (i * 3 + 1)) = some (.int .i64 q.k) ∧ w.cell? (a.add (i * 3 + 2)) = some (str q.t) ∧ (Lit.int .i64 q.c).wf = true ∧ (Lit.int .i64 q.k).wf = true) (fun i hil => by
      obtain ⟨v0, y0, n0, c0, t0⟩ := hi i hil 0 _ rfl
      obtain ⟨v1, y1, n1, c1, t1⟩ := hi i hil 1 _ rfl
      obtain ⟨v2, y2, n2, c2, t2⟩ := hi i hil 2 _ rfl
      obtain ⟨x0, e0, _, w0⟩ := DataW.trod_int Try.underlying3 t0
      obtain ⟨x1, e1, _, w1⟩ := DataW.trod_int Try.underlying3 t1
      obtain ⟨x2, e2, _, _⟩ := DataW.trod_string Try.underlying9 t2
      simp at e0 e1 e2
      subst e0 e1 e2
      exact ⟨⟨x0, x1, x2.data.toList⟩, c0, c1, c2, w0, w1⟩)
    refine ⟨some a, cap0, (List.range len0).map V, by simp, ⟨by rw [actCells_len], fun hp => ⟨a, rfl, ?_, fun j u hj => ?_⟩⟩, by simp; unfold maxLen at hm; omega, fun q hq => ?_⟩
    · have hp' : 0 < len0 := by simpa using hp
      have hb := block_lt_of_cell (hV 0 hp').1
      rwa [block_of_add] at hb
    · have hjl : j < len0 * 3 := by
        rcases Nat.lt_or_ge j (actCells ((List.range len0).map V)).length with h | h
        · rw [actCells_len] at h; simpa using h
        · rw [List.getElem?_eq_none h] at hj; cases hj
      have hq : j / 3 < ((List.range len0).map V).length := by simp; omega
      obtain ⟨x0, x1, x2⟩ := actCells_at ((List.range len0).map V) (j / 3) hq
      obtain ⟨y0, y1, y2, _⟩ := hV (j / 3) (by omega)
      have e : ((List.range len0).map V)[j / 3] = V (j / 3) := by simp
      rw [e] at x0 x1 x2
      rcases (by omega : j = j / 3 * 3 ∨ j = j / 3 * 3 + 1 ∨ j = j / 3 * 3 + 2) with hr | hr | hr
      · rw [hr] at hj ⊢
        rw [← hr] at x0 y0
        rw [hr] at x0 y0
        exact y0.trans (x0.symm.trans hj)
      · rw [hr, x1] at hj
        rw [hr]
        exact y1.trans hj
      · rw [hr, x2] at hj
        rw [hr]
        exact y2.trans hj
    · obtain ⟨i, hi', rfl⟩ := List.mem_map.1 hq
      exact (hV i (by simpa using hi')).2.2.2
end Go.Proofs.Ytbnddnoognoekaa
