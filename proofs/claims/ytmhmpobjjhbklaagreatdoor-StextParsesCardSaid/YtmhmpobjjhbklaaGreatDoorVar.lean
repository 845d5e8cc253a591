/-
  A variable's block by its cells; results of cells; equality of texts.
-/
import Derived.Test.YtmhmpobjjhbklaaGreatDoorWords
import Derived.Handy
import Derived.Laws.Rows
set_option linter.unusedVariables false
set_option linter.unusedSimpArgs false
namespace Go.Proofs.YtmhmpobjjhbklaaGreatDoor
open Go.RowKit

def Var (w : World) (K : Nat) (cs : Array Value) (t : TypeId) : Prop := w.heap[K]? = some (.cells cs t (0, 0))
section
variable {w w' : World} {K : Nat} {cs : Array Value} {t : TypeId}
theorem Var.cells (h : Var w K cs t) : ∀ o, w.cell? ⟨K, o, none⟩ = cs[o]? := fun o => cell_of_row _ _ _ _ _ _ h
theorem Var.froz (h : Var w K cs t) : ∀ o, w.frozen? ⟨K, o, none⟩ = false := fun o => frozen_of_row _ _ _ _ _ h
theorem Var.lt (h : Var w K cs t) : K < w.heap.size := (Array.getElem?_eq_some_iff.1 h).1
theorem Var.new (W : World) (cs : Array Value) (e : TypeId) : Var (W.alloc (.cells cs e)) W.heap.size cs e := heap_alloc_new W _
theorem Var.newE (W : World) (cs : Array Value) (e : TypeId) {K : Nat} (h : W.heap.size = K) : Var (W.alloc (.cells cs e)) K cs e := h ▸ Var.new W cs e
theorem Var.below {B : Nat} (h : Var w K cs t) (hb : Below B w w') (hK : K < B) : Var w' K cs t := (hb.block K hK).trans h
theorem Var.alloc (h : Var w K cs t) (o : Obj) : Var (w.alloc o) K cs t := (Below.heap_alloc _ _ _ h.lt).trans h
theorem Var.set (h : Var w K cs t) (o : Nat) (u : Value) : Var (w.setCell ⟨K, o, none⟩ u) K (cs.setIfInBounds o u) t := Go.heap_setCell_same w K o _ _ u h
theorem Var.other (h : Var w K cs t) {K' : Nat} (hne : K ≠ K') (o : Nat) (u : Value) : Var (w.setCell ⟨K', o, none⟩ u) K cs t := (Below.heap_setCell _ _ _ _ hne).trans h
end

theorem below_one {w w1 : World} {o : Obj} (h1 : Below (w.alloc o).heap.size (w.alloc o) w1) : Below w.heap.size w w1 :=
  ((Below.refl w.heap.size w).alloc (Nat.le_refl _) o).trans (h1.mono (by simp))
theorem below_set {B : Nat} {w w' : World} (h : Below B w w') {K : Nat} (hK : B ≤ K) (a b : Value) : Below B w ((w'.setCell ⟨K, 0, none⟩ a).setCell ⟨K, 1, none⟩ b) :=
  (h.setCell (p := ⟨K, 0, none⟩) hK a).setCell (p := ⟨K, 1, none⟩) hK b
theorem below_set3 {B : Nat} {w w' : World} (h : Below B w w') {K : Nat} (hK : B ≤ K) (a b c : Value) : Below B w (((w'.setCell ⟨K, 0, none⟩ a).setCell ⟨K, 1, none⟩ b).setCell ⟨K, 2, none⟩ c) :=
  ((h.setCell (p := ⟨K, 0, none⟩) hK a).setCell (p := ⟨K, 1, none⟩) hK b).setCell (p := ⟨K, 2, none⟩) hK c
theorem results_cell_row_tmp {P : Program} {fn : Func} {p u : Tmp} {ty : TypeId} (h : fn.results = #[.cell p ty, .tmp u]) (tmps : Array Value) (w : World) (g : Nat) (t : TypeId) (cs : Array Value) (fr : Nat × Nat) (d : TypeDesc)
    (hp : tmps.getD p undef = .pointer (some ⟨g, 0, none⟩)) (hg : w.heap[g]? = some (.cells cs t fr))
    (hu : P.underlying ty = some d) (hd : (match d with | .struct _ | .array _ _ => true | _ => false) = true) (hi : (P.info? ty).map (·.size) = some cs.size) :
    (results fn tmps).run P w = .ok (.tuple #[.agg cs, tmps.getD u undef]) w := by
  have hp' : tmps[p]?.getD undef = .pointer (some ⟨g, 0, none⟩) := by simpa using hp
  simp [results, h, hp', asAddr, run_loadVar_row w g t ty cs fr d hg hu hd hi]
theorem beq_bytes (a b : List UInt8) : (({ data := a.toArray } : ByteArray) == { data := b.toArray }) = decide (a = b) := by
  show (a.toArray == b.toArray) = _
  rw [Bool.eq_iff_iff]; simp
theorem beq_no {a b : List UInt8} (h : a ≠ b) : (({ data := a.toArray } : ByteArray) == { data := b.toArray }) = false := by rw [beq_bytes]; simpa using h
theorem bne_no {a b : List UInt8} (h : a ≠ b) : (({ data := a.toArray } : ByteArray) != { data := b.toArray }) = true := by
  show (!(({ data := a.toArray } : ByteArray) == { data := b.toArray })) = true
  rw [beq_no h]; rfl
end Go.Proofs.YtmhmpobjjhbklaaGreatDoor
