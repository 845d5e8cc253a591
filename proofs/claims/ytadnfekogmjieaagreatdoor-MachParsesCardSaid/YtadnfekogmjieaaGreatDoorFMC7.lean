/-
  Layer 51, the program: wants. (Printed by gen_mc7.py.)
-/
import Derived.Test.YtadnfekogmjieaaGreatDoorFMC6
set_option linter.unusedVariables false
set_option linter.unusedSimpArgs false
namespace Go.Proofs.YtadnfekogmjieaaGreatDoor
open Go.RowKit
open Mc (Pl Mi Mf Th Wt)
theorem mfV_cells {W : World} {K : Nat} {T : TypeId} {f : Mf} {P : Option Addr} {c1 : Nat} {R : Option Addr} {c2 : Nat} {C : Option Addr} {c3 : Nat} (h : Var W K (mfV f P c1 R c2 C c3) T) :
    W.cell? ⟨K, 0, none⟩ = some (.slice P f.ps.length c1) ∧ W.cell? ⟨K, 1, none⟩ = some (.slice R f.rs.length c2) ∧ W.cell? ⟨K, 2, none⟩ = some (.int .i64 f.slots) ∧ W.cell? ⟨K, 3, none⟩ = some (.slice C f.code.length c3) := ⟨h.cells 0, h.cells 1, h.cells 2, h.cells 3⟩
/-- The boxed arguments and the result's cell. -/
structure B4 (w W : World) (tv mv fv : Array Value) : Prop where
  bel : Below w.heap.size w W
  th : Var W w.heap.size tv 97
  mi : Var W (w.heap.size + 1) mv 61
  mf : Var W (w.heap.size + 2) fv 39
  rs : Var W (w.heap.size + 3) wt0V 130
theorem B4.new (w : World) (tv mv fv : Array Value) : B4 w ((((w.alloc (.cells tv 97)).alloc (.cells mv 61)).alloc (.cells fv 39)).alloc (.cells wt0V 130)) tv mv fv :=
  ⟨(((((Below.refl w.heap.size w).alloc (Nat.le_refl _) _).alloc (by simp) _).alloc (by simp; omega) _).alloc (by simp; omega) _), (((Var.new w _ _).alloc _).alloc _).alloc _, by have h := ((Var.new (w.alloc (.cells tv 97)) mv 61).alloc (.cells fv 39)).alloc (.cells wt0V 130); simpa using h, by have h := (Var.new ((w.alloc (.cells tv 97)).alloc (.cells mv 61)) fv 39).alloc (.cells wt0V 130); simpa using h, by have h := Var.new (((w.alloc (.cells tv 97)).alloc (.cells mv 61)).alloc (.cells fv 39)) wt0V 130; simpa using h⟩
theorem B4.below {w W W' : World} {tv mv fv : Array Value} (h : B4 w W tv mv fv) (hb : Below W.heap.size W W') : B4 w W' tv mv fv := ⟨h.bel.trans (hb.mono h.bel.size), var_keep h.th hb, var_keep h.mi hb, var_keep h.mf hb, var_keep h.rs hb⟩
end Go.Proofs.YtadnfekogmjieaaGreatDoor
