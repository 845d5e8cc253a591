/-
  Layer 51, the program: bulk, tab, typ, access. (Printed by gen_mc5.py.)
-/
import Derived.Test.YtadnfekogmjieaaGreatDoorFMC4
set_option linter.unusedVariables false
set_option linter.unusedSimpArgs false
namespace Go.Proofs.YtadnfekogmjieaaGreatDoor
open Go.RowKit
open Mc (Pl Mi Mf Th Wt)
/-- No list of items is long. -/
structure Mc.Th.Few (t : Th) : Prop where
  ty : t.types.length ≤ 1000000
  fn : t.funcs.length ≤ 1000000
  tb : t.tables.length ≤ 1000000
  mm : t.mems ≤ 1000000
  gl : t.globals.length ≤ 1000000
  el : t.elems ≤ 1000000
  da : t.datas ≤ 1000000
  pl : ∀ f ∈ t.types, f.1.length ≤ 17592186044416 ∧ f.2.length ≤ 17592186044416
theorem wrap_pred {n : Nat} (h : n ≤ 1000000) : IntKind.i64.wrap ((n : Int) - 1) = (n : Int) - 1 := by rw [IntKind.wrap_i64]; omega
theorem thA_cells {W : World} {K : Nat} {T : TypeId} {t : Th} {x : TX} (h : Var W K (thA t x) T) :
    (W.cell? ⟨K, 0, none⟩ = some (.slice x.TA t.types.length x.tc) ∧ W.cell? ⟨K, 1, none⟩ = some x.v1 ∧ W.cell? ⟨K, 2, none⟩ = some x.v2 ∧ W.cell? ⟨K, 3, none⟩ = some x.v3 ∧ W.cell? ⟨K, 4, none⟩ = some x.v4 ∧ W.cell? ⟨K, 5, none⟩ = some x.v5 ∧ W.cell? ⟨K, 6, none⟩ = some x.v6 ∧ W.cell? ⟨K, 7, none⟩ = some x.v7) ∧
    (W.cell? ⟨K, 8, none⟩ = some x.v8 ∧ W.cell? ⟨K, 9, none⟩ = some (.slice x.EA t.elems x.ec) ∧ W.cell? ⟨K, 10, none⟩ = some (.slice x.DA t.datas x.dc) ∧ W.cell? ⟨K, 11, none⟩ = some x.v11 ∧ W.cell? ⟨K, 12, none⟩ = some (.slice x.FA t.funcs.length x.fc) ∧ W.cell? ⟨K, 13, none⟩ = some (.slice x.BA t.tables.length x.bc) ∧ W.cell? ⟨K, 14, none⟩ = some (.int .i64 (t.mems : Int)) ∧ W.cell? ⟨K, 15, none⟩ = some (.slice x.GA t.globals.length x.gc)) := cells16 h
theorem miV_cells {W : World} {K : Nat} {T : TypeId} {x : Mi} {D : Option Addr} {c1 : Nat} {E : Option Addr} {c2 : Nat} {A : Option Addr} {c3 : Nat} (h : Var W K (miV x D c1 E c2 A c3) T) :
    W.cell? ⟨K, 0, none⟩ = some (.int .i64 x.kind) ∧ W.cell? ⟨K, 1, none⟩ = some (.int .i64 x.op) ∧ W.cell? ⟨K, 2, none⟩ = some (.int .i64 x.a) ∧ W.cell? ⟨K, 3, none⟩ = some (.int .i64 x.b) ∧ W.cell? ⟨K, 4, none⟩ = some (.int .u64 (x.n : Int)) ∧
    W.cell? ⟨K, 5, none⟩ = some (.slice D x.d.length c1) ∧ W.cell? ⟨K, 6, none⟩ = some (.slice E x.s.length c2) ∧ W.cell? ⟨K, 7, none⟩ = some (.slice A x.tos.length c3) ∧ W.cell? ⟨K, 8, none⟩ = some (.int .i64 x.trap) := cells9 h
def wt0V : Array Value := #[.int .i64 0, .int .i64 0, .int .i64 0, .bool false, .bool false]
/-- The boxed arguments and the result's cell. -/
structure B3 (w W : World) (tv mv : Array Value) : Prop where
  bel : Below w.heap.size w W
  th : Var W w.heap.size tv 97
  mi : Var W (w.heap.size + 1) mv 61
  rs : Var W (w.heap.size + 2) wt0V 130
theorem B3.new (w : World) (tv mv : Array Value) : B3 w (((w.alloc (.cells tv 97)).alloc (.cells mv 61)).alloc (.cells wt0V 130)) tv mv :=
  ⟨((((Below.refl w.heap.size w).alloc (Nat.le_refl _) _).alloc (by simp) _).alloc (by simp; omega) _), ((Var.new w _ _).alloc _).alloc _, by have h := (Var.new (w.alloc (.cells tv 97)) mv 61).alloc (.cells wt0V 130); simpa using h, by have h := Var.new ((w.alloc (.cells tv 97)).alloc (.cells mv 61)) wt0V 130; simpa using h⟩
theorem B3.below {w W W' : World} {tv mv : Array Value} (h : B3 w W tv mv) (hb : Below W.heap.size W W') : B3 w W' tv mv := ⟨h.bel.trans (hb.mono h.bel.size), var_keep h.th hb, var_keep h.mi hb, var_keep h.rs hb⟩
end Go.Proofs.YtadnfekogmjieaaGreatDoor
