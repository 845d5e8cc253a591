/-
  Words on lists of value types.
-/
import Derived.Test.YtagcildoebicnaaTypes
set_option linter.unusedVariables false
namespace Go.Proofs.Ytagcildoebicnaa
open Go.RowKit

/-- A slice of numbers of kind int that reads as vs. -/
def RdI (w : World) (B : Nat) (A : Option Addr) (vs : List Int) : Prop := Reads w B 1 A vs.length (vs.map (Value.int .i64))
theorem RdI.at_ {w : World} {B : Nat} {A : Option Addr} {vs : List Int} {k : Nat} (h : RdI w B A vs) (hk : k < vs.length) : ∃ ad, A = some ad ∧ ad.block < B ∧ w.cell? (ad.add k) = some (.int .i64 vs[k]) := by
  obtain ⟨ad, u, e, hb, hx, hc⟩ := Reads.at_ h hk
  simp [hk] at hx
  subst hx
  exact ⟨ad, e, hb, hc⟩
theorem RdI.below {w w' : World} {B : Nat} {A : Option Addr} {vs : List Int} (h : RdI w B A vs) (hb : Below B w w') : RdI w' B A vs := Reads.below h hb
theorem RdI.more {w : World} {B B' : Nat} {A : Option Addr} {vs : List Int} (h : RdI w B A vs) (hB : B ≤ B') : RdI w B' A vs := Reads.more h hB
theorem RdI.alloc {w : World} {B : Nat} {A : Option Addr} {vs : List Int} (h : RdI w B A vs) (hB : B ≤ w.heap.size) (o : Obj) : RdI (w.alloc o) B A vs := Reads.alloc h hB o

namespace Ty
def right (vs : List Int) : Bool := decide (vs.length ≤ 8) && vs.all val
def limits (mn mx : Int) (has : Bool) (most : Int) : Bool := if mn < 0 ∨ most < mn then false else if has = false then mx == 0 else decide (mn ≤ mx) && decide (mx ≤ most)
end Ty
end Go.Proofs.Ytagcildoebicnaa
