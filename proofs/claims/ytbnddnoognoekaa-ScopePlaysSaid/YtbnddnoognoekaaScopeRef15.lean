/-
  The reference's Add of a new name.
-/
import Derived.Test.YtbnddnoognoekaaScopeRef12
import Derived.Test.YtbnddnoognoekaaScopeRef13
import Derived.Test.YtbnddnoognoekaaScopeRef14
import Derived.Test.YtbnddnoognoekaaScopeRef10
import Derived.Test.YtbnddnoognoekaaLitRName
set_option linter.unusedVariables false
namespace Go.Proofs.Ytbnddnoognoekaa
open Go.RowKit Go.Maps

theorem radd_new {W : World} {vs : Nat → Value} {lv : Value} {σ : SSt} (h : RefIs W vs lv σ) (k : Int) (hr : 0 ≤ k ∧ k < 9) (t : Nm) (hl : t.length ≤ 1000000) (hn : t ≠ [] → Ltr.name t = true) (hll : (σ.k k.toNat).length ≤ 1000000) (hi : t ≠ [] → placeF (σ.k k.toNat) t = -1) :
    Calls Try.prog 18 #[.agg (refCells vs lv), .int .i64 k, .string ⟨t.toArray⟩] W fun e w' => ∃ vs', e = .returned (.tuple #[.agg (refCells vs' lv), .int .i64 ((σ.k k.toNat).length : Int), .int .i64 0]) ∧ RefIs w' vs' lv ⟨upd σ.k k.toNat (σ.k k.toNat ++ [t]), σ.lab⟩ ∧ Below W.heap.size W w' ∧ ∀ j, NewOr W w' (vs j) (vs' j) := by
  obtain ⟨K, hK⟩ : ∃ K : Nat, k = (K : Int) := ⟨k.toNat, by omega⟩
  subst hK
  have hk : K < 9 := by omega
  rw [show ((K : Int)).toNat = K from by omega] at hll hi ⊢
  match K, hk with
  | 0, _ => exact radd_new0 h t hl hn hll hi
  | 1, _ => exact radd_new1 h t hl hn hll hi
  | 2, _ => exact radd_new2 h t hl hn hll hi
  | 3, _ => exact radd_new3 h t hl hn hll hi
  | 4, _ => exact radd_new4 h t hl hn hll hi
  | 5, _ => exact radd_new5 h t hl hn hll hi
  | 6, _ => exact radd_new6 h t hl hn hll hi
  | 7, _ => exact radd_new7 h t hl hn hll hi
  | 8, _ => exact radd_new8 h t hl hn hll hi
end Go.Proofs.Ytbnddnoognoekaa
