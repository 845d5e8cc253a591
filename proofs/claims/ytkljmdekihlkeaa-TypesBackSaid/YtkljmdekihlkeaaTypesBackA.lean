/-
  The walk of the law TypesBack: a function type that is too large.
-/
import Derived.Test.YtkljmdekihlkeaaTypesFuncs
import Derived.Test.YtkljmdekihlkeaaTypesBackP
import Derived.Deep.RegionHeld3
set_option linter.unusedVariables false
namespace Go.Proofs.Ytkljmdekihlkeaa
open Go.RowKit

set_option maxHeartbeats 20000000 in
set_option maxRecDepth 100000 in
theorem back_no1 (t : Int) (A1 A2 B1 B2 : Option Addr) (c1 c2 d1 d2 : Nat) (ps rs qs ss : List Int) (w : World) (h0 : RdI w w.heap.size A1 ps) (h1 : RdI w w.heap.size A2 rs) (h2 : RdI w w.heap.size B1 qs) (h3 : RdI w w.heap.size B2 ss) (k1 : (decide (ps.length ≤ 100) && decide (rs.length ≤ 100)) = false) :
    Calls Try.prog 7 #[.int .i64 t, .agg #[.slice A1 ps.length c1, .slice A2 rs.length c2], .agg #[.slice B1 qs.length d1, .slice B2 ss.length d2]] w fun e w' => e = .returned (.bool true) ∧ Below w.heap.size w w' := by
  have F1 : Hid (∀ W : World, Calls Try.prog 17 #[.agg #[.slice A1 ps.length c1, .slice A2 rs.length c2]] W fun e w' => e = .returned (.bool false) ∧ Below W.heap.size W w') := fun W => by have := few_any A1 A2 c1 c2 ps.length rs.length W; rw [k1] at this; exact this
  clear k1
  have I0 := Im2.two w A1 A2 B1 B2 c1 c2 d1 d2 ps rs qs ss h0 h1 h2 h3
  go_enter Try.func7, Try.ntmps7
  go_wp2_with fail
  generalize (w.alloc (.cells #[.slice A1 ps.length c1, .slice A2 rs.length c2] 41)).alloc (.cells #[.slice B1 qs.length d1, .slice B2 ss.length d2] 41) = W0 at I0 ⊢
  obtain ⟨e0, e1, e2, e3, r0, r1, r2, r3, sz, bel⟩ := id I0
  go_wp2_with (first
    | (go_at_call 17; (with_reducible refine (F1.out _).mono ?_); rintro e w1 ⟨rfl, hb1⟩; have I1 := I0.step hb1; clear e0 e1 e2 e3 r0 r1 r2 r3 sz bel; obtain ⟨e0, e1, e2, e3, r0, r1, r2, r3, sz, bel⟩ := id I1; clear hb1 I0)
    | (go_at_call 9; refine (alive_any _).mono ?_; rintro e w2 ⟨rfl, hb2⟩; have I2 := I1.step hb2; clear e0 e1 e2 e3 r0 r1 r2 r3 sz bel; obtain ⟨e0, e1, e2, e3, r0, r1, r2, r3, sz, bel⟩ := id I2; clear hb2 I1))
  go_ret
  exact ⟨rfl, bel⟩

set_option maxHeartbeats 20000000 in
set_option maxRecDepth 100000 in
theorem back_no2 (t : Int) (A1 A2 B1 B2 : Option Addr) (c1 c2 d1 d2 : Nat) (ps rs qs ss : List Int) (w : World) (h0 : RdI w w.heap.size A1 ps) (h1 : RdI w w.heap.size A2 rs) (h2 : RdI w w.heap.size B1 qs) (h3 : RdI w w.heap.size B2 ss) (k1 : (decide (ps.length ≤ 100) && decide (rs.length ≤ 100)) = true) (k2 : (decide (qs.length ≤ 100) && decide (ss.length ≤ 100)) = false) :
    Calls Try.prog 7 #[.int .i64 t, .agg #[.slice A1 ps.length c1, .slice A2 rs.length c2], .agg #[.slice B1 qs.length d1, .slice B2 ss.length d2]] w fun e w' => e = .returned (.bool true) ∧ Below w.heap.size w w' := by
  have F1 : Hid (∀ W : World, Calls Try.prog 17 #[.agg #[.slice A1 ps.length c1, .slice A2 rs.length c2]] W fun e w' => e = .returned (.bool true) ∧ Below W.heap.size W w') := fun W => by have := few_any A1 A2 c1 c2 ps.length rs.length W; rw [k1] at this; exact this
  have F2 : Hid (∀ W : World, Calls Try.prog 17 #[.agg #[.slice B1 qs.length d1, .slice B2 ss.length d2]] W fun e w' => e = .returned (.bool false) ∧ Below W.heap.size W w') := fun W => by have := few_any B1 B2 d1 d2 qs.length ss.length W; rw [k2] at this; exact this
  clear k1 k2
  have I0 := Im2.two w A1 A2 B1 B2 c1 c2 d1 d2 ps rs qs ss h0 h1 h2 h3
  go_enter Try.func7, Try.ntmps7
  go_wp2_with fail
  generalize (w.alloc (.cells #[.slice A1 ps.length c1, .slice A2 rs.length c2] 41)).alloc (.cells #[.slice B1 qs.length d1, .slice B2 ss.length d2] 41) = W0 at I0 ⊢
  obtain ⟨e0, e1, e2, e3, r0, r1, r2, r3, sz, bel⟩ := id I0
  go_wp2_with (first
    | (go_at_call 17; (with_reducible refine (F1.out _).mono ?_); rintro e w1 ⟨rfl, hb1⟩; have I1 := I0.step hb1; clear e0 e1 e2 e3 r0 r1 r2 r3 sz bel; obtain ⟨e0, e1, e2, e3, r0, r1, r2, r3, sz, bel⟩ := id I1; clear hb1 I0; clear F1)
    | (go_at_call 17; (with_reducible refine (F2.out _).mono ?_); rintro e w2 ⟨rfl, hb2⟩; have I2 := I1.step hb2; clear e0 e1 e2 e3 r0 r1 r2 r3 sz bel; obtain ⟨e0, e1, e2, e3, r0, r1, r2, r3, sz, bel⟩ := id I2; clear hb2 I1)
    | (go_at_call 9; refine (alive_any _).mono ?_; rintro e w3 ⟨rfl, hb3⟩; have I3 := I2.step hb3; clear e0 e1 e2 e3 r0 r1 r2 r3 sz bel; obtain ⟨e0, e1, e2, e3, r0, r1, r2, r3, sz, bel⟩ := id I3; clear hb3 I2))
  go_ret
  exact ⟨rfl, bel⟩
end Go.Proofs.Ytkljmdekihlkeaa
