/-
  Right and Same of the reference: contracts.
-/
import Derived.Test.YtagcildoebicnaaTypesFun2
set_option linter.unusedVariables false
namespace Go.Proofs.Ytagcildoebicnaa
open Go.RowKit

theorem below_drewN_ {B : Nat} {w W : World} (h : Below B w W) (q : Nat) : Below B w (W.drewN q) := ⟨h.os, h.tape, h.output, h.size, h.block⟩

set_option maxHeartbeats 1000000 in
set_option maxRecDepth 100000 in
theorem refRight_any (A1 A2 : Option Addr) (c1 c2 : Nat) (ps rs : List Int) (w : World) (h1 : RdI w w.heap.size A1 ps) (h2 : RdI w w.heap.size A2 rs) (hp : ps.length ≤ 1000) (hr : rs.length ≤ 1000) :
    Calls Try.prog 43 #[.agg #[.slice A1 ps.length c1, .slice A2 rs.length c2]] w fun e w' => e = .returned (.bool (Ty.right ps && Ty.right rs)) ∧ Below w.heap.size w w' := by
  obtain ⟨x, hx⟩ : ∃ x, Ty.right ps = x := ⟨_, rfl⟩
  obtain ⟨y, hy⟩ : ∃ y, Ty.right rs = y := ⟨_, rfl⟩
  have C1 : Hid (∀ W : World, RdI W w.heap.size A1 ps → Calls Try.prog 80 #[.slice A1 ps.length c1] W fun e w' => e = .returned (.bool x) ∧ W = w') := fun W k => by have := refVals_any A1 c1 ps W _ k (by omega); rw [hx] at this; exact this
  have C2 : Hid (∀ W : World, RdI W w.heap.size A2 rs → Calls Try.prog 80 #[.slice A2 rs.length c2] W fun e w' => e = .returned (.bool y) ∧ W = w') := fun W k => by have := refVals_any A2 c2 rs W _ k (by omega); rw [hy] at this; exact this
  rw [hx, hy]
  clear hx hy hp hr
  rcases x with _ | _
  all_goals
    go_enter Try.func43, Try.ntmps43
    go_wp2_with (first
      | (go_at_call 80; (with_reducible refine (C1.out _ (h1.alloc (Nat.le_refl _) _)).mono ?_); rintro e w1 ⟨rfl, rfl⟩)
      | (go_at_call 80; (with_reducible refine (C2.out _ (h2.alloc (Nat.le_refl _) _)).mono ?_); rintro e w1 ⟨rfl, rfl⟩))
    go_ret
    exact ⟨by simp, (Below.refl _ _).alloc (Nat.le_refl _) _⟩

theorem RdI.drewN {w : World} {B : Nat} {A : Option Addr} {vs : List Int} (h : RdI w B A vs) (q : Nat) : RdI (w.drewN q) B A vs := h.below (below_drewN_ (Below.refl _ _) q)

set_option maxHeartbeats 1000000 in
set_option maxRecDepth 100000 in
theorem refSame_any (A1 A2 B1 B2 : Option Addr) (c1 c2 d1 d2 : Nat) (ps rs qs ss : List Int) (w : World) (h1 : RdI w w.heap.size A1 ps) (h2 : RdI w w.heap.size A2 rs) (h3 : RdI w w.heap.size B1 qs) (h4 : RdI w w.heap.size B2 ss) (hp : ps.length ≤ 1000) (hr : rs.length ≤ 1000) :
    Calls Try.prog 41 #[.agg #[.slice A1 ps.length c1, .slice A2 rs.length c2], .agg #[.slice B1 qs.length d1, .slice B2 ss.length d2]] w fun e w' => e = .returned (.bool (decide (ps = qs) && decide (rs = ss))) ∧ Below w.heap.size w w' := by
  obtain ⟨x, hx⟩ : ∃ x, decide (ps = qs) = x := ⟨_, rfl⟩
  obtain ⟨y, hy⟩ : ∃ y, decide (rs = ss) = y := ⟨_, rfl⟩
  have C1 : Hid (∀ W : World, RdI W w.heap.size A1 ps → RdI W w.heap.size B1 qs → Calls Try.prog 79 #[.slice A1 ps.length c1, .slice B1 qs.length d1] W fun e w' => e = .returned (.bool x) ∧ ∃ q, w' = W.drewN q) := fun W k1 k2 => by have := refSameVals_any A1 B1 c1 d1 ps qs W _ k1 k2 (by omega); rw [hx] at this; exact this
  have C2 : Hid (∀ W : World, RdI W w.heap.size A2 rs → RdI W w.heap.size B2 ss → Calls Try.prog 79 #[.slice A2 rs.length c2, .slice B2 ss.length d2] W fun e w' => e = .returned (.bool y) ∧ ∃ q, w' = W.drewN q) := fun W k1 k2 => by have := refSameVals_any A2 B2 c2 d2 rs ss W _ k1 k2 (by omega); rw [hy] at this; exact this
  rw [hx, hy]
  clear hx hy hp hr
  rcases x with _ | _
  all_goals
    go_enter Try.func41, Try.ntmps41
    go_wp2_with (first
      | (go_at_call 79; (with_reducible refine (C1.out _ (two_rdi h1 _ _) (two_rdi h3 _ _)).mono ?_); rintro e w1 ⟨rfl, q, rfl⟩)
      | (go_at_call 79; (with_reducible refine (C2.out _ ((two_rdi h2 _ _).drewN _) ((two_rdi h4 _ _).drewN _)).mono ?_); rintro e w1 ⟨rfl, q2, rfl⟩))
    go_ret
    refine ⟨by simp, ?_⟩
    first
      | exact below_drewN_ (((Below.refl _ _).alloc (Nat.le_refl _) _).alloc (by simp) _) _
      | exact below_drewN_ (below_drewN_ (((Below.refl _ _).alloc (Nat.le_refl _) _).alloc (by simp) _) _) _
end Go.Proofs.Ytagcildoebicnaa
