/-
  The reference's Add at no kind.
-/
import Derived.Test.YtbnddnoognoekaaScopeRef7
set_option linter.unusedVariables false
namespace Go.Proofs.Ytbnddnoognoekaa
open Go.RowKit Go.Maps

set_option maxHeartbeats 600000 in
set_option maxRecDepth 100000 in
theorem radd_arg {W : World} {vs : Nat → Value} {lv : Value} {σ : SSt} (h : RefIs W vs lv σ) (k : Int) (t : Nm) (hr : ¬ (0 ≤ k ∧ k < 9)) :
    Calls Try.prog 18 #[.agg (refCells vs lv), .int .i64 k, .string ⟨t.toArray⟩] W fun e w' => e = .returned (.tuple #[.agg (refCells vs lv), .int .i64 0, .int .i64 1]) ∧ Below W.heap.size W w' := by
  have his := is_any k
  have e : decide (0 ≤ k ∧ k < 9) = false := by simpa using hr
  rw [e] at his
  have HI := Lib.hid his
  obtain ⟨A, c, hv, _, _⟩ := h.l
  obtain ⟨xs, hxs⟩ : ∃ xs, σ.lab = xs := ⟨_, rfl⟩
  rw [hxs] at hv
  unfold refCells
  obtain ⟨B0, k0, e0, _⟩ := h.k 0 (by omega)
  obtain ⟨B1, k1, e1, _⟩ := h.k 1 (by omega)
  obtain ⟨B2, k2, e2, _⟩ := h.k 2 (by omega)
  obtain ⟨B3, k3, e3, _⟩ := h.k 3 (by omega)
  obtain ⟨B4, k4, e4, _⟩ := h.k 4 (by omega)
  obtain ⟨B5, k5, e5, _⟩ := h.k 5 (by omega)
  obtain ⟨B6, k6, e6, _⟩ := h.k 6 (by omega)
  obtain ⟨B7, k7, e7, _⟩ := h.k 7 (by omega)
  obtain ⟨B8, k8, e8, _⟩ := h.k 8 (by omega)
  rw [e0, e1, e2, e3, e4, e5, e6, e7, e8, hv]
  clear his e hr h hv e0 e1 e2 e3 e4 e5 e6 e7 e8
  go_enter Try.func18, Try.ntmps18
  go_wp2_with (go_at_call 35; refine (HI.out _).mono ?_; rintro e w1 ⟨rfl, rfl⟩)
  go_returns
  refine ⟨rfl, ?_⟩
  first
    | exact ((Below.refl _ _).alloc (Nat.le_refl _) _).alloc (by simp) _
    | skip
end Go.Proofs.Ytbnddnoognoekaa
