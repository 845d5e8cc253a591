/-
  The reference's Scope: a value of ten slices; is, Len, place.
-/
import Derived.Test.YtbnddnoognoekaaScopeReset
import Derived.Test.YtbnddnoognoekaaScopeLabels
set_option linter.unusedVariables false
namespace Go.Proofs.Ytbnddnoognoekaa
open Go.RowKit Go.Maps

def refCells (vs : Nat → Value) (lv : Value) : Array Value := #[vs 0, vs 1, vs 2, vs 3, vs 4, vs 5, vs 6, vs 7, vs 8, lv]
theorem refCells_at (vs : Nat → Value) (lv : Value) (k : Nat) (hk : k < 9) : (refCells vs lv)[k]? = some (vs k) := by
  match k, hk with
  | 0, _ => rfl
  | 1, _ => rfl
  | 2, _ => rfl
  | 3, _ => rfl
  | 4, _ => rfl
  | 5, _ => rfl
  | 6, _ => rfl
  | 7, _ => rfl
  | 8, _ => rfl
/-- The reference's value v holds the state σ: its ten slices read as σ's lists. -/
structure RefIs (W : World) (vs : Nat → Value) (lv : Value) (σ : SSt) : Prop where
  k : ∀ j, j < 9 → ∃ A c, vs j = .slice A (σ.k j).length c ∧ RdS W W.heap.size A (σ.k j)
  l : ∃ A c, lv = .slice A σ.lab.length c ∧ RdS W W.heap.size A σ.lab ∧ σ.lab.length ≤ c
theorem RefIs.below {W W' : World} {vs : Nat → Value} {lv : Value} {σ : SSt} (h : RefIs W vs lv σ) (hb : Below W.heap.size W W') : RefIs W' vs lv σ := by
  refine ⟨fun j hj => ?_, ?_⟩
  · obtain ⟨A, c, h1, h2⟩ := h.k j hj
    exact ⟨A, c, h1, Reads.more (Reads.below h2 hb) hb.size⟩
  · obtain ⟨A, c, h1, h2, h3⟩ := h.l
    exact ⟨A, c, h1, Reads.more (Reads.below h2 hb) hb.size, h3⟩

theorem is_any (k : Int) (w : World) : Calls Try.prog 35 #[.int .i64 k] w fun e w' => e = .returned (.bool (decide (0 ≤ k ∧ k < 9))) ∧ w = w' := by
  by_cases h0 : 0 ≤ k
  · have d0 : decide (0 ≤ k) = true := by simpa using h0
    by_cases h9 : k < 9
    · have d9 : decide (k < 9) = true := by simpa using h9
      have e : decide (0 ≤ k ∧ k < 9) = true := by simp [h0, h9]
      rw [e]
      go_enter Try.func35, Try.ntmps35
      go_wp2
      go_ret
      exact ⟨rfl, rfl⟩
    · have d9 : decide (k < 9) = false := by simpa using h9
      have e : decide (0 ≤ k ∧ k < 9) = false := by simp [h9]
      rw [e]
      go_enter Try.func35, Try.ntmps35
      go_wp2
      go_ret
      exact ⟨rfl, rfl⟩
  · have d0 : decide (0 ≤ k) = false := by simpa using h0
    have e : decide (0 ≤ k ∧ k < 9) = false := by simp [h0]
    rw [e]
    go_enter Try.func35, Try.ntmps35
    go_wp2
    go_ret
    exact ⟨rfl, rfl⟩

set_option maxHeartbeats 1000000 in
set_option maxRecDepth 100000 in
theorem rlen_any {W : World} {vs : Nat → Value} {lv : Value} {σ : SSt} (h : RefIs W vs lv σ) (k : Int) :
    Calls Try.prog 25 #[.agg (refCells vs lv), .int .i64 k] W fun e w' => e = .returned (.int .i64 (lenF σ k : Int)) ∧ Below W.heap.size W w' := by
  have his := is_any k
  unfold lenF
  unfold refCells
  by_cases hr : 0 ≤ k ∧ k < 9
  · have e : decide (0 ≤ k ∧ k < 9) = true := by simpa using hr
    rw [e] at his
    rw [if_pos hr]
    obtain ⟨K, hK⟩ : ∃ K : Nat, k = (K : Int) := ⟨k.toNat, by omega⟩
    subst hK
    obtain ⟨A, c, hv, _⟩ := h.k K (by omega)
    rw [show ((K : Int)).toNat = K from by omega]
    have hc : (W.alloc (.cells (refCells vs lv) 39)).cell? ⟨W.heap.size, K, none⟩ = some (.slice A (σ.k K).length c) := by
      rw [cell_of_row _ W.heap.size K _ _ _ (heap_alloc_new W _), refCells_at vs lv K (by omega), hv]
    unfold refCells at hc
    have k0 : (0 : Int) ≤ (K : Int) := Int.natCast_nonneg _
    have k9 : (K : Int) < 9 := by omega
    have HI := Lib.hid his
    clear his hr e hv
    go_enter Try.func25, Try.ntmps25
    go_wp2_with (go_at_call 35; refine (HI.out _).mono ?_; rintro e w1 ⟨rfl, rfl⟩)
    go_ret
    exact ⟨rfl, (Below.refl _ _).alloc (Nat.le_refl _) _⟩
  · have e : decide (0 ≤ k ∧ k < 9) = false := by simpa using hr
    rw [e] at his
    rw [if_neg hr]
    have HI := Lib.hid his
    clear his hr e
    go_enter Try.func25, Try.ntmps25
    go_wp2_with (go_at_call 35; refine (HI.out _).mono ?_; rintro e w1 ⟨rfl, rfl⟩)
    go_ret
    exact ⟨rfl, (Below.refl _ _).alloc (Nat.le_refl _) _⟩
end Go.Proofs.Ytbnddnoognoekaa
