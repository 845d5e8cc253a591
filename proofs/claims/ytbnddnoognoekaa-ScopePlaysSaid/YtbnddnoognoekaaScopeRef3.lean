/-
  The reference's Find and Label.
-/
import Derived.Test.YtbnddnoognoekaaScopeRef2
set_option linter.unusedVariables false
namespace Go.Proofs.Ytbnddnoognoekaa
open Go.RowKit Go.Maps

theorem ref_cell {W : World} {vs : Nat → Value} {lv : Value} (K : Nat) (hK : K < 9) (v : Value) (hv : vs K = v) : (W.alloc (.cells #[vs 0, vs 1, vs 2, vs 3, vs 4, vs 5, vs 6, vs 7, vs 8, lv] 39)).cell? ⟨W.heap.size, K, none⟩ = some v := by
  rw [cell_of_row _ W.heap.size K _ _ _ (heap_alloc_new W _)]
  exact (refCells_at vs lv K hK).trans (by rw [hv])
theorem head_index {t : Nm} (h : t.head? = some 36) : ∃ h0 : 0 < t.length, t[0] = 36 := by
  cases t with
  | nil => simp at h
  | cons c r => simp at h; exact ⟨by simp, h⟩

set_option maxHeartbeats 1000000 in
set_option maxRecDepth 100000 in
theorem rlabel_word (vs : Nat → Value) (lv : Value) (t : Nm) (W : World) (ht : t.head? ≠ some 36) (hl : t.length ≤ 1000000) :
    Calls Try.prog 22 #[.agg (refCells vs lv), .string ⟨t.toArray⟩] W fun e w' => e = .returned (.tuple #[.int .i64 (Ltr.natF t 4294967295).1, .int .i64 (Ltr.natF t 4294967295).2]) ∧ Below W.heap.size W w' := by
  have HN : Hid (∀ W : World, Calls Try.prog 37 #[.string ⟨t.toArray⟩, .int .i64 4294967295] W fun e w' => e = .returned (.tuple #[.int .i64 (Ltr.natF t 4294967295).1, .int .i64 (Ltr.natF t 4294967295).2]) ∧ W = w') := Lib.hid (fun W => rnat_any t 4294967295 W hl (by omega))
  obtain ⟨⟨a, b⟩, hab⟩ : ∃ x, Ltr.natF t 4294967295 = x := ⟨_, rfl⟩
  rw [hab] at HN ⊢
  dsimp only at HN ⊢
  unfold refCells
  clear hab
  by_cases h0 : t = []
  · subst h0
    go_enter Try.func22, Try.ntmps22
    go_wp2_with (go_at_call 37; refine (HN.out _).mono ?_; rintro e w1 ⟨rfl, rfl⟩)
    go_ret2
    exact ⟨rfl, (Below.refl _ _).alloc (Nat.le_refl _) _⟩
  · have hl0 : 0 < t.length := List.length_pos_iff.2 h0
    obtain ⟨c0, hc0⟩ : ∃ c, t[0] = c := ⟨_, rfl⟩
    have hb0 := lba_get t 0 hl0 c0 hc0
    have hpos : (0 : Int) < (t.length : Int) := by omega
    have hz : ((t.length : Int) == 0) = false := by simpa using (by omega : ¬ (t.length : Int) = 0)
    have hc : c0 ≠ 36 := fun e => ht (by rw [List.head?_eq_getElem?]; simp [hl0, hc0, e])
    have n1 := lcne' c0 36 (by omega) hc
    simp only [Int.cast_ofNat_Int] at n1
    clear hc hc0 ht
    go_enter Try.func22, Try.ntmps22
    go_wp2_with (go_at_call 37; refine (HN.out _).mono ?_; rintro e w1 ⟨rfl, rfl⟩)
    go_ret2
    exact ⟨rfl, (Below.refl _ _).alloc (Nat.le_refl _) _⟩
end Go.Proofs.Ytbnddnoognoekaa
