/-
  The reference's Label at a name, and Find.
-/
import Derived.Test.YtbnddnoognoekaaScopeRef3
set_option linter.unusedVariables false
namespace Go.Proofs.Ytbnddnoognoekaa
open Go.RowKit Go.Maps

theorem labF_lt {xs : List Nm} {t : Nm} {n : Nat} (h : labF xs t = some n) : n < xs.length := by
  unfold labF at h
  rw [List.findIdx?_eq_some_iff_getElem] at h
  obtain ⟨h1, _⟩ := h
  simpa using h1
theorem dollar_ne {t : Nm} (h : t.head? = some 36) : t ≠ [] := by
  intro e
  subst e
  simp at h

set_option maxHeartbeats 1000000 in
set_option maxRecDepth 100000 in
theorem rlabel_dollar {W : World} {vs : Nat → Value} {lv : Value} {σ : SSt} (h : RefIs W vs lv σ) (t : Nm) (ht : t.head? = some 36) (hl : t.length ≤ 1000000) (hll : σ.lab.length ≤ 1000000) :
    Calls Try.prog 22 #[.agg (refCells vs lv), .string ⟨t.toArray⟩] W fun e w' => e = .returned (.tuple #[.int .i64 (finF (labF σ.lab t)).1, .int .i64 (finF (labF σ.lab t)).2]) ∧ Below W.heap.size W w' := by
  obtain ⟨A, c, hv, hr, _⟩ := h.l
  obtain ⟨h0, hc0⟩ := head_index ht
  have hb0 := lba_get t 0 h0 36 hc0
  have hpos : (0 : Int) < (t.length : Int) := by omega
  have hz : ((t.length : Int) == 0) = false := by simpa using (by omega : ¬ (t.length : Int) = 0)
  have hne := dollar_ne ht
  obtain ⟨xs, hxs⟩ : ∃ xs, σ.lab = xs := ⟨_, rfl⟩
  rw [hxs] at hv hr hll ⊢
  unfold refCells
  have hcell : (W.alloc (.cells #[vs 0, vs 1, vs 2, vs 3, vs 4, vs 5, vs 6, vs 7, vs 8, lv] 39)).cell? ⟨W.heap.size, 9, none⟩ = some (.slice A xs.length c) := by
    rw [cell_of_row _ W.heap.size 9 _ _ _ (heap_alloc_new W _), hv]; rfl
  have HP : Hid (Calls Try.prog 36 #[.slice A xs.length c, .string ⟨t.toArray⟩] (W.alloc (.cells #[vs 0, vs 1, vs 2, vs 3, vs 4, vs 5, vs 6, vs 7, vs 8, lv] 39)) fun e w' => e = .returned (.int .i64 (placeF xs t)) ∧ W.alloc (.cells #[vs 0, vs 1, vs 2, vs 3, vs 4, vs 5, vs 6, vs 7, vs 8, lv] 39) = w') :=
    Lib.hid (place_name A c xs t _ W.heap.size (Reads.alloc hr (Nat.le_refl _) _) hll hne)
  generalize hW : W.alloc (.cells #[vs 0, vs 1, vs 2, vs 3, vs 4, vs 5, vs 6, vs 7, vs 8, lv] 39) = W1 at hcell HP
  have hb1 : Below W.heap.size W W1 := by rw [← hW]; exact (Below.refl _ _).alloc (Nat.le_refl _) _
  unfold placeF at HP
  have q1 : IntKind.i64.wrap ((xs.length : Int) - 1) = (xs.length : Int) - 1 := by rw [IntKind.wrap_i64]; omega
  cases hf : labF xs t with
  | none =>
    rw [hf] at HP
    dsimp only at HP
    clear hf hv hr ht hc0 hne
    go_enter Try.func22, Try.ntmps22
    go_wp2_with (go_at_call 36; refine HP.out.mono ?_; rintro e w1 ⟨rfl, rfl⟩)
    go_ret2
    exact ⟨rfl, hb1⟩
  | some n =>
    rw [hf] at HP
    dsimp only at HP
    have hn := labF_lt hf
    obtain ⟨m, hm⟩ : ∃ m : Nat, (xs.length : Int) - 1 - (n : Int) = (m : Int) := ⟨xs.length - 1 - n, by omega⟩
    rw [hm] at HP
    have q2 : IntKind.i64.wrap ((xs.length : Int) - 1 - (m : Int)) = (n : Int) := by rw [IntKind.wrap_i64]; omega
    have q3 : decide ((m : Int) < 0) = false := by simp
    clear hf hv hr ht hc0 hne hm
    go_enter Try.func22, Try.ntmps22
    go_wp2_with (go_at_call 36; refine HP.out.mono ?_; rintro e w1 ⟨rfl, rfl⟩)
    go_ret2
    exact ⟨rfl, hb1⟩

set_option maxHeartbeats 1000000 in
set_option maxRecDepth 100000 in
theorem rfind_arg (vs : Nat → Value) (lv : Value) (k : Int) (t : Nm) (W : World) (hr : ¬ (0 ≤ k ∧ k < 9)) :
    Calls Try.prog 19 #[.agg (refCells vs lv), .int .i64 k, .string ⟨t.toArray⟩] W fun e w' => e = .returned (.tuple #[.int .i64 0, .int .i64 1]) ∧ Below W.heap.size W w' := by
  have his := is_any k
  have e : decide (0 ≤ k ∧ k < 9) = false := by simpa using hr
  rw [e] at his
  have HI := Lib.hid his
  unfold refCells
  clear his e hr
  go_enter Try.func19, Try.ntmps19
  go_wp2_with (go_at_call 35; refine (HI.out _).mono ?_; rintro e w1 ⟨rfl, rfl⟩)
  go_ret2
  exact ⟨rfl, (Below.refl _ _).alloc (Nat.le_refl _) _⟩

set_option maxHeartbeats 1000000 in
set_option maxRecDepth 100000 in
theorem rfind_word (vs : Nat → Value) (lv : Value) (k : Int) (t : Nm) (W : World) (hr : 0 ≤ k ∧ k < 9) (ht : t.head? ≠ some 36) (hl : t.length ≤ 1000000) :
    Calls Try.prog 19 #[.agg (refCells vs lv), .int .i64 k, .string ⟨t.toArray⟩] W fun e w' => e = .returned (.tuple #[.int .i64 (Ltr.natF t 4294967295).1, .int .i64 (Ltr.natF t 4294967295).2]) ∧ Below W.heap.size W w' := by
  have his := is_any k
  have e : decide (0 ≤ k ∧ k < 9) = true := by simpa using hr
  rw [e] at his
  have HI := Lib.hid his
  have HN : Hid (∀ W : World, Calls Try.prog 37 #[.string ⟨t.toArray⟩, .int .i64 4294967295] W fun e w' => e = .returned (.tuple #[.int .i64 (Ltr.natF t 4294967295).1, .int .i64 (Ltr.natF t 4294967295).2]) ∧ W = w') := Lib.hid (fun W => rnat_any t 4294967295 W hl (by omega))
  obtain ⟨⟨a, b⟩, hab⟩ : ∃ x, Ltr.natF t 4294967295 = x := ⟨_, rfl⟩
  rw [hab] at HN ⊢
  dsimp only at HN ⊢
  unfold refCells
  clear hab his e hr
  by_cases h0 : t = []
  · subst h0
    go_enter Try.func19, Try.ntmps19
    go_wp2_with (first
      | (go_at_call 35; refine (HI.out _).mono ?_; rintro e w1 ⟨rfl, rfl⟩)
      | (go_at_call 37; refine (HN.out _).mono ?_; rintro e w1 ⟨rfl, rfl⟩))
    go_ret2
    exact ⟨rfl, (Below.refl _ _).alloc (Nat.le_refl _) _⟩
  · have hl0 : 0 < t.length := List.length_pos_iff.2 h0
    obtain ⟨c0, hc0⟩ : ∃ c, t[0] = c := ⟨_, rfl⟩
    have hb0 := lba_get t 0 hl0 c0 hc0
    have hpos : (0 : Int) < (t.length : Int) := by omega
    have hz : ((t.length : Int) == 0) = false := by simpa using (by omega : ¬ (t.length : Int) = 0)
    have hc : c0 ≠ 36 := fun e => ht (by rw [List.head?_eq_getElem?]; simp [hl0, hc0, e])
    have n1 := lcne' c0 36 (by omega) hc
    simp only [Int.cast_ofNat_Int] at n1
    clear hc hc0 ht
    go_enter Try.func19, Try.ntmps19
    go_wp2_with (first
      | (go_at_call 35; refine (HI.out _).mono ?_; rintro e w1 ⟨rfl, rfl⟩)
      | (go_at_call 37; refine (HN.out _).mono ?_; rintro e w1 ⟨rfl, rfl⟩))
    go_ret2
    exact ⟨rfl, (Below.refl _ _).alloc (Nat.le_refl _) _⟩

/-- The reference's answer for a name: its last index. -/
def rfinF (i : Int) : Int × Int := if i < 0 then (0, 24) else (i, 0)
set_option maxHeartbeats 1000000 in
set_option maxRecDepth 100000 in
theorem rfind_dollar {W : World} {vs : Nat → Value} {lv : Value} {σ : SSt} (h : RefIs W vs lv σ) (K : Nat) (hK : K < 9) (t : Nm) (ht : t.head? = some 36) (hl : t.length ≤ 1000000) (hll : (σ.k K).length ≤ 1000000) :
    Calls Try.prog 19 #[.agg (refCells vs lv), .int .i64 (K : Int), .string ⟨t.toArray⟩] W fun e w' => e = .returned (.tuple #[.int .i64 (rfinF (placeF (σ.k K) t)).1, .int .i64 (rfinF (placeF (σ.k K) t)).2]) ∧ Below W.heap.size W w' := by
  have his := is_any (K : Int)
  have e : decide (0 ≤ (K : Int) ∧ (K : Int) < 9) = true := by simp; omega
  rw [e] at his
  have HI := Lib.hid his
  obtain ⟨A, c, hv, hr⟩ := h.k K hK
  obtain ⟨h0, hc0⟩ := head_index ht
  have hb0 := lba_get t 0 h0 36 hc0
  have hpos : (0 : Int) < (t.length : Int) := by omega
  have hz : ((t.length : Int) == 0) = false := by simpa using (by omega : ¬ (t.length : Int) = 0)
  have hne := dollar_ne ht
  obtain ⟨xs, hxs⟩ : ∃ xs, σ.k K = xs := ⟨_, rfl⟩
  rw [hxs] at hv hr hll ⊢
  unfold refCells
  have hcell := ref_cell (W := W) (lv := lv) K hK _ hv
  have HP : Hid (Calls Try.prog 36 #[.slice A xs.length c, .string ⟨t.toArray⟩] (W.alloc (.cells #[vs 0, vs 1, vs 2, vs 3, vs 4, vs 5, vs 6, vs 7, vs 8, lv] 39)) fun e w' => e = .returned (.int .i64 (placeF xs t)) ∧ W.alloc (.cells #[vs 0, vs 1, vs 2, vs 3, vs 4, vs 5, vs 6, vs 7, vs 8, lv] 39) = w') :=
    Lib.hid (place_name A c xs t _ W.heap.size (Reads.alloc hr (Nat.le_refl _) _) hll hne)
  generalize hW : W.alloc (.cells #[vs 0, vs 1, vs 2, vs 3, vs 4, vs 5, vs 6, vs 7, vs 8, lv] 39) = W1 at hcell HP
  have hb1 : Below W.heap.size W W1 := by rw [← hW]; exact (Below.refl _ _).alloc (Nat.le_refl _) _
  have k0 : (0 : Int) ≤ (K : Int) := Int.natCast_nonneg _
  have k9 : (K : Int) < 9 := by omega
  obtain ⟨i, hi⟩ : ∃ i, placeF xs t = i := ⟨_, rfl⟩
  rw [hi] at HP ⊢
  unfold rfinF
  clear hv hr ht hc0 hne hi his e
  by_cases hneg : i < 0
  · rw [if_pos hneg]
    have d1 : decide (i < 0) = true := by simpa using hneg
    go_enter Try.func19, Try.ntmps19
    go_wp2_with (first
      | (go_at_call 35; refine (HI.out _).mono ?_; rintro e w1 ⟨rfl, rfl⟩)
      | (go_at_call 36; refine HP.out.mono ?_; rintro e w1 ⟨rfl, rfl⟩))
    go_ret2
    exact ⟨rfl, hb1⟩
  · rw [if_neg hneg]
    have d1 : decide (i < 0) = false := by simpa using hneg
    go_enter Try.func19, Try.ntmps19
    go_wp2_with (first
      | (go_at_call 35; refine (HI.out _).mono ?_; rintro e w1 ⟨rfl, rfl⟩)
      | (go_at_call 36; refine HP.out.mono ?_; rintro e w1 ⟨rfl, rfl⟩))
    go_ret2
    exact ⟨rfl, hb1⟩
end Go.Proofs.Ytbnddnoognoekaa
