/-
  The reference's Reset at each kind.
-/
import Derived.Test.YtbnddnoognoekaaScopeRef9
import Derived.Test.YtbnddnoognoekaaLitRName
set_option linter.unusedVariables false
namespace Go.Proofs.Ytbnddnoognoekaa
open Go.RowKit Go.Maps

set_option maxHeartbeats 600000 in
set_option maxRecDepth 100000 in
theorem rreset_k0 {W : World} {vs : Nat → Value} {lv : Value} {σ : SSt} (h : RefIs W vs lv σ) :
    Calls Try.prog 24 #[.agg (refCells vs lv), .int .i64 0] W fun e w' => ∃ vs', e = .returned (.agg (refCells vs' lv)) ∧ RefIs w' vs' lv ⟨upd σ.k 0 [], σ.lab⟩ ∧ Below W.heap.size W w' ∧ ∀ j, NewOr W w' (vs j) (vs' j) := by
  have HI := Lib.hid (is_any 0)
  obtain ⟨A, c, hv, _, _⟩ := h.l
  obtain ⟨xs, hxs⟩ : ∃ xs, σ.lab = xs := ⟨_, rfl⟩
  rw [hxs] at hv
  subst hv
  have HH := Lib.hid h
  have hE : ∀ v, .agg (refCells (upd vs 0 v) (.slice A xs.length c)) = Value.agg #[v, vs 1, vs 2, vs 3, vs 4, vs 5, vs 6, vs 7, vs 8, .slice A xs.length c] := fun v => rfl
  unfold refCells
  obtain ⟨B0, k0, e0, _⟩ := h.k 0 (by omega)
  obtain ⟨B1, k1, e1, _⟩ := h.k 1 (by omega)
  obtain ⟨B2, k2, e2, _⟩ := h.k 2 (by omega)
  obtain ⟨B3, k3, e3, _⟩ := h.k 3 (by omega)
  obtain ⟨B4, k4, e4, _⟩ := h.k 4 (by omega)
  obtain ⟨B5, k5, e5, _⟩ := h.k 5 (by omega)
  obtain ⟨B6, k6, e6, _⟩ := h.k 6 (by omega)
  obtain ⟨B7, k7, e7, _⟩ := h.k 7 (by omega)
  obtain ⟨B8, k8, e8, _⟩ := h.k 8 (by omega)
  rw [e0, e1, e2, e3, e4, e5, e6, e7, e8]
  rw [e1, e2, e3, e4, e5, e6, e7, e8] at hE
  have HE := Lib.hid hE
  unfold refCells at HE
  clear h hE e0 e1 e2 e3 e4 e5 e6 e7 e8
  go_enter Try.func24, Try.ntmps24
  go_wp2_with (go_at_call 35; refine (HI.out _).mono ?_; rintro e w1 ⟨rfl, rfl⟩)
  go_returns
  refine ⟨upd vs 0 (.slice none 0 0), congrArg _ (HE.out _).symm, ?_⟩
  have fin : ∀ w', Below W.heap.size W w' → (RefIs w' (upd vs 0 (.slice none 0 0)) (.slice A xs.length c) ⟨upd σ.k 0 [], σ.lab⟩ ∧ Below W.heap.size W w' ∧ ∀ j, NewOr W w' (vs j) (upd vs 0 (.slice none 0 0) j)) := fun w' hb => ⟨HH.out.set hb 0 [] none 0 Reads.none_, hb, NewOr.upd (fun g hg => by cases hg)⟩
  refine fin _ ?_
  exact (((Below.refl _ _).alloc (Nat.le_refl _) _).alloc (by simp) _).alloc (by simp; try omega) _

set_option maxHeartbeats 600000 in
set_option maxRecDepth 100000 in
theorem rreset_k1 {W : World} {vs : Nat → Value} {lv : Value} {σ : SSt} (h : RefIs W vs lv σ) :
    Calls Try.prog 24 #[.agg (refCells vs lv), .int .i64 1] W fun e w' => ∃ vs', e = .returned (.agg (refCells vs' lv)) ∧ RefIs w' vs' lv ⟨upd σ.k 1 [], σ.lab⟩ ∧ Below W.heap.size W w' ∧ ∀ j, NewOr W w' (vs j) (vs' j) := by
  have HI := Lib.hid (is_any 1)
  obtain ⟨A, c, hv, _, _⟩ := h.l
  obtain ⟨xs, hxs⟩ : ∃ xs, σ.lab = xs := ⟨_, rfl⟩
  rw [hxs] at hv
  subst hv
  have HH := Lib.hid h
  have hE : ∀ v, .agg (refCells (upd vs 1 v) (.slice A xs.length c)) = Value.agg #[vs 0, v, vs 2, vs 3, vs 4, vs 5, vs 6, vs 7, vs 8, .slice A xs.length c] := fun v => rfl
  unfold refCells
  obtain ⟨B0, k0, e0, _⟩ := h.k 0 (by omega)
  obtain ⟨B1, k1, e1, _⟩ := h.k 1 (by omega)
  obtain ⟨B2, k2, e2, _⟩ := h.k 2 (by omega)
  obtain ⟨B3, k3, e3, _⟩ := h.k 3 (by omega)
  obtain ⟨B4, k4, e4, _⟩ := h.k 4 (by omega)
  obtain ⟨B5, k5, e5, _⟩ := h.k 5 (by omega)
  obtain ⟨B6, k6, e6, _⟩ := h.k 6 (by omega)
  obtain ⟨B7, k7, e7, _⟩ := h.k 7 (by omega)
  obtain ⟨B8, k8, e8, _⟩ := h.k 8 (by omega)
  rw [e0, e1, e2, e3, e4, e5, e6, e7, e8]
  rw [e0, e2, e3, e4, e5, e6, e7, e8] at hE
  have HE := Lib.hid hE
  unfold refCells at HE
  clear h hE e0 e1 e2 e3 e4 e5 e6 e7 e8
  go_enter Try.func24, Try.ntmps24
  go_wp2_with (go_at_call 35; refine (HI.out _).mono ?_; rintro e w1 ⟨rfl, rfl⟩)
  go_returns
  refine ⟨upd vs 1 (.slice none 0 0), congrArg _ (HE.out _).symm, ?_⟩
  have fin : ∀ w', Below W.heap.size W w' → (RefIs w' (upd vs 1 (.slice none 0 0)) (.slice A xs.length c) ⟨upd σ.k 1 [], σ.lab⟩ ∧ Below W.heap.size W w' ∧ ∀ j, NewOr W w' (vs j) (upd vs 1 (.slice none 0 0) j)) := fun w' hb => ⟨HH.out.set hb 1 [] none 0 Reads.none_, hb, NewOr.upd (fun g hg => by cases hg)⟩
  refine fin _ ?_
  exact (((Below.refl _ _).alloc (Nat.le_refl _) _).alloc (by simp) _).alloc (by simp; try omega) _

set_option maxHeartbeats 600000 in
set_option maxRecDepth 100000 in
theorem rreset_k2 {W : World} {vs : Nat → Value} {lv : Value} {σ : SSt} (h : RefIs W vs lv σ) :
    Calls Try.prog 24 #[.agg (refCells vs lv), .int .i64 2] W fun e w' => ∃ vs', e = .returned (.agg (refCells vs' lv)) ∧ RefIs w' vs' lv ⟨upd σ.k 2 [], σ.lab⟩ ∧ Below W.heap.size W w' ∧ ∀ j, NewOr W w' (vs j) (vs' j) := by
  have HI := Lib.hid (is_any 2)
  obtain ⟨A, c, hv, _, _⟩ := h.l
  obtain ⟨xs, hxs⟩ : ∃ xs, σ.lab = xs := ⟨_, rfl⟩
  rw [hxs] at hv
  subst hv
  have HH := Lib.hid h
  have hE : ∀ v, .agg (refCells (upd vs 2 v) (.slice A xs.length c)) = Value.agg #[vs 0, vs 1, v, vs 3, vs 4, vs 5, vs 6, vs 7, vs 8, .slice A xs.length c] := fun v => rfl
  unfold refCells
  obtain ⟨B0, k0, e0, _⟩ := h.k 0 (by omega)
  obtain ⟨B1, k1, e1, _⟩ := h.k 1 (by omega)
  obtain ⟨B2, k2, e2, _⟩ := h.k 2 (by omega)
  obtain ⟨B3, k3, e3, _⟩ := h.k 3 (by omega)
  obtain ⟨B4, k4, e4, _⟩ := h.k 4 (by omega)
  obtain ⟨B5, k5, e5, _⟩ := h.k 5 (by omega)
  obtain ⟨B6, k6, e6, _⟩ := h.k 6 (by omega)
  obtain ⟨B7, k7, e7, _⟩ := h.k 7 (by omega)
  obtain ⟨B8, k8, e8, _⟩ := h.k 8 (by omega)
  rw [e0, e1, e2, e3, e4, e5, e6, e7, e8]
  rw [e0, e1, e3, e4, e5, e6, e7, e8] at hE
  have HE := Lib.hid hE
  unfold refCells at HE
  clear h hE e0 e1 e2 e3 e4 e5 e6 e7 e8
  go_enter Try.func24, Try.ntmps24
  go_wp2_with (go_at_call 35; refine (HI.out _).mono ?_; rintro e w1 ⟨rfl, rfl⟩)
  go_returns
  refine ⟨upd vs 2 (.slice none 0 0), congrArg _ (HE.out _).symm, ?_⟩
  have fin : ∀ w', Below W.heap.size W w' → (RefIs w' (upd vs 2 (.slice none 0 0)) (.slice A xs.length c) ⟨upd σ.k 2 [], σ.lab⟩ ∧ Below W.heap.size W w' ∧ ∀ j, NewOr W w' (vs j) (upd vs 2 (.slice none 0 0) j)) := fun w' hb => ⟨HH.out.set hb 2 [] none 0 Reads.none_, hb, NewOr.upd (fun g hg => by cases hg)⟩
  refine fin _ ?_
  exact (((Below.refl _ _).alloc (Nat.le_refl _) _).alloc (by simp) _).alloc (by simp; try omega) _

set_option maxHeartbeats 600000 in
set_option maxRecDepth 100000 in
theorem rreset_k3 {W : World} {vs : Nat → Value} {lv : Value} {σ : SSt} (h : RefIs W vs lv σ) :
    Calls Try.prog 24 #[.agg (refCells vs lv), .int .i64 3] W fun e w' => ∃ vs', e = .returned (.agg (refCells vs' lv)) ∧ RefIs w' vs' lv ⟨upd σ.k 3 [], σ.lab⟩ ∧ Below W.heap.size W w' ∧ ∀ j, NewOr W w' (vs j) (vs' j) := by
  have HI := Lib.hid (is_any 3)
  obtain ⟨A, c, hv, _, _⟩ := h.l
  obtain ⟨xs, hxs⟩ : ∃ xs, σ.lab = xs := ⟨_, rfl⟩
  rw [hxs] at hv
  subst hv
  have HH := Lib.hid h
  have hE : ∀ v, .agg (refCells (upd vs 3 v) (.slice A xs.length c)) = Value.agg #[vs 0, vs 1, vs 2, v, vs 4, vs 5, vs 6, vs 7, vs 8, .slice A xs.length c] := fun v => rfl
  unfold refCells
  obtain ⟨B0, k0, e0, _⟩ := h.k 0 (by omega)
  obtain ⟨B1, k1, e1, _⟩ := h.k 1 (by omega)
  obtain ⟨B2, k2, e2, _⟩ := h.k 2 (by omega)
  obtain ⟨B3, k3, e3, _⟩ := h.k 3 (by omega)
  obtain ⟨B4, k4, e4, _⟩ := h.k 4 (by omega)
  obtain ⟨B5, k5, e5, _⟩ := h.k 5 (by omega)
  obtain ⟨B6, k6, e6, _⟩ := h.k 6 (by omega)
  obtain ⟨B7, k7, e7, _⟩ := h.k 7 (by omega)
  obtain ⟨B8, k8, e8, _⟩ := h.k 8 (by omega)
  rw [e0, e1, e2, e3, e4, e5, e6, e7, e8]
  rw [e0, e1, e2, e4, e5, e6, e7, e8] at hE
  have HE := Lib.hid hE
  unfold refCells at HE
  clear h hE e0 e1 e2 e3 e4 e5 e6 e7 e8
  go_enter Try.func24, Try.ntmps24
  go_wp2_with (go_at_call 35; refine (HI.out _).mono ?_; rintro e w1 ⟨rfl, rfl⟩)
  go_returns
  refine ⟨upd vs 3 (.slice none 0 0), congrArg _ (HE.out _).symm, ?_⟩
  have fin : ∀ w', Below W.heap.size W w' → (RefIs w' (upd vs 3 (.slice none 0 0)) (.slice A xs.length c) ⟨upd σ.k 3 [], σ.lab⟩ ∧ Below W.heap.size W w' ∧ ∀ j, NewOr W w' (vs j) (upd vs 3 (.slice none 0 0) j)) := fun w' hb => ⟨HH.out.set hb 3 [] none 0 Reads.none_, hb, NewOr.upd (fun g hg => by cases hg)⟩
  refine fin _ ?_
  exact (((Below.refl _ _).alloc (Nat.le_refl _) _).alloc (by simp) _).alloc (by simp; try omega) _

set_option maxHeartbeats 600000 in
set_option maxRecDepth 100000 in
theorem rreset_k4 {W : World} {vs : Nat → Value} {lv : Value} {σ : SSt} (h : RefIs W vs lv σ) :
    Calls Try.prog 24 #[.agg (refCells vs lv), .int .i64 4] W fun e w' => ∃ vs', e = .returned (.agg (refCells vs' lv)) ∧ RefIs w' vs' lv ⟨upd σ.k 4 [], σ.lab⟩ ∧ Below W.heap.size W w' ∧ ∀ j, NewOr W w' (vs j) (vs' j) := by
  have HI := Lib.hid (is_any 4)
  obtain ⟨A, c, hv, _, _⟩ := h.l
  obtain ⟨xs, hxs⟩ : ∃ xs, σ.lab = xs := ⟨_, rfl⟩
  rw [hxs] at hv
  subst hv
  have HH := Lib.hid h
  have hE : ∀ v, .agg (refCells (upd vs 4 v) (.slice A xs.length c)) = Value.agg #[vs 0, vs 1, vs 2, vs 3, v, vs 5, vs 6, vs 7, vs 8, .slice A xs.length c] := fun v => rfl
  unfold refCells
  obtain ⟨B0, k0, e0, _⟩ := h.k 0 (by omega)
  obtain ⟨B1, k1, e1, _⟩ := h.k 1 (by omega)
  obtain ⟨B2, k2, e2, _⟩ := h.k 2 (by omega)
  obtain ⟨B3, k3, e3, _⟩ := h.k 3 (by omega)
  obtain ⟨B4, k4, e4, _⟩ := h.k 4 (by omega)
  obtain ⟨B5, k5, e5, _⟩ := h.k 5 (by omega)
  obtain ⟨B6, k6, e6, _⟩ := h.k 6 (by omega)
  obtain ⟨B7, k7, e7, _⟩ := h.k 7 (by omega)
  obtain ⟨B8, k8, e8, _⟩ := h.k 8 (by omega)
  rw [e0, e1, e2, e3, e4, e5, e6, e7, e8]
  rw [e0, e1, e2, e3, e5, e6, e7, e8] at hE
  have HE := Lib.hid hE
  unfold refCells at HE
  clear h hE e0 e1 e2 e3 e4 e5 e6 e7 e8
  go_enter Try.func24, Try.ntmps24
  go_wp2_with (go_at_call 35; refine (HI.out _).mono ?_; rintro e w1 ⟨rfl, rfl⟩)
  go_returns
  refine ⟨upd vs 4 (.slice none 0 0), congrArg _ (HE.out _).symm, ?_⟩
  have fin : ∀ w', Below W.heap.size W w' → (RefIs w' (upd vs 4 (.slice none 0 0)) (.slice A xs.length c) ⟨upd σ.k 4 [], σ.lab⟩ ∧ Below W.heap.size W w' ∧ ∀ j, NewOr W w' (vs j) (upd vs 4 (.slice none 0 0) j)) := fun w' hb => ⟨HH.out.set hb 4 [] none 0 Reads.none_, hb, NewOr.upd (fun g hg => by cases hg)⟩
  refine fin _ ?_
  exact (((Below.refl _ _).alloc (Nat.le_refl _) _).alloc (by simp) _).alloc (by simp; try omega) _

set_option maxHeartbeats 600000 in
set_option maxRecDepth 100000 in
theorem rreset_k5 {W : World} {vs : Nat → Value} {lv : Value} {σ : SSt} (h : RefIs W vs lv σ) :
    Calls Try.prog 24 #[.agg (refCells vs lv), .int .i64 5] W fun e w' => ∃ vs', e = .returned (.agg (refCells vs' lv)) ∧ RefIs w' vs' lv ⟨upd σ.k 5 [], σ.lab⟩ ∧ Below W.heap.size W w' ∧ ∀ j, NewOr W w' (vs j) (vs' j) := by
  have HI := Lib.hid (is_any 5)
  obtain ⟨A, c, hv, _, _⟩ := h.l
  obtain ⟨xs, hxs⟩ : ∃ xs, σ.lab = xs := ⟨_, rfl⟩
  rw [hxs] at hv
  subst hv
  have HH := Lib.hid h
  have hE : ∀ v, .agg (refCells (upd vs 5 v) (.slice A xs.length c)) = Value.agg #[vs 0, vs 1, vs 2, vs 3, vs 4, v, vs 6, vs 7, vs 8, .slice A xs.length c] := fun v => rfl
  unfold refCells
  obtain ⟨B0, k0, e0, _⟩ := h.k 0 (by omega)
  obtain ⟨B1, k1, e1, _⟩ := h.k 1 (by omega)
  obtain ⟨B2, k2, e2, _⟩ := h.k 2 (by omega)
  obtain ⟨B3, k3, e3, _⟩ := h.k 3 (by omega)
  obtain ⟨B4, k4, e4, _⟩ := h.k 4 (by omega)
  obtain ⟨B5, k5, e5, _⟩ := h.k 5 (by omega)
  obtain ⟨B6, k6, e6, _⟩ := h.k 6 (by omega)
  obtain ⟨B7, k7, e7, _⟩ := h.k 7 (by omega)
  obtain ⟨B8, k8, e8, _⟩ := h.k 8 (by omega)
  rw [e0, e1, e2, e3, e4, e5, e6, e7, e8]
  rw [e0, e1, e2, e3, e4, e6, e7, e8] at hE
  have HE := Lib.hid hE
  unfold refCells at HE
  clear h hE e0 e1 e2 e3 e4 e5 e6 e7 e8
  go_enter Try.func24, Try.ntmps24
  go_wp2_with (go_at_call 35; refine (HI.out _).mono ?_; rintro e w1 ⟨rfl, rfl⟩)
  go_returns
  refine ⟨upd vs 5 (.slice none 0 0), congrArg _ (HE.out _).symm, ?_⟩
  have fin : ∀ w', Below W.heap.size W w' → (RefIs w' (upd vs 5 (.slice none 0 0)) (.slice A xs.length c) ⟨upd σ.k 5 [], σ.lab⟩ ∧ Below W.heap.size W w' ∧ ∀ j, NewOr W w' (vs j) (upd vs 5 (.slice none 0 0) j)) := fun w' hb => ⟨HH.out.set hb 5 [] none 0 Reads.none_, hb, NewOr.upd (fun g hg => by cases hg)⟩
  refine fin _ ?_
  exact (((Below.refl _ _).alloc (Nat.le_refl _) _).alloc (by simp) _).alloc (by simp; try omega) _

set_option maxHeartbeats 600000 in
set_option maxRecDepth 100000 in
theorem rreset_k6 {W : World} {vs : Nat → Value} {lv : Value} {σ : SSt} (h : RefIs W vs lv σ) :
    Calls Try.prog 24 #[.agg (refCells vs lv), .int .i64 6] W fun e w' => ∃ vs', e = .returned (.agg (refCells vs' lv)) ∧ RefIs w' vs' lv ⟨upd σ.k 6 [], σ.lab⟩ ∧ Below W.heap.size W w' ∧ ∀ j, NewOr W w' (vs j) (vs' j) := by
  have HI := Lib.hid (is_any 6)
  obtain ⟨A, c, hv, _, _⟩ := h.l
  obtain ⟨xs, hxs⟩ : ∃ xs, σ.lab = xs := ⟨_, rfl⟩
  rw [hxs] at hv
  subst hv
  have HH := Lib.hid h
  have hE : ∀ v, .agg (refCells (upd vs 6 v) (.slice A xs.length c)) = Value.agg #[vs 0, vs 1, vs 2, vs 3, vs 4, vs 5, v, vs 7, vs 8, .slice A xs.length c] := fun v => rfl
  unfold refCells
  obtain ⟨B0, k0, e0, _⟩ := h.k 0 (by omega)
  obtain ⟨B1, k1, e1, _⟩ := h.k 1 (by omega)
  obtain ⟨B2, k2, e2, _⟩ := h.k 2 (by omega)
  obtain ⟨B3, k3, e3, _⟩ := h.k 3 (by omega)
  obtain ⟨B4, k4, e4, _⟩ := h.k 4 (by omega)
  obtain ⟨B5, k5, e5, _⟩ := h.k 5 (by omega)
  obtain ⟨B6, k6, e6, _⟩ := h.k 6 (by omega)
  obtain ⟨B7, k7, e7, _⟩ := h.k 7 (by omega)
  obtain ⟨B8, k8, e8, _⟩ := h.k 8 (by omega)
  rw [e0, e1, e2, e3, e4, e5, e6, e7, e8]
  rw [e0, e1, e2, e3, e4, e5, e7, e8] at hE
  have HE := Lib.hid hE
  unfold refCells at HE
  clear h hE e0 e1 e2 e3 e4 e5 e6 e7 e8
  go_enter Try.func24, Try.ntmps24
  go_wp2_with (go_at_call 35; refine (HI.out _).mono ?_; rintro e w1 ⟨rfl, rfl⟩)
  go_returns
  refine ⟨upd vs 6 (.slice none 0 0), congrArg _ (HE.out _).symm, ?_⟩
  have fin : ∀ w', Below W.heap.size W w' → (RefIs w' (upd vs 6 (.slice none 0 0)) (.slice A xs.length c) ⟨upd σ.k 6 [], σ.lab⟩ ∧ Below W.heap.size W w' ∧ ∀ j, NewOr W w' (vs j) (upd vs 6 (.slice none 0 0) j)) := fun w' hb => ⟨HH.out.set hb 6 [] none 0 Reads.none_, hb, NewOr.upd (fun g hg => by cases hg)⟩
  refine fin _ ?_
  exact (((Below.refl _ _).alloc (Nat.le_refl _) _).alloc (by simp) _).alloc (by simp; try omega) _

set_option maxHeartbeats 600000 in
set_option maxRecDepth 100000 in
theorem rreset_k7 {W : World} {vs : Nat → Value} {lv : Value} {σ : SSt} (h : RefIs W vs lv σ) :
    Calls Try.prog 24 #[.agg (refCells vs lv), .int .i64 7] W fun e w' => ∃ vs', e = .returned (.agg (refCells vs' lv)) ∧ RefIs w' vs' lv ⟨upd σ.k 7 [], σ.lab⟩ ∧ Below W.heap.size W w' ∧ ∀ j, NewOr W w' (vs j) (vs' j) := by
  have HI := Lib.hid (is_any 7)
  obtain ⟨A, c, hv, _, _⟩ := h.l
  obtain ⟨xs, hxs⟩ : ∃ xs, σ.lab = xs := ⟨_, rfl⟩
  rw [hxs] at hv
  subst hv
  have HH := Lib.hid h
  have hE : ∀ v, .agg (refCells (upd vs 7 v) (.slice A xs.length c)) = Value.agg #[vs 0, vs 1, vs 2, vs 3, vs 4, vs 5, vs 6, v, vs 8, .slice A xs.length c] := fun v => rfl
  unfold refCells
  obtain ⟨B0, k0, e0, _⟩ := h.k 0 (by omega)
  obtain ⟨B1, k1, e1, _⟩ := h.k 1 (by omega)
  obtain ⟨B2, k2, e2, _⟩ := h.k 2 (by omega)
  obtain ⟨B3, k3, e3, _⟩ := h.k 3 (by omega)
  obtain ⟨B4, k4, e4, _⟩ := h.k 4 (by omega)
  obtain ⟨B5, k5, e5, _⟩ := h.k 5 (by omega)
  obtain ⟨B6, k6, e6, _⟩ := h.k 6 (by omega)
  obtain ⟨B7, k7, e7, _⟩ := h.k 7 (by omega)
  obtain ⟨B8, k8, e8, _⟩ := h.k 8 (by omega)
  rw [e0, e1, e2, e3, e4, e5, e6, e7, e8]
  rw [e0, e1, e2, e3, e4, e5, e6, e8] at hE
  have HE := Lib.hid hE
  unfold refCells at HE
  clear h hE e0 e1 e2 e3 e4 e5 e6 e7 e8
  go_enter Try.func24, Try.ntmps24
  go_wp2_with (go_at_call 35; refine (HI.out _).mono ?_; rintro e w1 ⟨rfl, rfl⟩)
  go_returns
  refine ⟨upd vs 7 (.slice none 0 0), congrArg _ (HE.out _).symm, ?_⟩
  have fin : ∀ w', Below W.heap.size W w' → (RefIs w' (upd vs 7 (.slice none 0 0)) (.slice A xs.length c) ⟨upd σ.k 7 [], σ.lab⟩ ∧ Below W.heap.size W w' ∧ ∀ j, NewOr W w' (vs j) (upd vs 7 (.slice none 0 0) j)) := fun w' hb => ⟨HH.out.set hb 7 [] none 0 Reads.none_, hb, NewOr.upd (fun g hg => by cases hg)⟩
  refine fin _ ?_
  exact (((Below.refl _ _).alloc (Nat.le_refl _) _).alloc (by simp) _).alloc (by simp; try omega) _

set_option maxHeartbeats 600000 in
set_option maxRecDepth 100000 in
theorem rreset_k8 {W : World} {vs : Nat → Value} {lv : Value} {σ : SSt} (h : RefIs W vs lv σ) :
    Calls Try.prog 24 #[.agg (refCells vs lv), .int .i64 8] W fun e w' => ∃ vs', e = .returned (.agg (refCells vs' lv)) ∧ RefIs w' vs' lv ⟨upd σ.k 8 [], σ.lab⟩ ∧ Below W.heap.size W w' ∧ ∀ j, NewOr W w' (vs j) (vs' j) := by
  have HI := Lib.hid (is_any 8)
  obtain ⟨A, c, hv, _, _⟩ := h.l
  obtain ⟨xs, hxs⟩ : ∃ xs, σ.lab = xs := ⟨_, rfl⟩
  rw [hxs] at hv
  subst hv
  have HH := Lib.hid h
  have hE : ∀ v, .agg (refCells (upd vs 8 v) (.slice A xs.length c)) = Value.agg #[vs 0, vs 1, vs 2, vs 3, vs 4, vs 5, vs 6, vs 7, v, .slice A xs.length c] := fun v => rfl
  unfold refCells
  obtain ⟨B0, k0, e0, _⟩ := h.k 0 (by omega)
  obtain ⟨B1, k1, e1, _⟩ := h.k 1 (by omega)
  obtain ⟨B2, k2, e2, _⟩ := h.k 2 (by omega)
  obtain ⟨B3, k3, e3, _⟩ := h.k 3 (by omega)
  obtain ⟨B4, k4, e4, _⟩ := h.k 4 (by omega)
  obtain ⟨B5, k5, e5, _⟩ := h.k 5 (by omega)
  obtain ⟨B6, k6, e6, _⟩ := h.k 6 (by omega)
  obtain ⟨B7, k7, e7, _⟩ := h.k 7 (by omega)
  obtain ⟨B8, k8, e8, _⟩ := h.k 8 (by omega)
  rw [e0, e1, e2, e3, e4, e5, e6, e7, e8]
  rw [e0, e1, e2, e3, e4, e5, e6, e7] at hE
  have HE := Lib.hid hE
  unfold refCells at HE
  clear h hE e0 e1 e2 e3 e4 e5 e6 e7 e8
  go_enter Try.func24, Try.ntmps24
  go_wp2_with (go_at_call 35; refine (HI.out _).mono ?_; rintro e w1 ⟨rfl, rfl⟩)
  go_returns
  refine ⟨upd vs 8 (.slice none 0 0), congrArg _ (HE.out _).symm, ?_⟩
  have fin : ∀ w', Below W.heap.size W w' → (RefIs w' (upd vs 8 (.slice none 0 0)) (.slice A xs.length c) ⟨upd σ.k 8 [], σ.lab⟩ ∧ Below W.heap.size W w' ∧ ∀ j, NewOr W w' (vs j) (upd vs 8 (.slice none 0 0) j)) := fun w' hb => ⟨HH.out.set hb 8 [] none 0 Reads.none_, hb, NewOr.upd (fun g hg => by cases hg)⟩
  refine fin _ ?_
  exact (((Below.refl _ _).alloc (Nat.le_refl _) _).alloc (by simp) _).alloc (by simp; try omega) _

theorem rreset_kind {W : World} {vs : Nat → Value} {lv : Value} {σ : SSt} (h : RefIs W vs lv σ) (k : Int) (hr : 0 ≤ k ∧ k < 9) :
    Calls Try.prog 24 #[.agg (refCells vs lv), .int .i64 k] W fun e w' => ∃ vs', e = .returned (.agg (refCells vs' lv)) ∧ RefIs w' vs' lv ⟨upd σ.k k.toNat [], σ.lab⟩ ∧ Below W.heap.size W w' ∧ ∀ j, NewOr W w' (vs j) (vs' j) := by
  obtain ⟨K, hK⟩ : ∃ K : Nat, k = (K : Int) := ⟨k.toNat, by omega⟩
  subst hK
  have hk : K < 9 := by omega
  rw [show ((K : Int)).toNat = K from by omega]
  match K, hk with
  | 0, _ => exact rreset_k0 h
  | 1, _ => exact rreset_k1 h
  | 2, _ => exact rreset_k2 h
  | 3, _ => exact rreset_k3 h
  | 4, _ => exact rreset_k4 h
  | 5, _ => exact rreset_k5 h
  | 6, _ => exact rreset_k6 h
  | 7, _ => exact rreset_k7 h
  | 8, _ => exact rreset_k8 h
end Go.Proofs.Ytbnddnoognoekaa
