/-
  The reference's Push.
-/
import Derived.Test.YtbnddnoognoekaaScopeRef5
set_option linter.unusedVariables false
namespace Go.Proofs.Ytbnddnoognoekaa
open Go.RowKit Go.Maps

/-- Where the array of a slice lies behind a call: where it lay, or in a new block. -/
def NewOr (W W' : World) (v v' : Value) : Prop := ∀ g, v'.ownBlock = some g → (W.heap.size ≤ g ∧ g < W'.heap.size) ∨ v.ownBlock = some g
theorem NewOr.refl (W W' : World) (v : Value) : NewOr W W' v v := fun g h => .inr h
theorem NewOr.upd {W W' : World} {vs : Nat → Value} {K : Nat} {v : Value} (h : NewOr W W' (vs K) v) (j : Nat) : NewOr W W' (vs j) (upd vs K v j) := by
  by_cases e : j = K
  · subst e
    rw [upd_same]
    exact h
  · rw [upd_other _ _ _ e]
    exact NewOr.refl _ _ _
theorem NewOr.own {W W' : World} {v v' : Value} {B : Nat} {e : TypeId} {n m : Nat} {xs : List Value} (h : W'.ownsRow B e m v' n xs) (hB : W.heap.size ≤ B) : NewOr W W' v v' := fun g hg =>
  .inl ⟨Nat.le_trans hB (h.lt g hg).1, (h.lt g hg).2⟩

theorem strs_one (l : List Nm) : ∀ u ∈ l.map str, u.oneCell' = true := by
  intro u hu
  simp only [List.mem_map] at hu
  obtain ⟨x, _, rfl⟩ := hu
  rfl

set_option maxHeartbeats 600000 in
set_option maxRecDepth 100000 in
theorem rpush_any {W : World} {vs : Nat → Value} {lv : Value} {σ : SSt} (h : RefIs W vs lv σ) (t : Nm) (hll : σ.lab.length ≤ 1000000) :
    Calls Try.prog 20 #[.agg (refCells vs lv), .string ⟨t.toArray⟩] W fun e w' => ∃ lv', e = .returned (.agg (refCells vs lv')) ∧ RefIs w' vs lv' ⟨σ.k, σ.lab ++ [t]⟩ ∧ Below W.heap.size W w' ∧ NewOr W w' lv lv' := by
  obtain ⟨A, c, hv, hr, _⟩ := h.l
  obtain ⟨i0, hi0, hz0, hz1, hz2⟩ := info_parts info_string
  obtain ⟨xs, hxs⟩ : ∃ xs, σ.lab = xs := ⟨_, rfl⟩
  rw [hxs] at hv hr hll ⊢
  unfold refCells
  obtain ⟨B0, k0, e0, _⟩ := h.k 0 (by omega)
  obtain ⟨B1, k1, e1, _⟩ := h.k 1 (by omega)
  obtain ⟨B2, k2, e2, _⟩ := h.k 2 (by omega)
  obtain ⟨B3, k3, e3, _⟩ := h.k 3 (by omega)
  obtain ⟨B4, k4, e4, _⟩ := h.k 4 (by omega)
  obtain ⟨B5, k5, e5, _⟩ := h.k 5 (by omega)
  obtain ⟨B6, k6, e6, _⟩ := h.k 6 (by omega)
  obtain ⟨B7, k7, e7, _⟩ := h.k 7 (by omega)
  obtain ⟨B8, k8, e8, _⟩ := h.k 8 (by omega)
  rw [e0, e1, e2, e3, e4, e5, e6, e7, e8, hv]
  have hnil : ((W.alloc (.cells #[.slice B0 (σ.k 0).length k0, .slice B1 (σ.k 1).length k1, .slice B2 (σ.k 2).length k2, .slice B3 (σ.k 3).length k3, .slice B4 (σ.k 4).length k4, .slice B5 (σ.k 5).length k5, .slice B6 (σ.k 6).length k6, .slice B7 (σ.k 7).length k7, .slice B8 (σ.k 8).length k8, .slice A xs.length c] 39)).alloc (.cells #[.slice none 0 0, .slice none 0 0, .slice none 0 0, .slice none 0 0, .slice none 0 0, .slice none 0 0, .slice none 0 0, .slice none 0 0, .slice none 0 0, .slice none 0 0] 39)).ownsRow (W.heap.size + 2) 9 1 (.slice none 0 0) 0 [] := nil_row _ _ _ _
  have hcell : ((W.alloc (.cells #[.slice B0 (σ.k 0).length k0, .slice B1 (σ.k 1).length k1, .slice B2 (σ.k 2).length k2, .slice B3 (σ.k 3).length k3, .slice B4 (σ.k 4).length k4, .slice B5 (σ.k 5).length k5, .slice B6 (σ.k 6).length k6, .slice B7 (σ.k 7).length k7, .slice B8 (σ.k 8).length k8, .slice A xs.length c] 39)).alloc (.cells #[.slice none 0 0, .slice none 0 0, .slice none 0 0, .slice none 0 0, .slice none 0 0, .slice none 0 0, .slice none 0 0, .slice none 0 0, .slice none 0 0, .slice none 0 0] 39)).cell? ⟨W.heap.size, 9, none⟩ = some (.slice A xs.length c) := by
    rw [World.cell?_alloc_lt _ _ _ (by simp), cell_of_row _ W.heap.size 9 _ _ _ (heap_alloc_new W _)]; rfl
  have hrd : Reads ((W.alloc (.cells #[.slice B0 (σ.k 0).length k0, .slice B1 (σ.k 1).length k1, .slice B2 (σ.k 2).length k2, .slice B3 (σ.k 3).length k3, .slice B4 (σ.k 4).length k4, .slice B5 (σ.k 5).length k5, .slice B6 (σ.k 6).length k6, .slice B7 (σ.k 7).length k7, .slice B8 (σ.k 8).length k8, .slice A xs.length c] 39)).alloc (.cells #[.slice none 0 0, .slice none 0 0, .slice none 0 0, .slice none 0 0, .slice none 0 0, .slice none 0 0, .slice none 0 0, .slice none 0 0, .slice none 0 0, .slice none 0 0] 39)) W.heap.size 1 A xs.length (xs.map str) := Reads.alloc (Reads.alloc hr (Nat.le_refl _) _) (by simp) _
  have hB1 : ((W.alloc (.cells #[.slice B0 (σ.k 0).length k0, .slice B1 (σ.k 1).length k1, .slice B2 (σ.k 2).length k2, .slice B3 (σ.k 3).length k3, .slice B4 (σ.k 4).length k4, .slice B5 (σ.k 5).length k5, .slice B6 (σ.k 6).length k6, .slice B7 (σ.k 7).length k7, .slice B8 (σ.k 8).length k8, .slice A xs.length c] 39)).alloc (.cells #[.slice none 0 0, .slice none 0 0, .slice none 0 0, .slice none 0 0, .slice none 0 0, .slice none 0 0, .slice none 0 0, .slice none 0 0, .slice none 0 0, .slice none 0 0] 39)).heap[W.heap.size]? = some (.cells #[.slice B0 (σ.k 0).length k0, .slice B1 (σ.k 1).length k1, .slice B2 (σ.k 2).length k2, .slice B3 (σ.k 3).length k3, .slice B4 (σ.k 4).length k4, .slice B5 (σ.k 5).length k5, .slice B6 (σ.k 6).length k6, .slice B7 (σ.k 7).length k7, .slice B8 (σ.k 8).length k8, .slice A xs.length c] 39 (0, 0)) := (Below.heap_alloc _ _ _ (by simp)).trans (heap_alloc_new W _)
  have hB2 : ((W.alloc (.cells #[.slice B0 (σ.k 0).length k0, .slice B1 (σ.k 1).length k1, .slice B2 (σ.k 2).length k2, .slice B3 (σ.k 3).length k3, .slice B4 (σ.k 4).length k4, .slice B5 (σ.k 5).length k5, .slice B6 (σ.k 6).length k6, .slice B7 (σ.k 7).length k7, .slice B8 (σ.k 8).length k8, .slice A xs.length c] 39)).alloc (.cells #[.slice none 0 0, .slice none 0 0, .slice none 0 0, .slice none 0 0, .slice none 0 0, .slice none 0 0, .slice none 0 0, .slice none 0 0, .slice none 0 0, .slice none 0 0] 39)).heap[W.heap.size + 1]? = some (.cells #[.slice none 0 0, .slice none 0 0, .slice none 0 0, .slice none 0 0, .slice none 0 0, .slice none 0 0, .slice none 0 0, .slice none 0 0, .slice none 0 0, .slice none 0 0] 39 (0, 0)) := by have := heap_alloc_new (W.alloc (.cells #[.slice B0 (σ.k 0).length k0, .slice B1 (σ.k 1).length k1, .slice B2 (σ.k 2).length k2, .slice B3 (σ.k 3).length k3, .slice B4 (σ.k 4).length k4, .slice B5 (σ.k 5).length k5, .slice B6 (σ.k 6).length k6, .slice B7 (σ.k 7).length k7, .slice B8 (σ.k 8).length k8, .slice A xs.length c] 39)) (.cells #[.slice none 0 0, .slice none 0 0, .slice none 0 0, .slice none 0 0, .slice none 0 0, .slice none 0 0, .slice none 0 0, .slice none 0 0, .slice none 0 0, .slice none 0 0] 39); simpa using this
  have hsz : W.heap.size + 2 ≤ ((W.alloc (.cells #[.slice B0 (σ.k 0).length k0, .slice B1 (σ.k 1).length k1, .slice B2 (σ.k 2).length k2, .slice B3 (σ.k 3).length k3, .slice B4 (σ.k 4).length k4, .slice B5 (σ.k 5).length k5, .slice B6 (σ.k 6).length k6, .slice B7 (σ.k 7).length k7, .slice B8 (σ.k 8).length k8, .slice A xs.length c] 39)).alloc (.cells #[.slice none 0 0, .slice none 0 0, .slice none 0 0, .slice none 0 0, .slice none 0 0, .slice none 0 0, .slice none 0 0, .slice none 0 0, .slice none 0 0, .slice none 0 0] 39)).heap.size := by simp
  have hbl : Below W.heap.size W ((W.alloc (.cells #[.slice B0 (σ.k 0).length k0, .slice B1 (σ.k 1).length k1, .slice B2 (σ.k 2).length k2, .slice B3 (σ.k 3).length k3, .slice B4 (σ.k 4).length k4, .slice B5 (σ.k 5).length k5, .slice B6 (σ.k 6).length k6, .slice B7 (σ.k 7).length k7, .slice B8 (σ.k 8).length k8, .slice A xs.length c] 39)).alloc (.cells #[.slice none 0 0, .slice none 0 0, .slice none 0 0, .slice none 0 0, .slice none 0 0, .slice none 0 0, .slice none 0 0, .slice none 0 0, .slice none 0 0, .slice none 0 0] 39)) := ((Below.refl _ _).alloc (Nat.le_refl _) _).alloc (by simp) _
  have HB1 := Lib.hid hB1
  have HB2 := Lib.hid hB2
  have HBL := Lib.hid hbl
  have HH := Lib.hid h
  have HE := Lib.hid (And.intro e0 (And.intro e1 (And.intro e2 (And.intro e3 (And.intro e4 (And.intro e5 (And.intro e6 (And.intro e7 e8))))))))
  clear hB1 hB2 hbl h hr hv e0 e1 e2 e3 e4 e5 e6 e7 e8
  go_enter Try.func20, Try.ntmps20
  go_wp2_with (first
    | (at_builtin; (refine wpList_append_any _ rfl (.tmp 6) (.tmp 8) 22 rfl (W.heap.size + 2) 9 i0 _ 1 16 Try.underlying22 hi0 hz0 hz1 hz2 rfl (by omega) _ 0 [] rfl hnil W.heap.size A xs.length c (xs.map str) rfl hrd (strs_one xs) (by unfold maxLen; omega) (by omega) hsz ?_); intro v2 w2 hown2 hg2 hat2; rw [Nat.zero_add, List.nil_append] at hown2; have hb21 := (hg2.block W.heap.size (by simp; omega) (by intro e; cases e)).trans HB1.out; have hb22 := (hg2.block (W.heap.size + 1) (by simp) (by intro e; cases e)).trans HB2.out; have hs2 : W.heap.size + 2 ≤ w2.heap.size := Nat.le_trans hsz hg2.size; have hbl2 := HBL.out.trans ((below_own hnil hg2 hsz).mono (by omega)); have hlo2 := hown2.lt; clear hg2 hat2 hrd hcell hnil hsz)
    | (at_builtin; (refine app_one _ _ rfl (.tmp 10) (.tmp 12) 22 rfl (W.heap.size + 2) 9 i0 _ 1 16 Try.underlying22 hi0 hz0 hz1 hz2 rfl (by omega) rfl (one_str t) _ xs.length _ rfl hown2 w2.heap.size rfl rfl (by omega) (by omega) hs2 ?_); intro A3 c3 w3 hown3 hg3 hat3; have hb31 := (hg3.block W.heap.size (by omega) (by intro e; have := (hlo2 _ e.symm).1; omega)).trans hb21; have hb32 := (hg3.block (W.heap.size + 1) (by omega) (by intro e; have := (hlo2 _ e.symm).1; omega)).trans hb22; have p0 : w3.cell? ⟨W.heap.size, 0, none⟩ = some (.slice B0 (σ.k 0).length k0) := (cell_of_row w3 W.heap.size 0 _ _ _ hb31).trans rfl; have p1 : w3.cell? ⟨W.heap.size, 1, none⟩ = some (.slice B1 (σ.k 1).length k1) := (cell_of_row w3 W.heap.size 1 _ _ _ hb31).trans rfl; have p2 : w3.cell? ⟨W.heap.size, 2, none⟩ = some (.slice B2 (σ.k 2).length k2) := (cell_of_row w3 W.heap.size 2 _ _ _ hb31).trans rfl; have p3 : w3.cell? ⟨W.heap.size, 3, none⟩ = some (.slice B3 (σ.k 3).length k3) := (cell_of_row w3 W.heap.size 3 _ _ _ hb31).trans rfl; have p4 : w3.cell? ⟨W.heap.size, 4, none⟩ = some (.slice B4 (σ.k 4).length k4) := (cell_of_row w3 W.heap.size 4 _ _ _ hb31).trans rfl; have p5 : w3.cell? ⟨W.heap.size, 5, none⟩ = some (.slice B5 (σ.k 5).length k5) := (cell_of_row w3 W.heap.size 5 _ _ _ hb31).trans rfl; have p6 : w3.cell? ⟨W.heap.size, 6, none⟩ = some (.slice B6 (σ.k 6).length k6) := (cell_of_row w3 W.heap.size 6 _ _ _ hb31).trans rfl; have p7 : w3.cell? ⟨W.heap.size, 7, none⟩ = some (.slice B7 (σ.k 7).length k7) := (cell_of_row w3 W.heap.size 7 _ _ _ hb31).trans rfl; have p8 : w3.cell? ⟨W.heap.size, 8, none⟩ = some (.slice B8 (σ.k 8).length k8) := (cell_of_row w3 W.heap.size 8 _ _ _ hb31).trans rfl; have p9 : w3.cell? ⟨W.heap.size, 9, none⟩ = some (.slice A xs.length c) := (cell_of_row w3 W.heap.size 9 _ _ _ hb31).trans rfl; have z0 : w3.cell? ⟨W.heap.size + 1, 0, none⟩ = some (.slice none 0 0) := (cell_of_row w3 (W.heap.size + 1) 0 _ _ _ hb32).trans rfl; have z1 : w3.cell? ⟨W.heap.size + 1, 1, none⟩ = some (.slice none 0 0) := (cell_of_row w3 (W.heap.size + 1) 1 _ _ _ hb32).trans rfl; have z2 : w3.cell? ⟨W.heap.size + 1, 2, none⟩ = some (.slice none 0 0) := (cell_of_row w3 (W.heap.size + 1) 2 _ _ _ hb32).trans rfl; have z3 : w3.cell? ⟨W.heap.size + 1, 3, none⟩ = some (.slice none 0 0) := (cell_of_row w3 (W.heap.size + 1) 3 _ _ _ hb32).trans rfl; have z4 : w3.cell? ⟨W.heap.size + 1, 4, none⟩ = some (.slice none 0 0) := (cell_of_row w3 (W.heap.size + 1) 4 _ _ _ hb32).trans rfl; have z5 : w3.cell? ⟨W.heap.size + 1, 5, none⟩ = some (.slice none 0 0) := (cell_of_row w3 (W.heap.size + 1) 5 _ _ _ hb32).trans rfl; have z6 : w3.cell? ⟨W.heap.size + 1, 6, none⟩ = some (.slice none 0 0) := (cell_of_row w3 (W.heap.size + 1) 6 _ _ _ hb32).trans rfl; have z7 : w3.cell? ⟨W.heap.size + 1, 7, none⟩ = some (.slice none 0 0) := (cell_of_row w3 (W.heap.size + 1) 7 _ _ _ hb32).trans rfl; have z8 : w3.cell? ⟨W.heap.size + 1, 8, none⟩ = some (.slice none 0 0) := (cell_of_row w3 (W.heap.size + 1) 8 _ _ _ hb32).trans rfl; have z9 : w3.cell? ⟨W.heap.size + 1, 9, none⟩ = some (.slice none 0 0) := (cell_of_row w3 (W.heap.size + 1) 9 _ _ _ hb32).trans rfl; have y0 : w3.frozen? ⟨W.heap.size + 1, 0, none⟩ = false := frozen_of_row w3 (W.heap.size + 1) 0 _ _ hb32; have y1 : w3.frozen? ⟨W.heap.size + 1, 1, none⟩ = false := frozen_of_row w3 (W.heap.size + 1) 1 _ _ hb32; have y2 : w3.frozen? ⟨W.heap.size + 1, 2, none⟩ = false := frozen_of_row w3 (W.heap.size + 1) 2 _ _ hb32; have y3 : w3.frozen? ⟨W.heap.size + 1, 3, none⟩ = false := frozen_of_row w3 (W.heap.size + 1) 3 _ _ hb32; have y4 : w3.frozen? ⟨W.heap.size + 1, 4, none⟩ = false := frozen_of_row w3 (W.heap.size + 1) 4 _ _ hb32; have y5 : w3.frozen? ⟨W.heap.size + 1, 5, none⟩ = false := frozen_of_row w3 (W.heap.size + 1) 5 _ _ hb32; have y6 : w3.frozen? ⟨W.heap.size + 1, 6, none⟩ = false := frozen_of_row w3 (W.heap.size + 1) 6 _ _ hb32; have y7 : w3.frozen? ⟨W.heap.size + 1, 7, none⟩ = false := frozen_of_row w3 (W.heap.size + 1) 7 _ _ hb32; have y8 : w3.frozen? ⟨W.heap.size + 1, 8, none⟩ = false := frozen_of_row w3 (W.heap.size + 1) 8 _ _ hb32; have y9 : w3.frozen? ⟨W.heap.size + 1, 9, none⟩ = false := frozen_of_row w3 (W.heap.size + 1) 9 _ _ hb32; have hbl3 := hbl2.trans ((below_own hown2 hg3 hs2).mono (by omega)); clear hown2 hg3 hat3 hb21 hb22))
  have r0 := Go.heap_setCell_same w3 (W.heap.size + 1) 0 _ _ (.slice B0 (σ.k 0).length k0) hb32
  have r1 := Go.heap_setCell_same _ (W.heap.size + 1) 1 _ _ (.slice B1 (σ.k 1).length k1) r0
  have r2 := Go.heap_setCell_same _ (W.heap.size + 1) 2 _ _ (.slice B2 (σ.k 2).length k2) r1
  have r3 := Go.heap_setCell_same _ (W.heap.size + 1) 3 _ _ (.slice B3 (σ.k 3).length k3) r2
  have r4 := Go.heap_setCell_same _ (W.heap.size + 1) 4 _ _ (.slice B4 (σ.k 4).length k4) r3
  have r5 := Go.heap_setCell_same _ (W.heap.size + 1) 5 _ _ (.slice B5 (σ.k 5).length k5) r4
  have r6 := Go.heap_setCell_same _ (W.heap.size + 1) 6 _ _ (.slice B6 (σ.k 6).length k6) r5
  have r7 := Go.heap_setCell_same _ (W.heap.size + 1) 7 _ _ (.slice B7 (σ.k 7).length k7) r6
  have r8 := Go.heap_setCell_same _ (W.heap.size + 1) 8 _ _ (.slice B8 (σ.k 8).length k8) r7
  have r9 := Go.heap_setCell_same _ (W.heap.size + 1) 9 _ _ (.slice A3 (xs.length + 1) c3) r8
  have r9' : ((((((((((w3.setCell ⟨W.heap.size + 1, 0, none⟩ (.slice B0 (σ.k 0).length k0)).setCell ⟨W.heap.size + 1, 1, none⟩ (.slice B1 (σ.k 1).length k1)).setCell ⟨W.heap.size + 1, 2, none⟩ (.slice B2 (σ.k 2).length k2)).setCell ⟨W.heap.size + 1, 3, none⟩ (.slice B3 (σ.k 3).length k3)).setCell ⟨W.heap.size + 1, 4, none⟩ (.slice B4 (σ.k 4).length k4)).setCell ⟨W.heap.size + 1, 5, none⟩ (.slice B5 (σ.k 5).length k5)).setCell ⟨W.heap.size + 1, 6, none⟩ (.slice B6 (σ.k 6).length k6)).setCell ⟨W.heap.size + 1, 7, none⟩ (.slice B7 (σ.k 7).length k7)).setCell ⟨W.heap.size + 1, 8, none⟩ (.slice B8 (σ.k 8).length k8)).setCell ⟨W.heap.size + 1, 9, none⟩ (.slice A3 (xs.length + 1) c3)).heap[W.heap.size + 1]? = some (.cells #[.slice B0 (σ.k 0).length k0, .slice B1 (σ.k 1).length k1, .slice B2 (σ.k 2).length k2, .slice B3 (σ.k 3).length k3, .slice B4 (σ.k 4).length k4, .slice B5 (σ.k 5).length k5, .slice B6 (σ.k 6).length k6, .slice B7 (σ.k 7).length k7, .slice B8 (σ.k 8).length k8, .slice A3 (xs.length + 1) c3] 39 (0, 0)) := by
    simp only [List.setIfInBounds_toArray, List.set_cons_zero, List.set_cons_succ] at r9
    exact r9
  have far : ∀ b, b ≠ W.heap.size + 1 → ((((((((((w3.setCell ⟨W.heap.size + 1, 0, none⟩ (.slice B0 (σ.k 0).length k0)).setCell ⟨W.heap.size + 1, 1, none⟩ (.slice B1 (σ.k 1).length k1)).setCell ⟨W.heap.size + 1, 2, none⟩ (.slice B2 (σ.k 2).length k2)).setCell ⟨W.heap.size + 1, 3, none⟩ (.slice B3 (σ.k 3).length k3)).setCell ⟨W.heap.size + 1, 4, none⟩ (.slice B4 (σ.k 4).length k4)).setCell ⟨W.heap.size + 1, 5, none⟩ (.slice B5 (σ.k 5).length k5)).setCell ⟨W.heap.size + 1, 6, none⟩ (.slice B6 (σ.k 6).length k6)).setCell ⟨W.heap.size + 1, 7, none⟩ (.slice B7 (σ.k 7).length k7)).setCell ⟨W.heap.size + 1, 8, none⟩ (.slice B8 (σ.k 8).length k8)).setCell ⟨W.heap.size + 1, 9, none⟩ (.slice A3 (xs.length + 1) c3)).heap[b]? = w3.heap[b]? := fun b hb => by
    rw [Below.heap_setCell _ _ _ _ hb, Below.heap_setCell _ _ _ _ hb, Below.heap_setCell _ _ _ _ hb, Below.heap_setCell _ _ _ _ hb, Below.heap_setCell _ _ _ _ hb, Below.heap_setCell _ _ _ _ hb, Below.heap_setCell _ _ _ _ hb, Below.heap_setCell _ _ _ _ hb, Below.heap_setCell _ _ _ _ hb, Below.heap_setCell _ _ _ _ hb]
  have hbl4 : Below W.heap.size W ((((((((((w3.setCell ⟨W.heap.size + 1, 0, none⟩ (.slice B0 (σ.k 0).length k0)).setCell ⟨W.heap.size + 1, 1, none⟩ (.slice B1 (σ.k 1).length k1)).setCell ⟨W.heap.size + 1, 2, none⟩ (.slice B2 (σ.k 2).length k2)).setCell ⟨W.heap.size + 1, 3, none⟩ (.slice B3 (σ.k 3).length k3)).setCell ⟨W.heap.size + 1, 4, none⟩ (.slice B4 (σ.k 4).length k4)).setCell ⟨W.heap.size + 1, 5, none⟩ (.slice B5 (σ.k 5).length k5)).setCell ⟨W.heap.size + 1, 6, none⟩ (.slice B6 (σ.k 6).length k6)).setCell ⟨W.heap.size + 1, 7, none⟩ (.slice B7 (σ.k 7).length k7)).setCell ⟨W.heap.size + 1, 8, none⟩ (.slice B8 (σ.k 8).length k8)).setCell ⟨W.heap.size + 1, 9, none⟩ (.slice A3 (xs.length + 1) c3)) := ((((((((((hbl3.setCell (p := ⟨W.heap.size + 1, 0, none⟩) (by simp) _).setCell (p := ⟨W.heap.size + 1, 1, none⟩) (by simp) _).setCell (p := ⟨W.heap.size + 1, 2, none⟩) (by simp) _).setCell (p := ⟨W.heap.size + 1, 3, none⟩) (by simp) _).setCell (p := ⟨W.heap.size + 1, 4, none⟩) (by simp) _).setCell (p := ⟨W.heap.size + 1, 5, none⟩) (by simp) _).setCell (p := ⟨W.heap.size + 1, 6, none⟩) (by simp) _).setCell (p := ⟨W.heap.size + 1, 7, none⟩) (by simp) _).setCell (p := ⟨W.heap.size + 1, 8, none⟩) (by simp) _).setCell (p := ⟨W.heap.size + 1, 9, none⟩) (by simp) _)
  (try simp only [Exit.inBlock, Exit.then])
  refine bodyPost_ret (results_cell_row rfl _ _ (W.heap.size + 1) _ _ _ _ rfl r9' Try.underlying39 rfl (by kernel_rfl)) rfl ?_
  have h := HH.out
  obtain ⟨e0, e1, e2, e3, e4, e5, e6, e7, e8⟩ := HE.out
  have hk := h.below hbl4
  have ho := own_same (W' := ((((((((((w3.setCell ⟨W.heap.size + 1, 0, none⟩ (.slice B0 (σ.k 0).length k0)).setCell ⟨W.heap.size + 1, 1, none⟩ (.slice B1 (σ.k 1).length k1)).setCell ⟨W.heap.size + 1, 2, none⟩ (.slice B2 (σ.k 2).length k2)).setCell ⟨W.heap.size + 1, 3, none⟩ (.slice B3 (σ.k 3).length k3)).setCell ⟨W.heap.size + 1, 4, none⟩ (.slice B4 (σ.k 4).length k4)).setCell ⟨W.heap.size + 1, 5, none⟩ (.slice B5 (σ.k 5).length k5)).setCell ⟨W.heap.size + 1, 6, none⟩ (.slice B6 (σ.k 6).length k6)).setCell ⟨W.heap.size + 1, 7, none⟩ (.slice B7 (σ.k 7).length k7)).setCell ⟨W.heap.size + 1, 8, none⟩ (.slice B8 (σ.k 8).length k8)).setCell ⟨W.heap.size + 1, 9, none⟩ (.slice A3 (xs.length + 1) c3))) hown3 (fun g hg => far g (by have := (hown3.lt g hg).1; omega))
  refine ⟨.slice A3 (xs.length + 1) c3, rfl, ⟨hk.k, A3, c3, ?_, ?_, ?_⟩, hbl4, NewOr.own ho (by omega)⟩
  · simp
  · have e1 : (xs ++ [t]).length = xs.length + 1 := by simp
    have e2 : (xs ++ [t]).map str = xs.map str ++ [.string ⟨t.toArray⟩] := by simp [str]
    unfold RdS
    dsimp only
    rw [e1, e2]
    exact Reads.of_own ho
  · rcases hown3.2 with ⟨h1, h2⟩ | ⟨g, cap, cur, h1, _, _, h2, _⟩
    · omega
    · injection h1 with _ _ h3
      dsimp only
      simp
      omega
end Go.Proofs.Ytbnddnoognoekaa
