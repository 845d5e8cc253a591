/-
  Limits, Table, Global and Fits of the reference, Table and Global of the program: contracts.
-/
import Derived.Test.YtkljmdekihlkeaaTypesOne
set_option linter.unusedVariables false
namespace Go.Proofs.Ytkljmdekihlkeaa
open Go.RowKit

theorem refLimits_any (mn mx : Int) (has : Bool) (most : Int) (w : World) :
    Calls Try.prog 11 #[.agg #[.int .i64 mn, .int .i64 mx, .bool has], .int .i64 most] w fun e w' => e = .returned (.bool (Ty.limits mn mx has most)) ∧ Below w.heap.size w w' := by
  unfold Ty.limits
  by_cases h1 : mn < 0
  · rw [if_pos (.inl h1)]
    go_enter Try.func11, Try.ntmps11
    go_wp2
    go_ret
    exact ⟨rfl, (Below.refl _ _).alloc (Nat.le_refl _) _⟩
  by_cases h2 : most < mn
  · rw [if_pos (.inr h2)]
    go_enter Try.func11, Try.ntmps11
    go_wp2
    go_ret
    exact ⟨rfl, (Below.refl _ _).alloc (Nat.le_refl _) _⟩
  rw [if_neg (by omega)]
  rcases has with _ | _
  · rw [if_pos rfl]
    go_enter Try.func11, Try.ntmps11
    go_wp2
    go_ret
    exact ⟨rfl, (Below.refl _ _).alloc (Nat.le_refl _) _⟩
  · rw [if_neg (by decide)]
    rcases h3 : decide (mn ≤ mx) with _ | _ <;> rcases h4 : decide (mx ≤ most) with _ | _
    all_goals
      go_enter Try.func11, Try.ntmps11
      go_wp2
      go_ret
      exact ⟨by simp, (Below.refl _ _).alloc (Nat.le_refl _) _⟩

theorem refFits_any (now hmn hmx : Int) (hh : Bool) (wmn wmx : Int) (wh : Bool) (w : World) :
    Calls Try.prog 16 #[.int .i64 now, .agg #[.int .i64 hmn, .int .i64 hmx, .bool hh], .agg #[.int .i64 wmn, .int .i64 wmx, .bool wh]] w fun e w' => e = .returned (.bool (Ty.fits now hmx hh wmn wmx wh)) ∧ Below w.heap.size w w' := by
  unfold Ty.fits
  by_cases h1 : now < wmn
  · rw [if_pos h1]
    go_enter Try.func16, Try.ntmps16
    go_wp2
    go_ret
    exact ⟨rfl, ((Below.refl _ _).alloc (Nat.le_refl _) _).alloc (by simp) _⟩
  · rw [if_neg h1]
    have g1 : decide (now < wmn) = false := by simpa using h1
    rcases wh with _ | _ <;> rcases hh with _ | _ <;> rcases h4 : decide (hmx ≤ wmx) with _ | _
    all_goals
      go_enter Try.func16, Try.ntmps16
      go_wp2
      go_ret
      exact ⟨by simp, ((Below.refl _ _).alloc (Nat.le_refl _) _).alloc (by simp) _⟩

theorem one_below {w w1 : World} {o : Obj} (hb : Below (w.alloc o).heap.size (w.alloc o) w1) : Below w.heap.size w w1 := by
  have b : Below w.heap.size w (w.alloc o) := (Below.refl _ _).alloc (Nat.le_refl _) o
  exact b.trans (hb.mono b.size)

def Ty.table (el mn mx : Int) (has : Bool) : Bool := Ty.ref el && Ty.limits mn mx has 1024

theorem table_any (el mn mx : Int) (has : Bool) (w : World) :
    Calls Try.prog 12 #[.agg #[.int .i64 el, .int .i64 mn, .int .i64 mx, .bool has]] w fun e w' => e = .returned (.bool (Ty.table el mn mx has)) ∧ Below w.heap.size w w' := by
  unfold Ty.table
  obtain ⟨x, hx⟩ : ∃ x, Ty.limits mn mx has 1024 = x := ⟨_, rfl⟩
  rw [hx]
  have HX := Lib.hid hx
  clear hx
  rcases h1 : Ty.ref el with _ | _
  · have H1 := Lib.hid h1
    clear h1
    go_enter Try.func12, Try.ntmps12
    go_wp2_with (go_at_call 36; refine (ref_any _ _).mono ?_; rintro e w1 ⟨rfl, rfl⟩; rw [H1.out])
    go_ret
    exact ⟨rfl, (Below.refl _ _).alloc (Nat.le_refl _) _⟩
  · have H1 := Lib.hid h1
    clear h1
    go_enter Try.func12, Try.ntmps12
    go_wp2_with (first
      | (go_at_call 36; refine (ref_any _ _).mono ?_; rintro e w1 ⟨rfl, rfl⟩; rw [H1.out])
      | (go_at_call 10; refine (limits_any mn mx has 1024 _).mono ?_; rintro e w1 ⟨rfl, hb⟩; rw [HX.out]; replace hb := one_below hb))
    go_ret
    exact ⟨by simp, hb⟩

theorem refTable_any (el mn mx : Int) (has : Bool) (w : World) :
    Calls Try.prog 13 #[.agg #[.int .i64 el, .int .i64 mn, .int .i64 mx, .bool has]] w fun e w' => e = .returned (.bool (Ty.table el mn mx has)) ∧ Below w.heap.size w w' := by
  unfold Ty.table
  obtain ⟨x, hx⟩ : ∃ x, Ty.limits mn mx has 1024 = x := ⟨_, rfl⟩
  rw [hx]
  have HX := Lib.hid hx
  clear hx
  rcases h1 : Ty.ref el with _ | _
  · have H1 := Lib.hid h1
    clear h1
    go_enter Try.func13, Try.ntmps13
    go_wp2_with (go_at_call 37; refine (refRef_any _ _).mono ?_; rintro e w1 ⟨rfl, rfl⟩; rw [H1.out])
    go_ret
    exact ⟨rfl, (Below.refl _ _).alloc (Nat.le_refl _) _⟩
  · have H1 := Lib.hid h1
    clear h1
    go_enter Try.func13, Try.ntmps13
    go_wp2_with (first
      | (go_at_call 37; refine (refRef_any _ _).mono ?_; rintro e w1 ⟨rfl, rfl⟩; rw [H1.out])
      | (go_at_call 11; refine (refLimits_any mn mx has 1024 _).mono ?_; rintro e w1 ⟨rfl, hb⟩; rw [HX.out]; replace hb := one_below hb))
    go_ret
    exact ⟨by simp, hb⟩

theorem global_any (v : Int) (m : Bool) (w : World) :
    Calls Try.prog 14 #[.agg #[.int .i64 v, .bool m]] w fun e w' => e = .returned (.bool (Ty.val v)) ∧ Below w.heap.size w w' := by
  obtain ⟨x, hx⟩ : ∃ x, Ty.val v = x := ⟨_, rfl⟩
  rw [hx]
  have HX := Lib.hid hx
  clear hx
  go_enter Try.func14, Try.ntmps14
  go_wp2_with (go_at_call 32; refine (val_any _ _).mono ?_; rintro e w1 ⟨rfl, rfl⟩; rw [HX.out])
  go_ret
  exact ⟨rfl, (Below.refl _ _).alloc (Nat.le_refl _) _⟩

theorem refGlobal_any (v : Int) (m : Bool) (w : World) :
    Calls Try.prog 15 #[.agg #[.int .i64 v, .bool m]] w fun e w' => e = .returned (.bool (Ty.val v)) ∧ Below w.heap.size w w' := by
  obtain ⟨x, hx⟩ : ∃ x, Ty.val v = x := ⟨_, rfl⟩
  rw [hx]
  have HX := Lib.hid hx
  clear hx
  go_enter Try.func15, Try.ntmps15
  go_wp2_with (go_at_call 33; refine (refVal_any _ _).mono ?_; rintro e w1 ⟨rfl, rfl⟩; rw [HX.out])
  go_ret
  exact ⟨rfl, (Below.refl _ _).alloc (Nat.le_refl _) _⟩
end Go.Proofs.Ytkljmdekihlkeaa
