/-
  made, of and Len of a Scope: a Scope that New made, a nil one, a zero one.
-/
import Derived.Test.YtbnddnoognoekaaScope
set_option linter.unusedVariables false
namespace Go.Proofs.Ytbnddnoognoekaa
open Go.RowKit Go.Maps

theorem neq_map (o : Option Nat) (w : World) : (binOp .neq 56 (.map o) (.map none)).run Try.prog w = .ok (.bool (!o.isNone)) w := run_neq_map_nil w 56 3 62 o Try.underlying56
theorem zero_ptr (w : World) : (zeroValue 62).run Try.prog w = .ok (.pointer none) w := by kernel_rfl
theorem zero_int (w : World) : (zeroValue 3).run Try.prog w = .ok (.int .i64 0) w := by kernel_rfl
theorem keyed_int : Keyed Try.prog 3 := int_keyed Try.underlying3
theorem keyed_str : Keyed Try.prog 9 := string_keyed Try.underlying9
theorem key_int {k : Int} (h : (Lit.int .i64 k).wf = true) : keyOf Try.prog 3 (.int .i64 k) = some (.int .i64 k) := keyOf_int_mk Try.underlying3 h

theorem made_yes (s a : Nat) (w : World) (h : w.cell? ⟨s, 0, none⟩ = some (.map (some a))) :
    Calls Try.prog 29 #[.pointer (some ⟨s, 0, none⟩)] w fun e w' => e = .returned (.bool true) ∧ w = w' := by
  have hn := neq_map (some a)
  go_enter Try.func29, Try.ntmps29
  go_wp2
  go_ret
  exact ⟨rfl, rfl⟩
theorem made_zero (s : Nat) (w : World) (h : w.cell? ⟨s, 0, none⟩ = some (.map none)) :
    Calls Try.prog 29 #[.pointer (some ⟨s, 0, none⟩)] w fun e w' => e = .returned (.bool false) ∧ w = w' := by
  have hn := neq_map none
  go_enter Try.func29, Try.ntmps29
  go_wp2
  go_ret
  exact ⟨rfl, rfl⟩
theorem made_nil (w : World) :
    Calls Try.prog 29 #[.pointer none] w fun e w' => e = .returned (.bool false) ∧ w = w' := by
  go_enter Try.func29, Try.ntmps29
  go_wp2
  go_ret
  exact ⟨rfl, rfl⟩

theorem scope_cell0 {W : World} {B s : Nat} {y : Lay} {σ : SSt} (h : ScopeAt W B s y σ) : W.cell? ⟨s, 0, none⟩ = some (.map (some y.a)) := by rw [cell_of_row W s 0 _ _ _ h.blk]; rfl
theorem scope_cell1 {W : World} {B s : Nat} {y : Lay} {σ : SSt} (h : ScopeAt W B s y σ) : W.cell? ⟨s, 1, none⟩ = some y.lv := by rw [cell_of_row W s 1 _ _ _ h.blk]; rfl
theorem kind_cell0 {W : World} {B pk mk : Nat} {v : Value} {xs : List Nm} (h : KindAt W B pk mk v xs) : W.cell? ⟨pk, 0, none⟩ = some (.int .i64 (xs.length : Int)) := by rw [cell_of_row W pk 0 _ _ _ h.blk]; rfl
theorem kind_cell1 {W : World} {B pk mk : Nat} {v : Value} {xs : List Nm} (h : KindAt W B pk mk v xs) : W.cell? ⟨pk, 1, none⟩ = some v := by rw [cell_of_row W pk 1 _ _ _ h.blk]; rfl
theorem kind_cell2 {W : World} {B pk mk : Nat} {v : Value} {xs : List Nm} (h : KindAt W B pk mk v xs) : W.cell? ⟨pk, 2, none⟩ = some (.map (some mk)) := by rw [cell_of_row W pk 2 _ _ _ h.blk]; rfl

/-- The pointer that of returns. -/
def ofF (y : Lay) (k : Int) : Value := if 0 ≤ k ∧ k < 9 then .pointer (some ⟨y.p k.toNat, 0, none⟩) else .pointer none
theorem of_any {W : World} {B s : Nat} {y : Lay} {σ : SSt} (h : ScopeAt W B s y σ) (k : Int) (hk : (Lit.int .i64 k).wf = true) :
    Calls Try.prog 30 #[.pointer (some ⟨s, 0, none⟩), .int .i64 k] W fun e w' => e = .returned (ofF y k) ∧ W = w' := by
  have hl := h.map.look keyed_int Try.underlying56 (zero_ptr W) (key_int hk) false
  have hv : (kindF y.p (.int .i64 k)).getD (.pointer none) = ofF y k := by
    show (if 0 ≤ k ∧ k < 9 then some (Value.pointer (some ⟨y.p k.toNat, 0, none⟩)) else none).getD _ = _
    unfold ofF
    by_cases hr : 0 ≤ k ∧ k < 9
    · rw [if_pos hr, if_pos hr]; rfl
    · rw [if_neg hr, if_neg hr]; rfl
  rw [hv] at hl
  simp only [Bool.false_eq_true, if_false] at hl
  have hc := scope_cell0 h
  generalize ofF y k = v at hl ⊢
  clear hv hk
  go_enter Try.func30, Try.ntmps30
  go_wp2_with (go_at_call 29; refine (made_yes s y.a _ hc).mono ?_; rintro e w1 ⟨rfl, rfl⟩)
  go_ret
  exact ⟨rfl, rfl⟩
theorem of_nil (k : Int) (w : World) :
    Calls Try.prog 30 #[.pointer none, .int .i64 k] w fun e w' => e = .returned (.pointer none) ∧ w = w' := by
  go_enter Try.func30, Try.ntmps30
  go_wp2_with (go_at_call 29; refine (made_nil _).mono ?_; rintro e w1 ⟨rfl, rfl⟩)
  go_ret
  exact ⟨rfl, rfl⟩
theorem of_zero (s : Nat) (k : Int) (w : World) (h : w.cell? ⟨s, 0, none⟩ = some (.map none)) :
    Calls Try.prog 30 #[.pointer (some ⟨s, 0, none⟩), .int .i64 k] w fun e w' => e = .returned (.pointer none) ∧ w = w' := by
  go_enter Try.func30, Try.ntmps30
  go_wp2_with (go_at_call 29; refine (made_zero s _ h).mono ?_; rintro e w1 ⟨rfl, rfl⟩)
  go_ret
  exact ⟨rfl, rfl⟩

/-- The number of entries of a kind. -/
def lenF (σ : SSt) (k : Int) : Nat := if 0 ≤ k ∧ k < 9 then (σ.k k.toNat).length else 0
theorem slen_any {W : World} {B s : Nat} {y : Lay} {σ : SSt} (h : ScopeAt W B s y σ) (k : Int) (hk : (Lit.int .i64 k).wf = true) :
    Calls Try.prog 13 #[.pointer (some ⟨s, 0, none⟩), .int .i64 k] W fun e w' => e = .returned (.int .i64 (lenF σ k : Int)) ∧ W = w' := by
  have ho := of_any h k hk
  unfold ofF at ho
  unfold lenF
  by_cases hr : 0 ≤ k ∧ k < 9
  · rw [if_pos hr] at ho ⊢
    have hc := kind_cell0 (h.kind k.toNat (by omega))
    have HO := Lib.hid ho
    clear ho hr
    go_enter Try.func13, Try.ntmps13
    go_wp2_with (go_at_call 30; refine HO.out.mono ?_; rintro e w1 ⟨rfl, rfl⟩)
    go_ret
    exact ⟨rfl, rfl⟩
  · rw [if_neg hr] at ho ⊢
    have HO := Lib.hid ho
    clear ho hr
    go_enter Try.func13, Try.ntmps13
    go_wp2_with (go_at_call 30; refine HO.out.mono ?_; rintro e w1 ⟨rfl, rfl⟩)
    go_ret
    exact ⟨rfl, rfl⟩
end Go.Proofs.Ytbnddnoognoekaa
