/-
  The law ScopeNone: a nil Scope and a zero Scope.
-/
import Derived.Test.YtbnddnoognoekaaScopeAlive
import Derived.LoopN
set_option linter.unusedVariables false
namespace Go.Proofs.Ytbnddnoognoekaa
open Go.RowKit Go.Maps

/-- A Scope that New has not made: made says no, of says nil. -/
def NotMade (p : Value) (W : World) : Prop :=
  (Calls Try.prog 29 #[p] W fun e w' => e = .returned (.bool false) ∧ W = w') ∧ ∀ k : Int, Calls Try.prog 30 #[p, .int .i64 k] W fun e w' => e = .returned (.pointer none) ∧ W = w'
theorem notMade_nil (W : World) : NotMade (.pointer none) W := ⟨made_nil W, fun k => of_nil k W⟩
theorem notMade_zero (s : Nat) (W : World) (h : W.cell? ⟨s, 0, none⟩ = some (.map none)) : NotMade (.pointer (some ⟨s, 0, none⟩)) W := ⟨made_zero s W h, fun k => of_zero s k W h⟩
theorem none_Push {p : Value} {W : World} (h : NotMade p W) (t : ByteArray) : Calls Try.prog 10 #[p, .string t] W fun e w' => e = .returned (.tuple #[]) ∧ W = w' := by
  go_enter Try.func10, Try.ntmps10
  go_wp2_with (first | (go_at_call 29; refine h.1.mono ?_; rintro e w1 ⟨rfl, rfl⟩) | (go_at_call 30; refine (h.2 _).mono ?_; rintro e w1 ⟨rfl, rfl⟩))
  go_end0
  exact ⟨rfl, rfl⟩
theorem none_Pop {p : Value} {W : World} (h : NotMade p W)  : Calls Try.prog 11 #[p] W fun e w' => e = .returned (.tuple #[]) ∧ W = w' := by
  go_enter Try.func11, Try.ntmps11
  go_wp2_with (first | (go_at_call 29; refine h.1.mono ?_; rintro e w1 ⟨rfl, rfl⟩) | (go_at_call 30; refine (h.2 _).mono ?_; rintro e w1 ⟨rfl, rfl⟩))
  go_end0
  exact ⟨rfl, rfl⟩
theorem none_Reset {p : Value} {W : World} (h : NotMade p W) (k : Int) : Calls Try.prog 23 #[p, .int .i64 k] W fun e w' => e = .returned (.tuple #[]) ∧ W = w' := by
  go_enter Try.func23, Try.ntmps23
  go_wp2_with (first | (go_at_call 29; refine h.1.mono ?_; rintro e w1 ⟨rfl, rfl⟩) | (go_at_call 30; refine (h.2 _).mono ?_; rintro e w1 ⟨rfl, rfl⟩))
  go_end0
  exact ⟨rfl, rfl⟩
theorem none_Add {p : Value} {W : World} (h : NotMade p W) (k : Int) (t : ByteArray) : Calls Try.prog 9 #[p, .int .i64 k, .string t] W fun e w' => e = .returned (.tuple #[.int .i64 0, .int .i64 2]) ∧ W = w' := by
  go_enter Try.func9, Try.ntmps9
  go_wp2_with (first | (go_at_call 29; refine h.1.mono ?_; rintro e w1 ⟨rfl, rfl⟩) | (go_at_call 30; refine (h.2 _).mono ?_; rintro e w1 ⟨rfl, rfl⟩))
  go_ret2
  exact ⟨rfl, rfl⟩
theorem none_Find {p : Value} {W : World} (h : NotMade p W) (k : Int) (t : ByteArray) : Calls Try.prog 14 #[p, .int .i64 k, .string t] W fun e w' => e = .returned (.tuple #[.int .i64 0, .int .i64 2]) ∧ W = w' := by
  go_enter Try.func14, Try.ntmps14
  go_wp2_with (first | (go_at_call 29; refine h.1.mono ?_; rintro e w1 ⟨rfl, rfl⟩) | (go_at_call 30; refine (h.2 _).mono ?_; rintro e w1 ⟨rfl, rfl⟩))
  go_ret2
  exact ⟨rfl, rfl⟩
theorem none_Label {p : Value} {W : World} (h : NotMade p W) (t : ByteArray) : Calls Try.prog 12 #[p, .string t] W fun e w' => e = .returned (.tuple #[.int .i64 0, .int .i64 2]) ∧ W = w' := by
  go_enter Try.func12, Try.ntmps12
  go_wp2_with (first | (go_at_call 29; refine h.1.mono ?_; rintro e w1 ⟨rfl, rfl⟩) | (go_at_call 30; refine (h.2 _).mono ?_; rintro e w1 ⟨rfl, rfl⟩))
  go_ret2
  exact ⟨rfl, rfl⟩
theorem none_Len {p : Value} {W : World} (h : NotMade p W) (k : Int) : Calls Try.prog 13 #[p, .int .i64 k] W fun e w' => e = .returned (.int .i64 0) ∧ W = w' := by
  go_enter Try.func13, Try.ntmps13
  go_wp2_with (first | (go_at_call 29; refine h.1.mono ?_; rintro e w1 ⟨rfl, rfl⟩) | (go_at_call 30; refine (h.2 _).mono ?_; rintro e w1 ⟨rfl, rfl⟩))
  go_ret
  exact ⟨rfl, rfl⟩
theorem none_Names {p : Value} {W : World} (h : NotMade p W) (k : Int) : Calls Try.prog 27 #[p, .int .i64 k] W fun e w' => e = .returned (.slice none 0 0) ∧ W = w' := by
  go_enter Try.func27, Try.ntmps27
  go_wp2_with (first | (go_at_call 29; refine h.1.mono ?_; rintro e w1 ⟨rfl, rfl⟩) | (go_at_call 30; refine (h.2 _).mono ?_; rintro e w1 ⟨rfl, rfl⟩))
  go_ret
  exact ⟨rfl, rfl⟩

set_option maxHeartbeats 2000000 in
set_option maxRecDepth 100000 in
theorem scopeNone_walk (k : Int) (t : ByteArray) (w : World) (hl : t.size ≤ 9223372036854775807) :
    Calls Try.prog 6 #[.int .i64 k, .string t] w fun e w' => e = .returned (.bool true) ∧ Below w.heap.size w w' := by
  by_cases h1 : (100 : Int) < (t.size : Int)
  · go_enter Try.func6, Try.ntmps6
    go_wp2_with (go_at_call 7; refine (alive_any _).mono ?_; rintro e w1 ⟨rfl, hb⟩)
    go_ret
    exact ⟨rfl, hb⟩
  have g1 : decide ((100 : Int) < (t.size : Int)) = false := by simpa using h1
  clear h1
  obtain ⟨W, hW⟩ : ∃ W, w.alloc (.cells #[.map none, .slice none 0 0] 58) = W := ⟨_, rfl⟩
  have hb : Below w.heap.size w W := by rw [← hW]; exact (Below.refl _ _).alloc (Nat.le_refl _) _
  have hc : W.cell? ⟨w.heap.size, 0, none⟩ = some (.map none) := by rw [← hW]; simp
  have H0 := Lib.hid (notMade_nil W)
  have H1 := Lib.hid (notMade_zero w.heap.size W hc)
  clear hc
  go_enter Try.func6, Try.ntmps6
  go_wp2_with fail
  refine wp_loop_rounds 3 ?_
  have HH := H0
  rw [rounds_succ]
  go_wp2_with (first
    | (go_at_call 10; refine (none_Push HH.out _).mono ?_; rintro e w1 ⟨rfl, rfl⟩)
    | (go_at_call 11; refine (none_Pop HH.out).mono ?_; rintro e w1 ⟨rfl, rfl⟩)
    | (go_at_call 23; refine (none_Reset HH.out _).mono ?_; rintro e w1 ⟨rfl, rfl⟩)
    | (go_at_call 9; refine (none_Add HH.out _ _).mono ?_; rintro e w1 ⟨rfl, rfl⟩)
    | (go_at_call 14; refine (none_Find HH.out _ _).mono ?_; rintro e w1 ⟨rfl, rfl⟩)
    | (go_at_call 12; refine (none_Label HH.out _).mono ?_; rintro e w1 ⟨rfl, rfl⟩)
    | (go_at_call 13; refine (none_Len HH.out _).mono ?_; rintro e w1 ⟨rfl, rfl⟩)
    | (go_at_call 27; refine (none_Names HH.out _).mono ?_; rintro e w1 ⟨rfl, rfl⟩))
  clear HH
  have HH := H1
  rw [rounds_succ]
  go_wp2_with (first
    | (go_at_call 10; refine (none_Push HH.out _).mono ?_; rintro e w1 ⟨rfl, rfl⟩)
    | (go_at_call 11; refine (none_Pop HH.out).mono ?_; rintro e w1 ⟨rfl, rfl⟩)
    | (go_at_call 23; refine (none_Reset HH.out _).mono ?_; rintro e w1 ⟨rfl, rfl⟩)
    | (go_at_call 9; refine (none_Add HH.out _ _).mono ?_; rintro e w1 ⟨rfl, rfl⟩)
    | (go_at_call 14; refine (none_Find HH.out _ _).mono ?_; rintro e w1 ⟨rfl, rfl⟩)
    | (go_at_call 12; refine (none_Label HH.out _).mono ?_; rintro e w1 ⟨rfl, rfl⟩)
    | (go_at_call 13; refine (none_Len HH.out _).mono ?_; rintro e w1 ⟨rfl, rfl⟩)
    | (go_at_call 27; refine (none_Names HH.out _).mono ?_; rintro e w1 ⟨rfl, rfl⟩))
  rw [rounds_succ]
  go_wp2_with (go_at_call 7; refine (alive_any _).mono ?_; rintro e w1 ⟨rfl, hb2⟩)
  go_ret
  exact ⟨rfl, hb.trans (hb2.mono hb.size)⟩
end Go.Proofs.Ytbnddnoognoekaa
