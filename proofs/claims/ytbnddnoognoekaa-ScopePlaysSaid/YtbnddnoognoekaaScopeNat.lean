/-
  literal.Nat at the empty string and at the digit 7 (what the laws' examples ask).
-/
import Derived.Test.YtbnddnoognoekaaWords
import Derived.LoopN
set_option linter.unusedVariables false
namespace Go.Proofs.Ytbnddnoognoekaa
open Go.RowKit
attribute [local go_sem] ByteArray.extract_mk

theorem digit_7 (w : World) : Calls Try.prog 42 #[.int .u8 55] w fun e w' => e = .returned (.int .i64 7) ∧ w = w' := by
  go_enter Try.func42, Try.ntmps42
  go_wp2
  go_ret
  exact ⟨rfl, rfl⟩
theorem mul_0_10 (w : World) : Calls Try.prog 43 #[.int .u64 0, .int .u64 10] w fun e w' => e = .returned (.tuple #[.int .u64 0, .int .u64 0]) ∧ w = w' := by
  go_enter Try.func43, Try.ntmps43
  go_wp2
  go_ret2
  exact ⟨rfl, rfl⟩
theorem add_0_7 (w : World) : (callFunc 44 #[.int .u64 0, .int .u64 7, .int .u64 0]).run Try.prog w = .ok (.value (.tuple #[.int .u64 7, .int .u64 0])) w := by kernel_rfl
set_option maxHeartbeats 1000000 in
set_option maxRecDepth 100000 in
theorem mag_empty (w : World) : Calls Try.prog 40 #[.string ⟨#[]⟩] w fun e w' => e = .returned (.tuple #[.int .u64 0, .bool false, .bool false]) ∧ w = w' := by
  go_enter Try.func40, Try.ntmps40
  go_wp2_with fail
  refine wp_loop_rounds 1 ?_
  rw [rounds_succ]
  go_wp2_with fail
  go_ret3
  exact ⟨rfl, rfl⟩
set_option maxHeartbeats 1000000 in
set_option maxRecDepth 100000 in
theorem mag_7 (w : World) : Calls Try.prog 40 #[.string ⟨#[55]⟩] w fun e w' => e = .returned (.tuple #[.int .u64 7, .bool false, .bool true]) ∧ w = w' := by
  have hadd := add_0_7
  go_enter Try.func40, Try.ntmps40
  go_wp2_with fail
  refine wp_loop_rounds 2 ?_
  iterate 2 (rw [rounds_succ]; go_wp2_with (first
    | (go_at_call 42; refine (digit_7 _).mono ?_; rintro e w1 ⟨rfl, rfl⟩)
    | (go_at_call 43; refine (mul_0_10 _).mono ?_; rintro e w1 ⟨rfl, rfl⟩)))
  go_ret3
  exact ⟨rfl, rfl⟩
set_option maxHeartbeats 1000000 in
set_option maxRecDepth 100000 in
theorem nat_empty (w : World) : Calls Try.prog 33 #[.string ⟨#[]⟩, .int .i64 4294967295] w fun e w' => e = .returned (.tuple #[.int .i64 0, .int .i64 4]) ∧ w = w' := by
  go_enter Try.func33, Try.ntmps33
  go_wp2_with (go_at_call 40; refine (mag_empty _).mono ?_; rintro e w1 ⟨rfl, rfl⟩)
  go_ret2
  exact ⟨rfl, rfl⟩
set_option maxHeartbeats 1000000 in
set_option maxRecDepth 100000 in
theorem nat_7 (w : World) : Calls Try.prog 33 #[.string ⟨#[55]⟩, .int .i64 4294967295] w fun e w' => e = .returned (.tuple #[.int .i64 7, .int .i64 0]) ∧ w = w' := by
  go_enter Try.func33, Try.ntmps33
  go_wp2_with (go_at_call 40; refine (mag_7 _).mono ?_; rintro e w1 ⟨rfl, rfl⟩)
  go_ret2
  exact ⟨rfl, rfl⟩
end Go.Proofs.Ytbnddnoognoekaa
