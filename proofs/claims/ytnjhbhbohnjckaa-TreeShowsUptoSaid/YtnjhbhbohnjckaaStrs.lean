/-
  strings.HasPrefix and strings.IndexByte of Go's library, by their own texts; strings are lists of bytes.
-/
import Derived.Test.YtnjhbhbohnjckaaWords
import Derived.Lib.Bytealg
set_option linter.unusedVariables false
namespace Go.Proofs.Ytnjhbhbohnjckaa
open Go.RowKit
attribute [local go_sem] ByteArray.extract_mk

set_option maxHeartbeats 400000 in
theorem hasPrefix_any (l p : List UInt8) (w : World) (hs : l.length ≤ 9223372036854775807) (hp : p.length ≤ 9223372036854775807) :
    Calls Try.prog 35 #[.string ⟨l.toArray⟩, .string ⟨p.toArray⟩] w fun e w' => e = .returned (.bool (l.take p.length == p)) ∧ w = w' := by
  by_cases h : p.length ≤ l.length
  · go_enter Try.func35, Try.ntmps35
    go_wp2
    go_ret
    exact ⟨by simp, rfl⟩
  · have g : decide (p.length ≤ l.length) = false := by simpa using h
    have hn : (l.take p.length == p) = false := by
      rw [beq_eq_false_iff_ne]
      intro e
      have := congrArg List.length e
      simp at this
      omega
    have HN := Lib.hid hn
    clear hn
    go_enter Try.func35, Try.ntmps35
    go_wp2
    go_ret
    exact ⟨by rw [HN.out]; simp, rfl⟩

set_option maxHeartbeats 400000 in
theorem indexByte_any (l : List UInt8) (c : Int) (w : World) :
    Calls Try.prog 36 #[.string ⟨l.toArray⟩, .int .u8 c] w fun e w' => e = .returned (.int .i64 (Lib.indexByte l c.toNat.toUInt8)) ∧ w = w' := by
  go_enter Try.func36, Try.ntmps36
  go_wp2
  rw [run_callFunc_extern Try.func54 (by kernel_rfl) (by kernel_rfl) (by kernel_rfl) (e := Extern.BytealgIndexByte.indexByte) (by kernel_rfl), Lib.run_indexByteString]
  simp only [Result.andThen]
  rw [Oper.upon_value]
  go_wp2
  go_ret
  exact ⟨rfl, rfl⟩
end Go.Proofs.Ytnjhbhbohnjckaa
