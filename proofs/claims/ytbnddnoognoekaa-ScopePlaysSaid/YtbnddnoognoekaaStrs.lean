/-
  strings.HasPrefix and strings.IndexByte of Go's library, by their own texts; strings are lists of bytes.
-/
import Derived.Test.YtbnddnoognoekaaWords
import Derived.Lib.Bytealg
set_option linter.unusedVariables false
namespace Go.Proofs.Ytbnddnoognoekaa
open Go.RowKit
attribute [local go_sem] ByteArray.extract_mk

set_option maxHeartbeats 400000 in
theorem hasPrefix_any (l p : List UInt8) (w : World) (hs : l.length ≤ 9223372036854775807) (hp : p.length ≤ 9223372036854775807) :
    Calls Try.prog 32 #[.string ⟨l.toArray⟩, .string ⟨p.toArray⟩] w fun e w' => e = .returned (.bool (l.take p.length == p)) ∧ w = w' := by
  by_cases h : p.length ≤ l.length
  · go_enter Try.func32, Try.ntmps32
    go_wp2
    go_ret
    exact ⟨by simp, rfl⟩
  · have g : decide (p.length ≤ l.length) = false := by simpa using h
    have hn : (l.take p.length == p) = false := by
      rw [beq_eq_false_iff_ne]
      intro e
      have := congrArg List.length e
      simp at this
      omega
    have HN := Lib.hid hn
    clear hn
    go_enter Try.func32, Try.ntmps32
    go_wp2
    go_ret
    exact ⟨by rw [HN.out]; simp, rfl⟩

end Go.Proofs.Ytbnddnoognoekaa
