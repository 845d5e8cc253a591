/-
  Plain law: after a failure reads return zero values and writes add nothing.
-/
import Derived.Test.YtagcildoebicnaaBtLaw3
set_option linter.unusedVariables false
set_option linter.unusedSimpArgs false
namespace Go.Proofs.Ytagcildoebicnaa
open Go.RowKit
namespace Oct
section
variable {b : List UInt8} {s : St} (h : ¬ s.err = 0)
include h
theorem byte_no : byte b s = (s, 0) := by unfold byte; rw [if_neg h]
theorem count_no (m : Int) : count b s m = (s, 0) := by unfold count; rw [u32_no h, if_neg (fun hh => h hh.1)]
theorem getVal_no : getVal b s = (s, 0) := by unfold getVal; rw [byte_no h, if_neg h]
theorem getVals_no : getVals b s = (s, []) := by unfold getVals; rw [count_no h]; rfl
theorem must_no' (ok : Bool) (e : Int) : must s ok e = s := if_neg (fun hh => h hh.1)
theorem getFunc_no : getFunc b s = (s, [], []) := by
  unfold getFunc; dsimp only; rw [byte_no h, must_no' h, getVals_no h]; dsimp only; rw [getVals_no h]; dsimp only; rw [if_neg h]
theorem getLim_no : getLim b s = (s, ⟨0, 0, false⟩) := by
  unfold getLim; dsimp only; rw [byte_no h]; dsimp only; rw [must_no' h, u32_no h, if_neg (by decide), if_neg h]
theorem getTable_no : getTable b s = (s, 0, ⟨0, 0, false⟩) := by
  unfold getTable; dsimp only; rw [getVal_no h]; dsimp only; rw [must_no' h, getLim_no h]; dsimp only; rw [if_neg h]
theorem getGlobal_no : getGlobal b s = (s, 0, false) := by
  unfold getGlobal; dsimp only; rw [getVal_no h]; dsimp only; rw [byte_no h]; dsimp only; rw [must_no' h, if_neg h]
theorem getBlock_no : getBlock b s = (s, ⟨0, 0, 0⟩) := by
  unfold getBlock; dsimp only; rw [s33_no h]; dsimp only; rw [if_neg h]
end
section
variable {s : Wt} (h : ¬ s.err = 0)
include h
theorem fail_no (e : Int) : s.fail e = s := if_neg h
theorem bytes_no (l : List UInt8) : s.bytes l = s := if_neg h
theorem putU32_no (n : Int) : putU32 s n = s := by unfold putU32; split; exact fail_no h _; exact bytes_no h _
theorem putS33_no (n : Int) : putS33 s n = s := by unfold putS33; split; exact fail_no h _; exact bytes_no h _
theorem putVal_no (t : Int) : putVal s t = s := by unfold putVal; split; exact bytes_no h _; exact fail_no h _
theorem putAll_no (l : List Int) : putAll s l = s := by
  induction l with
  | nil => rfl
  | cons t l ih => show putAll (putVal s t) l = s; rw [putVal_no h]; exact ih
theorem putVals_no (l : List Int) : putVals s l = s := by unfold putVals; rw [putU32_no h]; exact putAll_no h l
theorem putFunc_no (ps rs : List Int) : putFunc s ps rs = s := by
  unfold putFunc; split
  · split
    · rw [bytes_no h, putVals_no h, putVals_no h]
    · exact fail_no h _
  · exact fail_no h _
theorem putLim_no (l : Lim) : putLim s l = s := by
  unfold putLim; split
  · split
    · rw [bytes_no h, putU32_no h, putU32_no h]
    · rw [bytes_no h, putU32_no h]
  · exact fail_no h _
theorem putTable_no (el : Int) (l : Lim) : putTable s el l = s := by
  unfold putTable; split
  · split
    · rw [putVal_no h, putLim_no h]
    · exact fail_no h _
  · exact fail_no h _
theorem putGlobal_no (t : Int) (mu : Bool) : putGlobal s t mu = s := by
  rw [putGlobal_eq, putVal_no h, bytes_no h]
theorem putBlock_no (x : Blk) : putBlock s x = s := by
  unfold putBlock; split
  · split
    · exact bytes_no h _
    · split
      · exact putVal_no h _
      · exact putS33_no h _
  · exact fail_no h _
end
end Oct
theorem neq_lim0 (w : World) : (binOp .neq 52 (.agg #[.int .i64 0, .int .i64 0, .bool false]) (.agg #[.int .i64 0, .int .i64 0, .bool false])).run Try.prog w = .ok (.bool false) w := by go_simp
theorem neq_tab0 (w : World) : (binOp .neq 54 (.agg #[.int .i64 0, .int .i64 0, .int .i64 0, .bool false]) (.agg #[.int .i64 0, .int .i64 0, .int .i64 0, .bool false])).run Try.prog w = .ok (.bool false) w := by go_simp
theorem neq_glo0 (w : World) : (binOp .neq 67 (.agg #[.int .i64 0, .bool false]) (.agg #[.int .i64 0, .bool false])).run Try.prog w = .ok (.bool false) w := by go_simp
theorem neq_blk0 (w : World) : (binOp .neq 25 (.agg #[.int .i64 0, .int .i64 0, .int .i64 0]) (.agg #[.int .i64 0, .int .i64 0, .int .i64 0])).run Try.prog w = .ok (.bool false) w := by go_simp
theorem nilR {W : World} {B : Nat} (hB : B ≤ W.heap.size) (b : List UInt8) : RdrAt W B (.pointer none) (.slice none 0 0) b ⟨0, 2⟩ := ⟨hB, .inl ⟨rfl, rfl, rfl, rfl⟩⟩
theorem nilW {W : World} {B : Nat} (hB : B ≤ W.heap.size) : WrAt W B (.pointer none) (.slice none 0 0) ⟨[], 2⟩ := ⟨hB, .inl ⟨rfl, rfl, rfl⟩⟩
theorem nilFt (k : Nat) : ¬ Ft (.pointer none) (.slice none 0 0) k := by
  intro hk
  rcases hk with hk | hk
  · injection hk with hk; cases hk
  · cases hk
end Go.Proofs.Ytagcildoebicnaa
