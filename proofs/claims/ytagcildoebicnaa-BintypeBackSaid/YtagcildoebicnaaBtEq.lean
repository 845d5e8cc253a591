/-
  Equality of the structs of layer 10.
-/
import Derived.Test.YtagcildoebicnaaBtPut
import Derived.Laws.StructEq
set_option linter.unusedVariables false
namespace Go.Proofs.Ytagcildoebicnaa
open Go.RowKit

theorem eq_blk (a b c a' b' c' : Int) (w : World) : (binOp .eql 25 (.agg #[.int .i64 a, .int .i64 b, .int .i64 c]) (.agg #[.int .i64 a', .int .i64 b', .int .i64 c'])).run Try.prog w = .ok (.bool (a == a' && b == b' && c == c')) w := by
  rcases h1 : (a == a') with _ | _ <;> rcases h2 : (b == b') with _ | _ <;> rcases h3 : (c == c') with _ | _
  all_goals go_simp
theorem eq_lim (a b a' b' : Int) (c c' : Bool) (w : World) : (binOp .eql 52 (.agg #[.int .i64 a, .int .i64 b, .bool c]) (.agg #[.int .i64 a', .int .i64 b', .bool c'])).run Try.prog w = .ok (.bool (a == a' && b == b' && c == c')) w := by
  rcases h1 : (a == a') with _ | _ <;> rcases h2 : (b == b') with _ | _ <;> rcases h3 : (c == c') with _ | _
  all_goals go_simp
theorem eq_glob (a a' : Int) (c c' : Bool) (w : World) : (binOp .eql 67 (.agg #[.int .i64 a, .bool c]) (.agg #[.int .i64 a', .bool c'])).run Try.prog w = .ok (.bool (a == a' && c == c')) w := by
  rcases h1 : (a == a') with _ | _ <;> rcases h3 : (c == c') with _ | _
  all_goals go_simp
theorem eq_table (t t' a b a' b' : Int) (c c' : Bool) (w : World) : (binOp .eql 54 (.agg #[.int .i64 t, .int .i64 a, .int .i64 b, .bool c]) (.agg #[.int .i64 t', .int .i64 a', .int .i64 b', .bool c'])).run Try.prog w = .ok (.bool (t == t' && (a == a' && b == b' && c == c'))) w := by
  rcases h0 : (t == t') with _ | _ <;> rcases h1 : (a == a') with _ | _ <;> rcases h2 : (b == b') with _ | _ <;> rcases h3 : (c == c') with _ | _
  all_goals go_simp
end Go.Proofs.Ytagcildoebicnaa
