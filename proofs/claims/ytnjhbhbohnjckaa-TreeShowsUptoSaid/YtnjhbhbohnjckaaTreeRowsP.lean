/-
  The indented form as plain functions.
-/
import Derived.Test.YtnjhbhbohnjckaaTreeFirst
set_option linter.unusedVariables false
namespace Go.Proofs.Ytnjhbhbohnjckaa.Tree

/-- The last line gets a closing parenthesis. -/
def shut (xs : List (List UInt8)) : List (List UInt8) := xs.dropLast ++ [xs.getLastD [] ++ [41]]
mutual
/-- The lines of a node. -/
def rows : Tr → List (List UInt8)
  | .mk k p t l => if k = 0 ∧ firstL l < l.length then shut ((40 :: shows (l.take (firstL l))) :: rowsAt l (firstL l)) else [show1 (.mk k p t l)]
/-- The lines of the nodes from the m-th on, indented. -/
def rowsAt : List Tr → Nat → List (List UInt8)
  | [], _ => []
  | n :: l, 0 => (rows n).map ([32, 32] ++ ·) ++ rowsAt l 0
  | n :: l, m + 1 => rowsAt l m
end
def linesOf (l : List Tr) : List UInt8 := (l.flatMap rows).flatMap (· ++ [10])
theorem rowsAt_zero (l : List Tr) : rowsAt l 0 = l.flatMap (fun n => (rows n).map ([32, 32] ++ ·)) := by
  induction l with
  | nil => rw [rowsAt]; rfl
  | cons n l ih => rw [rowsAt, ih]; rfl
theorem rowsAt_drop : ∀ (l : List Tr) (m : Nat), rowsAt l m = rowsAt (l.drop m) 0
  | [], m => by rw [List.drop_nil, rowsAt, rowsAt]
  | n :: l, 0 => by rw [List.drop_zero]
  | n :: l, m + 1 => by rw [rowsAt, List.drop_succ_cons]; exact rowsAt_drop l m
theorem shut_map (b : List UInt8) (xs : List (List UInt8)) (h : xs ≠ []) : (shut xs).map (b ++ ·) = shut (xs.map (b ++ ·)) := by
  unfold shut
  obtain ⟨ys, y, rfl⟩ : ∃ ys y, xs = ys ++ [y] := ⟨xs.dropLast, xs.getLast h, (List.dropLast_concat_getLast h).symm⟩
  simp [List.getLastD_eq_getLast?]
theorem rows_ne (n : Tr) : rows n ≠ [] := by
  obtain ⟨k, p, t, l⟩ := n
  rw [rows]
  split
  · unfold shut; simp
  · simp
/-- One more node's lines. -/
theorem rowsAt_step (l : List Tr) (m j : Nat) (hm : m ≤ j) (hj : j < l.length) : ((l.take (j + 1)).drop m).flatMap (fun n => (rows n).map ([32, 32] ++ ·)) = ((l.take j).drop m).flatMap (fun n => (rows n).map ([32, 32] ++ ·)) ++ (rows l[j]).map ([32, 32] ++ ·) := by
  rw [List.take_succ_eq_append_getElem hj, List.drop_append_of_le_length (by rw [List.length_take]; omega), List.flatMap_append]
  simp
end Go.Proofs.Ytnjhbhbohnjckaa.Tree
