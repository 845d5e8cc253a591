/-
  The reference's lines, plainly: the lines of a node behind blanks.
-/
import Derived.Test.YtnjhbhbohnjckaaTreeRows2
set_option linter.unusedVariables false
namespace Go.Proofs.Ytnjhbhbohnjckaa
open Go.RowKit
open Tree (Tr)
/-- The lines so far, behind blanks. -/
def rlTo (b : List UInt8) (l : List Tr) (m j : Nat) : List (List UInt8) := (rowsTo l m j).map (b ++ ·)
theorem rlTo_len (b : List UInt8) (l : List Tr) (m j : Nat) : (rlTo b l m j).length = (rowsTo l m j).length := by unfold rlTo; rw [List.length_map]
theorem rlTo_start (b : List UInt8) (l : List Tr) (m : Nat) : rlTo b l m m = [b ++ 40 :: Tree.shows (l.take m)] := by
  unfold rlTo; rw [rowsTo_start]; rfl
theorem map_blanks (b : List UInt8) (xs : List (List UInt8)) : (xs.map ([32, 32] ++ ·)).map (b ++ ·) = xs.map ((b ++ [32, 32]) ++ ·) := by
  rw [List.map_map]
  apply List.map_congr_left
  intro x _
  simp
theorem rlTo_step (b : List UInt8) (l : List Tr) (m j : Nat) (hm : m ≤ j) (hj : j < l.length) : rlTo b l m (j + 1) = rlTo b l m j ++ (Tree.rows l[j]).map ((b ++ [32, 32]) ++ ·) := by
  unfold rlTo
  rw [rowsTo_step l m j hm hj, List.map_append, map_blanks]
theorem rlTo_all (b : List UInt8) (k p : Int) (t : List UInt8) (l : List Tr) (h : k = 0 ∧ Tree.firstL l < l.length) : (Tree.rows (.mk k p t l)).map (b ++ ·) = Tree.shut (rlTo b l (Tree.firstL l) l.length) := by
  rw [rowsTo_all k p t l h]
  unfold rlTo
  rw [Tree.shut_map b _ (by unfold rowsTo; simp)]
theorem strL_app (xs ys : List (List UInt8)) : strL (xs ++ ys) = strL xs ++ strL ys := by unfold strL; rw [List.map_append]
theorem strL_len (xs : List (List UInt8)) : (strL xs).length = xs.length := by unfold strL; rw [List.length_map]
theorem strL_one {xs : List (List UInt8)} : ∀ u ∈ strL xs, u.oneCell' = true := by
  intro u hu
  unfold strL at hu
  obtain ⟨x, _, rfl⟩ := List.mem_map.1 hu
  rfl
/-- What lines hands back. -/
def RetRLines (n : Tr) (b : List UInt8) (w : World) (e : Ending) (w' : World) : Prop :=
  ∃ A c, e = .returned (.slice A (Tree.rows n).length c) ∧ w'.ownsRow w.heap.size 9 1 (.slice A (Tree.rows n).length c) (Tree.rows n).length (strL ((Tree.rows n).map (b ++ ·))) ∧ Below w.heap.size w w'
end Go.Proofs.Ytnjhbhbohnjckaa
