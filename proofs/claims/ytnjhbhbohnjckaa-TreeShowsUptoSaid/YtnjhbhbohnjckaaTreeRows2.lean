/-
  The walk of rows: a node with a list among its children.
-/
import Derived.Test.YtnjhbhbohnjckaaTreeRows
set_option linter.unusedVariables false
set_option linter.unusedSimpArgs false
namespace Go.Proofs.Ytnjhbhbohnjckaa
open Go.RowKit
open Tree (Tr)

/-- The lines so far: the head line and the lines of the nodes m .. j-1. -/
def rowsTo (l : List Tr) (m j : Nat) : List (List UInt8) := (40 :: Tree.shows (l.take m)) :: ((l.take j).drop m).flatMap (fun n => (Tree.rows n).map ([32, 32] ++ ·))
theorem rowsTo_start (l : List Tr) (m : Nat) : rowsTo l m m = [40 :: Tree.shows (l.take m)] := by
  unfold rowsTo
  rw [List.drop_eq_nil_of_le (by rw [List.length_take]; omega)]; rfl
theorem rowsTo_step (l : List Tr) (m j : Nat) (hm : m ≤ j) (hj : j < l.length) : rowsTo l m (j + 1) = rowsTo l m j ++ (Tree.rows l[j]).map ([32, 32] ++ ·) := by
  unfold rowsTo
  rw [Tree.rowsAt_step l m j hm hj]; rfl
theorem rowsTo_all (k p : Int) (t : List UInt8) (l : List Tr) (h : k = 0 ∧ Tree.firstL l < l.length) : Tree.rows (.mk k p t l) = Tree.shut (rowsTo l (Tree.firstL l) l.length) := by
  rw [Tree.rows, if_pos h, Tree.rowsAt_drop, Tree.rowsAt_zero]
  unfold rowsTo
  rw [List.take_length]

namespace Tree
theorem shut_length (xs : List (List UInt8)) (h : xs ≠ []) : (shut xs).length = xs.length := by
  unfold shut
  have : 0 < xs.length := List.length_pos_iff.2 h
  rw [List.length_append, List.length_dropLast, List.length_singleton]; omega
mutual
theorem rows_len : ∀ n : Tr, (rows n).length ≤ count n
  | .mk k p t l => by
    rw [rows, count]
    split
    · rw [shut_length _ (by simp), List.length_cons]
      have := rowsAt_len l (firstL l)
      omega
    · simp
theorem rowsAt_len : ∀ (l : List Tr) (m : Nat), (rowsAt l m).length ≤ counts l
  | [], m => by rw [rowsAt]; simp
  | n :: l, 0 => by
    have h1 := rows_len n
    have h2 := rowsAt_len l 0
    rw [rowsAt, counts, List.length_append, List.length_map]; omega
  | n :: l, m + 1 => by
    have h2 := rowsAt_len l m
    rw [rowsAt, counts]; omega
end
theorem shut_mem {xs : List (List UInt8)} {x : List UInt8} (hne : xs ≠ []) (h : x ∈ shut xs) : x ∈ xs ∨ ∃ y ∈ xs, x = y ++ [41] := by
  unfold shut at h
  rcases List.mem_append.1 h with h | h
  · exact .inl (List.dropLast_subset _ h)
  · refine .inr ⟨xs.getLastD [], ?_, by simpa using h⟩
    rw [List.getLastD_eq_getLast?, List.getLast?_eq_some_getLast hne]
    exact List.getLast_mem hne
theorem shows_take_le (l : List Tr) (k : Nat) : (shows (l.take k)).length ≤ (shows l).length := shows_take_len l k
mutual
theorem rows_line : ∀ (n : Tr) (x : List UInt8), x ∈ rows n → x.length ≤ (show1 n).length + 3 * count n
  | .mk k p t l, x, h => by
    rw [rows] at h
    rw [count]
    split at h
    · rename_i hk
      rw [show1, hk.1, if_neg (by decide), if_neg (by decide), if_pos rfl]
      simp only [List.length_append, List.length_singleton]
      have hy : ∀ y ∈ (40 :: shows (l.take (firstL l))) :: rowsAt l (firstL l), y.length ≤ (shows l).length + 3 * counts l + 2 := by
        intro y hy
        rcases List.mem_cons.1 hy with rfl | hy
        · have := shows_take_le l (firstL l)
          rw [List.length_cons]; omega
        · exact rowsAt_line l _ y hy
      rcases shut_mem (by simp) h with h | ⟨y, h', rfl⟩
      · have := hy x h; omega
      · have := hy y h'
        rw [List.length_append, List.length_singleton]; omega
    · rw [List.mem_singleton.1 h]; omega
theorem rowsAt_line : ∀ (l : List Tr) (m : Nat) (x : List UInt8), x ∈ rowsAt l m → x.length ≤ (shows l).length + 3 * counts l + 2
  | [], m, x, h => by rw [rowsAt] at h; cases h
  | n :: l, 0, x, h => by
    rw [rowsAt] at h
    have h0 : (show1 n).length ≤ (shows (n :: l)).length := show1_len (n :: l) 0 (by simp)
    have h1 : (shows l).length ≤ (shows (n :: l)).length := by
      cases l with
      | nil => rw [shows]; simp
      | cons m l => rw [shows, List.length_append]; omega
    rw [counts]
    rcases List.mem_append.1 h with h | h
    · obtain ⟨y, hy, rfl⟩ := List.mem_map.1 h
      have := rows_line n y hy
      simp only [List.length_append, List.length_cons, List.length_nil]; omega
    · have := rowsAt_line l 0 x h
      omega
  | n :: l, m + 1, x, h => by
    rw [rowsAt] at h
    have h1 : (shows l).length ≤ (shows (n :: l)).length := by
      cases l with
      | nil => rw [shows]; simp
      | cons m l => rw [shows, List.length_append]; omega
    have := rowsAt_line l m x h
    rw [counts]; omega
end
theorem counts_take_drop : ∀ (l : List Tr) (m : Nat), counts (l.take m) + counts (l.drop m) = counts l
  | [], m => by simp [counts]
  | n :: l, 0 => by rw [List.take_zero, List.drop_zero, counts]; omega
  | n :: l, m + 1 => by
    have := counts_take_drop l m
    rw [List.take_succ_cons, List.drop_succ_cons, counts, counts]; omega
theorem rowsTo_len (l : List Tr) (m j : Nat) (hm : m ≤ j) (hj : j ≤ l.length) : (rowsTo l m j).length ≤ 1 + counts l := by
  have h : ∀ (l : List Tr), (l.flatMap (fun n => (rows n).map ([32, 32] ++ ·))).length ≤ counts l := fun l => by rw [← rowsAt_zero]; exact rowsAt_len l 0
  have h1 := h ((l.take j).drop m)
  have h2 : counts ((l.take j).drop m) ≤ counts (l.take j) := by
    have := counts_take_drop (l.take j) m
    omega
  have h3 := counts_take_le l j
  unfold rowsTo
  rw [List.length_cons]; omega
end Tree
/-- Between a call that made blocks W1 .. w2's end and the world wq: these blocks are as they were, and v's block is none of them. -/
structure Aside (W1 : Nat) (w2 wq : World) (v : Value) : Prop where
  size : w2.heap.size ≤ wq.heap.size
  blk : ∀ b, W1 ≤ b → b < w2.heap.size → wq.heap[b]? = w2.heap[b]?
  away : ∀ b, v.ownBlock = some b → b < W1 ∨ w2.heap.size ≤ b
theorem Aside.step {W1 : Nat} {w2 wq w3 : World} {v v' : Value} (h : Aside W1 w2 wq v) (hg : wq.grownBy w3 v.ownBlock) {H : Nat} (hH : wq.heap.size ≤ H) (hv : v'.ownBlock = v.ownBlock ∨ v'.ownBlock = some H) : Aside W1 w2 w3 v' where
  size := Nat.le_trans h.size hg.size
  blk b h1 h2 := by
    have := h.size
    rw [hg.block b (by omega) (fun e => by have := h.away b e.symm; omega)]
    exact h.blk b h1 h2
  away b hb := by
    have := h.size
    rcases hv with hv | hv
    · exact h.away b (hv ▸ hb)
    · rw [hv] at hb; injection hb with hb; omega
theorem Aside.own {W1 : Nat} {w2 wq : World} {v v' : Value} (h : Aside W1 w2 wq v) {e : TypeId} {size n : Nat} {xs : List Value} (ho : w2.ownsRow W1 e size v' n xs) : wq.ownsRow W1 e size v' n xs := by
  refine ⟨ho.1, ?_⟩
  rcases ho.2 with ⟨rfl, rfl⟩ | ⟨g, cap, cur, rfl, h0, hh, h1, h2, h3⟩
  · exact .inl ⟨rfl, rfl⟩
  · refine .inr ⟨g, cap, cur, rfl, h0, ?_, h1, h2, h3⟩
    rw [h.blk g h0 (Array.getElem?_eq_some_iff.1 hh).1]; exact hh
end Go.Proofs.Ytnjhbhbohnjckaa
