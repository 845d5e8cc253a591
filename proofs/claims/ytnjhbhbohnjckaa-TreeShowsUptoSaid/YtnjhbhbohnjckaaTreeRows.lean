/-
  The walk of rows: first its single line.
-/
import Derived.Test.YtnjhbhbohnjckaaTreeRowsP
import Derived.Test.YtnjhbhbohnjckaaTreeMem2
import Derived.Test.YtnjhbhbohnjckaaTreeShow
import Derived.Laws.OwnMore
set_option linter.unusedVariables false
set_option linter.unusedSimpArgs false
namespace Go.Proofs.Ytnjhbhbohnjckaa
open Go.RowKit
open Tree (Tr)

def RetRows (n : Tr) (w : World) (e : Ending) (w' : World) : Prop :=
  ∃ A c, e = .returned (.slice A (Tree.rows n).length c) ∧ w'.ownsRow w.heap.size 9 1 (.slice A (Tree.rows n).length c) (Tree.rows n).length (strL (Tree.rows n)) ∧ Below w.heap.size w w'

set_option maxHeartbeats 2000000 in
set_option maxRecDepth 100000 in
theorem rows_one (k p : Int) (t : List UInt8) (l : List Tr) (A : Option Addr) (c : Nat) (S : Nat → Prop) (w : World) (hl : Lies w S A l) (hS : ∀ g, S g → g < w.heap.size) (hlen : (Tree.show1 (.mk k p t l)).length ≤ 1000000000) (hct : Tree.counts l ≤ 1000000) (hsl : k = 0 → (Tree.shows l).length ≤ 1000000000) (hno : ¬ (k = 0 ∧ Tree.firstL l < l.length)) :
    Calls Try.prog 31 #[.agg #[.int .i64 k, .int .i64 p, .string ⟨t.toArray⟩, .slice A l.length c]] w (RetRows (.mk k p t l) w) := by
  have hr : Tree.rows (.mk k p t l) = [Tree.show1 (.mk k p t l)] := by rw [Tree.rows, if_neg hno]
  unfold RetRows
  rw [hr]
  have hll := Tree.len_le_counts l
  have hb1 := (Below.refl w.heap.size w).alloc (Nat.le_refl _) (Obj.cells #[.int .i64 k, .int .i64 p, .string ⟨t.toArray⟩, .slice A l.length c] 36)
  have hS1 : ∀ g, S g → g < (w.alloc (Obj.cells #[.int .i64 k, .int .i64 p, .string ⟨t.toArray⟩, .slice A l.length c] 36)).heap.size := fun g hg => Nat.lt_of_lt_of_le (hS g hg) hb1.size
  have hl1 := hl.keep (fun g hg => hb1.block g (hS g hg)) (fun _ h => h)
  have HF := Lib.hid (first_any l k p ⟨t.toArray⟩ A c S _ hl1 hS1 (by omega) (-1) (if_neg hno))
  obtain ⟨N, hN⟩ : ∃ N, Tree.show1 (.mk k p t l) = N := ⟨_, rfl⟩
  have hshow := fun (W : World) (hb : Below w.heap.size w W) => show_of k p (fun h => shows_any _ l (Nat.lt_succ_self _) (hsl h) hct) t A c S W (hl.keep (fun g hg => hb.block g (hS g hg)) (fun _ h => h)) (fun g hg => Nat.lt_of_lt_of_le (hS g hg) hb.size) N.length (by rw [hN]) (by rw [← hN]; exact hlen)
  rw [hN] at hshow ⊢
  have HSH := Lib.hid hshow
  have hx0 := heap_alloc_new w (Obj.cells #[.int .i64 k, .int .i64 p, .string ⟨t.toArray⟩, .slice A l.length c] 36)
  clear hshow hl hl1 hS hS1 hr hN hlen hno
  go_enter Try.func31, Try.ntmps31
  go_wp2_with fail
  refine HF.out.mono ?_
  rintro e w1 ⟨rfl, hb⟩
  have hb2 := hb1.trans (hb.mono hb1.size)
  have hx := (hb.block w.heap.size (by simp)).trans hx0
  have x0 : w1.cell? ⟨w.heap.size, 0, none⟩ = _ := cell_of_row _ _ _ _ _ _ hx
  have x1 : w1.cell? ⟨w.heap.size, 1, none⟩ = _ := cell_of_row _ _ _ _ _ _ hx
  have x2 : w1.cell? ⟨w.heap.size, 2, none⟩ = _ := cell_of_row _ _ _ _ _ _ hx
  have x3 : w1.cell? ⟨w.heap.size, 3, none⟩ = _ := cell_of_row _ _ _ _ _ _ hx
  simp only [List.getElem?_toArray, List.getElem?_cons_succ, List.getElem?_cons_zero] at x0 x1 x2 x3
  clear hx hx0
  go_wp2_with fail
  refine (HSH.out _ hb2).mono ?_
  rintro e w2 ⟨rfl, hb3⟩
  have hb4 := hb2.trans (hb3.mono hb2.size)
  go_wp2
  go_ret
  exact ⟨_, _, rfl, World.ownsRow_lit w2 #[.string ⟨N.toArray⟩] 1 hb4.size (by unfold maxLen; omega) rfl, hb4.alloc hb4.size _⟩
end Go.Proofs.Ytnjhbhbohnjckaa
