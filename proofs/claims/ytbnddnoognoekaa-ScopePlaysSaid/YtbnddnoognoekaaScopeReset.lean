/-
  Reset of a kind that there is.
-/
import Derived.Test.YtbnddnoognoekaaScopePlays0
set_option linter.unusedVariables false
namespace Go.Proofs.Ytbnddnoognoekaa
open Go.RowKit Go.Maps

set_option maxHeartbeats 1000000 in
set_option maxRecDepth 100000 in
theorem reset_kind {W : World} {B s : Nat} {y : Lay} {σ : SSt} (h : ScopeAt W B s y σ) (k : Int) (hk : (Lit.int .i64 k).wf = true) (hr : 0 ≤ k ∧ k < 9) :
    Calls Try.prog 23 #[.pointer (some ⟨s, 0, none⟩), .int .i64 k] W fun e w' => e = .returned (.tuple #[]) ∧
      ∃ y', ScopeAt w' B s y' { σ with k := upd σ.k k.toNat [] } ∧ Turned W w' B s y y' := by
  have hmm := @run_makeMap Try.prog
  have ho := of_any h k hk
  unfold ofF at ho
  rw [if_pos hr] at ho
  have hK := h.kind k.toNat (by omega)
  obtain ⟨P, hP⟩ : ∃ P, y.p k.toNat = P := ⟨_, rfl⟩
  have hblk := hK.blk
  have lp := hK.lp
  rw [hP] at ho hblk lp
  have HO := Lib.hid ho
  have hPlt := lt_of_heap hblk
  obtain ⟨W1, hW1⟩ : ∃ W1, W.alloc (.map #[] 0) = W1 := ⟨_, rfl⟩
  have hb1 : W1.heap[P]? = some (.cells #[.int .i64 ((σ.k k.toNat).length : Int), y.nv k.toNat, .map (some (y.m k.toNat))] 65 (0, 0)) := by rw [← hW1]; exact (Below.heap_alloc _ _ _ hPlt).trans hblk
  have c0 := cell_of_row W1 P 0 _ _ _ hb1
  have c1 := cell_of_row W1 P 1 _ _ _ hb1
  have c2 := cell_of_row W1 P 2 _ _ _ hb1
  simp only [List.getElem?_toArray, List.getElem?_cons_succ, List.getElem?_cons_zero] at c0 c1 c2
  have f0 := frozen_of_row W1 P 0 _ _ hb1
  have f1 := frozen_of_row W1 P 1 _ _ hb1
  have f2 := frozen_of_row W1 P 2 _ _ hb1
  have HR := Lib.hid hr
  have HH := Lib.hid h
  have HW := Lib.hid hW1
  clear ho hr
  go_enter Try.func23, Try.ntmps23
  go_wp2_with (go_at_call 30; refine HO.out.mono ?_; rintro e w1 ⟨rfl, rfl⟩)
  go_end0
  have hr := HR.out
  have q1 := Go.heap_setCell_same W1 P 0 _ _ (.int .i64 0) hb1
  have q2 := Go.heap_setCell_same _ P 1 _ _ (.slice none 0 0) q1
  have q3 := Go.heap_setCell_same _ P 2 _ _ (.map (some W.heap.size)) q2
  have far : ∀ b, b ≠ P → (((W1.setCell ⟨P, 0, none⟩ (.int .i64 0)).setCell ⟨P, 1, none⟩ (.slice none 0 0)).setCell ⟨P, 2, none⟩ (.map (some W.heap.size))).heap[b]? = W1.heap[b]? := fun b hb => by
    rw [Below.heap_setCell _ _ _ _ hb, Below.heap_setCell _ _ _ _ hb, Below.heap_setCell _ _ _ _ hb]
  have hmap : MapIs W1 9 W.heap.size 0 (fun _ => none) := by rw [← HW.out]; exact MapIs.made W 9
  have hN : W.heap.size ≠ P := by omega
  have hBs : B ≤ W.heap.size := by omega
  subst hP
  refine ⟨rfl, _, HH.out.turn_kind k.toNat (by omega) (.slice none 0 0) W.heap.size [] ⟨?_, ⟨0, by simp, ?_⟩, nil_row _ _ _ _, lp, hBs⟩ ?_ (fun b hl h1 _ _ => (far b h1).trans (by rw [← HW.out]; exact Below.heap_alloc _ _ _ hl)) (.inr (.inl rfl)) (.inr (Nat.le_refl _))⟩
  · rw [q3]
    simp
  · have := hmap.same (far _ hN)
    have e : (fun _ => none : Lit → Option Value) = atF [] := by
      funext l
      cases l <;> first | rfl | (rw [atF_str, Sc.find_nil]; rfl)
    rw [e] at this
    exact this
  · have b1 : Below B W W1 := by rw [← HW.out]; exact (Below.refl B W).alloc hBs _
    exact ((b1.setCell (p := ⟨_, 0, none⟩) lp _).setCell (p := ⟨_, 1, none⟩) lp _).setCell (p := ⟨_, 2, none⟩) lp _
end Go.Proofs.Ytbnddnoognoekaa
