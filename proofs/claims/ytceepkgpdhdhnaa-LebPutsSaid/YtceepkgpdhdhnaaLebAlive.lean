/-
  The chapter's examples hold.
-/
import Derived.Test.YtceepkgpdhdhnaaLebPut
import Derived.Test.YtceepkgpdhdhnaaLebDec
set_option linter.unusedVariables false
namespace Go.Proofs.Ytceepkgpdhdhnaa
open Go.RowKit

theorem put300 : Leb.putU 300 = [172, 2] := by rw [Leb.putU_big (by omega), Leb.putU_small (by omega)]; rfl
theorem put64 : Leb.putS 64 = [192, 0] := by rw [Leb.putS_big (by omega), Leb.putS_small (by omega)]; rfl
theorem s124 : Leb.sF [124] 3 = (-4, 1, 0) := by decide +kernel

set_option maxHeartbeats 400000 in
set_option maxRecDepth 100000 in
theorem alive_any (w : World) : Calls Try.prog 9 #[] w fun e w' => e = .returned (.bool true) ∧ Below w.heap.size w w' := by
  go_enter Try.func9, Try.ntmps9
  go_wp2_with fail
  refine (putU_any none 0 [] 300 w RdB.nil_ (by simp) (by unfold InU64; omega)).mono ?_
  rintro e w1 ⟨A1, c1, rfl, hown, hc, hb⟩
  rw [List.nil_append, put300] at hown hc ⊢
  obtain ⟨g, rfl, hg0, hg1, hcell⟩ := own_at hown (by simp)
  have hc0 := hcell 0 (by simp)
  have hc1' := hcell 1 (by simp)
  simp only [List.getElem_cons_zero, List.getElem_cons_succ] at hc0 hc1'
  clear hcell hown
  go_wp2_with fail
  refine (s_any (some ⟨w1.heap.size, 0, none⟩) 1 [124] 3 _ (w1.heap.size + 1) (Reads.one w1 _ _) (by simp)).mono ?_
  rintro e w2 ⟨rfl, rfl⟩
  rw [s124]
  go_wp2_with fail
  refine (len_any 300 _ (by unfold InU64; omega)).mono ?_
  rintro e w3 ⟨rfl, hb3⟩
  rw [put300]
  go_wp2_with fail
  refine (lenS_any 64 _ (by unfold InI64; omega)).mono ?_
  rintro e w4 ⟨rfl, hb4⟩
  rw [put64]
  go_wp2
  go_ret
  have hs1 := hb.size
  have hs3 := hb3.size
  simp at hb3 hs3
  exact ⟨rfl, ((hb.alloc hs1 _).trans (hb3.mono (by omega))).trans (hb4.mono (by omega))⟩
end Go.Proofs.Ytceepkgpdhdhnaa
