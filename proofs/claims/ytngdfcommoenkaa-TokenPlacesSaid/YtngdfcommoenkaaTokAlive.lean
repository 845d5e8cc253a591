/-
  The chapter's examples hold.
-/
import Derived.Test.YtngdfcommoenkaaTokOurs
set_option linter.unusedVariables false
namespace Go.Proofs.Ytngdfcommoenkaa
open Go.RowKit

theorem lex1 : Tok.lexF [40, 97, 32, 34, 98, 92, 34, 34, 32, 59, 59, 32, 99] = ([⟨0, 0, []⟩, ⟨2, 1, [97]⟩, ⟨3, 3, [98, 92, 34]⟩, ⟨4, 13, []⟩], 0, 0) := by rfl
theorem lex2 : Tok.lexF [40, 59, 32, 97, 32, 40, 59, 32, 98, 32, 59, 41] = ([], 0, 3) := by rfl
theorem lex3 : Tok.lexF [97, 44, 32, 98] = ([], 1, 4) := by rfl
theorem lex4 : Tok.lexF [34, 97] = ([], 0, 3) := by rfl
/-- Lex at a constant. -/
theorem lex_at (l : List UInt8) (x : List Tok.Tk × Nat × Int) (w : World) (hx : Tok.lexF l = x) (hl : l.length ≤ 1000) : Calls Try.prog 9 #[.string ⟨l.toArray⟩] w (RetToks x w) := by
  rw [← hx]; exact lex_any l w (by omega)

set_option maxHeartbeats 1000000 in
set_option maxRecDepth 100000 in
theorem alive_any (w : World) : Calls Try.prog 8 #[] w fun e w' => e = .returned (.bool true) ∧ Below w.heap.size w w' := by
  go_enter Try.func8, Try.ntmps8
  go_wp2_with fail
  refine (lex_at [40, 97, 32, 34, 98, 92, 34, 34, 32, 59, 59, 32, 99] _ _ lex1 (by simp)).mono ?_
  rintro e w1 ⟨A1, c1, rfl, hown1, hb1⟩
  dsimp only [List.length_cons, List.length_nil] at hown1 ⊢
  go_wp2_with fail
  refine (lex_at [40, 59, 32, 97, 32, 40, 59, 32, 98, 32, 59, 41] _ _ lex2 (by simp)).mono ?_
  rintro e w2 ⟨A2, c2, rfl, _, hb2⟩
  dsimp only [List.length_cons, List.length_nil]
  go_wp2_with fail
  refine (lex_at [97, 44, 32, 98] _ _ lex3 (by simp)).mono ?_
  rintro e w3 ⟨A3, c3, rfl, _, hb3⟩
  dsimp only [List.length_cons, List.length_nil]
  go_wp2_with fail
  refine (lex_at [34, 97] _ _ lex4 (by simp)).mono ?_
  rintro e w4 ⟨A4, c4, rfl, _, hb4⟩
  dsimp only [List.length_cons, List.length_nil]
  have s1 := hb1.size
  have s2 := hb2.size
  have s3 := hb3.size
  have s4 := hb4.size
  have b14 : Below w1.heap.size w1 w4 := (hb2.trans (hb3.mono s2)).trans (hb4.mono (by omega))
  have hown4 := own_below hown1 b14 (Nat.le_refl _)
  have bw4 : Below w.heap.size w w4 := hb1.trans (b14.mono s1)
  clear hown1
  go_wp2_with fail
  refine (ours_any _ _ _ [⟨0, 0, []⟩, ⟨2, 1, [97]⟩, ⟨3, 3, [98, 92, 34]⟩, ⟨4, 13, []⟩] _ hown4 (by simp)).mono ?_
  rintro e w5 ⟨A5, c5, rfl, hown5, hb5⟩
  dsimp only [List.length_cons, List.length_nil] at hown5 ⊢
  go_wp2_with fail
  have hlit := World.ownsRow_lit (base := w5.heap.size) (e := 43) (size := 3) w5 #[.int .i64 0, .int .i64 0, .string { data := #[] }, .int .i64 2, .int .i64 1, .string { data := #[97] }, .int .i64 3, .int .i64 3, .string { data := #[98, 92, 34] }, .int .i64 4, .int .i64 13, .string { data := #[] }] 4 (Nat.le_refl _) (by unfold maxLen; omega) rfl
  refine (same_true _ _ _ _ _ _ [⟨0, 0, []⟩, ⟨2, 1, [97]⟩, ⟨3, 3, [98, 92, 34]⟩, ⟨4, 13, []⟩] _ (hown5.alloc _) hlit (by simp)).mono ?_
  rintro e w6 ⟨rfl, nq, rfl⟩
  clear hlit hown5
  go_wp2
  go_ret
  refine ⟨rfl, below_drewN ?_ _⟩
  have s5 := hb5.size
  exact (bw4.trans (hb5.mono (by omega))).alloc (by omega) _
end Go.Proofs.Ytngdfcommoenkaa
