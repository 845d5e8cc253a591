/-
  The walk of the law TokenLexes.
-/
import Derived.Test.YtngdfcommoenkaaTokAlive
import Derived.Test.YtngdfcommoenkaaTokRefLex2
set_option linter.unusedVariables false
namespace Go.Proofs.Ytngdfcommoenkaa
open Go.RowKit

theorem lexAt_len {l : List UInt8} : ∀ (f k : Nat) (acc : List Tok.Tk), l.length ≤ k + f → k ≤ l.length → acc.length ≤ k → (Tok.lexAt l k acc).1.length ≤ l.length + 1 := by
  intro f
  induction f with
  | zero => intro k acc hf hk ha; rw [Tok.lexAt_end (by omega)]; simp; omega
  | succ f ih =>
    intro k acc hf hk ha
    by_cases h : k < l.length
    · rcases hs : Tok.step l k with x | ⟨t, j⟩
      · rw [Tok.lexAt_error h acc hs]; simp
      · have hj := Tok.step_ok h hs
        dsimp only at hj
        rw [Tok.lexAt_ok h acc hs]
        refine ih j _ (by omega) hj.2 ?_
        rcases t with _ | t <;> simp <;> omega
    · rw [Tok.lexAt_end (by omega)]; simp; omega
theorem lexF_len (l : List UInt8) : (Tok.lexF l).1.length ≤ l.length + 1 := by
  by_cases h : 1048576 < l.length
  · rw [Tok.lexF, if_pos h]; simp
  · have e1 : Tok.lexF l = Tok.lexAt l 0 [] := by rw [Tok.lexF, if_neg h, Tok.lexAt, Nat.sub_zero]
    rw [e1]; exact lexAt_len l.length 0 [] (by omega) (by omega) (by simp)

set_option maxHeartbeats 1000000 in
set_option maxRecDepth 100000 in
theorem tokenLexes_walk (l : List UInt8) (w : World) (hl : l.length ≤ 9223372036854775807) :
    Calls Try.prog 3 #[.string ⟨l.toArray⟩] w fun e w' => e = .returned (.bool true) ∧ Below w.heap.size w w' := by
  by_cases h1 : 2000 < l.length
  · go_enter Try.func3, Try.ntmps3
    go_wp2_with (go_at_call 8; refine (alive_any _).mono ?_; rintro e w1 ⟨rfl, hb⟩)
    go_ret
    exact ⟨rfl, hb⟩
  have g1 : decide ((2000 : Int) < (l.length : Int)) = false := by simp; omega
  have hlen := lexF_len l
  have hl' : l.length ≤ 2000 := by omega
  clear hl h1
  obtain ⟨⟨L, a, er⟩, hx⟩ : ∃ x, Tok.lexF l = x := ⟨_, rfl⟩
  rw [hx] at hlen
  dsimp only at hlen
  have HX := Lib.hid hx
  clear hx
  go_enter Try.func3, Try.ntmps3
  go_wp2_with fail
  refine (lex_any l _ (by omega)).mono ?_
  rw [HX.out]
  rintro e w1 ⟨A1, c1, rfl, hown1, hb1⟩
  dsimp only at hown1 ⊢
  go_wp2_with fail
  refine (refLex_any l _ (by omega)).mono ?_
  rw [HX.out]
  rintro e w2 ⟨A2, c2, rfl, hown2, hb2⟩
  dsimp only at hown2 ⊢
  have ho2 := own_below hown1 hb2 (Nat.le_refl _)
  go_wp2_with fail
  refine (ours_any _ A1 c1 L _ ho2 (by omega)).mono ?_
  rintro e w3 ⟨A3, c3, rfl, hown3, hb3⟩
  have ho3 := own_below hown2 hb3 (Nat.le_refl _)
  go_wp2_with fail
  refine (same_true _ _ A3 A2 c3 c2 L _ hown3 ho3 (by omega)).mono ?_
  rintro e w4 ⟨rfl, nq, rfl⟩
  clear hown1 hown2 hown3 ho2 ho3
  go_wp2_with (go_at_call 8; refine (alive_any _).mono ?_; rintro e w5 ⟨rfl, hb5⟩)
  go_ret
  have s1 := hb1.size
  have s2 := hb2.size
  have s3 := hb3.size
  have b3 : Below w.heap.size w w3 := (hb1.trans (hb2.mono s1)).trans (hb3.mono (by omega))
  exact ⟨rfl, (below_drewN b3 nq).trans (hb5.mono (by have h : (w3.drewN nq).heap.size = w3.heap.size := rfl
                                                      omega))⟩
end Go.Proofs.Ytngdfcommoenkaa
