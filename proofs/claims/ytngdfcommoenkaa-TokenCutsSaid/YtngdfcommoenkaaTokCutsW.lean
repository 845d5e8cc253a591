/-
  The walk of the law TokenCuts.
-/
import Derived.Test.YtngdfcommoenkaaTokAlive
import Derived.Test.YtngdfcommoenkaaTokCut
set_option linter.unusedVariables false
namespace Go.Proofs.Ytngdfcommoenkaa
open Go.RowKit

theorem cat3 (l m : List UInt8) : (({ data := l.toArray } : ByteArray) ++ ({ data := #[32] } : ByteArray) ++ ({ data := m.toArray } : ByteArray)) = { data := (l ++ 32 :: m).toArray } := by
  apply ByteArray.ext; simp

set_option maxHeartbeats 1000000 in
set_option maxRecDepth 100000 in
theorem tokenCuts_walk (l m : List UInt8) (w : World) (hl : l.length ≤ 9223372036854775807) (hm : m.length ≤ 9223372036854775807) :
    Calls Try.prog 6 #[.string ⟨l.toArray⟩, .string ⟨m.toArray⟩] w fun e w' => e = .returned (.bool true) ∧ Below w.heap.size w w' := by
  by_cases h1 : 1000 < l.length
  · go_enter Try.func6, Try.ntmps6
    go_wp2_with (go_at_call 8; refine (alive_any _).mono ?_; rintro e w1 ⟨rfl, hb⟩)
    go_ret
    exact ⟨rfl, hb⟩
  by_cases h2 : 1000 < m.length
  · go_enter Try.func6, Try.ntmps6
    go_wp2_with (go_at_call 8; refine (alive_any _).mono ?_; rintro e w1 ⟨rfl, hb⟩)
    go_ret
    exact ⟨rfl, hb⟩
  have g1 : decide ((1000 : Int) < (l.length : Int)) = false := by simp; omega
  have g2 : decide ((1000 : Int) < (m.length : Int)) = false := by simp; omega
  have hcut := fun a => Tok.cuts l m a (by omega) (by omega)
  have hl' : l.length ≤ 1000 := by omega
  have hm' : m.length ≤ 1000 := by omega
  clear hl hm h1 h2
  obtain ⟨⟨L, a, er⟩, hx⟩ : ∃ x, Tok.lexF l = x := ⟨_, rfl⟩
  obtain ⟨⟨L', a', er'⟩, hy⟩ : ∃ x, Tok.lexF (l ++ 32 :: m) = x := ⟨_, rfl⟩
  rw [hx, hy] at hcut
  dsimp only at hcut
  have HX := Lib.hid hx
  have HY := Lib.hid hy
  clear hx hy
  by_cases h4 : er = 4
  · obtain ⟨rfl, rfl⟩ : a' = a ∧ er' = 4 := by simpa using hcut a (by rw [h4])
    subst h4
    clear hcut
    go_enter Try.func6, Try.ntmps6
    go_wp2_with fail
    refine (lex_any l _ (by omega)).mono ?_
    rw [HX.out]
    rintro e w1 ⟨A1, c1, rfl, _, hb1⟩
    go_wp2_with fail
    rw [cat3]
    refine (lex_any (l ++ 32 :: m) _ (by simp; omega)).mono ?_
    rw [HY.out]
    rintro e w2 ⟨A2, c2, rfl, _, hb2⟩
    go_wp2_with (go_at_call 8; refine (alive_any _).mono ?_; rintro e w3 ⟨rfl, hb3⟩)
    go_ret
    exact ⟨rfl, (hb1.trans (hb2.mono hb1.size)).trans (hb3.mono (Nat.le_trans hb1.size hb2.size))⟩
  · have hne : (er != 4) = true := by simpa using h4
    clear hcut h4
    go_enter Try.func6, Try.ntmps6
    go_wp2_with fail
    refine (lex_any l _ (by omega)).mono ?_
    rw [HX.out]
    rintro e w1 ⟨A1, c1, rfl, _, hb1⟩
    go_wp2_with fail
    rw [cat3]
    refine (lex_any (l ++ 32 :: m) _ (by simp; omega)).mono ?_
    rw [HY.out]
    rintro e w2 ⟨A2, c2, rfl, _, hb2⟩
    go_wp2_with (go_at_call 8; refine (alive_any _).mono ?_; rintro e w3 ⟨rfl, hb3⟩)
    go_ret
    exact ⟨rfl, (hb1.trans (hb2.mono hb1.size)).trans (hb3.mono (Nat.le_trans hb1.size hb2.size))⟩
end Go.Proofs.Ytngdfcommoenkaa
