/-
  The reference's Nat.
-/
import Derived.Test.YtpmalmednkknpaaDoorLitRMag
set_option linter.unusedVariables false
namespace Go.Proofs.YtpmalmednkknpaaDoor
open Go.RowKit

set_option maxHeartbeats 1000000 in
set_option maxRecDepth 100000 in
theorem rnat_any (l : List UInt8) (m : Int) (w : World) (hl : l.length ≤ 1000000) (hm : m ≤ 9223372036854775807) : Calls Tryd.prog 19 #[.string ⟨l.toArray⟩, .int .i64 m] w fun e w' =>
    e = .returned (.tuple #[.int .i64 (Ltr.natF l m).1, .int .i64 (Ltr.natF l m).2]) ∧ w = w' := by
  have hmag := digits_any l w hl
  unfold Ltr.natF
  obtain ⟨⟨n, o, b⟩, hR⟩ : ∃ x, Ltr.magR (Ltr.mag l) = x := ⟨_, rfl⟩
  rw [hR] at hmag ⊢
  dsimp only at hmag ⊢
  have hn : n < 18446744073709551616 := by
    have : (Ltr.magR (Ltr.mag l)).1 = n := by rw [hR]
    rw [← this]
    unfold Ltr.magR
    split
    · simp
    · exact Nat.mod_lt _ (by omega)
  have HG := Lib.hid hmag
  clear hmag hR
  rcases b with _ | _
  · rw [if_pos rfl]
    go_enter Tryd.func19, Tryd.ntmps19
    go_wp2_with (go_at_call 27; refine HG.out.mono ?_; rintro e w1 ⟨rfl, rfl⟩)
    go_ret2
    exact ⟨rfl, rfl⟩
  · rw [if_neg (by decide)]
    rcases o with _ | _
    · by_cases h0 : m < 0
      · rw [if_pos (.inr (.inl h0))]
        have d0 : decide (m < 0) = true := by simpa using h0
        go_enter Tryd.func19, Tryd.ntmps19
        go_wp2_with (go_at_call 27; refine HG.out.mono ?_; rintro e w1 ⟨rfl, rfl⟩)
        go_ret2
        exact ⟨rfl, rfl⟩
      · have d0 : decide (m < 0) = false := by simpa using h0
        have u1 : IntKind.u64.wrap m = m := by rw [IntKind.wrap_u64]; omega
        by_cases h1 : m < (n : Int)
        · rw [if_pos (.inr (.inr h1))]
          have d1 : decide (m < (n : Int)) = true := by simpa using h1
          go_enter Tryd.func19, Tryd.ntmps19
          go_wp2_with (go_at_call 27; refine HG.out.mono ?_; rintro e w1 ⟨rfl, rfl⟩)
          go_ret2
          exact ⟨rfl, rfl⟩
        · rw [if_neg (by simp; omega)]
          have d1 : decide (m < (n : Int)) = false := by simpa using h1
          have u2 : IntKind.i64.wrap (n : Int) = (n : Int) := by rw [IntKind.wrap_i64]; omega
          go_enter Tryd.func19, Tryd.ntmps19
          go_wp2_with (go_at_call 27; refine HG.out.mono ?_; rintro e w1 ⟨rfl, rfl⟩)
          go_ret2
          exact ⟨rfl, rfl⟩
    · rw [if_pos (.inl rfl)]
      go_enter Tryd.func19, Tryd.ntmps19
      go_wp2_with (go_at_call 27; refine HG.out.mono ?_; rintro e w1 ⟨rfl, rfl⟩)
      go_ret2
      exact ⟨rfl, rfl⟩

end Go.Proofs.YtpmalmednkknpaaDoor
