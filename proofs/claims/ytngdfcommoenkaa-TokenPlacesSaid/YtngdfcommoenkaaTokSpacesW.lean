/-
  The walk of the law TokenSpaces.
-/
import Derived.Test.YtngdfcommoenkaaTokAlive
set_option linter.unusedVariables false
namespace Go.Proofs.Ytngdfcommoenkaa
open Go.RowKit

def spaceF (a b : Int) : Bool := a != 0 && b != 1 && a != 4 && b != 4
theorem tokSpace_any (a b x y : Int) (s t : ByteArray) (w : World) : Calls Try.prog 15 #[.agg #[.int .i64 a, .int .i64 x, .string s], .agg #[.int .i64 b, .int .i64 y, .string t]] w fun e w' => e = .returned (.bool (spaceF a b)) ∧ Below w.heap.size w w' := by
  unfold spaceF
  rcases h1 : (a != 0) with _ | _ <;> rcases h2 : (b != 1) with _ | _ <;> rcases h3 : (a != 4) with _ | _ <;> rcases h4 : (b != 4) with _ | _
  all_goals
    go_enter Try.func15, Try.ntmps15
    go_wp2
    go_ret
    exact ⟨rfl, ((Below.refl _ _).alloc (Nat.le_refl _) _).alloc (by simp) _⟩
theorem refSpace_any (a b x y : Int) (s t : ByteArray) (w : World) : Calls Try.prog 16 #[.agg #[.int .i64 a, .int .i64 x, .string s], .agg #[.int .i64 b, .int .i64 y, .string t]] w fun e w' => e = .returned (.bool (spaceF a b)) ∧ Below w.heap.size w w' := by
  unfold spaceF
  rcases h1 : (a != 0) with _ | _ <;> rcases h2 : (b != 1) with _ | _ <;> rcases h3 : (a != 4) with _ | _ <;> rcases h4 : (b != 4) with _ | _
  all_goals
    go_enter Try.func16, Try.ntmps16
    go_wp2
    go_ret
    exact ⟨rfl, ((Below.refl _ _).alloc (Nat.le_refl _) _).alloc (by simp) _⟩

set_option maxHeartbeats 1000000 in
set_option maxRecDepth 100000 in
theorem tokenSpaces_walk (a b : Int) (w : World) :
    Calls Try.prog 7 #[.int .i64 a, .int .i64 b] w fun e w' => e = .returned (.bool true) ∧ Below w.heap.size w w' := by
  obtain ⟨v, hv⟩ : ∃ v, spaceF a b = v := ⟨_, rfl⟩
  have HV := Lib.hid hv
  clear hv
  go_enter Try.func7, Try.ntmps7
  go_wp2_with fail
  refine (tokSpace_any a b 0 0 _ _ _).mono ?_
  rintro e w1 ⟨rfl, hb1⟩
  rw [HV.out]
  go_wp2_with fail
  refine (refSpace_any a b 0 0 _ _ _).mono ?_
  rintro e w2 ⟨rfl, hb2⟩
  rw [HV.out]
  go_wp2_with fail
  refine (alive_any _).mono ?_
  rintro e w3 ⟨rfl, hb3⟩
  go_wp2
  go_ret
  have s1 := hb1.size
  have s2 := hb2.size
  simp at s1
  exact ⟨rfl, (((((Below.refl _ _).alloc (Nat.le_refl _) _).alloc (by simp) _).trans (hb1.mono (by simp; omega))).trans (hb2.mono (by omega))).trans (hb3.mono (by omega))⟩
end Go.Proofs.Ytngdfcommoenkaa
