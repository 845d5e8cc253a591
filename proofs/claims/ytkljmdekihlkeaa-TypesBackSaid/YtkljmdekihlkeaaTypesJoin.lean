/-
  The list text, grown by one: plain lemmas for the reference's list.
-/
import Derived.Test.YtkljmdekihlkeaaTypesFun3
set_option linter.unusedVariables false
namespace Go.Proofs.Ytkljmdekihlkeaa
open Go.RowKit

theorem join_snoc (xs : List (List UInt8)) (y : List UInt8) (sep : List UInt8) : Lib.join (xs ++ [y]) sep = if xs = [] then y else Lib.join xs sep ++ (sep ++ y) := by
  induction xs with
  | nil => simp [Lib.join]
  | cons x xs ih =>
    cases xs with
    | nil => simp [Lib.join]
    | cons z zs =>
      simp only [List.cons_append] at ih ⊢
      simp [Lib.join] at ih ⊢
      simp [ih]

/-- The reference's text so far: the first k types, without the closing bracket. -/
def Ty.part (vs : List Int) (k : Nat) : List UInt8 := 40 :: Lib.join ((vs.take k).map Ty.shown) [44, 32]
theorem Ty.part_zero (vs : List Int) : Ty.part vs 0 = [40] := by simp [Ty.part, Lib.join]
theorem Ty.part_all (vs : List Int) : Ty.list vs = Ty.part vs vs.length ++ [41] := by simp [Ty.part, Ty.list]
theorem Ty.part_first (vs : List Int) (h : 0 < vs.length) : Ty.part vs (0 + 1) = Ty.part vs 0 ++ Ty.shown vs[0] := by
  unfold Ty.part
  rw [List.take_succ_eq_append_getElem h, List.map_append]
  simp [Lib.join]
theorem Ty.part_next (vs : List Int) (k : Nat) (hk : 0 < k) (h : k < vs.length) : Ty.part vs (k + 1) = (Ty.part vs k ++ [44, 32]) ++ Ty.shown vs[k] := by
  unfold Ty.part
  rw [List.take_succ_eq_append_getElem h, List.map_append, List.map_cons, List.map_nil, join_snoc, if_neg]
  · simp
  · intro e
    have h2 : (vs.take k).length = 0 := by rw [List.map_eq_nil_iff.1 e]; rfl
    rw [List.length_take] at h2
    omega
theorem Ty.part_len (vs : List Int) (k : Nat) : (Ty.part vs k).length ≤ 1 + 11 * k := by
  induction k with
  | zero => simp [Ty.part_zero]
  | succ k ih =>
    by_cases h : k < vs.length
    · have hs := Ty.shown_len vs[k]
      rcases Nat.eq_zero_or_pos k with rfl | hk
      · rw [Ty.part_first vs h, List.length_append]
        omega
      · rw [Ty.part_next vs k hk h]
        simp only [List.length_append, List.length_cons, List.length_nil]
        omega
    · have e : vs.take (k + 1) = vs.take k := by rw [List.take_of_length_le (by omega), List.take_of_length_le (by omega)]
      have : Ty.part vs (k + 1) = Ty.part vs k := by unfold Ty.part; rw [e]
      rw [this]
      omega
end Go.Proofs.Ytkljmdekihlkeaa
