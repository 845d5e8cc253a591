/-
  literal.magnitude at any string: digits, an underscore between them, decimal or hexadecimal; the number, whether it passes 64 bits, whether the syntax is right.
-/
import Derived.Test.YtpmalmednkknpaaDoorShelf
import Derived.Test.YtpmalmednkknpaaDoorLitName
import Derived.Laws.Externs
set_option linter.unusedVariables false
namespace Go.Proofs.YtpmalmednkknpaaDoor
open Go.RowKit
attribute [local go_sem] ByteArray.extract_mk

namespace Ltr
/-- The value of a hexadecimal digit, or -1. -/
def dig (c : UInt8) : Int := if 48 ≤ c.toNat ∧ c.toNat ≤ 57 then (c.toNat : Int) - 48 else if 97 ≤ c.toNat ∧ c.toNat ≤ 102 then (c.toNat : Int) - 87 else if 65 ≤ c.toNat ∧ c.toNat ≤ 70 then (c.toNat : Int) - 55 else -1
/-- The digits from N on; b: a digit stands before them. -/
def mgo (base : Nat) : List UInt8 → Nat → Bool → Option (Nat × Bool)
  | [], N, b => some (N, b)
  | c :: r, N, b => if (c == 95) && b then mgo base r N false else if dig c < 0 ∨ (base : Int) ≤ dig c then none else mgo base r (N * base + (dig c).toNat) true
def hexed (s : List UInt8) : Bool := decide (2 < s.length) && (s.take 2 == [48, 120])
def mag (s : List UInt8) : Option (Nat × Bool) := if hexed s then mgo 16 (s.drop 2) 0 false else mgo 10 s 0 false
def magR (o : Option (Nat × Bool)) : Nat × Bool × Bool := match o with | none => (0, false, false) | some x => (x.1 % 18446744073709551616, decide (18446744073709551616 ≤ x.1), x.2)
theorem dig_le (c : UInt8) : -1 ≤ dig c ∧ dig c ≤ 15 := by
  unfold dig
  split
  · omega
  · split
    · omega
    · split <;> omega
end Ltr

theorem add64_any (x y : Nat) (w : World) : (callFunc 39 #[.int .u64 (x : Int), .int .u64 (y : Int), .int .u64 0]).run Tryd.prog w =
    .ok (.value (.tuple #[.int .u64 (((x + y) % 18446744073709551616 : Nat) : Int), .int .u64 (((x + y) / 18446744073709551616 : Nat) : Int)])) w := by
  rw [run_callFunc_extern Tryd.func39 (by kernel_rfl) (by kernel_rfl) (by kernel_rfl) (e := add64Entry) (by kernel_rfl), run_add64 x y 0 (by omega) (by omega) (by omega) (by omega)]
  simp only [Result.andThen]
  congr 5 <;> omega

set_option maxHeartbeats 1000000 in
set_option maxRecDepth 100000 in
theorem ldigit_any (c : UInt8) (w : World) : Calls Tryd.prog 34 #[.int .u8 (c.toNat : Int)] w fun e w' => e = .returned (.int .i64 (Ltr.dig c)) ∧ w = w' := by
  have hc := c.toNat_lt
  unfold Ltr.dig
  obtain ⟨n, hn⟩ : ∃ n : Int, (c.toNat : Int) = n := ⟨_, rfl⟩
  by_cases h1 : 48 ≤ c.toNat ∧ c.toNat ≤ 57
  · rw [if_pos h1, hn]
    have a1 : decide (48 ≤ n) = true := by simp; omega
    have a2 : decide (n ≤ 57) = true := by simp; omega
    have w1 : IntKind.u8.wrap (n - 48) = n - 48 := by rw [IntKind.wrap_u8]; omega
    have w2 : IntKind.i64.wrap (n - 48) = n - 48 := by rw [IntKind.wrap_i64]; omega
    clear hn h1
    go_enter Tryd.func34, Tryd.ntmps34
    go_wp2
    go_ret
    exact ⟨rfl, rfl⟩
  · rw [if_neg h1]
    have hA : (decide (48 ≤ n) = false) ∨ (decide (48 ≤ n) = true ∧ decide (n ≤ 57) = false) := by
      by_cases h : 48 ≤ n
      · exact .inr ⟨by simpa using h, by simp; omega⟩
      · exact .inl (by simpa using h)
    by_cases h2 : 97 ≤ c.toNat ∧ c.toNat ≤ 102
    · rw [if_pos h2, hn]
      have a1 : decide (97 ≤ n) = true := by simp; omega
      have a2 : decide (n ≤ 102) = true := by simp; omega
      have w1 : IntKind.u8.wrap (n - 97) = n - 97 := by rw [IntKind.wrap_u8]; omega
      have w2 : IntKind.i64.wrap (n - 97) = n - 97 := by rw [IntKind.wrap_i64]; omega
      have w3 : IntKind.i64.wrap (n - 97 + 10) = n - 87 := by rw [IntKind.wrap_i64]; omega
      clear hn h1 h2
      rcases hA with hA | ⟨hA, hA2⟩
      all_goals
        go_enter Tryd.func34, Tryd.ntmps34
        go_wp2
        go_ret
        exact ⟨rfl, rfl⟩
    · rw [if_neg h2]
      have hB : (decide (97 ≤ n) = false) ∨ (decide (97 ≤ n) = true ∧ decide (n ≤ 102) = false) := by
        by_cases h : 97 ≤ n
        · exact .inr ⟨by simpa using h, by simp; omega⟩
        · exact .inl (by simpa using h)
      by_cases h3 : 65 ≤ c.toNat ∧ c.toNat ≤ 70
      · rw [if_pos h3, hn]
        have a1 : decide (65 ≤ n) = true := by simp; omega
        have a2 : decide (n ≤ 70) = true := by simp; omega
        have w1 : IntKind.u8.wrap (n - 65) = n - 65 := by rw [IntKind.wrap_u8]; omega
        have w2 : IntKind.i64.wrap (n - 65) = n - 65 := by rw [IntKind.wrap_i64]; omega
        have w3 : IntKind.i64.wrap (n - 65 + 10) = n - 55 := by rw [IntKind.wrap_i64]; omega
        clear hn h1 h2 h3
        rcases hA with hA | ⟨hA, hA2⟩ <;> rcases hB with hB | ⟨hB, hB2⟩
        all_goals
          go_enter Tryd.func34, Tryd.ntmps34
          go_wp2
          go_ret
          exact ⟨rfl, rfl⟩
      · rw [if_neg h3, hn]
        have hC : (decide (65 ≤ n) = false) ∨ (decide (65 ≤ n) = true ∧ decide (n ≤ 70) = false) := by
          by_cases h : 65 ≤ n
          · exact .inr ⟨by simpa using h, by simp; omega⟩
          · exact .inl (by simpa using h)
        clear hn h1 h2 h3
        rcases hA with hA | ⟨hA, hA2⟩ <;> rcases hB with hB | ⟨hB, hB2⟩ <;> rcases hC with hC | ⟨hC, hC2⟩
        all_goals
          go_enter Tryd.func34, Tryd.ntmps34
          go_wp2
          go_ret
          exact ⟨rfl, rfl⟩
end Go.Proofs.YtpmalmednkknpaaDoor
