/-
  Layer 27 as plain functions: the text of a value, and what the two parses guess from it.
-/
import Derived.Test.YtilflcbmejhepaaDoorRows
import Derived.Lib.ItoaNum
import Derived.Lib.ItoaMem
import Derived.Lib.ParseIntB
set_option linter.unusedVariables false
namespace Go.Proofs.YtilflcbmejhepaaDoor.Val
open Go.Lib

/-- A value: its type and its bits. -/
structure V where
  t : Int
  n : Nat
  deriving DecidableEq
def right (v : V) : Bool := decide (1 ≤ v.t ∧ v.t ≤ 4 ∧ (v.t = 1 → v.n < 4294967296))
def s32 (n : Nat) : Int := if n % 4294967296 < 2147483648 then ((n % 4294967296 : Nat) : Int) else ((n % 4294967296 : Nat) : Int) - 4294967296
def s64 (n : Nat) : Int := if n < 9223372036854775808 then (n : Int) else (n : Int) - 18446744073709551616
def bFunc : List UInt8 := [102, 117, 110, 99]
def bExtern : List UInt8 := [101, 120, 116, 101, 114, 110]
def refT (n : Nat) (kind : List UInt8) : List UInt8 := if n = 0 then [114, 101, 102, 46, 110, 117, 108, 108, 32] ++ kind else [114, 101, 102, 46] ++ kind ++ [32] ++ decDigits (n - 1)
def text (v : V) : List UInt8 :=
  if right v = true then
    if v.t = 1 then [105, 51, 50, 32] ++ itoa (s32 v.n)
    else if v.t = 2 then [105, 54, 52, 32] ++ itoa (s64 v.n)
    else if v.t = 3 then refT v.n bFunc
    else refT v.n bExtern
  else []

/-! Decimal digits. -/
theorem dec_small {u : Nat} (h : u < 10) : decDigits u = [UInt8.ofNat (48 + u)] := by rw [decDigits, dif_pos h]
theorem dec_big {u : Nat} (h : ¬ u < 10) : decDigits u = decDigits (u / 10) ++ [UInt8.ofNat (48 + u % 10)] := by rw [decDigits, dif_neg h]
theorem dig_nat {d : Nat} (h : d < 10) : (UInt8.ofNat (48 + d)).toNat = 48 + d := by rw [UInt8.toNat_ofNat']; omega
theorem dec_digit (u : Nat) : ∀ c ∈ decDigits u, 48 ≤ c.toNat ∧ c.toNat ≤ 57 := by
  induction u using Nat.strongRecOn with
  | _ u ih =>
    intro c hc
    by_cases h : u < 10
    · rw [dec_small h] at hc
      obtain rfl := List.mem_singleton.1 hc
      rw [dig_nat h]; omega
    · rw [dec_big h] at hc
      rcases List.mem_append.1 hc with h1 | h1
      · exact ih _ (by omega) c h1
      · obtain rfl := List.mem_singleton.1 h1
        rw [dig_nat (by omega)]; omega
theorem dec_ne (u : Nat) : decDigits u ≠ [] := by
  by_cases h : u < 10
  · rw [dec_small h]; simp
  · rw [dec_big h]; simp
theorem dec_len (u : Nat) : ∀ k, u < 10 ^ (k + 1) → (decDigits u).length ≤ k + 1 := by
  induction u using Nat.strongRecOn with
  | _ u ih =>
    intro k hk
    by_cases h : u < 10
    · rw [dec_small h]; simp
    · rcases k with _ | k
      · omega
      · rw [dec_big h, List.length_append]
        have := ih (u / 10) (by omega) k (by rw [Nat.pow_succ] at hk; omega)
        simp; omega
theorem dec_len64 {u : Nat} (h : u < 18446744073709551616) : (decDigits u).length ≤ 20 := dec_len u 19 (by omega)
theorem parseM_snoc (M : Nat) (c : UInt8) : ∀ (l : List UInt8) (acc : Nat), parseUintM M acc (l ++ [c]) = match parseUintM M acc l with | .ok a => parseUintM M a [c] | .syntax => .syntax | .range => .range
  | [], acc => rfl
  | d :: l, acc => by
    rw [List.cons_append, parseUintM, parseUintM]
    split
    · split
      · rfl
      · split
        · rfl
        · exact parseM_snoc M c l _
    · rfl
theorem parseM_dec (u : Nat) (h : u < 18446744073709551616) : parseUintM (2 ^ 64 - 1) 0 (decDigits u) = .ok u := by
  induction u using Nat.strongRecOn with
  | _ u ih =>
    by_cases hu : u < 10
    · rw [dec_small hu, parseUintM, dig_nat hu, if_pos (by omega), if_neg (by omega), if_neg (by omega), parseUintM]
      congr 1; omega
    · rw [dec_big hu, parseM_snoc, ih (u / 10) (by omega) (by omega)]
      dsimp only
      rw [parseUintM, dig_nat (by omega), if_pos (by omega), if_neg (by omega), if_neg (by omega), parseUintM]
      congr 1; omega
theorem parseU_dec (u : Nat) (h : u < 18446744073709551616) : parseUintB 64 (decDigits u) = .ok u := by
  rw [parseUintB, if_neg (dec_ne u), parseM_dec u h]
theorem parseI_itoa (k : Int) (h0 : -9223372036854775808 ≤ k) (h1 : k ≤ 9223372036854775807) : parseIntB 64 (itoa k) = .ok k := by
  unfold itoa
  by_cases hk : k < 0
  · rw [if_pos hk, parseIntB]
    (try dsimp only)
    rw [if_pos (Or.inr (by decide)), parseU_dec _ (by omega)]
    dsimp only
    rw [if_neg (by simp), if_neg (by simp; omega), if_pos (by decide)]
    congr 1; omega
  · rw [if_neg hk]
    rcases hd : decDigits k.toNat with _ | ⟨c, r⟩
    · exact absurd hd (dec_ne _)
    · have hc := dec_digit k.toNat c (by rw [hd]; simp)
      rw [parseIntB]
      (try dsimp only)
      rw [if_neg (by omega), ← hd, parseU_dec _ (by omega)]
      dsimp only
      rw [if_neg (by simp; omega), if_neg (by omega), if_neg (by omega)]
      congr 1; omega

/-! The reference's guess. -/
def dg : Nat → List UInt8 → Nat
  | n, [] => n
  | n, c :: r => dg (if 48 ≤ c.toNat ∧ c.toNat ≤ 57 then (n * 10 + (c.toNat - 48)) % 18446744073709551616 else n) r
def minus (s : List UInt8) : Bool := s.any (fun c => c == 45)
theorem dg_app : ∀ (a b : List UInt8) (n : Nat), dg n (a ++ b) = dg (dg n a) b
  | [], b, n => rfl
  | c :: a, b, n => by rw [List.cons_append, dg, dg, dg_app a b]
theorem dg_none : ∀ (a : List UInt8) (n : Nat), (∀ c ∈ a, ¬ (48 ≤ c.toNat ∧ c.toNat ≤ 57)) → dg n a = n
  | [], n, _ => rfl
  | c :: a, n, h => by rw [dg, if_neg (h c (by simp)), dg_none a n fun d hd => h d (by simp [hd])]
theorem dg_dec (u : Nat) (h : u < 18446744073709551616) : dg 0 (decDigits u) = u := by
  induction u using Nat.strongRecOn with
  | _ u ih =>
    by_cases hu : u < 10
    · rw [dec_small hu, dg, dig_nat hu, if_pos (by omega), dg]; omega
    · rw [dec_big hu, dg_app, ih (u / 10) (by omega) (by omega), dg, dig_nat (by omega), if_pos (by omega), dg]; omega
theorem minus_dec (u : Nat) : minus (decDigits u) = false := by
  unfold minus
  rw [List.any_eq_false]
  intro c hc h
  have := dec_digit u c hc
  have e : c = 45 := by simpa using h
  subst e
  exact absurd this (by decide)
theorem minus_app (a b : List UInt8) : minus (a ++ b) = (minus a || minus b) := by unfold minus; rw [List.any_append]
/-- The bits of a decimal number with its sign: modulo 2^64. -/
def sgn (neg : Bool) (n : Nat) : Nat := if neg = true then (18446744073709551616 - n) % 18446744073709551616 else n
theorem itoa_guess (k : Int) (h0 : -9223372036854775808 ≤ k) (h1 : k ≤ 9223372036854775807) : (sgn (minus (itoa k)) (dg 0 (itoa k)) : Int) = k % 18446744073709551616 := by
  unfold itoa
  by_cases hk : k < 0
  · rw [if_pos hk, show (45 : UInt8) :: decDigits k.natAbs = [45] ++ decDigits k.natAbs from rfl, minus_app, dg_app, dg_none [45] 0 (by decide), dg_dec _ (by omega)]
    rw [show minus [45] = true from rfl, Bool.true_or, sgn, if_pos rfl]
    omega
  · rw [if_neg hk, minus_dec, dg_dec _ (by omega), sgn, if_neg (by decide)]
    omega
theorem s32_bits {n : Nat} (h : n < 4294967296) : (s32 n % 18446744073709551616).toNat % 4294967296 = n := by unfold s32; split <;> omega
theorem s64_bits {n : Nat} (h : n < 18446744073709551616) : (s64 n % 18446744073709551616).toNat = n := by unfold s64; split <;> omega
theorem s32_in (n : Nat) : -2147483648 ≤ s32 n ∧ s32 n ≤ 2147483647 := by unfold s32; split <;> omega
theorem s64_in {n : Nat} (h : n < 18446744073709551616) : -9223372036854775808 ≤ s64 n ∧ s64 n ≤ 9223372036854775807 := by unfold s64; split <;> omega
end Go.Proofs.YtilflcbmejhepaaDoor.Val
