/-
  Plain mathematics of LEB128: what PutU, PutS append, with no program in sight.
-/
import Derived.Test.YtagcildoebicnaaRows
import Derived.Laws.BitsAllLaws
import Derived.Laws.BitsLemmas
set_option linter.unusedVariables false
namespace Go.Proofs.Ytagcildoebicnaa.Leb

/-- The shortest unsigned encoding. -/
def putU (n : Nat) : List UInt8 := if n < 128 then [UInt8.ofNat n] else UInt8.ofNat (n % 128 + 128) :: putU (n / 128)
  termination_by n
  decreasing_by omega

/-- The shortest signed encoding. -/
def putS (n : Int) : List UInt8 := if -64 ≤ n ∧ n ≤ 63 then [UInt8.ofNat (n % 128).toNat] else UInt8.ofNat ((n % 128).toNat + 128) :: putS (n / 128)
  termination_by n.natAbs
  decreasing_by omega

theorem putU_small {n : Nat} (h : n < 128) : putU n = [UInt8.ofNat n] := by rw [putU, if_pos h]
theorem putU_big {n : Nat} (h : ¬ n < 128) : putU n = UInt8.ofNat (n % 128 + 128) :: putU (n / 128) := by rw [putU, if_neg h]
theorem putS_small {n : Int} (h : -64 ≤ n ∧ n ≤ 63) : putS n = [UInt8.ofNat (n % 128).toNat] := by rw [putS, if_pos h]
theorem putS_big {n : Int} (h : ¬ (-64 ≤ n ∧ n ≤ 63)) : putS n = UInt8.ofNat ((n % 128).toNat + 128) :: putS (n / 128) := by rw [putS, if_neg h]

theorem putU_len (k : Nat) : ∀ n, n < 128 ^ (k + 1) → (putU n).length ≤ k + 1 := by
  induction k with
  | zero => intro n h; rw [putU_small (by simpa using h)]; simp
  | succ k ih =>
    intro n h
    by_cases hn : n < 128
    · rw [putU_small hn]; simp
    · rw [putU_big hn]
      have := ih (n / 128) (by rw [Nat.pow_succ] at h; omega)
      simp; omega
theorem putU_len10 (n : Nat) (h : n < 18446744073709551616) : (putU n).length ≤ 10 := putU_len 9 n (by omega)
theorem putU_pos (n : Nat) : 0 < (putU n).length := by
  by_cases hn : n < 128
  · rw [putU_small hn]; simp
  · rw [putU_big hn]; simp
theorem putS_len (k : Nat) : ∀ n : Int, -(64 * 128 ^ k : Nat) ≤ n → n < (64 * 128 ^ k : Nat) → (putS n).length ≤ k + 1 := by
  induction k with
  | zero => intro n h h'; rw [putS_small (by constructor <;> omega)]; simp
  | succ k ih =>
    intro n h h'
    by_cases hn : -64 ≤ n ∧ n ≤ 63
    · rw [putS_small hn]; simp
    · rw [putS_big hn]
      have := ih (n / 128) (by rw [Nat.pow_succ] at h; omega) (by rw [Nat.pow_succ] at h'; omega)
      simp; omega
theorem putS_len10 (n : Int) (h : -9223372036854775808 ≤ n) (h' : n ≤ 9223372036854775807) : (putS n).length ≤ 10 := putS_len 9 n (by omega) (by omega)
theorem putS_pos (n : Int) : 0 < (putS n).length := by
  by_cases hn : -64 ≤ n ∧ n ≤ 63
  · rw [putS_small hn]; simp
  · rw [putS_big hn]; simp

theorem byteNat (n : Nat) (h : n < 256) : ((UInt8.ofNat n).toNat : Int) = (n : Int) := by
  rw [UInt8.toNat_ofNat']; omega
theorem or128_fin : ∀ x : Fin 256, (x.val ||| 128) = x.val % 128 + 128 := by decide +kernel
theorem and127_fin : ∀ x : Fin 256, (x.val &&& 127) = x.val % 128 := by decide +kernel
theorem or128 (x : Int) (h0 : 0 ≤ x) (h1 : x < 256) : bits .or .u8 x 128 = x % 128 + 128 := by
  rw [u8_or x 128 h0 h1 (by omega) (by omega)]
  have := or128_fin ⟨x.toNat, by omega⟩
  simp only [show (128 : Int).toNat = 128 from rfl]
  simp only at this
  omega
theorem and127 (x : Int) (h0 : 0 ≤ x) (h1 : x < 256) : bits .and .u8 x 127 = x % 128 := by
  rw [u8_and x 127 h0 h1 (by omega) (by omega)]
  have := and127_fin ⟨x.toNat, by omega⟩
  simp only [show (127 : Int).toNat = 127 from rfl]
  simp only at this
  omega
theorem and127_i64 (n : Int) (h0 : -9223372036854775808 ≤ n) (h1 : n ≤ 9223372036854775807) : bits .and .i64 n 127 = n % 128 := by
  show IntKind.i64.wrap ((BitVec.ofInt 64 n &&& BitVec.ofInt 64 127).toNat : Int) = _
  rw [BitVec.toNat_and]
  have e1 : (BitVec.ofInt 64 127).toNat = 2 ^ 7 - 1 := by decide
  rw [e1, Nat.and_two_pow_sub_one_eq_mod, BitVec.toNat_ofInt, IntKind.wrap_i64]
  omega
theorem wrapU (n : Int) (h0 : 0 ≤ n) (h1 : n ≤ 18446744073709551615) : IntKind.u64.wrap n = n := by
  rw [IntKind.wrap_u64]; omega
end Go.Proofs.Ytagcildoebicnaa.Leb
