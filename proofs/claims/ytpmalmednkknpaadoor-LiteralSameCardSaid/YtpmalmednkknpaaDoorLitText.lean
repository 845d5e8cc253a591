/-
  literal.Text, at the price of strconv's table of powers of ten.
-/
import Derived.Test.YtpmalmednkknpaaDoorShelf
import Derived.Test.YtpmalmednkknpaaDoorLitRNum
set_option linter.unusedVariables false
namespace Go.Proofs.YtpmalmednkknpaaDoor
open Go.RowKit
attribute [local go_sem] ByteArray.extract_mk

/-- strconv's table of powers of ten lies where the program laid it. -/
def Tab (w : World) : Prop := Lib.TabIs Tryd.prog w "internal/strconv.uint64pow10" .u64 Lib.pow10Tab
theorem Tab.below {w w' : World} (h : Tab w) (hb : Below w.heap.size w w') : Tab w' := by
  unfold Tab Lib.TabIs World.var? at *
  cases hg : Tryd.prog.globalNamed "internal/strconv.uint64pow10" with
  | none => rw [hg] at h; cases h
  | some g =>
    rw [hg] at h
    simp only [Option.bind_some] at h ⊢
    have hlt : g < w.heap.size := by
      by_cases hl : g < w.heap.size
      · exact hl
      · rw [Array.getElem?_eq_none (by omega)] at h; cases h
    rw [hb.block g hlt]
    exact h
theorem Tab.drewN {w : World} (h : Tab w) (q : Nat) : Tab (w.drewN q) := h
theorem below_grow (W : World) (k : Nat) (os : Array Obj) : Below W.heap.size W (Go.Sort.grow (W.drewN k) os) :=
  ⟨rfl, rfl, rfl, by simp [Go.Sort.grow], fun b hb => by show (W.heap ++ os)[b]? = _; exact Array.getElem?_append_left hb⟩
theorem below_drewN (W : World) (q : Nat) : Below W.heap.size W (W.drewN q) := ⟨rfl, rfl, rfl, Nat.le_refl _, fun _ _ => rfl⟩

namespace Ltr
/-- The low b bits of n as a number with a sign. -/
def sx (n b : Nat) : Int := if n % 2 ^ b < 2 ^ (b - 1) then ((n % 2 ^ b : Nat) : Int) else ((n % 2 ^ b : Nat) : Int) - (2 ^ b : Nat)
def textF (n : Nat) (bits : Int) : List UInt8 := if bits < 1 ∨ 64 < bits then [] else Lib.itoa (sx n bits.toNat)
theorem sx_bounds (n b : Nat) (h1 : 1 ≤ b) (h2 : b ≤ 64) : -9223372036854775808 ≤ sx n b ∧ sx n b ≤ 9223372036854775807 := by
  have hp := pow_fin' ⟨b - 1, by omega⟩
  simp only at hp
  have hK1 : 2 ^ b = 2 ^ (b - 1) + 2 ^ (b - 1) := by
    obtain ⟨m, rfl⟩ : ∃ m, b = m + 1 := ⟨b - 1, by omega⟩
    rw [Nat.pow_succ]; simp; omega
  have hm := Nat.mod_lt n (Nat.two_pow_pos b)
  unfold sx
  split <;> omega
/-- Shifting up and down again leaves the low bits with their sign. -/
theorem shift_back (n b : Nat) (h1 : 1 ≤ b) (h2 : b ≤ 64) : wrap64 (((n * 2 ^ (64 - b) % 18446744073709551616 : Nat) : Int)) / 2 ^ (64 - b) = sx n b := by
  have hPQ : 2 ^ (64 - b) * 2 ^ b = 18446744073709551616 := by rw [← Nat.pow_add, show 64 - b + b = 64 from by omega]
  have hPK : 2 ^ (64 - b) * 2 ^ (b - 1) = 9223372036854775808 := by rw [← Nat.pow_add, show 64 - b + (b - 1) = 63 from by omega]
  have hK1 : 2 ^ b = 2 ^ (b - 1) + 2 ^ (b - 1) := by
    obtain ⟨m, rfl⟩ : ∃ m, b = m + 1 := ⟨b - 1, by omega⟩
    rw [Nat.pow_succ]; simp; omega
  have hP := Nat.two_pow_pos (64 - b)
  have hc : ((2 : Int) ^ (64 - b)) = ((2 ^ (64 - b) : Nat) : Int) := by simp
  unfold sx
  rw [hc]
  have hm := Nat.mod_lt n (Nat.two_pow_pos b)
  have hmod : n * 2 ^ (64 - b) % 18446744073709551616 = n % 2 ^ b * 2 ^ (64 - b) := by
    rw [← hPQ, Nat.mul_comm (2 ^ (64 - b)) (2 ^ b), Nat.mul_mod_mul_right]
  rw [hmod]
  generalize 2 ^ (64 - b) = P at *
  generalize 2 ^ b = Q at *
  generalize 2 ^ (b - 1) = K at *
  generalize n % Q = m at *
  have hcm : ((m * P : Nat) : Int) = (m : Int) * (P : Int) := by simp
  by_cases h : m < K
  · rw [if_pos h]
    have hlt : m * P < 9223372036854775808 := by rw [← hPK, Nat.mul_comm P K]; exact Nat.mul_lt_mul_of_pos_right h hP
    have e : wrap64 ((m * P : Nat) : Int) = ((m * P : Nat) : Int) := IntWalk.wrap64_in _ ⟨by omega, by omega⟩
    rw [e, hcm]
    exact Int.mul_ediv_cancel _ (by omega)
  · rw [if_neg h]
    have hge : 9223372036854775808 ≤ m * P := by rw [← hPK, Nat.mul_comm P K]; exact Nat.mul_le_mul_right _ (by omega)
    have hlt : m * P < 18446744073709551616 := by rw [← hPQ, Nat.mul_comm P Q]; exact Nat.mul_lt_mul_of_pos_right hm hP
    have e : wrap64 ((m * P : Nat) : Int) = ((m * P : Nat) : Int) - 18446744073709551616 := by unfold wrap64; omega
    rw [e, hcm]
    have e2 : (m : Int) * (P : Int) - 18446744073709551616 = ((m : Int) - (Q : Int)) * (P : Int) := by
      rw [Int.sub_mul, show (18446744073709551616 : Int) = ((P * Q : Nat) : Int) from by rw [hPQ]; rfl]
      simp [Int.mul_comm]
    rw [e2]
    exact Int.mul_ediv_cancel _ (by omega)
end Ltr

set_option maxHeartbeats 1000000 in
set_option maxRecDepth 100000 in
theorem text_any (n : Nat) (hn : n < 18446744073709551616) (bits : Int) (w : World) (ht : Tab w) :
    Calls Tryd.prog 20 #[.int .u64 (n : Int), .int .i64 bits] w fun e w' => e = .returned (.string ⟨(Ltr.textF n bits).toArray⟩) ∧ Below w.heap.size w w' := by
  unfold Ltr.textF
  by_cases h : bits < 1 ∨ 64 < bits
  · rw [if_pos h]
    rcases (by omega : bits < 1 ∨ (1 ≤ bits ∧ 64 < bits)) with h | ⟨h1, h2⟩
    · have d1 : decide (bits < 1) = true := by simpa using h
      go_enter Tryd.func20, Tryd.ntmps20
      go_wp2
      go_ret
      exact ⟨rfl, Below.refl _ _⟩
    · have d1 : decide (bits < 1) = false := by simp; omega
      have d2 : decide (64 < bits) = true := by simpa using h2
      go_enter Tryd.func20, Tryd.ntmps20
      go_wp2
      go_ret
      exact ⟨rfl, Below.refl _ _⟩
  · rw [if_neg h]
    obtain ⟨b, rfl⟩ : ∃ b : Nat, bits = (b : Int) := ⟨bits.toNat, by omega⟩
    rw [show ((b : Int)).toNat = b from by omega]
    have h1 : 1 ≤ b := by omega
    have h2 : b ≤ 64 := by omega
    have d1 : decide ((b : Int) < 1) = false := by simp; omega
    have d2 : decide (64 < (b : Int)) = false := by simp; omega
    obtain ⟨sl, sh⟩ := Ltr.sx_bounds n b h1 h2
    have hsb := Ltr.shift_back n b h1 h2
    have hsb' : wrap64 (IntKind.u64.wrap ((n : Int) * 2 ^ (64 - b))) / 2 ^ (64 - b) = Ltr.sx n b := by
      rw [← hsb, IntKind.wrap_u64]
      congr 2
    have HS := Lib.hid hsb'
    clear h hsb hsb'
    go_enter Tryd.func20, Tryd.ntmps20
    go_wp2_with (go_at_call 28; rw [HS.out]; refine (Tryd.strconv_FormatInt_10 _ sl sh w ht).mono ?_; rintro e w1 ⟨rfl, k, os, rfl⟩)
    go_ret
    exact ⟨rfl, below_grow _ _ _⟩
end Go.Proofs.YtpmalmednkknpaaDoor
