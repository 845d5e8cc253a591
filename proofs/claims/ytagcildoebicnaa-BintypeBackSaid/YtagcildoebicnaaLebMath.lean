/-
  Plain mathematics of LEB128 decoding: what last, sum, U, S compute, with no program in sight.
-/
import Derived.Test.YtagcildoebicnaaLebPlain
import Derived.WalkKit
set_option linter.unusedVariables false
namespace Go.Proofs.Ytagcildoebicnaa.Leb
open Go.RowKit
/-- The first byte below 128 among the first m. -/
def endIdx (l : List UInt8) (m : Nat) : Option Nat := (l.take m).findIdx? (fun b => b.toNat < 128)
def Highs (l : List UInt8) (k : Nat) : Prop := ∀ j (h : j < l.length), j < k → 128 ≤ l[j].toNat
theorem endIdx_some {l : List UInt8} {m k : Nat} (hk : k < m) (hl : k < l.length) (h : Highs l k) (hb : l[k].toNat < 128) : endIdx l m = some k := by
  unfold endIdx
  rw [List.findIdx?_eq_some_iff_getElem]
  refine ⟨by simp; omega, by simpa using hb, fun j hj => ?_⟩
  have := h j (by omega) hj
  simp; omega
theorem endIdx_none {l : List UInt8} {m k : Nat} (hk : m ≤ k ∨ l.length ≤ k) (h : Highs l k) : endIdx l m = none := by
  unfold endIdx
  rw [List.findIdx?_eq_none_iff]
  intro x hx
  obtain ⟨j, hj, rfl⟩ := List.mem_iff_getElem.1 hx
  simp at hj
  have := h j (by omega) (by omega)
  simp; omega
def lastF (l : List UInt8) (bits : Int) : Int × Int × Int :=
  if bits < 1 ∨ 64 < bits then (0, 0, 1) else
  match endIdx l ((bits.toNat + 6) / 7) with
  | some i => if i + 1 = (bits.toNat + 6) / 7 then ((i : Int), bits - 7 * i, 0) else ((i : Int), 7, 0)
  | none => if l.length < (bits.toNat + 6) / 7 then (0, 0, 3) else (0, 0, 4)
theorem lastF_arg {l : List UInt8} {bits : Int} (h : bits < 1 ∨ 64 < bits) : lastF l bits = (0, 0, 1) := by rw [lastF, if_pos h]
theorem lastF_some {l : List UInt8} {bits : Int} {k : Nat} (h1 : 1 ≤ bits) (h2 : bits ≤ 64) (hk : k < (bits.toNat + 6) / 7) (hl : k < l.length) (h : Highs l k) (hb : l[k].toNat < 128) :
    lastF l bits = if k + 1 = (bits.toNat + 6) / 7 then ((k : Int), bits - 7 * k, 0) else ((k : Int), 7, 0) := by
  rw [lastF, if_neg (by omega), endIdx_some hk hl h hb]
theorem lastF_none {l : List UInt8} {bits : Int} {k : Nat} (h1 : 1 ≤ bits) (h2 : bits ≤ 64) (hk : (bits.toNat + 6) / 7 ≤ k ∨ l.length ≤ k) (h : Highs l k) :
    lastF l bits = if l.length < (bits.toNat + 6) / 7 then (0, 0, 3) else (0, 0, 4) := by
  rw [lastF, if_neg (by omega), endIdx_none hk h]
/-- The value of the first k bytes, seven bits each. -/
def val (l : List UInt8) : Nat → Nat
  | 0 => 0
  | k + 1 => val l k + (l.getD k 0).toNat % 128 * 128 ^ k
theorem val_lt (l : List UInt8) (k : Nat) : val l k < 128 ^ k := by
  induction k with
  | zero => simp [val]
  | succ k ih =>
    rw [val, Nat.pow_succ]
    have h : (l.getD k 0).toNat % 128 ≤ 127 := by omega
    have := Nat.mul_le_mul_right (128 ^ k) h
    omega
def valU (l : List UInt8) (k : Nat) : Nat := val l k % 18446744073709551616
theorem valU_lt (l : List UInt8) (k : Nat) : valU l k < 18446744073709551616 := Nat.mod_lt _ (by omega)
theorem val_or_nat (l : List UInt8) (k : Nat) : val l k ||| (l.getD k 0).toNat % 128 * 2 ^ (7 * k) = val l (k + 1) := by
  have h := val_lt l k
  have e : (128 : Nat) ^ k = 2 ^ (7 * k) := by rw [Nat.pow_mul]
  rw [e] at h
  have := Nat.two_pow_add_eq_or_of_lt h ((l.getD k 0).toNat % 128)
  rw [val, e, Nat.or_comm, Nat.mul_comm ((l.getD k 0).toNat % 128), ← this]
  omega
theorem val_or (l : List UInt8) (k : Nat) (hk : k < l.length) :
    bits .or .u64 (valU l k : Nat) (IntKind.u64.wrap ((l[k].toNat : Int) % 128 * 2 ^ (7 * k))) = (valU l (k + 1) : Nat) := by
  have e : IntKind.u64.wrap ((l[k].toNat : Int) % 128 * 2 ^ (7 * k)) = ((l[k].toNat % 128 * 2 ^ (7 * k) % 18446744073709551616 : Nat) : Int) := by
    rw [IntKind.wrap_u64]; simp
  rw [e, u64_or_nat _ _ (valU_lt l k) (Nat.mod_lt _ (by omega))]
  congr 1
  unfold valU
  rw [show (18446744073709551616 : Nat) = 2 ^ 64 from rfl, ← Nat.or_mod_two_pow, ← val_or_nat]
  simp [hk]
def uF (l : List UInt8) (bits : Int) : Int × Int × Int :=
  if bits < 1 ∨ 64 < bits then (0, 0, 1) else
  match endIdx l ((bits.toNat + 6) / 7) with
  | some i => if i + 1 = (bits.toNat + 6) / 7 ∧ 2 ^ (bits.toNat - 7 * i) ≤ (l.getD i 0).toNat then (0, 0, 4) else (((valU l (i + 1) : Nat) : Int), (i : Int) + 1, 0)
  | none => if l.length < (bits.toNat + 6) / 7 then (0, 0, 3) else (0, 0, 4)
def sval (l : List UInt8) (i : Nat) : Int := wrap64 (if 64 ≤ (l.getD i 0).toNat then (val l (i + 1) : Int) - 128 ^ (i + 1) else (val l (i + 1) : Int))
def sBad (b c : Nat) : Bool := b / 2 ^ (c - 1) != 0 && b / 2 ^ (c - 1) != 127 / 2 ^ (c - 1)
def sF (l : List UInt8) (bits : Int) : Int × Int × Int :=
  if bits < 1 ∨ 64 < bits then (0, 0, 1) else
  match endIdx l ((bits.toNat + 6) / 7) with
  | some i => if i + 1 = (bits.toNat + 6) / 7 ∧ sBad (l.getD i 0).toNat (bits.toNat - 7 * i) = true then (0, 0, 4) else (sval l i, (i : Int) + 1, 0)
  | none => if l.length < (bits.toNat + 6) / 7 then (0, 0, 3) else (0, 0, 4)
theorem endIdx_some_iff {l : List UInt8} {m k : Nat} (h : endIdx l m = some k) : k < m ∧ ∃ hl : k < l.length, Highs l k ∧ l[k].toNat < 128 := by
  unfold endIdx at h
  rw [List.findIdx?_eq_some_iff_getElem] at h
  obtain ⟨h1, h2, h3⟩ := h
  have h1' : k < min m l.length := by simpa using h1
  refine ⟨by omega, by omega, fun j hj hlt => ?_, by simpa using h2⟩
  have := h3 j hlt
  simp at this; omega
theorem small7 (b : Nat) (h : b < 128) : sBad b 7 = false := by
  unfold sBad
  have h1 : b / 2 ^ (7 - 1) = 0 ∨ b / 2 ^ (7 - 1) = 1 := by omega
  rcases h1 with e | e <;> simp [e]
/-- What last says, and what U and S make of it. -/
theorem last_cases (l : List UInt8) (bits : Int) :
    (∃ er : Int, er ≠ 0 ∧ lastF l bits = (0, 0, er) ∧ uF l bits = (0, 0, er) ∧ sF l bits = (0, 0, er)) ∨
    (∃ k c : Nat, ∃ hl : k < l.length, k ≤ 9 ∧ 1 ≤ c ∧ c ≤ 7 ∧ l[k].toNat < 128 ∧ lastF l bits = ((k : Int), (c : Int), 0) ∧
      uF l bits = (if 2 ^ c ≤ l[k].toNat then (0, 0, 4) else (((valU l (k + 1) : Nat) : Int), (k : Int) + 1, 0)) ∧
      sF l bits = (if sBad l[k].toNat c = true then (0, 0, 4) else (sval l k, (k : Int) + 1, 0))) := by
  by_cases h : bits < 1 ∨ 64 < bits
  · exact .inl ⟨1, by omega, by rw [lastF, if_pos h], by rw [uF, if_pos h], by rw [sF, if_pos h]⟩
  rcases he : endIdx l ((bits.toNat + 6) / 7) with _ | k
  · refine .inl ⟨if l.length < (bits.toNat + 6) / 7 then 3 else 4, by split <;> omega, ?_, ?_, ?_⟩
    · rw [lastF, if_neg h, he]; dsimp only; split <;> rfl
    · rw [uF, if_neg h, he]; dsimp only; split <;> rfl
    · rw [sF, if_neg h, he]; dsimp only; split <;> rfl
  · obtain ⟨hkm, hl, hh, hb⟩ := endIdx_some_iff he
    have hg : l.getD k 0 = l[k] := by simp [hl]
    refine .inr ⟨k, if k + 1 = (bits.toNat + 6) / 7 then bits.toNat - 7 * k else 7, hl, by omega, by split <;> omega, by split <;> omega, hb, ?_, ?_, ?_⟩
    · rw [lastF, if_neg h, he]; dsimp only
      split
      · rw [show bits - 7 * (k : Int) = ((bits.toNat - 7 * k : Nat) : Int) from by omega]
      · rfl
    · rw [uF, if_neg h, he]; dsimp only; rw [hg]
      by_cases hm : k + 1 = (bits.toNat + 6) / 7
      · simp only [hm, true_and, if_true]
      · simp only [hm, false_and, if_false]
        rw [if_neg (by omega)]
    · rw [sF, if_neg h, he]; dsimp only; rw [hg]
      by_cases hm : k + 1 = (bits.toNat + 6) / 7
      · simp only [hm, true_and, if_true]
      · simp only [hm, false_and, if_false, small7 _ hb]
        rw [if_neg (by decide)]
theorem shr_ne (b c : Nat) : (((b : Int) / 2 ^ c) != 0) = decide (2 ^ c ≤ b) := by
  have e : ((b : Int) / 2 ^ c) = ((b / 2 ^ c : Nat) : Int) := by simp
  rw [e, Bool.eq_iff_iff]
  simp only [bne_iff_ne, ne_eq, decide_eq_true_eq]
  have hp : 0 < 2 ^ c := Nat.two_pow_pos c
  have : b / 2 ^ c = 0 ↔ b < 2 ^ c := Nat.div_eq_zero_iff_lt hp
  omega
theorem ne_cast0 (b d : Nat) : (((b : Int) / 2 ^ d) != 0) = (b / 2 ^ d != 0) := by
  have e : ((b : Int) / 2 ^ d) = ((b / 2 ^ d : Nat) : Int) := by simp
  rw [e, Bool.eq_iff_iff]; simp only [bne_iff_ne, ne_eq]; omega
theorem ne_cast1 (b d : Nat) : (((b : Int) / 2 ^ d) != 127 / 2 ^ d) = (b / 2 ^ d != 127 / 2 ^ d) := by
  have e : ((b : Int) / 2 ^ d) = ((b / 2 ^ d : Nat) : Int) := by simp
  have e' : ((127 : Int) / 2 ^ d) = ((127 / 2 ^ d : Nat) : Int) := by simp
  rw [e, e', Bool.eq_iff_iff]; simp only [bne_iff_ne, ne_eq]; omega
theorem and64_fin : ∀ x : Fin 128, ((x.val &&& 64) != 0) = decide (64 ≤ x.val) := by decide +kernel
theorem and64 (b : Nat) (h : b < 128) : (bits .and .u8 (b : Int) 64 != 0) = decide (64 ≤ b) := by
  rw [show (64 : Int) = ((64 : Nat) : Int) from rfl, u8_and_nat b 64 (by omega) (by omega)]
  have := and64_fin ⟨b, h⟩
  simp only at this
  rw [← this, Bool.eq_iff_iff]; simp only [bne_iff_ne, ne_eq]; omega
theorem sBad_succ (b d : Nat) : sBad b (d + 1) = (b / 2 ^ d != 0 && b / 2 ^ d != 127 / 2 ^ d) := by unfold sBad; simp
theorem wrap64_mod (n : Nat) : wrap64 ((n % 18446744073709551616 : Nat) : Int) = wrap64 (n : Int) := by unfold wrap64; omega
theorem sval_plain (l : List UInt8) (k : Nat) (hk : k ≤ 9) (h : k = 9 ∨ (l.getD k 0).toNat < 64) : wrap64 (valU l (k + 1) : Nat) = sval l k := by
  unfold sval valU
  rw [wrap64_mod]
  rcases h with rfl | h
  · split
    · unfold wrap64; simp only [show (128 : Int) ^ (9 + 1) = 1180591620717411303424 from by decide]; omega
    · rfl
  · rw [if_neg (by omega)]
theorem fill_or (v p q : Nat) (hv : v < 2 ^ p) (h1 : 1 ≤ q) (hq : 2 ^ p * q < 18446744073709551616) : bits .or .u64 (v : Int) ((2 ^ p * q : Nat) : Int) = ((2 ^ p * q + v : Nat) : Int) := by
  have hv' : v < 18446744073709551616 := by
    have : 2 ^ p * 1 ≤ 2 ^ p * q := Nat.mul_le_mul_left _ h1
    omega
  rw [u64_or_nat v _ hv' hq, Nat.or_comm, Nat.two_pow_add_eq_or_of_lt hv]
theorem sval_fill (l : List UInt8) (k : Nat) (hk : k < 9) (h : 64 ≤ (l.getD k 0).toNat) :
    wrap64 (bits .or .u64 (valU l (k + 1) : Nat) (IntKind.u64.wrap (18446744073709551615 * 2 ^ (7 * (k + 1))))) = sval l k := by
  have hv := val_lt l (k + 1)
  have e : (128 : Nat) ^ (k + 1) = 2 ^ (7 * (k + 1)) := by rw [Nat.pow_mul]
  have hp : (2 : Nat) ^ (7 * (k + 1)) ≤ 2 ^ 63 := Nat.pow_le_pow_right (by omega) (by omega)
  rw [e] at hv
  have hU : valU l (k + 1) = val l (k + 1) := Nat.mod_eq_of_lt (by omega)
  have hs : (2 : Nat) ^ (7 * (k + 1)) * 2 ^ (64 - 7 * (k + 1)) = 18446744073709551616 := by rw [← Nat.pow_add, show 7 * (k + 1) + (64 - 7 * (k + 1)) = 64 from by omega]
  have hq1 : 2 ^ 1 ≤ 2 ^ (64 - 7 * (k + 1)) := Nat.pow_le_pow_right (by omega) (by omega)
  have hm : (2 : Nat) ^ (7 * (k + 1)) * (2 ^ (64 - 7 * (k + 1)) - 1) = 18446744073709551616 - 2 ^ (7 * (k + 1)) := by
    rw [Nat.mul_sub, hs, Nat.mul_one]
  have hpos : 0 < (2 : Nat) ^ (7 * (k + 1)) := Nat.two_pow_pos _
  have ew : IntKind.u64.wrap (18446744073709551615 * 2 ^ (7 * (k + 1))) = ((2 ^ (7 * (k + 1)) * (2 ^ (64 - 7 * (k + 1)) - 1) : Nat) : Int) := by
    rw [IntKind.wrap_u64, hm]
    have ec : ((2 : Int) ^ (7 * (k + 1))) = ((2 ^ (7 * (k + 1)) : Nat) : Int) := by simp
    rw [ec]
    generalize (2 : Nat) ^ (7 * (k + 1)) = P at *
    omega
  rw [ew, hU, fill_or _ _ _ hv (by omega) (by rw [hm]; omega), hm]
  unfold sval
  rw [if_pos h]
  have ec : ((128 : Int) ^ (k + 1)) = ((2 ^ (7 * (k + 1)) : Nat) : Int) := by rw [← e]; simp
  rw [ec]
  generalize (2 : Nat) ^ (7 * (k + 1)) = P at *
  unfold wrap64
  omega
end Go.Proofs.Ytagcildoebicnaa.Leb
