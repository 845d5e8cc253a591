/-
  Plain laws of LEB128: encodings are decoded to their numbers; which widths they fit.
-/
import Derived.Test.YtagcildoebicnaaLebMath
set_option linter.unusedVariables false
namespace Go.Proofs.Ytagcildoebicnaa.Leb
open Go.RowKit

theorem val_cons (b : UInt8) (l : List UInt8) (k : Nat) : val (b :: l) (k + 1) = b.toNat % 128 + 128 * val l k := by
  induction k with
  | zero => simp [val]
  | succ k ih =>
    rw [val, ih, val, Nat.mul_add]
    simp only [List.getD_cons_succ, Nat.pow_succ]
    have : 128 * ((l.getD k 0).toNat % 128 * 128 ^ k) = (l.getD k 0).toNat % 128 * (128 ^ k * 128) := by
      rw [Nat.mul_comm 128, Nat.mul_assoc]
    omega
theorem val_append (l r : List UInt8) : ∀ k, k ≤ l.length → val (l ++ r) k = val l k := by
  intro k
  induction k with
  | zero => intro _; rfl
  | succ k ih =>
    intro h
    rw [val, val, ih (by omega)]
    simp [List.getElem?_append_left (show k < l.length by omega)]

/-- An encoding: all bytes but the last are high, the last is low, and the digits make v. -/
structure Enc (l : List UInt8) (v : Nat) : Prop where
  pos : 0 < l.length
  highs : Highs l (l.length - 1)
  low : (l.getD (l.length - 1) 0).toNat < 128
  value : val l l.length = v

theorem enc_cons {b : UInt8} {l : List UInt8} {v : Nat} (h : Enc l v) (hb : 128 ≤ b.toNat) : Enc (b :: l) (b.toNat % 128 + 128 * v) := by
  have hp := h.pos
  refine ⟨by simp, ?_, ?_, ?_⟩
  · intro j hj hlt
    match j, hj with
    | 0, _ => exact hb
    | j + 1, hj => simp at hj hlt ⊢; exact h.highs j (by omega) (by omega)
  · have := h.low
    obtain ⟨n, hn⟩ : ∃ n, l.length = n + 1 := ⟨l.length - 1, by omega⟩
    simp only [List.length_cons, hn, Nat.add_sub_cancel, List.getD_cons_succ] at this ⊢
    exact this
  · rw [List.length_cons, val_cons, h.value]
theorem enc_one {b : UInt8} (hb : b.toNat < 128) : Enc [b] b.toNat := by
  refine ⟨by simp, fun j hj hlt => by simp at hlt, by simpa using hb, ?_⟩
  simp [val]; omega

theorem putU_enc : ∀ n, Enc (putU n) n := by
  intro n
  induction n using Nat.strongRecOn with
  | ind n ih =>
    by_cases h : n < 128
    · rw [putU_small h]
      have e : (UInt8.ofNat n).toNat = n := by rw [UInt8.toNat_ofNat']; omega
      have := enc_one (b := UInt8.ofNat n) (by omega)
      rw [e] at this; exact this
    · rw [putU_big h]
      have e : (UInt8.ofNat (n % 128 + 128)).toNat = n % 128 + 128 := by rw [UInt8.toNat_ofNat']; omega
      have := enc_cons (b := UInt8.ofNat (n % 128 + 128)) (ih (n / 128) (by omega)) (by omega)
      rw [e] at this
      rw [show (n % 128 + 128) % 128 + 128 * (n / 128) = n from by omega] at this
      exact this
theorem putU_ge : ∀ n, 1 < (putU n).length → 128 ^ ((putU n).length - 1) ≤ n := by
  intro n
  induction n using Nat.strongRecOn with
  | ind n ih =>
    by_cases h : n < 128
    · rw [putU_small h]; intro h; simp at h
    · rw [putU_big h]; intro _
      have hp := putU_pos (n / 128)
      simp only [List.length_cons, Nat.add_sub_cancel]
      by_cases h1 : 1 < (putU (n / 128)).length
      · have := ih (n / 128) (by omega) h1
        obtain ⟨k, hk⟩ : ∃ k, (putU (n / 128)).length = k + 1 := ⟨(putU (n / 128)).length - 1, by omega⟩
        rw [hk] at this ⊢
        simp only [Nat.add_sub_cancel] at this
        rw [Nat.pow_succ]; omega
      · rw [show (putU (n / 128)).length = 1 from by omega]; omega

/-- The signed value of an encoding. -/
def sOf (l : List UInt8) (v : Nat) : Int := if 64 ≤ (l.getD (l.length - 1) 0).toNat then (v : Int) - 128 ^ l.length else (v : Int)
theorem sOf_cons {b : UInt8} {l : List UInt8} {v : Nat} (h : 0 < l.length) : sOf (b :: l) (b.toNat % 128 + 128 * v) = (b.toNat % 128 : Nat) + 128 * sOf l v := by
  obtain ⟨n, hn⟩ : ∃ n, l.length = n + 1 := ⟨l.length - 1, by omega⟩
  unfold sOf
  simp only [List.length_cons, hn, Nat.add_sub_cancel, List.getD_cons_succ]
  rw [show (128 : Int) ^ (n + 1 + 1) = 128 * 128 ^ (n + 1) from by rw [Int.pow_succ, Int.mul_comm]]
  split <;> omega
theorem putS_enc : ∀ (m : Nat) (n : Int), n.natAbs ≤ m → ∃ v, Enc (putS n) v ∧ sOf (putS n) v = n := by
  intro m
  induction m with
  | zero =>
    intro n hn
    obtain rfl : n = 0 := by omega
    rw [putS_small (by omega)]
    exact ⟨_, enc_one (by decide), by decide⟩
  | succ m ih =>
    intro n hn
    by_cases h : -64 ≤ n ∧ n ≤ 63
    · rw [putS_small h]
      have e : (UInt8.ofNat (n % 128).toNat).toNat = (n % 128).toNat := by rw [UInt8.toNat_ofNat']; omega
      refine ⟨_, enc_one (by omega), ?_⟩
      unfold sOf
      simp only [List.length_singleton, Nat.sub_self, List.getD_cons_zero, e, Int.pow_one]
      split <;> omega
    · rw [putS_big h]
      obtain ⟨v, hv, hs⟩ := ih (n / 128) (by omega)
      have e : (UInt8.ofNat ((n % 128).toNat + 128)).toNat = (n % 128).toNat + 128 := by rw [UInt8.toNat_ofNat']; omega
      refine ⟨_, enc_cons hv (by omega), ?_⟩
      rw [sOf_cons (putS_pos _), hs, e]
      omega
theorem putS_enc' (n : Int) : ∃ v, Enc (putS n) v ∧ sOf (putS n) v = n := putS_enc _ n (Nat.le_refl _)
theorem putS_ge : ∀ (m : Nat) (n : Int), n.natAbs ≤ m → 1 < (putS n).length → ((64 * 128 ^ ((putS n).length - 2) : Nat) : Int) ≤ n ∨ n < -((64 * 128 ^ ((putS n).length - 2) : Nat) : Int) := by
  intro m
  induction m with
  | zero =>
    intro n hn
    obtain rfl : n = 0 := by omega
    rw [putS_small (by omega)]; intro h; simp at h
  | succ m ih =>
    intro n hn
    by_cases h : -64 ≤ n ∧ n ≤ 63
    · rw [putS_small h]; intro h; simp at h
    · rw [putS_big h]; intro _
      have hp := putS_pos (n / 128)
      simp only [List.length_cons]
      by_cases h1 : 1 < (putS (n / 128)).length
      · have := ih (n / 128) (by omega) h1
        obtain ⟨k, hk⟩ : ∃ k, (putS (n / 128)).length = k + 2 := ⟨(putS (n / 128)).length - 2, by omega⟩
        rw [hk] at this ⊢
        simp only [Nat.add_sub_cancel] at this
        rw [show k + 2 + 1 - 2 = k + 1 from by omega, Nat.pow_succ]; omega
      · rw [show (putS (n / 128)).length = 1 from by omega]; omega

/-! ## decoding an encoding -/
theorem enc_end {l rest : List UInt8} {v m : Nat} (h : Enc l v) (hm : l.length ≤ m) : endIdx (l ++ rest) m = some (l.length - 1) := by
  have hp := h.pos
  refine endIdx_some (by omega) (by simp; omega) (fun j hj hlt => ?_) ?_
  · rw [List.getElem_append_left (by omega)]; exact h.highs j (by omega) hlt
  · rw [List.getElem_append_left (by omega)]
    have := h.low
    rw [List.getD_eq_getElem?_getD, List.getElem?_eq_getElem (by omega)] at this
    exact this
theorem enc_none {l rest : List UInt8} {v m : Nat} (h : Enc l v) (hm : m < l.length) : endIdx (l ++ rest) m = none := by
  refine endIdx_none (k := m) (.inl (Nat.le_refl _)) (fun j hj hlt => ?_)
  rw [List.getElem_append_left (by omega)]; exact h.highs j (by omega) (by omega)
theorem pow7 (k : Nat) : (128 : Nat) ^ k = 2 ^ (7 * k) := by rw [Nat.pow_mul]
theorem val_split {l : List UInt8} {v : Nat} (h : Enc l v) : ∃ v0, v0 < 128 ^ (l.length - 1) ∧ v = v0 + (l.getD (l.length - 1) 0).toNat * 128 ^ (l.length - 1) := by
  have hp := h.pos
  obtain ⟨k, hk⟩ : ∃ k, l.length = k + 1 := ⟨l.length - 1, by omega⟩
  have hv := h.value
  have hl := h.low
  rw [hk] at hv hl ⊢
  simp only [Nat.add_sub_cancel] at hl ⊢
  rw [val] at hv
  rw [Nat.mod_eq_of_lt hl] at hv
  exact ⟨val l k, val_lt l k, hv.symm⟩
theorem enc_fits {l : List UInt8} {v b : Nat} (h : Enc l v) (h1 : 1 ≤ b) (hlen : l.length ≤ (b + 6) / 7) :
    (l.length = (b + 6) / 7 ∧ 2 ^ (b - 7 * (l.length - 1)) ≤ (l.getD (l.length - 1) 0).toNat) ↔ ¬ v < 2 ^ b := by
  have hp := h.pos
  obtain ⟨v0, hv0, hv⟩ := val_split h
  have hl := h.low
  generalize (l.getD (l.length - 1) 0).toNat = y at *
  have eb : 2 ^ b = 2 ^ (b - 7 * (l.length - 1)) * 128 ^ (l.length - 1) := by rw [pow7, ← Nat.pow_add]; congr 1; omega
  by_cases hm : l.length = (b + 6) / 7
  · simp only [hm, true_and] at *
    rw [eb]
    generalize 2 ^ (b - 7 * ((b + 6) / 7 - 1)) = P at *
    generalize (128 : Nat) ^ ((b + 6) / 7 - 1) = Q at *
    constructor
    · intro hy
      have := Nat.mul_le_mul_right Q hy
      omega
    · intro hn
      rcases Nat.lt_or_ge y P with hlt | hge
      · have := Nat.mul_le_mul_right Q (show y + 1 ≤ P from hlt)
        rw [Nat.add_mul] at this
        omega
      · exact hge
  · refine ⟨fun hh => absurd hh.1 hm, fun hh => absurd ?_ hh⟩
    have : 128 ^ l.length ≤ 2 ^ b := by rw [pow7]; exact Nat.pow_le_pow_right (by omega) (by omega)
    obtain ⟨k, hk⟩ : ∃ k, l.length = k + 1 := ⟨l.length - 1, by omega⟩
    rw [hk] at this hv hv0
    simp only [Nat.add_sub_cancel] at hv hv0
    rw [Nat.pow_succ] at this
    have h3 := Nat.mul_le_mul_right (128 ^ k) (show y + 1 ≤ 128 from hl)
    rw [Nat.add_mul] at h3
    omega
theorem uF_enc {l rest : List UInt8} {v b : Nat} (h : Enc l v) (h1 : 1 ≤ b) (h2 : b ≤ 64) (hlen : l.length ≤ (b + 6) / 7) :
    uF (l ++ rest) (b : Int) = if v < 2 ^ b then ((v : Int), (l.length : Int), 0) else (0, 0, 4) := by
  have hp := h.pos
  have hf := enc_fits h h1 hlen
  rw [uF, if_neg (by omega), Int.toNat_natCast, enc_end h hlen]
  dsimp only
  have eg : (l ++ rest).getD (l.length - 1) 0 = l.getD (l.length - 1) 0 := by simp [List.getElem?_append_left (show l.length - 1 < l.length by omega)]
  rw [eg, show l.length - 1 + 1 = l.length from by omega, valU, val_append _ _ _ (Nat.le_refl _), h.value]
  by_cases hv : v < 2 ^ b
  · rw [if_neg (by rw [hf]; omega), if_pos hv]
    have : (2 : Nat) ^ b ≤ 2 ^ 64 := Nat.pow_le_pow_right (by omega) h2
    rw [Nat.mod_eq_of_lt (by omega), show ((l.length - 1 : Nat) : Int) + 1 = (l.length : Int) from by omega]
  · rw [if_pos (by rw [hf]; exact hv), if_neg hv]
theorem uF_long {l rest : List UInt8} {v b : Nat} (h : Enc l v) (h1 : 1 ≤ b) (h2 : b ≤ 64) (hlen : (b + 6) / 7 < l.length) : uF (l ++ rest) (b : Int) = (0, 0, 4) := by
  rw [uF, if_neg (by omega), Int.toNat_natCast, enc_none h hlen]
  dsimp only
  rw [if_neg (by simp; omega)]
/-- LebBack's law. -/
theorem back_u (n : Nat) (hn : n < 18446744073709551616) (b : Nat) (h1 : 1 ≤ b) (h2 : b ≤ 64) (rest : List UInt8) :
    uF (putU n ++ rest) (b : Int) = if n < 2 ^ b then ((n : Int), ((putU n).length : Int), 0) else (0, 0, 4) := by
  by_cases hlen : (putU n).length ≤ (b + 6) / 7
  · exact uF_enc (putU_enc n) h1 h2 hlen
  · rw [uF_long (putU_enc n) h1 h2 (by omega), if_neg]
    have := putU_ge n (by omega)
    have h3 : 2 ^ b ≤ 128 ^ ((putU n).length - 1) := by rw [pow7]; exact Nat.pow_le_pow_right (by omega) (by omega)
    omega

theorem sBad_iff_fin : ∀ (x : Fin 128) (c : Fin 7), sBad x.val (c.val + 1) = decide (2 ^ c.val ≤ x.val ∧ x.val < 128 - 2 ^ c.val) := by decide +kernel
theorem sBad_iff (x c : Nat) (hx : x < 128) (h1 : 1 ≤ c) (h7 : c ≤ 7) : sBad x c = true ↔ (2 ^ (c - 1) ≤ x ∧ x < 128 - 2 ^ (c - 1)) := by
  have := sBad_iff_fin ⟨x, hx⟩ ⟨c - 1, by omega⟩
  simp only [show c - 1 + 1 = c from by omega] at this
  rw [this]; simp
theorem p64 (c : Nat) (h1 : 1 ≤ c) (h7 : c ≤ 7) : 2 ^ (c - 1) ≤ 64 := by
  have : 2 ^ (c - 1) ≤ 2 ^ 6 := Nat.pow_le_pow_right (by omega) (by omega)
  omega
def FitsS (s : Int) (b : Nat) : Prop := -((2 ^ (b - 1) : Nat) : Int) ≤ s ∧ s < ((2 ^ (b - 1) : Nat) : Int)
theorem enc_sfits {l : List UInt8} {v b : Nat} (h : Enc l v) (h1 : 1 ≤ b) (hlen : l.length ≤ (b + 6) / 7) :
    (l.length = (b + 6) / 7 ∧ sBad (l.getD (l.length - 1) 0).toNat (b - 7 * (l.length - 1)) = true) ↔ ¬ FitsS (sOf l v) b := by
  have hp := h.pos
  obtain ⟨v0, hv0, hv⟩ := val_split h
  have hl := h.low
  unfold FitsS sOf
  have e128 : (128 : Int) ^ l.length = ((128 * 128 ^ (l.length - 1) : Nat) : Int) := by
    obtain ⟨k, hk⟩ : ∃ k, l.length = k + 1 := ⟨l.length - 1, by omega⟩
    rw [hk, Nat.add_sub_cancel, Nat.mul_comm, ← Nat.pow_succ]; simp
  rw [e128]
  generalize (l.getD (l.length - 1) 0).toNat = y at *
  by_cases hm : l.length = (b + 6) / 7
  · have hc1 : 1 ≤ b - 7 * (l.length - 1) := by omega
    have hc7 : b - 7 * (l.length - 1) ≤ 7 := by omega
    have eb : 2 ^ (b - 1) = 2 ^ (b - 7 * (l.length - 1) - 1) * 128 ^ (l.length - 1) := by rw [pow7, ← Nat.pow_add]; congr 1; omega
    rw [sBad_iff y _ hl hc1 hc7]
    have h64 := p64 _ hc1 hc7
    rw [eb]
    simp only [hm, true_and] at *
    generalize 2 ^ (b - 7 * ((b + 6) / 7 - 1) - 1) = P at *
    generalize (128 : Nat) ^ ((b + 6) / 7 - 1) = Q at *
    rcases Nat.lt_or_ge y P with hlt | hge
    · have := Nat.mul_le_mul_right Q (show y + 1 ≤ P from hlt)
      rw [Nat.add_mul] at this
      rw [if_neg (by omega)]
      constructor
      · intro hh; omega
      · intro hh; omega
    · have g1 := Nat.mul_le_mul_right Q hge
      rcases Nat.lt_or_ge y 64 with h6 | h6
      · rw [if_neg (by omega)]
        constructor
        · intro hh; omega
        · intro hh; omega
      · rw [if_pos h6]
        have g2 := Nat.mul_le_mul_right Q (show y + 1 ≤ 128 from hl)
        rw [Nat.add_mul] at g2
        rcases Nat.lt_or_ge y (128 - P) with h8 | h8
        · have g3 := Nat.mul_le_mul_right Q (show y + 1 + P ≤ 128 by omega)
          rw [Nat.add_mul, Nat.add_mul] at g3
          constructor
          · intro hh; omega
          · intro hh; omega
        · have g3 := Nat.mul_le_mul_right Q (show 128 ≤ y + P by omega)
          rw [Nat.add_mul] at g3
          constructor
          · intro hh; omega
          · intro hh; omega
  · refine ⟨fun hh => absurd hh.1 hm, fun hh => absurd ?_ hh⟩
    have h4 : 64 * 128 ^ (l.length - 1) ≤ 2 ^ (b - 1) := by
      rw [pow7, show (64 : Nat) = 2 ^ 6 from rfl, ← Nat.pow_add]; exact Nat.pow_le_pow_right (by omega) (by omega)
    generalize (128 : Nat) ^ (l.length - 1) = Q at *
    generalize (2 : Nat) ^ (b - 1) = R at *
    have g2 := Nat.mul_le_mul_right Q (show y + 1 ≤ 128 from hl)
    rw [Nat.add_mul] at g2
    rcases Nat.lt_or_ge y 64 with h6 | h6
    · rw [if_neg (by omega)]
      have g3 := Nat.mul_le_mul_right Q (show y + 1 ≤ 64 from h6)
      rw [Nat.add_mul] at g3
      omega
    · rw [if_pos h6]
      have g3 := Nat.mul_le_mul_right Q h6
      omega
theorem sF_enc {l rest : List UInt8} {v b : Nat} (h : Enc l v) (h1 : 1 ≤ b) (h2 : b ≤ 64) (hlen : l.length ≤ (b + 6) / 7) (hfit : FitsS (sOf l v) b) :
    sF (l ++ rest) (b : Int) = (sOf l v, (l.length : Int), 0) := by
  have hp := h.pos
  have hf := enc_sfits h h1 hlen
  rw [sF, if_neg (by omega), Int.toNat_natCast, enc_end h hlen]
  dsimp only
  have eg : (l ++ rest).getD (l.length - 1) 0 = l.getD (l.length - 1) 0 := by simp [List.getElem?_append_left (show l.length - 1 < l.length by omega)]
  unfold sval
  rw [eg, show l.length - 1 + 1 = l.length from by omega, val_append _ _ _ (Nat.le_refl _), h.value]
  rw [if_neg (by rw [hf]; exact fun hh => hh hfit)]
  rw [show ((l.length - 1 : Nat) : Int) + 1 = (l.length : Int) from by omega]
  have : (2 : Nat) ^ (b - 1) ≤ 2 ^ 63 := Nat.pow_le_pow_right (by omega) (by omega)
  have hw : wrap64 (sOf l v) = sOf l v := by
    unfold FitsS at hfit
    unfold wrap64
    omega
  unfold sOf at hw ⊢
  rw [hw]
theorem sF_bad {l rest : List UInt8} {v b : Nat} (h : Enc l v) (h1 : 1 ≤ b) (h2 : b ≤ 64) (hlen : l.length ≤ (b + 6) / 7) (hfit : ¬ FitsS (sOf l v) b) :
    sF (l ++ rest) (b : Int) = (0, 0, 4) := by
  have hp := h.pos
  have hf := enc_sfits h h1 hlen
  rw [sF, if_neg (by omega), Int.toNat_natCast, enc_end h hlen]
  dsimp only
  have eg : (l ++ rest).getD (l.length - 1) 0 = l.getD (l.length - 1) 0 := by simp [List.getElem?_append_left (show l.length - 1 < l.length by omega)]
  rw [eg, show l.length - 1 + 1 = l.length from by omega, if_pos (by rw [hf]; exact hfit)]
theorem sF_long {l rest : List UInt8} {v b : Nat} (h : Enc l v) (h1 : 1 ≤ b) (h2 : b ≤ 64) (hlen : (b + 6) / 7 < l.length) : sF (l ++ rest) (b : Int) = (0, 0, 4) := by
  rw [sF, if_neg (by omega), Int.toNat_natCast, enc_none h hlen]
  dsimp only
  rw [if_neg (by simp; omega)]
/-- LebSigned's law. -/
theorem back_s (n : Int) (b : Nat) (h1 : 1 ≤ b) (h2 : b ≤ 64) (rest : List UInt8) (hfit : FitsS n b) :
    sF (putS n ++ rest) (b : Int) = (n, ((putS n).length : Int), 0) := by
  obtain ⟨v, hv, hs⟩ := putS_enc' n
  by_cases hlen : (putS n).length ≤ (b + 6) / 7
  · rw [sF_enc hv h1 h2 hlen (by rw [hs]; exact hfit), hs]
  · exfalso
    have := putS_ge _ n (Nat.le_refl _) (by omega)
    have h3 : 2 ^ (b - 1) ≤ 64 * 128 ^ ((putS n).length - 2) := by
      rw [pow7, show (64 : Nat) = 2 ^ 6 from rfl, ← Nat.pow_add]; exact Nat.pow_le_pow_right (by omega) (by omega)
    unfold FitsS at hfit
    omega
theorem back_s_no (n : Int) (b : Nat) (h1 : 1 ≤ b) (h2 : b ≤ 64) (rest : List UInt8) (hfit : ¬ FitsS n b) : sF (putS n ++ rest) (b : Int) = (0, 0, 4) := by
  obtain ⟨v, hv, hs⟩ := putS_enc' n
  by_cases hlen : (putS n).length ≤ (b + 6) / 7
  · exact sF_bad hv h1 h2 hlen (by rw [hs]; exact hfit)
  · exact sF_long hv h1 h2 (by omega)

/-! ## what is decoded is an encoding -/
theorem enc_of_end {l : List UInt8} {m i : Nat} (h : endIdx l m = some i) : Enc (l.take (i + 1)) (val l (i + 1)) ∧ i < m ∧ i < l.length ∧ (l.take (i + 1)).length = i + 1 ∧ (l.take (i + 1)).getD i 0 = l.getD i 0 := by
  obtain ⟨hm, hl, hh, hb⟩ := endIdx_some_iff h
  have hlen : (l.take (i + 1)).length = i + 1 := by simp; omega
  have hg : (l.take (i + 1)).getD i 0 = l.getD i 0 := by simp
  refine ⟨⟨by omega, ?_, ?_, ?_⟩, hm, hl, hlen, hg⟩
  · intro j hj hlt
    rw [List.getElem_take]; exact hh j (by omega) (by omega)
  · rw [hlen, Nat.add_sub_cancel, hg]; simpa [hl] using hb
  · rw [hlen]
    have := val_append (l.take (i + 1)) (l.drop (i + 1)) (i + 1) (by omega)
    rw [List.take_append_drop] at this
    exact this.symm
theorem uF_short (l : List UInt8) (b : Nat) (h1 : 1 ≤ b) (h2 : b ≤ 64) :
    (∃ er : Int, (er == 0) = false ∧ uF l (b : Int) = (0, 0, er)) ∨ ∃ n k : Nat, uF l (b : Int) = ((n : Int), (k : Int), 0) ∧ (putU n).length ≤ k ∧ k ≤ l.length ∧ n < 2 ^ b := by
  rw [uF, if_neg (by omega), Int.toNat_natCast]
  rcases he : endIdx l ((b + 6) / 7) with _ | i
  · dsimp only
    split
    · exact .inl ⟨3, by decide, rfl⟩
    · exact .inl ⟨4, by decide, rfl⟩
  · dsimp only
    obtain ⟨hE, hm, hl, hlen, hg⟩ := enc_of_end he
    split
    · exact .inl ⟨4, by decide, rfl⟩
    · rename_i hno
      have hf := enc_fits hE h1 (by omega)
      rw [hlen, Nat.add_sub_cancel, hg] at hf
      have hlt : val l (i + 1) < 2 ^ b := by
        rcases Nat.lt_or_ge (val l (i + 1)) (2 ^ b) with h | h
        · exact h
        · exact absurd (hf.2 (by omega)) hno
      have h64 : (2 : Nat) ^ b ≤ 2 ^ 64 := Nat.pow_le_pow_right (by omega) h2
      refine .inr ⟨val l (i + 1), i + 1, by rw [valU, Nat.mod_eq_of_lt (by omega)]; rfl, putU_len i _ (val_lt l (i + 1)), by omega, hlt⟩
theorem sF_short (l : List UInt8) (b : Nat) (h1 : 1 ≤ b) (h2 : b ≤ 64) :
    (∃ er : Int, (er == 0) = false ∧ sF l (b : Int) = (0, 0, er)) ∨ ∃ (n : Int) (k : Nat), sF l (b : Int) = (n, (k : Int), 0) ∧ (putS n).length ≤ k ∧ k ≤ l.length ∧ FitsS n b := by
  rcases he : endIdx l ((b + 6) / 7) with _ | i
  · rw [sF, if_neg (by omega), Int.toNat_natCast, he]
    dsimp only
    split
    · exact .inl ⟨3, by decide, rfl⟩
    · exact .inl ⟨4, by decide, rfl⟩
  · obtain ⟨hE, hm, hl, hlen, hg⟩ := enc_of_end he
    have hsplit : l = l.take (i + 1) ++ l.drop (i + 1) := (List.take_append_drop _ _).symm
    by_cases hfit : FitsS (sOf (l.take (i + 1)) (val l (i + 1))) b
    · right
      refine ⟨_, i + 1, ?_, ?_, by omega, hfit⟩
      · have := sF_enc (rest := l.drop (i + 1)) hE h1 h2 (by omega) hfit
        rw [← hsplit, hlen] at this
        exact this
      · obtain ⟨v0, hv0, hv⟩ := val_split hE
        have hlow := hE.low
        refine putS_len i _ ?_ ?_
        all_goals
          unfold sOf
          rw [hlen, Nat.add_sub_cancel] at *
          generalize ((l.take (i + 1)).getD i 0).toNat = y at *
          rw [show (128 : Int) ^ (i + 1) = ((128 * 128 ^ i : Nat) : Int) from by rw [Nat.mul_comm, ← Nat.pow_succ]; simp]
          generalize (128 : Nat) ^ i = Q at *
          have g2 := Nat.mul_le_mul_right Q (show y + 1 ≤ 128 from hlow)
          rw [Nat.add_mul] at g2
          split
          · rename_i h6
            have g3 := Nat.mul_le_mul_right Q h6
            omega
          · rename_i h6
            have g3 := Nat.mul_le_mul_right Q (show y + 1 ≤ 64 by omega)
            rw [Nat.add_mul] at g3
            omega
    · left
      have := sF_bad (rest := l.drop (i + 1)) hE h1 h2 (by omega) hfit
      rw [← hsplit] at this
      exact ⟨4, by decide, this⟩
end Go.Proofs.Ytagcildoebicnaa.Leb
