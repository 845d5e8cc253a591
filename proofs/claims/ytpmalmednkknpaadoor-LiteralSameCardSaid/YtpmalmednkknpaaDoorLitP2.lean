/-
  Plain: reading back what was quoted; the number that a numeral denotes.
-/
import Derived.Test.YtpmalmednkknpaaDoorLitUnq
import Derived.Test.YtpmalmednkknpaaDoorLitRText
set_option linter.unusedVariables false
namespace Go.Proofs.YtpmalmednkknpaaDoor
namespace Ltr

theorem hexc_fin : ∀ n : Fin 16, simp1 (hexc n.val) = none ∧ hexc n.val ≠ 117 ∧ dig (hexc n.val) = (n.val : Int) := by decide +kernel
theorem hexc_range : ∀ n : Fin 16, 32 ≤ (hexc n.val).toNat ∧ (hexc n.val).toNat ≤ 126 ∧ hexc n.val ≠ 34 := by decide +kernel
theorem esc_hex (x : UInt8) (t : List UInt8) : esc (hexc (x.toNat / 16) :: hexc (x.toNat % 16) :: t) = ([x], 2, 0) := by
  have hx := x.toNat_lt
  obtain ⟨a1, a2, a3⟩ := hexc_fin ⟨x.toNat / 16, by omega⟩
  obtain ⟨_, _, b3⟩ := hexc_fin ⟨x.toNat % 16, by omega⟩
  simp only at a1 a2 a3 b3
  unfold esc
  dsimp only
  rw [a1]
  dsimp only
  rw [if_neg a2]
  unfold escT
  dsimp only
  rw [a3, b3, if_neg (by omega)]
  have : UInt8.ofNat (16 * ((x.toNat / 16 : Nat) : Int).toNat + ((x.toNat % 16 : Nat) : Int).toNat) = x := by
    rw [Int.toNat_natCast, Int.toNat_natCast, show 16 * (x.toNat / 16) + x.toNat % 16 = x.toNat from by omega]
    simp
  rw [this]
theorem unq_one (x : UInt8) (f : Nat) (t acc : List UInt8) : unq (f + 1) (q1 x ++ t) acc = unq f t (acc ++ [x]) := by
  cases hp : plainB x with
  | true =>
    obtain ⟨h1, h2, h3, h4⟩ := plainB_yes hp
    rw [q1_plain hp]
    show unq (f + 1) (x :: t) acc = _
    conv => lhs; unfold unq
    rw [if_neg h3, if_neg (by rintro (h | h); omega; subst h; exact absurd h2 (by decide)), if_pos h4]
  | false =>
    rw [q1_hex hp]
    show unq (f + 1) (92 :: hexc (x.toNat / 16) :: hexc (x.toNat % 16) :: t) acc = _
    conv => lhs; unfold unq
    rw [if_neg (by decide), if_neg (by decide), if_neg (by decide), esc_hex, if_neg (by simp)]
    rfl
theorem unq_quote (b : List UInt8) : ∀ (f : Nat) (acc : List UInt8), b.length < f → unq f (quoteB b ++ [34]) acc = (acc ++ b, 0) := by
  induction b with
  | nil =>
    intro f acc h
    obtain ⟨f, rfl⟩ : ∃ g, f = g + 1 := ⟨f - 1, by simp at h; omega⟩
    show unq (f + 1) (34 :: []) acc = _
    unfold unq
    simp
  | cons x b ih =>
    intro f acc h
    obtain ⟨f, rfl⟩ : ∃ g, f = g + 1 := ⟨f - 1, by simp at h; omega⟩
    rw [show quoteB (x :: b) ++ [34] = q1 x ++ (quoteB b ++ [34]) from by simp [quoteB], unq_one, ih f (acc ++ [x]) (by simp at h; omega)]
    simp
theorem quoteB_ge (b : List UInt8) : b.length ≤ (quoteB b).length := by
  induction b with
  | nil => simp
  | cons x b ih =>
    have : 1 ≤ (q1 x).length := by unfold q1; split <;> simp
    rw [show quoteB (x :: b) = q1 x ++ quoteB b from by simp [quoteB]]
    simp; omega
theorem unquote_quote (b : List UInt8) : unquote (quote b) = (b, 0) := by
  unfold unquote
  rw [if_neg (by simp [quote])]
  have hg := quoteB_ge b
  show unq (quote b).length (quoteB b ++ [34]) [] = _
  rw [unq_quote b _ [] (by simp [quote]; omega)]
  simp
theorem quoteB_in (b : List UInt8) : ∀ c ∈ quoteB b, 32 ≤ c.toNat ∧ c.toNat ≤ 126 ∧ c ≠ 34 := by
  intro c hc
  obtain ⟨x, hx, hm⟩ := List.mem_flatMap.1 hc
  have hx2 := x.toNat_lt
  cases hp : plainB x with
  | true =>
    rw [q1_plain hp] at hm
    obtain ⟨h1, h2, h3, h4⟩ := plainB_yes hp
    rw [List.mem_singleton.1 hm]
    exact ⟨h1, by omega, h3⟩
  | false =>
    rw [q1_hex hp] at hm
    have a := hexc_range ⟨x.toNat / 16, by omega⟩
    have b := hexc_range ⟨x.toNat % 16, by omega⟩
    simp only [List.mem_cons, List.not_mem_nil, or_false] at hm
    rcases hm with rfl | rfl | rfl
    · decide
    · exact a
    · exact b

/-! ### Numerals -/
theorem decDigits_ten {n : Nat} (h : ¬ n < 10) : Lib.decDigits n = Lib.decDigits (n / 10) ++ [UInt8.ofNat (48 + n % 10)] := by rw [Lib.decDigits, dif_neg h]
theorem dig_fin : ∀ d : Fin 10, dig (UInt8.ofNat (48 + d.val)) = (d.val : Int) ∧ UInt8.ofNat (48 + d.val) ≠ 95 ∧ UInt8.ofNat (48 + d.val) ≠ 45 ∧ UInt8.ofNat (48 + d.val) ≠ 43 ∧ UInt8.ofNat (48 + d.val) ≠ 120 := by decide +kernel
theorem mgo_digit (d : Nat) (h : d < 10) (base : Nat) (hb : 10 ≤ base) (t : List UInt8) (a : Nat) (g : Bool) : mgo base (UInt8.ofNat (48 + d) :: t) a g = mgo base t (a * base + d) true := by
  obtain ⟨h1, h2, _⟩ := dig_fin ⟨d, h⟩
  simp only at h1 h2
  conv => lhs; unfold mgo
  have h3 : (UInt8.ofNat (48 + d) == 95) = false := by simpa only [beq_eq_false_iff_ne] using h2
  rw [h1, h3, if_neg (by simp), if_neg (by omega), Int.toNat_natCast]
theorem mgo_dec (n : Nat) : ∀ (t : List UInt8) (a : Nat) (g : Bool), mgo 10 (Lib.decDigits n ++ t) a g = mgo 10 t (a * 10 ^ (Lib.decDigits n).length + n) true := by
  induction n using Nat.strongRecOn with
  | ind n ih =>
    intro t a g
    by_cases h : n < 10
    · rw [Lib.decDigits_one h]
      show mgo 10 (UInt8.ofNat (48 + n) :: t) a g = _
      rw [mgo_digit n h 10 (by omega)]
      rfl
    · rw [decDigits_ten h, List.append_assoc, ih (n / 10) (by omega)]
      show mgo 10 (UInt8.ofNat (48 + n % 10) :: t) _ true = _
      rw [mgo_digit (n % 10) (by omega) 10 (by omega), List.length_append, List.length_singleton, Nat.pow_succ]
      congr 1
      rw [Nat.add_mul, Nat.mul_assoc]
      omega
theorem dec_chars (n : Nat) : ∀ c ∈ Lib.decDigits n, ∃ d : Fin 10, c = UInt8.ofNat (48 + d.val) := by
  induction n using Nat.strongRecOn with
  | ind n ih =>
    intro c hc
    by_cases h : n < 10
    · rw [Lib.decDigits_one h] at hc
      exact ⟨⟨n, h⟩, List.mem_singleton.1 hc⟩
    · rw [decDigits_ten h] at hc
      rcases List.mem_append.1 hc with hc | hc
      · exact ih (n / 10) (by omega) c hc
      · exact ⟨⟨n % 10, by omega⟩, List.mem_singleton.1 hc⟩
theorem dec_cons (n : Nat) : ∃ d t, Lib.decDigits n = UInt8.ofNat (48 + (d : Fin 10).val) :: t ∧ ∀ c ∈ t, ∃ d : Fin 10, c = UInt8.ofNat (48 + d.val) := by
  have hc := dec_chars n
  cases h : Lib.decDigits n with
  | nil =>
    exfalso
    by_cases h10 : n < 10
    · rw [Lib.decDigits_one h10] at h; cases h
    · rw [decDigits_ten h10] at h; simp at h
  | cons c t =>
    rw [h] at hc
    obtain ⟨d, rfl⟩ := hc _ (List.mem_cons_self ..)
    exact ⟨d, t, rfl, fun c hm => hc c (List.mem_cons_of_mem _ hm)⟩
/-- Nothing but digits (and underscores): no hexadecimal mark. -/
theorem not_hexed {l : List UInt8} (h : ∀ c ∈ l, c ≠ 120) : hexed l = false := by
  unfold hexed
  cases hx : (l.take 2 == [48, 120]) with
  | false => simp
  | true =>
    exfalso
    have := eq_of_beq hx
    have hm : (120 : UInt8) ∈ l.take 2 := by rw [this]; simp
    exact h _ (List.mem_of_mem_take hm) rfl
theorem dec_not_x (n : Nat) : ∀ c ∈ Lib.decDigits n, c ≠ 120 := by
  intro c hc
  obtain ⟨d, rfl⟩ := dec_chars n c hc
  exact (dig_fin d).2.2.2.2
theorem mag_dec (n : Nat) : mag (Lib.decDigits n) = some (n, true) := by
  unfold mag
  rw [not_hexed (dec_not_x n), if_neg (by decide)]
  have := mgo_dec n [] 0 false
  rw [List.append_nil] at this
  rw [this, Nat.zero_mul, Nat.zero_add]
  rfl
theorem magR_some (n : Nat) (h : n < 18446744073709551616) : magR (some (n, true)) = (n, false, true) := by
  unfold magR
  dsimp only
  rw [Nat.mod_eq_of_lt h, decide_eq_false (by omega)]
theorem dec_unsig (n : Nat) (t : List UInt8) : isNeg (Lib.decDigits n ++ t) = false ∧ unsig (Lib.decDigits n ++ t) = Lib.decDigits n ++ t := by
  obtain ⟨d, r, h, _⟩ := dec_cons n
  obtain ⟨_, _, h1, h2, _⟩ := dig_fin d
  rw [h]
  obtain ⟨c, hc⟩ : ∃ c, UInt8.ofNat (48 + d.val) = c := ⟨_, rfl⟩
  rw [hc] at h1 h2 ⊢
  unfold unsig isNeg isSig
  simp [h1, h2]
theorem num_dec (n : Nat) (h : n < 18446744073709551616) (bits : Int) (h1 : 1 ≤ bits) (h2 : bits ≤ 64) : numF (Lib.decDigits n) bits = if 2 ^ bits.toNat - 1 < n then (0, 6) else ((n : Int), 0) := by
  unfold numF
  have hu := dec_unsig n []
  rw [List.append_nil] at hu
  rw [if_neg (by omega), hu.1, hu.2, mag_dec, magR_some n h]
  unfold numR
  simp
theorem num_neg (n : Nat) (h : n < 18446744073709551616) (bits : Int) (h1 : 1 ≤ bits) (h2 : bits ≤ 64) : numF (45 :: Lib.decDigits n) bits = if 2 ^ (bits.toNat - 1) < n then (0, 6) else ((((18446744073709551616 - n) % 18446744073709551616 % 2 ^ bits.toNat : Nat) : Int), 0) := by
  unfold numF
  rw [if_neg (by omega), show isNeg (45 :: Lib.decDigits n) = true from rfl, show unsig (45 :: Lib.decDigits n) = Lib.decDigits n from rfl, mag_dec, magR_some n h]
  unfold numR
  simp
theorem num_text (n : Nat) (bits : Int) (h1 : 1 ≤ bits) (h2 : bits ≤ 64) : numF (textF n bits) bits = (((n % 2 ^ bits.toNat : Nat) : Int), 0) := by
  unfold textF
  rw [if_neg (by omega)]
  obtain ⟨b, rfl⟩ := Int.eq_ofNat_of_zero_le (by omega : 0 ≤ bits)
  simp only [Int.toNat_natCast] at *
  have hp := pow_fin ⟨b, by omega⟩
  simp only at hp
  have hK1 : 2 ^ b = 2 ^ (b - 1) + 2 ^ (b - 1) := by
    obtain ⟨m, rfl⟩ : ∃ m, b = m + 1 := ⟨b - 1, by omega⟩
    rw [Nat.pow_succ]; simp; omega
  have hm := Nat.mod_lt n (Nat.two_pow_pos b)
  unfold sx
  split
  · rename_i hs
    rw [Lib.itoa_nonneg, num_dec _ (by omega) _ (by omega) (by omega), Int.toNat_natCast, if_neg (by omega)]
  · rename_i hs
    obtain ⟨k, hk⟩ : ∃ k, k = 2 ^ b - n % 2 ^ b := ⟨_, rfl⟩
    rw [show ((n % 2 ^ b : Nat) : Int) - ((2 ^ b : Nat) : Int) = -((k : Nat) : Int) from by omega, Lib.itoa_neg k (by omega), num_neg k (by omega) _ (by omega) (by omega), Int.toNat_natCast, if_neg (by omega)]
    have hpos : 0 < 2 ^ b := Nat.two_pow_pos b
    have e : (18446744073709551616 - k) % 18446744073709551616 % 2 ^ b = n % 2 ^ b := by
      rw [Nat.mod_eq_of_lt (by omega : 18446744073709551616 - k < 18446744073709551616)]
      have hd : 18446744073709551616 = 2 ^ b * 2 ^ (64 - b) := by rw [← Nat.pow_add, show b + (64 - b) = 64 from by omega]
      have hq : 0 < 2 ^ (64 - b) := Nat.two_pow_pos _
      obtain ⟨q, hq'⟩ : ∃ q, 2 ^ (64 - b) = q + 1 := ⟨2 ^ (64 - b) - 1, by omega⟩
      rw [hd, hq', Nat.mul_add, Nat.mul_one, show 2 ^ b * q + 2 ^ b - k = n % 2 ^ b + 2 ^ b * q from by omega, Nat.add_mul_mod_self_left, Nat.mod_mod]
    rw [e]
end Ltr
end Go.Proofs.YtpmalmednkknpaaDoor
