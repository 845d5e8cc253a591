/-
  Plain: ways of writing one number.
-/
import Derived.Test.YtpmalmednkknpaaDoorLitP2
set_option linter.unusedVariables false
set_option linter.unusedSectionVars false
namespace Go.Proofs.YtpmalmednkknpaaDoor
namespace Ltr

/-- Digits of the base, no underscore. -/
def Digs (base : Nat) (l : List UInt8) : Prop := ∀ c ∈ l, 0 ≤ dig c ∧ dig c < base ∧ c ≠ 95
def val (base : Nat) (l : List UInt8) (a : Nat) : Nat := l.foldl (fun N c => N * base + (dig c).toNat) a
theorem val_app (base : Nat) (l m : List UInt8) (a : Nat) : val base (l ++ m) a = val base m (val base l a) := by simp [val]
theorem Digs.app {base : Nat} {l m : List UInt8} (h : Digs base l) (k : Digs base m) : Digs base (l ++ m) := by
  intro c hc
  rcases List.mem_append.1 hc with hc | hc
  · exact h c hc
  · exact k c hc
theorem mgo_digs (base : Nat) (l : List UInt8) : ∀ (t : List UInt8) (a : Nat) (g : Bool), Digs base l → l ≠ [] → mgo base (l ++ t) a g = mgo base t (val base l a) true := by
  induction l with
  | nil => intro t a g _ h; exact absurd rfl h
  | cons c r ih =>
    intro t a g hd _
    obtain ⟨h1, h2, h3⟩ := hd c (List.mem_cons_self ..)
    have hb : (c == 95) = false := by simpa only [beq_eq_false_iff_ne] using h3
    have hs : mgo base ((c :: r) ++ t) a g = mgo base (r ++ t) (a * base + (dig c).toNat) true := by
      show mgo base (c :: (r ++ t)) a g = _
      conv => lhs; unfold mgo
      rw [hb, if_neg (by simp), if_neg (by omega)]
    rw [hs]
    cases hr : r with
    | nil => rfl
    | cons d r' =>
      rw [← hr, ih t _ true (fun c hc => hd c (List.mem_cons_of_mem _ hc)) (by rw [hr]; simp)]
      rfl
theorem mgo_under (base : Nat) (t : List UInt8) (a : Nat) : mgo base (95 :: t) a true = mgo base t a false := by
  conv => lhs; unfold mgo
  simp
theorem val_digits (n : Nat) : Digs 10 (Lib.decDigits n) ∧ val 10 (Lib.decDigits n) 0 = n := by
  constructor
  · intro c hc
    obtain ⟨d, rfl⟩ := dec_chars n c hc
    obtain ⟨h1, h2, _⟩ := dig_fin d
    exact ⟨by omega, by omega, h2⟩
  · induction n using Nat.strongRecOn with
    | ind n ih =>
      by_cases h : n < 10
      · rw [Lib.decDigits_one h]
        obtain ⟨h1, _⟩ := dig_fin ⟨n, h⟩
        simp only at h1
        simp only [val, List.foldl_cons, List.foldl_nil]
        rw [h1]; simp
      · rw [decDigits_ten h, val_app, ih (n / 10) (by omega)]
        obtain ⟨h1, _⟩ := dig_fin ⟨n % 10, by omega⟩
        simp only at h1
        simp only [val, List.foldl_cons, List.foldl_nil]
        rw [h1]; simp; omega

/-- The law's own hexadecimal digits, some of them capitals. -/
def hexT : List UInt8 := [48, 49, 50, 51, 52, 53, 54, 55, 56, 57, 97, 98, 99, 68, 69, 70]
def hxD (d : Nat) : UInt8 := hexT.getD d 0
theorem hxD_fin : ∀ d : Fin 16, dig (hxD d.val) = (d.val : Int) ∧ hxD d.val ≠ 95 ∧ hexT.take 1 = [48] ∧ (hexT.drop d.val).take 1 = [hxD d.val] := by decide +kernel
/-- The first j digits. -/
def hxs (m : Nat) : Nat → List UInt8
  | 0 => []
  | j + 1 => hxs m j ++ [hxD (m / 2 ^ (60 - 4 * j) % 16)]
theorem hxs_len (m j : Nat) : (hxs m j).length = j := by
  induction j with
  | zero => rfl
  | succ j ih => simp [hxs, ih]
theorem hxs_digs (m j : Nat) : Digs 16 (hxs m j) := by
  induction j with
  | zero => intro c hc; cases hc
  | succ j ih =>
    refine ih.app ?_
    intro c hc
    obtain ⟨h1, h2, _⟩ := hxD_fin ⟨m / 2 ^ (60 - 4 * j) % 16, Nat.mod_lt _ (by decide)⟩
    rw [List.mem_singleton.1 hc]
    simp only at h1 h2
    exact ⟨by omega, by rw [h1]; omega, h2⟩
theorem hxs_val (m : Nat) (hm : m < 18446744073709551616) (j : Nat) (hj : j ≤ 16) : val 16 (hxs m j) 0 = m / 2 ^ (64 - 4 * j) := by
  induction j with
  | zero => show 0 = m / 2 ^ 64; rw [Nat.div_eq_of_lt (by omega)]
  | succ j ih =>
    rw [hxs, val_app, ih (by omega)]
    obtain ⟨h1, _⟩ := hxD_fin ⟨m / 2 ^ (60 - 4 * j) % 16, Nat.mod_lt _ (by decide)⟩
    simp only at h1
    simp only [val, List.foldl_cons, List.foldl_nil]
    rw [h1, Int.toNat_natCast, show 64 - 4 * j = (60 - 4 * j) + 4 from by omega, show 64 - 4 * (j + 1) = 60 - 4 * j from by omega, Nat.pow_add, ← Nat.div_div_eq_div_mul]
    omega
theorem num_of_mag {s : List UInt8} {n : Nat} (h : n < 18446744073709551616) (hn : isNeg s = false) (hm : mag (unsig s) = some (n, true)) : numF s 64 = ((n : Int), 0) := by
  unfold numF
  rw [if_neg (by decide), hn, hm, magR_some n h]
  show numR false n false true 64 = _
  unfold numR
  rw [if_neg (by decide), if_neg (by simp; omega), if_neg (by decide)]
theorem hexed_yes (l : List UInt8) (h : l ≠ []) : hexed (48 :: 120 :: l) = true := by
  cases l with
  | nil => exact absurd rfl h
  | cons c t => simp [hexed]
theorem mag_hex {l : List UInt8} (h : l ≠ []) {n : Nat} (hm : mgo 16 l 0 false = some (n, true)) : mag (48 :: 120 :: l) = some (n, true) := by
  unfold mag
  rw [if_pos (hexed_yes l h)]
  exact hm
theorem mag_ten {l : List UInt8} (h : ∀ c ∈ l, c ≠ 120) {n : Nat} (hm : mgo 10 l 0 false = some (n, true)) : mag l = some (n, true) := by
  unfold mag
  rw [not_hexed h, if_neg (by decide)]
  exact hm
theorem Digs.not_x {l : List UInt8} (h : Digs 10 l) : ∀ c ∈ l, c ≠ 120 := by
  intro c hc e
  subst e
  exact absurd (h _ hc).1 (by decide)
theorem Digs.not_sig {base : Nat} {l : List UInt8} (h : Digs base l) (t : List UInt8) (hl : l ≠ []) : isNeg (l ++ t) = false ∧ unsig (l ++ t) = l ++ t := by
  cases l with
  | nil => exact absurd rfl hl
  | cons c r =>
    obtain ⟨h1, _, _⟩ := h c (List.mem_cons_self ..)
    have h2 : c ≠ 45 := by rintro rfl; exact absurd h1 (by decide)
    have h3 : c ≠ 43 := by rintro rfl; exact absurd h1 (by decide)
    unfold unsig isNeg isSig
    simp [h2, h3]
def nz (k : Nat) : List UInt8 := List.replicate k 48
theorem nz_digs (k : Nat) : Digs 10 (nz k) := by
  intro c hc
  rw [List.eq_of_mem_replicate hc]
  decide
theorem nz_val (k : Nat) : val 10 (nz k) 0 = 0 := by
  induction k with
  | zero => rfl
  | succ k ih => rw [nz, List.replicate_succ']; rw [val_app]; show val 10 [48] (val 10 (nz k) 0) = 0; rw [ih]; rfl
variable (m : Nat) (hm : m < 18446744073709551616)
include hm
theorem same_plus : numF (43 :: Lib.decDigits m) 64 = ((m : Int), 0) := num_of_mag hm rfl (mag_dec m)
theorem dec_ne : Lib.decDigits m ≠ [] := by obtain ⟨d, t, h, _⟩ := dec_cons m; rw [h]; simp
theorem hxs16_ne : hxs m 16 ≠ [] := fun e => by have := hxs_len m 16; rw [e] at this; cases this
theorem mgo_hx : mgo 16 (hxs m 16) 0 false = some (m, true) := by
  have := mgo_digs 16 (hxs m 16) [] 0 false (hxs_digs m 16) (hxs16_ne m hm)
  rw [List.append_nil, hxs_val m hm 16 (by omega)] at this
  rw [this, show 64 - 4 * 16 = 0 from rfl, Nat.pow_zero, Nat.div_one]
  rfl
theorem same_hex : numF (48 :: 120 :: hxs m 16) 64 = ((m : Int), 0) := num_of_mag hm rfl (mag_hex (hxs16_ne m hm) (mgo_hx m hm))
theorem mgo_cut (base : Nat) (l t : List UInt8) (hl : Digs base l) (ht : Digs base t) (h1 : l ≠ []) (h2 : t ≠ []) : mgo base (l ++ 95 :: t) 0 false = some (val base (l ++ t) 0, true) := by
  rw [mgo_digs base l _ 0 false hl h1, mgo_under]
  have := mgo_digs base t [] (val base l 0) false ht h2
  rw [List.append_nil] at this
  rw [this, val_app]
  rfl
theorem Digs.take {base : Nat} {l : List UInt8} (h : Digs base l) (k : Nat) : Digs base (l.take k) := fun c hc => h c (List.mem_of_mem_take hc)
theorem Digs.drop {base : Nat} {l : List UInt8} (h : Digs base l) (k : Nat) : Digs base (l.drop k) := fun c hc => h c (List.mem_of_mem_drop hc)
theorem same_hexcut : numF (43 :: 48 :: 120 :: ((hxs m 16).take 8 ++ 95 :: (hxs m 16).drop 8)) 64 = ((m : Int), 0) := by
  have hl := hxs_len m 16
  refine num_of_mag hm rfl (mag_hex (by simp) ?_)
  rw [mgo_cut m hm 16 _ _ (Digs.take m hm (hxs_digs m 16) 8) (Digs.drop m hm (hxs_digs m 16) 8) (fun e => by have := congrArg List.length e; simp [hl] at this) (fun e => by have := congrArg List.length e; simp [hl] at this), List.take_append_drop, hxs_val m hm 16 (by omega), show 64 - 4 * 16 = 0 from rfl, Nat.pow_zero, Nat.div_one]
theorem mag_zero (k : Nat) : mag (nz k ++ Lib.decDigits m) = some (m, true) := by
  have hd := (nz_digs k).app (val_digits m).1
  refine mag_ten hd.not_x ?_
  have := mgo_digs 10 _ [] 0 false hd (by have := dec_ne m hm; simp [this])
  rw [List.append_nil, val_app, nz_val, (val_digits m).2] at this
  rw [this]
  rfl
theorem same_zero (k : Nat) : numF (nz k ++ Lib.decDigits m) 64 = ((m : Int), 0) := by
  have hd := (nz_digs k).app (val_digits m).1
  have hs := hd.not_sig [] (by have := dec_ne m hm; simp [this])
  rw [List.append_nil] at hs
  exact num_of_mag hm hs.1 (by rw [hs.2]; exact mag_zero m hm k)
theorem same_cut (k : Nat) (h1 : 1 ≤ k) (h2 : k < (Lib.decDigits m).length) : numF ((Lib.decDigits m).take k ++ 95 :: (Lib.decDigits m).drop k) 64 = ((m : Int), 0) := by
  have hd := (val_digits m).1
  have n1 : (Lib.decDigits m).take k ≠ [] := fun e => by have := congrArg List.length e; rw [List.length_take, List.length_nil] at this; omega
  have n2 : (Lib.decDigits m).drop k ≠ [] := fun e => by have := congrArg List.length e; rw [List.length_drop, List.length_nil] at this; omega
  have hs := (Digs.take m hm hd k).not_sig (95 :: (Lib.decDigits m).drop k) n1
  refine num_of_mag hm hs.1 ?_
  rw [hs.2]
  refine mag_ten ?_ ?_
  · intro c hc
    rcases List.mem_append.1 hc with hc | hc
    · exact (Digs.take m hm hd k).not_x c hc
    · rcases List.mem_cons.1 hc with rfl | hc
      · decide
      · exact (Digs.drop m hm hd k).not_x c hc
  · rw [mgo_cut m hm 10 _ _ (Digs.take m hm hd k) (Digs.drop m hm hd k) n1 n2, List.take_append_drop, (val_digits m).2]
theorem same_neg (h : m < 9223372036854775808) : numF (45 :: Lib.decDigits m) 64 = ((((18446744073709551616 - m) % 18446744073709551616 : Nat) : Int), 0) := by
  rw [num_neg m hm 64 (by decide) (by decide), if_neg (by show ¬ 2 ^ (64 - 1) < m; omega)]
  congr 2
  show (18446744073709551616 - m) % 18446744073709551616 % 18446744073709551616 = _
  rw [Nat.mod_mod]
theorem mag_sig (c : UInt8) (hc : dig c < 0) (hx : (c == 95) = false) (h48 : c ≠ 48) (t : List UInt8) : mag (c :: t) = none := by
  unfold mag
  have : hexed (c :: t) = false := by
    unfold hexed
    simp [h48]
  rw [this, if_neg (by decide)]
  unfold mgo
  rw [hx, if_neg (by simp), if_pos (.inl hc)]
theorem same_twosig (t : List UInt8) : numF (45 :: 43 :: t) 64 = (0, 4) := by
  unfold numF
  rw [if_neg (by decide), show unsig (45 :: 43 :: t) = 43 :: t from rfl, mag_sig m hm 43 (by decide) (by decide) (by decide)]
  rfl
theorem nat_zero (k : Nat) (h : m < 9223372036854775808) : natF (nz k ++ Lib.decDigits m) 9223372036854775807 = ((m : Int), 0) := by
  unfold natF
  rw [mag_zero m hm k, magR_some m hm, if_neg (by simp), if_neg (by simp; omega)]
theorem nat_plus (t : List UInt8) : natF (43 :: t) 9223372036854775807 = (0, 4) := by
  unfold natF
  rw [mag_sig m hm 43 (by decide) (by decide) (by decide)]
  rfl
end Ltr
end Go.Proofs.YtpmalmednkknpaaDoor
