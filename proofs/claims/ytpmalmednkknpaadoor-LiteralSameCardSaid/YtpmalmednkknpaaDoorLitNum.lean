/-
  literal.Num at any string and width.
-/
import Derived.Test.YtpmalmednkknpaaDoorLitMag3
import Derived.Deep.QuietTactic
import Derived.BigQuiet
set_option linter.unusedVariables false
namespace Go.Proofs.YtpmalmednkknpaaDoor
open Go.RowKit
attribute [local go_sem] ByteArray.extract_mk

namespace Ltr
/-- Whether the number is below zero; whether a sign stands before it; the text without its sign. -/
def isNeg (s : List UInt8) : Bool := s.head? == some 45
def isSig (s : List UInt8) : Bool := s.head? == some 45 || s.head? == some 43
def unsig (s : List UInt8) : List UInt8 := if isSig s then s.tail else s
/-- The number that n of b bits becomes, and the error. -/
def numR (neg : Bool) (n : Nat) (over ok : Bool) (b : Nat) : Int × Int :=
  if ok = false then (0, 4)
  else if over = true ∨ (neg = false ∧ 2 ^ b - 1 < n) ∨ (neg = true ∧ 2 ^ (b - 1) < n) then (0, 6)
  else if neg = true then (((18446744073709551616 - n) % 18446744073709551616 % 2 ^ b : Nat), 0)
  else ((n : Int), 0)
def numF (s : List UInt8) (bits : Int) : Int × Int :=
  if bits < 1 ∨ 64 < bits then (0, 1)
  else numR (isNeg s) (magR (mag (unsig s))).1 (magR (mag (unsig s))).2.1 (magR (mag (unsig s))).2.2 bits.toNat
theorem magR_lt (o : Option (Nat × Bool)) : (magR o).1 < 18446744073709551616 := by
  unfold magR
  split
  · simp
  · exact Nat.mod_lt _ (by omega)
theorem top_fin : ∀ b : Fin 65, 18446744073709551615 / 2 ^ (64 - b.val) = 2 ^ b.val - 1 := by decide +kernel
theorem half_fin : ∀ b : Fin 65, b.val ≠ 0 → (2 ^ b.val - 1) / 2 + 1 = 2 ^ (b.val - 1) := by decide +kernel
theorem pow_fin : ∀ b : Fin 65, 2 ^ b.val ≤ 18446744073709551616 := by decide +kernel
theorem pow_fin' : ∀ b : Fin 64, 2 ^ b.val ≤ 9223372036854775808 := by decide +kernel
end Ltr
theorem top_at (b : Nat) (h : b ≤ 64) : (18446744073709551615 : Int) / 2 ^ (64 - b) = ((2 ^ b - 1 : Nat) : Int) := by
  have := Ltr.top_fin ⟨b, by omega⟩
  simp only at this
  rw [← this]
  simp
theorem neg_and (n b : Nat) (hn : n < 18446744073709551616) (hb : b ≤ 64) : bits .and .u64 (IntKind.u64.wrap (-(n : Int))) ((2 ^ b - 1 : Nat) : Int) = (((18446744073709551616 - n) % 18446744073709551616 % 2 ^ b : Nat) : Int) := by
  have e : IntKind.u64.wrap (-(n : Int)) = (((18446744073709551616 - n) % 18446744073709551616 : Nat) : Int) := by rw [IntKind.wrap_u64]; omega
  have hp := Ltr.pow_fin ⟨b, by omega⟩
  simp only at hp
  rw [e, u64_and_nat _ _ (Nat.mod_lt _ (by omega)) (by have := Nat.two_pow_pos b; omega), Nat.and_two_pow_sub_one_eq_mod]
/-- What the call returns: the pair x. -/
def RetN (x : Int × Int) (w : World) (e : Ending) (w' : World) : Prop := e = .returned (.tuple #[.int .u64 x.1, .int .i64 x.2]) ∧ ∃ q, w' = w.drewN q
theorem retN_mk {x : Int × Int} {w : World} {a b : Int} {q : Nat} (h : x = (a, b)) : RetN x w (.returned (.tuple #[.int .u64 a, .int .i64 b])) (w.drewN q) := by subst h; exact ⟨rfl, q, rfl⟩

set_option maxHeartbeats 1000000 in
set_option maxRecDepth 100000 in
theorem num_arg (l : List UInt8) (bits : Int) (w : World) (h : bits < 1 ∨ 64 < bits) :
    Calls Tryd.prog 16 #[.string ⟨l.toArray⟩, .int .i64 bits] w (RetN (0, 1) w) := by
  rcases (by omega : bits < 1 ∨ (1 ≤ bits ∧ 64 < bits)) with h | ⟨h1, h2⟩
  · have d1 : decide (bits < 1) = true := by simpa using h
    go_enter Tryd.func16, Tryd.ntmps16
    go_wp2
    go_ret2
    exact retN_mk (q := 0) rfl
  · have d1 : decide (bits < 1) = false := by simp; omega
    have d2 : decide (64 < bits) = true := by simpa using h2
    go_enter Tryd.func16, Tryd.ntmps16
    go_wp2
    go_ret2
    exact retN_mk (q := 0) rfl

set_option maxHeartbeats 1000000 in
set_option maxRecDepth 100000 in
theorem num_none (c : UInt8) (r l : List UInt8) (e : l = c :: r) (hl : l.length ≤ 1000000) (hc1 : c ≠ 45) (hc2 : c ≠ 43) (b : Nat) (w : World) (h1 : 1 ≤ b) (h2 : b ≤ 64) :
    Calls Tryd.prog 16 #[.string ⟨l.toArray⟩, .int .i64 (b : Int)] w (RetN (Ltr.numR false (Ltr.magR (Ltr.mag l)).1 (Ltr.magR (Ltr.mag l)).2.1 (Ltr.magR (Ltr.mag l)).2.2 b) w) := by
  have hmag : ∀ W : World, Calls Tryd.prog 26 #[.string ⟨l.toArray⟩] W fun e w' => e = .returned (.tuple #[.int .u64 ((Ltr.magR (Ltr.mag l)).1 : Int), .bool (Ltr.magR (Ltr.mag l)).2.1, .bool (Ltr.magR (Ltr.mag l)).2.2]) ∧ ∃ q, w' = W.drewN q := fun W => mag_any l W hl
  have d1 : decide ((b : Int) < 1) = false := by simp; omega
  have d2 : decide (64 < (b : Int)) = false := by simp; omega
  have hn := Ltr.magR_lt (Ltr.mag l)
  have hp := Ltr.pow_fin ⟨b, by omega⟩
  simp only at hp
  have hpos := Nat.two_pow_pos b
  generalize Ltr.magR (Ltr.mag l) = m at hmag hn ⊢
  obtain ⟨n, over, ok⟩ := m
  dsimp only at hmag hn ⊢
  have HM := Lib.hid hmag
  have hG := top_at b h2
  have hV := neg_and n b hn h2
  have hHf := Ltr.half_fin ⟨b, by omega⟩ (by simp; omega)
  simp only at hHf
  have hH1 : ((2 ^ b - 1 : Nat) : Int) / 2 + 1 = ((2 ^ (b - 1) : Nat) : Int) := by omega
  have hp' := Ltr.pow_fin' ⟨b - 1, by omega⟩
  simp only at hp'
  have hN : Ltr.numR false n over ok b = Ltr.numR false n over ok b := rfl
  unfold Ltr.numR at hN ⊢
  generalize 2 ^ b - 1 = G at *
  generalize 2 ^ (b - 1) = K at *
  have hH2 : IntKind.u64.wrap ((G : Int) / 2 + 1) = (K : Int) := by rw [hH1, IntKind.wrap_u64]; omega
  generalize ((18446744073709551616 - n) % 18446744073709551616 % 2 ^ b : Nat) = V at *
  clear hmag hN hH1 hHf hp' hpos hp hn
  have s1 := lcne c 45 (by omega) hc1
  have s2 := lcne c 43 (by omega) hc2
  simp only [Int.cast_ofNat_Int] at s1 s2
  subst e
  have hb0 := lba_get (c :: r) 0 (by simp) c rfl
  clear hc1 hc2
  cases ok with
  | false =>
    clear hV hH2
    rw [if_pos rfl]
    go_enter Tryd.func16, Tryd.ntmps16
    go_wp2_with (go_at_call 26; refine (HM.out _).mono ?_; rintro e w1 ⟨rfl, q, rfl⟩)
    go_ret2
    exact retN_mk rfl
  | true =>
    rw [if_neg (by decide)]
    cases over with
    | true =>
      clear hV hH2
      rw [if_pos (.inl rfl)]
      go_enter Tryd.func16, Tryd.ntmps16
      go_wp2_with (go_at_call 26; refine (HM.out _).mono ?_; rintro e w1 ⟨rfl, q, rfl⟩)
      go_ret2
      exact retN_mk rfl
    | false =>
      clear hV hH2
      by_cases hc : G < n
      · rw [if_pos (.inr (.inl ⟨rfl, hc⟩))]
        have c1 : decide ((G : Int) < (n : Int)) = true := by simpa using hc
        have c2 : decide (G < n) = true := by simpa using hc
        go_enter Tryd.func16, Tryd.ntmps16
        go_wp2_with (go_at_call 26; refine (HM.out _).mono ?_; rintro e w1 ⟨rfl, q, rfl⟩)
        go_ret2
        exact retN_mk rfl
      · rw [if_neg (by simp; omega), if_neg (by decide)]
        have c1 : decide ((G : Int) < (n : Int)) = false := by simp; omega
        have c2 : decide (G < n) = false := by simpa using hc
        go_enter Tryd.func16, Tryd.ntmps16
        go_wp2_with (go_at_call 26; refine (HM.out _).mono ?_; rintro e w1 ⟨rfl, q, rfl⟩)
        go_ret2
        exact retN_mk rfl

set_option maxHeartbeats 1000000 in
set_option maxRecDepth 100000 in
theorem num_empty (l : List UInt8) (e : l = []) (hl : l.length ≤ 1000000) (b : Nat) (w : World) (h1 : 1 ≤ b) (h2 : b ≤ 64) :
    Calls Tryd.prog 16 #[.string ⟨l.toArray⟩, .int .i64 (b : Int)] w (RetN (Ltr.numR false (Ltr.magR (Ltr.mag l)).1 (Ltr.magR (Ltr.mag l)).2.1 (Ltr.magR (Ltr.mag l)).2.2 b) w) := by
  have hmag : ∀ W : World, Calls Tryd.prog 26 #[.string ⟨l.toArray⟩] W fun e w' => e = .returned (.tuple #[.int .u64 ((Ltr.magR (Ltr.mag l)).1 : Int), .bool (Ltr.magR (Ltr.mag l)).2.1, .bool (Ltr.magR (Ltr.mag l)).2.2]) ∧ ∃ q, w' = W.drewN q := fun W => mag_any l W hl
  have d1 : decide ((b : Int) < 1) = false := by simp; omega
  have d2 : decide (64 < (b : Int)) = false := by simp; omega
  have hn := Ltr.magR_lt (Ltr.mag l)
  have hp := Ltr.pow_fin ⟨b, by omega⟩
  simp only at hp
  have hpos := Nat.two_pow_pos b
  generalize Ltr.magR (Ltr.mag l) = m at hmag hn ⊢
  obtain ⟨n, over, ok⟩ := m
  dsimp only at hmag hn ⊢
  have HM := Lib.hid hmag
  have hG := top_at b h2
  have hV := neg_and n b hn h2
  have hHf := Ltr.half_fin ⟨b, by omega⟩ (by simp; omega)
  simp only at hHf
  have hH1 : ((2 ^ b - 1 : Nat) : Int) / 2 + 1 = ((2 ^ (b - 1) : Nat) : Int) := by omega
  have hp' := Ltr.pow_fin' ⟨b - 1, by omega⟩
  simp only at hp'
  have hN : Ltr.numR false n over ok b = Ltr.numR false n over ok b := rfl
  unfold Ltr.numR at hN ⊢
  generalize 2 ^ b - 1 = G at *
  generalize 2 ^ (b - 1) = K at *
  have hH2 : IntKind.u64.wrap ((G : Int) / 2 + 1) = (K : Int) := by rw [hH1, IntKind.wrap_u64]; omega
  generalize ((18446744073709551616 - n) % 18446744073709551616 % 2 ^ b : Nat) = V at *
  clear hmag hN hH1 hHf hp' hpos hp hn
  subst e
  cases ok with
  | false =>
    clear hV hH2
    rw [if_pos rfl]
    go_enter Tryd.func16, Tryd.ntmps16
    go_wp2_with (go_at_call 26; refine (HM.out _).mono ?_; rintro e w1 ⟨rfl, q, rfl⟩)
    go_ret2
    exact retN_mk rfl
  | true =>
    rw [if_neg (by decide)]
    cases over with
    | true =>
      clear hV hH2
      rw [if_pos (.inl rfl)]
      go_enter Tryd.func16, Tryd.ntmps16
      go_wp2_with (go_at_call 26; refine (HM.out _).mono ?_; rintro e w1 ⟨rfl, q, rfl⟩)
      go_ret2
      exact retN_mk rfl
    | false =>
      clear hV hH2
      by_cases hc : G < n
      · rw [if_pos (.inr (.inl ⟨rfl, hc⟩))]
        have c1 : decide ((G : Int) < (n : Int)) = true := by simpa using hc
        have c2 : decide (G < n) = true := by simpa using hc
        go_enter Tryd.func16, Tryd.ntmps16
        go_wp2_with (go_at_call 26; refine (HM.out _).mono ?_; rintro e w1 ⟨rfl, q, rfl⟩)
        go_ret2
        exact retN_mk rfl
      · rw [if_neg (by simp; omega), if_neg (by decide)]
        have c1 : decide ((G : Int) < (n : Int)) = false := by simp; omega
        have c2 : decide (G < n) = false := by simpa using hc
        go_enter Tryd.func16, Tryd.ntmps16
        go_wp2_with (go_at_call 26; refine (HM.out _).mono ?_; rintro e w1 ⟨rfl, q, rfl⟩)
        go_ret2
        exact retN_mk rfl

set_option maxHeartbeats 1000000 in
set_option maxRecDepth 100000 in
theorem num_plus (l : List UInt8) (hl : l.length ≤ 1000000) (b : Nat) (w : World) (h1 : 1 ≤ b) (h2 : b ≤ 64) :
    Calls Tryd.prog 16 #[.string ⟨(43 :: l).toArray⟩, .int .i64 (b : Int)] w (RetN (Ltr.numR false (Ltr.magR (Ltr.mag l)).1 (Ltr.magR (Ltr.mag l)).2.1 (Ltr.magR (Ltr.mag l)).2.2 b) w) := by
  have hmag : ∀ W : World, Calls Tryd.prog 26 #[.string ⟨l.toArray⟩] W fun e w' => e = .returned (.tuple #[.int .u64 ((Ltr.magR (Ltr.mag l)).1 : Int), .bool (Ltr.magR (Ltr.mag l)).2.1, .bool (Ltr.magR (Ltr.mag l)).2.2]) ∧ ∃ q, w' = W.drewN q := fun W => mag_any l W hl
  have d1 : decide ((b : Int) < 1) = false := by simp; omega
  have d2 : decide (64 < (b : Int)) = false := by simp; omega
  have hn := Ltr.magR_lt (Ltr.mag l)
  have hp := Ltr.pow_fin ⟨b, by omega⟩
  simp only at hp
  have hpos := Nat.two_pow_pos b
  generalize Ltr.magR (Ltr.mag l) = m at hmag hn ⊢
  obtain ⟨n, over, ok⟩ := m
  dsimp only at hmag hn ⊢
  have HM := Lib.hid hmag
  have hG := top_at b h2
  have hV := neg_and n b hn h2
  have hHf := Ltr.half_fin ⟨b, by omega⟩ (by simp; omega)
  simp only at hHf
  have hH1 : ((2 ^ b - 1 : Nat) : Int) / 2 + 1 = ((2 ^ (b - 1) : Nat) : Int) := by omega
  have hp' := Ltr.pow_fin' ⟨b - 1, by omega⟩
  simp only at hp'
  have hN : Ltr.numR false n over ok b = Ltr.numR false n over ok b := rfl
  unfold Ltr.numR at hN ⊢
  generalize 2 ^ b - 1 = G at *
  generalize 2 ^ (b - 1) = K at *
  have hH2 : IntKind.u64.wrap ((G : Int) / 2 + 1) = (K : Int) := by rw [hH1, IntKind.wrap_u64]; omega
  generalize ((18446744073709551616 - n) % 18446744073709551616 % 2 ^ b : Nat) = V at *
  clear hmag hN hH1 hHf hp' hpos hp hn
  have hb0 := lba_get (43 :: l) 0 (by simp) 43 rfl
  cases ok with
  | false =>
    clear hV hH2
    rw [if_pos rfl]
    go_enter Tryd.func16, Tryd.ntmps16
    go_wp2_with fail
    go_quiet (fail)
    go_wp2_with (go_at_call 26; refine (HM.out _).mono ?_; rintro e w1 ⟨rfl, q, rfl⟩)
    go_ret2
    exact retN_mk rfl
  | true =>
    rw [if_neg (by decide)]
    cases over with
    | true =>
      clear hV hH2
      rw [if_pos (.inl rfl)]
      go_enter Tryd.func16, Tryd.ntmps16
      go_wp2_with fail
      go_quiet (fail)
      go_wp2_with (go_at_call 26; refine (HM.out _).mono ?_; rintro e w1 ⟨rfl, q, rfl⟩)
      go_ret2
      exact retN_mk rfl
    | false =>
      clear hV hH2
      by_cases hc : G < n
      · rw [if_pos (.inr (.inl ⟨rfl, hc⟩))]
        have c1 : decide ((G : Int) < (n : Int)) = true := by simpa using hc
        have c2 : decide (G < n) = true := by simpa using hc
        go_enter Tryd.func16, Tryd.ntmps16
        go_wp2_with fail
        go_quiet (fail)
        go_wp2_with (go_at_call 26; refine (HM.out _).mono ?_; rintro e w1 ⟨rfl, q, rfl⟩)
        go_ret2
        exact retN_mk rfl
      · rw [if_neg (by simp; omega), if_neg (by decide)]
        have c1 : decide ((G : Int) < (n : Int)) = false := by simp; omega
        have c2 : decide (G < n) = false := by simpa using hc
        go_enter Tryd.func16, Tryd.ntmps16
        go_wp2_with fail
        go_quiet (fail)
        go_wp2_with (go_at_call 26; refine (HM.out _).mono ?_; rintro e w1 ⟨rfl, q, rfl⟩)
        go_ret2
        exact retN_mk rfl

set_option maxHeartbeats 1000000 in
set_option maxRecDepth 100000 in
theorem num_minus (l : List UInt8) (hl : l.length ≤ 1000000) (b : Nat) (w : World) (h1 : 1 ≤ b) (h2 : b ≤ 64) :
    Calls Tryd.prog 16 #[.string ⟨(45 :: l).toArray⟩, .int .i64 (b : Int)] w (RetN (Ltr.numR true (Ltr.magR (Ltr.mag l)).1 (Ltr.magR (Ltr.mag l)).2.1 (Ltr.magR (Ltr.mag l)).2.2 b) w) := by
  have hmag : ∀ W : World, Calls Tryd.prog 26 #[.string ⟨l.toArray⟩] W fun e w' => e = .returned (.tuple #[.int .u64 ((Ltr.magR (Ltr.mag l)).1 : Int), .bool (Ltr.magR (Ltr.mag l)).2.1, .bool (Ltr.magR (Ltr.mag l)).2.2]) ∧ ∃ q, w' = W.drewN q := fun W => mag_any l W hl
  have d1 : decide ((b : Int) < 1) = false := by simp; omega
  have d2 : decide (64 < (b : Int)) = false := by simp; omega
  have hn := Ltr.magR_lt (Ltr.mag l)
  have hp := Ltr.pow_fin ⟨b, by omega⟩
  simp only at hp
  have hpos := Nat.two_pow_pos b
  generalize Ltr.magR (Ltr.mag l) = m at hmag hn ⊢
  obtain ⟨n, over, ok⟩ := m
  dsimp only at hmag hn ⊢
  have HM := Lib.hid hmag
  have hG := top_at b h2
  have hV := neg_and n b hn h2
  have hHf := Ltr.half_fin ⟨b, by omega⟩ (by simp; omega)
  simp only at hHf
  have hH1 : ((2 ^ b - 1 : Nat) : Int) / 2 + 1 = ((2 ^ (b - 1) : Nat) : Int) := by omega
  have hp' := Ltr.pow_fin' ⟨b - 1, by omega⟩
  simp only at hp'
  have hN : Ltr.numR true n over ok b = Ltr.numR true n over ok b := rfl
  unfold Ltr.numR at hN ⊢
  generalize 2 ^ b - 1 = G at *
  generalize 2 ^ (b - 1) = K at *
  have hH2 : IntKind.u64.wrap ((G : Int) / 2 + 1) = (K : Int) := by rw [hH1, IntKind.wrap_u64]; omega
  generalize ((18446744073709551616 - n) % 18446744073709551616 % 2 ^ b : Nat) = V at *
  clear hmag hN hH1 hHf hp' hpos hp hn
  have hb0 := lba_get (45 :: l) 0 (by simp) 45 rfl
  cases ok with
  | false =>
    clear hV hH2
    rw [if_pos rfl]
    go_enter Tryd.func16, Tryd.ntmps16
    go_wp2_with fail
    go_quiet (fail)
    go_wp2_with (go_at_call 26; refine (HM.out _).mono ?_; rintro e w1 ⟨rfl, q, rfl⟩)
    go_ret2
    exact retN_mk rfl
  | true =>
    rw [if_neg (by decide)]
    cases over with
    | true =>
      clear hV hH2
      rw [if_pos (.inl rfl)]
      go_enter Tryd.func16, Tryd.ntmps16
      go_wp2_with fail
      go_quiet (fail)
      go_wp2_with (go_at_call 26; refine (HM.out _).mono ?_; rintro e w1 ⟨rfl, q, rfl⟩)
      go_ret2
      exact retN_mk rfl
    | false =>
      by_cases hc : K < n
      · rw [if_pos (.inr (.inr ⟨rfl, hc⟩))]
        have c1 : decide ((K : Int) < (n : Int)) = true := by simpa using hc
        have c2 : decide (K < n) = true := by simpa using hc
        clear hV
        go_enter Tryd.func16, Tryd.ntmps16
        go_wp2_with fail
        go_quiet (fail)
        go_wp2_with (go_at_call 26; refine (HM.out _).mono ?_; rintro e w1 ⟨rfl, q, rfl⟩)
        go_ret2
        exact retN_mk rfl
      · rw [if_neg (by simp; omega), if_pos rfl]
        have c1 : decide ((K : Int) < (n : Int)) = false := by simp; omega
        have c2 : decide (K < n) = false := by simpa using hc
        go_enter Tryd.func16, Tryd.ntmps16
        go_wp2_with fail
        go_quiet (fail)
        go_wp2_with (go_at_call 26; refine (HM.out _).mono ?_; rintro e w1 ⟨rfl, q, rfl⟩)
        go_ret2
        exact retN_mk rfl
end Go.Proofs.YtpmalmednkknpaaDoor
