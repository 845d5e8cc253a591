/-
  Num at any string and width: the program's and the reference's.
-/
import Derived.Test.YtpmalmednkknpaaDoorLitNum
import Derived.Test.YtpmalmednkknpaaDoorLitRMag
set_option linter.unusedVariables false
namespace Go.Proofs.YtpmalmednkknpaaDoor
open Go.RowKit
attribute [local go_sem] ByteArray.extract_mk

theorem Ltr.sig_cases (l : List UInt8) : (l = [] ∧ Ltr.isNeg l = false ∧ Ltr.unsig l = l) ∨ (∃ c r, l = c :: r ∧ c ≠ 45 ∧ c ≠ 43 ∧ Ltr.isNeg l = false ∧ Ltr.unsig l = l) ∨ (∃ r, l = 43 :: r ∧ Ltr.isNeg l = false ∧ Ltr.unsig l = r) ∨ (∃ r, l = 45 :: r ∧ Ltr.isNeg l = true ∧ Ltr.unsig l = r) := by
  cases l with
  | nil => exact .inl ⟨rfl, rfl, rfl⟩
  | cons c r =>
    by_cases h1 : c = 45
    · subst h1; exact .inr (.inr (.inr ⟨r, rfl, rfl, rfl⟩))
    · by_cases h2 : c = 43
      · subst h2; exact .inr (.inr (.inl ⟨r, rfl, rfl, rfl⟩))
      · exact .inr (.inl ⟨c, r, rfl, h1, h2, by simp [Ltr.isNeg, h1], by simp [Ltr.unsig, Ltr.isSig, h1, h2]⟩)
theorem num_any (l : List UInt8) (bits : Int) (w : World) (hl : l.length ≤ 1000000) :
    Calls Tryd.prog 16 #[.string ⟨l.toArray⟩, .int .i64 bits] w (RetN (Ltr.numF l bits) w) := by
  unfold Ltr.numF
  by_cases h : bits < 1 ∨ 64 < bits
  · rw [if_pos h]; exact num_arg l bits w h
  · rw [if_neg h]
    obtain ⟨b, rfl⟩ : ∃ b : Nat, bits = (b : Int) := ⟨bits.toNat, by omega⟩
    rw [show ((b : Int)).toNat = b from by omega]
    rcases Ltr.sig_cases l with ⟨e, h1, h2⟩ | ⟨c, r, e, hc1, hc2, h1, h2⟩ | ⟨r, e, h1, h2⟩ | ⟨r, e, h1, h2⟩
    · rw [h1, h2]; exact num_empty l e hl b w (by omega) (by omega)
    · rw [h1, h2]; exact num_none c r l e hl hc1 hc2 b w (by omega) (by omega)
    · rw [h1, h2, e]; exact num_plus r (by rw [e] at hl; simp at hl; omega) b w (by omega) (by omega)
    · rw [h1, h2, e]; exact num_minus r (by rw [e] at hl; simp at hl; omega) b w (by omega) (by omega)

set_option maxHeartbeats 1000000 in
set_option maxRecDepth 100000 in
theorem rnum_arg (l : List UInt8) (bits : Int) (w : World) (h : bits < 1 ∨ 64 < bits) :
    Calls Tryd.prog 17 #[.string ⟨l.toArray⟩, .int .i64 bits] w (RetN (0, 1) w) := by
  rcases (by omega : bits < 1 ∨ (1 ≤ bits ∧ 64 < bits)) with h | ⟨h1, h2⟩
  · have d1 : decide (bits < 1) = true := by simpa using h
    go_enter Tryd.func17, Tryd.ntmps17
    go_wp2
    go_ret2
    exact retN_mk (q := 0) rfl
  · have d1 : decide (bits < 1) = false := by simp; omega
    have d2 : decide (64 < bits) = true := by simpa using h2
    go_enter Tryd.func17, Tryd.ntmps17
    go_wp2
    go_ret2
    exact retN_mk (q := 0) rfl

set_option maxHeartbeats 1000000 in
set_option maxRecDepth 100000 in
theorem rnum_none (c : UInt8) (r l : List UInt8) (e : l = c :: r) (hl : l.length ≤ 1000000) (hc1 : c ≠ 45) (hc2 : c ≠ 43) (b : Nat) (w : World) (h1 : 1 ≤ b) (h2 : b ≤ 64) :
    Calls Tryd.prog 17 #[.string ⟨l.toArray⟩, .int .i64 (b : Int)] w (RetN (Ltr.numR false (Ltr.magR (Ltr.mag l)).1 (Ltr.magR (Ltr.mag l)).2.1 (Ltr.magR (Ltr.mag l)).2.2 b) w) := by
  have hmag : ∀ W : World, Calls Tryd.prog 27 #[.string ⟨l.toArray⟩] W fun e w' => e = .returned (.tuple #[.int .u64 ((Ltr.magR (Ltr.mag l)).1 : Int), .bool (Ltr.magR (Ltr.mag l)).2.1, .bool (Ltr.magR (Ltr.mag l)).2.2]) ∧ W = w' := fun W => digits_any l W hl
  have d1 : decide ((b : Int) < 1) = false := by simp; omega
  have d2 : decide (64 < (b : Int)) = false := by simp; omega
  have hn := Ltr.magR_lt (Ltr.mag l)
  have hp := Ltr.pow_fin ⟨b, by omega⟩
  simp only at hp
  have hpos := Nat.two_pow_pos b
  generalize Ltr.magR (Ltr.mag l) = m at hmag hn ⊢
  obtain ⟨n, over, ok⟩ := m
  dsimp only at hmag hn ⊢
  have HM := Lib.hid hmag
  have hV := neg_and n b hn h2
  have hK1 : 2 ^ b = 2 ^ (b - 1) + 2 ^ (b - 1) := by
    obtain ⟨m, rfl⟩ : ∃ m, b = m + 1 := ⟨b - 1, by omega⟩
    rw [Nat.pow_succ]; simp; omega
  have hp' := Ltr.pow_fin' ⟨b - 1, by omega⟩
  simp only at hp'
  have hpos' := Nat.two_pow_pos (b - 1)
  have hsh : (2 : Int) ^ (b - 1) = ((2 ^ (b - 1) : Nat) : Int) := by simp
  unfold Ltr.numR
  generalize hGG : 2 ^ b - 1 = G at *
  generalize 2 ^ (b - 1) = K at *
  have hw0 : IntKind.u64.wrap (K : Int) = (K : Int) := by rw [IntKind.wrap_u64]; omega
  have hw1 : IntKind.u64.wrap ((K : Int) - 1) = (K : Int) - 1 := by rw [IntKind.wrap_u64]; omega
  have hw2 : IntKind.u64.wrap ((K : Int) - 1 + (K : Int)) = (G : Int) := by rw [IntKind.wrap_u64]; omega
  have hKG : K ≤ G := by omega
  generalize ((18446744073709551616 - n) % 18446744073709551616 % 2 ^ b : Nat) = V at *
  clear hmag hp' hpos hp hn hpos' hK1 hGG
  have s1 := lcne c 45 (by omega) hc1
  have s2 := lcne c 43 (by omega) hc2
  simp only [Int.cast_ofNat_Int] at s1 s2
  subst e
  have hb0 := lba_get (c :: r) 0 (by simp) c rfl
  clear hc1 hc2
  cases ok with
  | false =>
    clear hV
    rw [if_pos rfl]
    go_enter Tryd.func17, Tryd.ntmps17
    go_wp2_with (go_at_call 27; refine (HM.out _).mono ?_; rintro e w1 ⟨rfl, rfl⟩)
    go_quiet (fail)
    go_wp2
    go_ret2
    exact retN_mk rfl
  | true =>
    rw [if_neg (by decide)]
    cases over with
    | true =>
      clear hV
      rw [if_pos (.inl rfl)]
      go_enter Tryd.func17, Tryd.ntmps17
      go_wp2_with (go_at_call 27; refine (HM.out _).mono ?_; rintro e w1 ⟨rfl, rfl⟩)
      go_quiet (fail)
      go_wp2
      go_ret2
      exact retN_mk rfl
    | false =>
      clear hV
      by_cases hc : G < n
      · rw [if_pos (.inr (.inl ⟨rfl, hc⟩))]
        have c1 : decide ((G : Int) < (n : Int)) = true := by simpa using hc
        have c2 : decide (G < n) = true := by simpa using hc
        go_enter Tryd.func17, Tryd.ntmps17
        go_wp2_with (go_at_call 27; refine (HM.out _).mono ?_; rintro e w1 ⟨rfl, rfl⟩)
        go_quiet (fail)
        go_wp2
        go_ret2
        exact retN_mk rfl
      · rw [if_neg (by simp; omega), if_neg (by decide)]
        have c1 : decide ((G : Int) < (n : Int)) = false := by simp; omega
        have c2 : decide (G < n) = false := by simpa using hc
        go_enter Tryd.func17, Tryd.ntmps17
        go_wp2_with (go_at_call 27; refine (HM.out _).mono ?_; rintro e w1 ⟨rfl, rfl⟩)
        go_quiet (fail)
        go_wp2
        go_ret2
        exact retN_mk rfl

set_option maxHeartbeats 1000000 in
set_option maxRecDepth 100000 in
theorem rnum_empty (l : List UInt8) (e : l = []) (hl : l.length ≤ 1000000) (b : Nat) (w : World) (h1 : 1 ≤ b) (h2 : b ≤ 64) :
    Calls Tryd.prog 17 #[.string ⟨l.toArray⟩, .int .i64 (b : Int)] w (RetN (Ltr.numR false (Ltr.magR (Ltr.mag l)).1 (Ltr.magR (Ltr.mag l)).2.1 (Ltr.magR (Ltr.mag l)).2.2 b) w) := by
  have hmag : ∀ W : World, Calls Tryd.prog 27 #[.string ⟨l.toArray⟩] W fun e w' => e = .returned (.tuple #[.int .u64 ((Ltr.magR (Ltr.mag l)).1 : Int), .bool (Ltr.magR (Ltr.mag l)).2.1, .bool (Ltr.magR (Ltr.mag l)).2.2]) ∧ W = w' := fun W => digits_any l W hl
  have d1 : decide ((b : Int) < 1) = false := by simp; omega
  have d2 : decide (64 < (b : Int)) = false := by simp; omega
  have hn := Ltr.magR_lt (Ltr.mag l)
  have hp := Ltr.pow_fin ⟨b, by omega⟩
  simp only at hp
  have hpos := Nat.two_pow_pos b
  generalize Ltr.magR (Ltr.mag l) = m at hmag hn ⊢
  obtain ⟨n, over, ok⟩ := m
  dsimp only at hmag hn ⊢
  have HM := Lib.hid hmag
  have hV := neg_and n b hn h2
  have hK1 : 2 ^ b = 2 ^ (b - 1) + 2 ^ (b - 1) := by
    obtain ⟨m, rfl⟩ : ∃ m, b = m + 1 := ⟨b - 1, by omega⟩
    rw [Nat.pow_succ]; simp; omega
  have hp' := Ltr.pow_fin' ⟨b - 1, by omega⟩
  simp only at hp'
  have hpos' := Nat.two_pow_pos (b - 1)
  have hsh : (2 : Int) ^ (b - 1) = ((2 ^ (b - 1) : Nat) : Int) := by simp
  unfold Ltr.numR
  generalize hGG : 2 ^ b - 1 = G at *
  generalize 2 ^ (b - 1) = K at *
  have hw0 : IntKind.u64.wrap (K : Int) = (K : Int) := by rw [IntKind.wrap_u64]; omega
  have hw1 : IntKind.u64.wrap ((K : Int) - 1) = (K : Int) - 1 := by rw [IntKind.wrap_u64]; omega
  have hw2 : IntKind.u64.wrap ((K : Int) - 1 + (K : Int)) = (G : Int) := by rw [IntKind.wrap_u64]; omega
  have hKG : K ≤ G := by omega
  generalize ((18446744073709551616 - n) % 18446744073709551616 % 2 ^ b : Nat) = V at *
  clear hmag hp' hpos hp hn hpos' hK1 hGG
  subst e
  cases ok with
  | false =>
    clear hV
    rw [if_pos rfl]
    go_enter Tryd.func17, Tryd.ntmps17
    go_wp2_with (go_at_call 27; refine (HM.out _).mono ?_; rintro e w1 ⟨rfl, rfl⟩)
    go_quiet (fail)
    go_wp2
    go_ret2
    exact retN_mk rfl
  | true =>
    rw [if_neg (by decide)]
    cases over with
    | true =>
      clear hV
      rw [if_pos (.inl rfl)]
      go_enter Tryd.func17, Tryd.ntmps17
      go_wp2_with (go_at_call 27; refine (HM.out _).mono ?_; rintro e w1 ⟨rfl, rfl⟩)
      go_quiet (fail)
      go_wp2
      go_ret2
      exact retN_mk rfl
    | false =>
      clear hV
      by_cases hc : G < n
      · rw [if_pos (.inr (.inl ⟨rfl, hc⟩))]
        have c1 : decide ((G : Int) < (n : Int)) = true := by simpa using hc
        have c2 : decide (G < n) = true := by simpa using hc
        go_enter Tryd.func17, Tryd.ntmps17
        go_wp2_with (go_at_call 27; refine (HM.out _).mono ?_; rintro e w1 ⟨rfl, rfl⟩)
        go_quiet (fail)
        go_wp2
        go_ret2
        exact retN_mk rfl
      · rw [if_neg (by simp; omega), if_neg (by decide)]
        have c1 : decide ((G : Int) < (n : Int)) = false := by simp; omega
        have c2 : decide (G < n) = false := by simpa using hc
        go_enter Tryd.func17, Tryd.ntmps17
        go_wp2_with (go_at_call 27; refine (HM.out _).mono ?_; rintro e w1 ⟨rfl, rfl⟩)
        go_quiet (fail)
        go_wp2
        go_ret2
        exact retN_mk rfl

set_option maxHeartbeats 1000000 in
set_option maxRecDepth 100000 in
theorem rnum_plus (l : List UInt8) (hl : l.length ≤ 1000000) (b : Nat) (w : World) (h1 : 1 ≤ b) (h2 : b ≤ 64) :
    Calls Tryd.prog 17 #[.string ⟨(43 :: l).toArray⟩, .int .i64 (b : Int)] w (RetN (Ltr.numR false (Ltr.magR (Ltr.mag l)).1 (Ltr.magR (Ltr.mag l)).2.1 (Ltr.magR (Ltr.mag l)).2.2 b) w) := by
  have hmag : ∀ W : World, Calls Tryd.prog 27 #[.string ⟨l.toArray⟩] W fun e w' => e = .returned (.tuple #[.int .u64 ((Ltr.magR (Ltr.mag l)).1 : Int), .bool (Ltr.magR (Ltr.mag l)).2.1, .bool (Ltr.magR (Ltr.mag l)).2.2]) ∧ W = w' := fun W => digits_any l W hl
  have d1 : decide ((b : Int) < 1) = false := by simp; omega
  have d2 : decide (64 < (b : Int)) = false := by simp; omega
  have hn := Ltr.magR_lt (Ltr.mag l)
  have hp := Ltr.pow_fin ⟨b, by omega⟩
  simp only at hp
  have hpos := Nat.two_pow_pos b
  generalize Ltr.magR (Ltr.mag l) = m at hmag hn ⊢
  obtain ⟨n, over, ok⟩ := m
  dsimp only at hmag hn ⊢
  have HM := Lib.hid hmag
  have hV := neg_and n b hn h2
  have hK1 : 2 ^ b = 2 ^ (b - 1) + 2 ^ (b - 1) := by
    obtain ⟨m, rfl⟩ : ∃ m, b = m + 1 := ⟨b - 1, by omega⟩
    rw [Nat.pow_succ]; simp; omega
  have hp' := Ltr.pow_fin' ⟨b - 1, by omega⟩
  simp only at hp'
  have hpos' := Nat.two_pow_pos (b - 1)
  have hsh : (2 : Int) ^ (b - 1) = ((2 ^ (b - 1) : Nat) : Int) := by simp
  unfold Ltr.numR
  generalize hGG : 2 ^ b - 1 = G at *
  generalize 2 ^ (b - 1) = K at *
  have hw0 : IntKind.u64.wrap (K : Int) = (K : Int) := by rw [IntKind.wrap_u64]; omega
  have hw1 : IntKind.u64.wrap ((K : Int) - 1) = (K : Int) - 1 := by rw [IntKind.wrap_u64]; omega
  have hw2 : IntKind.u64.wrap ((K : Int) - 1 + (K : Int)) = (G : Int) := by rw [IntKind.wrap_u64]; omega
  have hKG : K ≤ G := by omega
  generalize ((18446744073709551616 - n) % 18446744073709551616 % 2 ^ b : Nat) = V at *
  clear hmag hp' hpos hp hn hpos' hK1 hGG
  have hb0 := lba_get (43 :: l) 0 (by simp) 43 rfl
  cases ok with
  | false =>
    clear hV
    rw [if_pos rfl]
    go_enter Tryd.func17, Tryd.ntmps17
    go_wp2_with (go_at_call 27; refine (HM.out _).mono ?_; rintro e w1 ⟨rfl, rfl⟩)
    go_quiet (fail)
    go_wp2
    go_ret2
    exact retN_mk rfl
  | true =>
    rw [if_neg (by decide)]
    cases over with
    | true =>
      clear hV
      rw [if_pos (.inl rfl)]
      go_enter Tryd.func17, Tryd.ntmps17
      go_wp2_with (go_at_call 27; refine (HM.out _).mono ?_; rintro e w1 ⟨rfl, rfl⟩)
      go_quiet (fail)
      go_wp2
      go_ret2
      exact retN_mk rfl
    | false =>
      clear hV
      by_cases hc : G < n
      · rw [if_pos (.inr (.inl ⟨rfl, hc⟩))]
        have c1 : decide ((G : Int) < (n : Int)) = true := by simpa using hc
        have c2 : decide (G < n) = true := by simpa using hc
        go_enter Tryd.func17, Tryd.ntmps17
        go_wp2_with (go_at_call 27; refine (HM.out _).mono ?_; rintro e w1 ⟨rfl, rfl⟩)
        go_quiet (fail)
        go_wp2
        go_ret2
        exact retN_mk rfl
      · rw [if_neg (by simp; omega), if_neg (by decide)]
        have c1 : decide ((G : Int) < (n : Int)) = false := by simp; omega
        have c2 : decide (G < n) = false := by simpa using hc
        go_enter Tryd.func17, Tryd.ntmps17
        go_wp2_with (go_at_call 27; refine (HM.out _).mono ?_; rintro e w1 ⟨rfl, rfl⟩)
        go_quiet (fail)
        go_wp2
        go_ret2
        exact retN_mk rfl

set_option maxHeartbeats 1000000 in
set_option maxRecDepth 100000 in
theorem rnum_minus (l : List UInt8) (hl : l.length ≤ 1000000) (b : Nat) (w : World) (h1 : 1 ≤ b) (h2 : b ≤ 64) :
    Calls Tryd.prog 17 #[.string ⟨(45 :: l).toArray⟩, .int .i64 (b : Int)] w (RetN (Ltr.numR true (Ltr.magR (Ltr.mag l)).1 (Ltr.magR (Ltr.mag l)).2.1 (Ltr.magR (Ltr.mag l)).2.2 b) w) := by
  have hmag : ∀ W : World, Calls Tryd.prog 27 #[.string ⟨l.toArray⟩] W fun e w' => e = .returned (.tuple #[.int .u64 ((Ltr.magR (Ltr.mag l)).1 : Int), .bool (Ltr.magR (Ltr.mag l)).2.1, .bool (Ltr.magR (Ltr.mag l)).2.2]) ∧ W = w' := fun W => digits_any l W hl
  have d1 : decide ((b : Int) < 1) = false := by simp; omega
  have d2 : decide (64 < (b : Int)) = false := by simp; omega
  have hn := Ltr.magR_lt (Ltr.mag l)
  have hp := Ltr.pow_fin ⟨b, by omega⟩
  simp only at hp
  have hpos := Nat.two_pow_pos b
  generalize Ltr.magR (Ltr.mag l) = m at hmag hn ⊢
  obtain ⟨n, over, ok⟩ := m
  dsimp only at hmag hn ⊢
  have HM := Lib.hid hmag
  have hV := neg_and n b hn h2
  have hK1 : 2 ^ b = 2 ^ (b - 1) + 2 ^ (b - 1) := by
    obtain ⟨m, rfl⟩ : ∃ m, b = m + 1 := ⟨b - 1, by omega⟩
    rw [Nat.pow_succ]; simp; omega
  have hp' := Ltr.pow_fin' ⟨b - 1, by omega⟩
  simp only at hp'
  have hpos' := Nat.two_pow_pos (b - 1)
  have hsh : (2 : Int) ^ (b - 1) = ((2 ^ (b - 1) : Nat) : Int) := by simp
  unfold Ltr.numR
  generalize hGG : 2 ^ b - 1 = G at *
  generalize 2 ^ (b - 1) = K at *
  have hw0 : IntKind.u64.wrap (K : Int) = (K : Int) := by rw [IntKind.wrap_u64]; omega
  have hw1 : IntKind.u64.wrap ((K : Int) - 1) = (K : Int) - 1 := by rw [IntKind.wrap_u64]; omega
  have hw2 : IntKind.u64.wrap ((K : Int) - 1 + (K : Int)) = (G : Int) := by rw [IntKind.wrap_u64]; omega
  have hKG : K ≤ G := by omega
  generalize ((18446744073709551616 - n) % 18446744073709551616 % 2 ^ b : Nat) = V at *
  clear hmag hp' hpos hp hn hpos' hK1 hGG
  have hb0 := lba_get (45 :: l) 0 (by simp) 45 rfl
  cases ok with
  | false =>
    clear hV
    rw [if_pos rfl]
    go_enter Tryd.func17, Tryd.ntmps17
    go_wp2_with (go_at_call 27; refine (HM.out _).mono ?_; rintro e w1 ⟨rfl, rfl⟩)
    go_quiet (fail)
    go_wp2
    go_ret2
    exact retN_mk rfl
  | true =>
    rw [if_neg (by decide)]
    cases over with
    | true =>
      clear hV
      rw [if_pos (.inl rfl)]
      go_enter Tryd.func17, Tryd.ntmps17
      go_wp2_with (go_at_call 27; refine (HM.out _).mono ?_; rintro e w1 ⟨rfl, rfl⟩)
      go_quiet (fail)
      go_wp2
      go_ret2
      exact retN_mk rfl
    | false =>
      by_cases hc : K < n
      · rw [if_pos (.inr (.inr ⟨rfl, hc⟩))]
        have c1 : decide ((K : Int) < (n : Int)) = true := by simpa using hc
        have c2 : decide (K < n) = true := by simpa using hc
        clear hV
        go_enter Tryd.func17, Tryd.ntmps17
        go_wp2_with (go_at_call 27; refine (HM.out _).mono ?_; rintro e w1 ⟨rfl, rfl⟩)
        go_quiet (fail)
        go_wp2
        go_ret2
        exact retN_mk rfl
      · rw [if_neg (by simp; omega), if_pos rfl]
        have c1 : decide ((K : Int) < (n : Int)) = false := by simp; omega
        have c2 : decide (K < n) = false := by simpa using hc
        have c3 : decide ((G : Int) < (n : Int)) = false := by simp; omega
        have c4 : decide (G < n) = false := by simp; omega
        go_enter Tryd.func17, Tryd.ntmps17
        go_wp2_with (go_at_call 27; refine (HM.out _).mono ?_; rintro e w1 ⟨rfl, rfl⟩)
        go_quiet (fail)
        go_wp2
        go_ret2
        exact retN_mk rfl

theorem rnum_any (l : List UInt8) (bits : Int) (w : World) (hl : l.length ≤ 1000000) :
    Calls Tryd.prog 17 #[.string ⟨l.toArray⟩, .int .i64 bits] w (RetN (Ltr.numF l bits) w) := by
  unfold Ltr.numF
  by_cases h : bits < 1 ∨ 64 < bits
  · rw [if_pos h]; exact rnum_arg l bits w h
  · rw [if_neg h]
    obtain ⟨b, rfl⟩ : ∃ b : Nat, bits = (b : Int) := ⟨bits.toNat, by omega⟩
    rw [show ((b : Int)).toNat = b from by omega]
    rcases Ltr.sig_cases l with ⟨e, h1, h2⟩ | ⟨c, r, e, hc1, hc2, h1, h2⟩ | ⟨r, e, h1, h2⟩ | ⟨r, e, h1, h2⟩
    · rw [h1, h2]; exact rnum_empty l e hl b w (by omega) (by omega)
    · rw [h1, h2]; exact rnum_none c r l e hl hc1 hc2 b w (by omega) (by omega)
    · rw [h1, h2, e]; exact rnum_plus r (by rw [e] at hl; simp at hl; omega) b w (by omega) (by omega)
    · rw [h1, h2, e]; exact rnum_minus r (by rw [e] at hl; simp at hl; omega) b w (by omega) (by omega)
end Go.Proofs.YtpmalmednkknpaaDoor
