/-
  The reference's Dec and Text.
-/
import Derived.Test.YtpmalmednkknpaaDoorLitText
import Derived.Test.YtpmalmednkknpaaDoorLitRQ
set_option linter.unusedVariables false
namespace Go.Proofs.YtpmalmednkknpaaDoor
open Go.RowKit
attribute [local go_sem] ByteArray.extract_mk

theorem dec_cut : ∀ n : Fin 10, List.take 1 (List.drop n.val [(48 : UInt8), 49, 50, 51, 52, 53, 54, 55, 56, 57, 97, 98, 99, 100, 101, 102]) = [UInt8.ofNat (48 + n.val)] := by decide
/-- The call returns the string of these bytes; the world has been drawn from. -/
def RetS (l : List UInt8) (w : World) (e : Ending) (w' : World) : Prop := e = .returned (.string ⟨l.toArray⟩) ∧ ∃ q, w' = w.drewN q

theorem dec_len (k : Nat) : ∀ n, n < 10 ^ (k + 1) → (Lib.decDigits n).length ≤ k + 1 := by
  induction k with
  | zero => intro n hn; rw [Lib.decDigits_one (by simpa using hn)]; simp
  | succ k ih =>
    intro n hn
    by_cases h : n < 10
    · rw [Lib.decDigits_one h]; simp
    · rw [Lib.decDigits, dif_neg h]
      have := ih (n / 10) (by rw [Nat.pow_succ 10 (k + 1)] at hn; omega)
      simp; omega
set_option maxHeartbeats 1000000 in
set_option maxRecDepth 100000 in
theorem dec_any (k : Nat) : ∀ (n : Nat) (w : World), n < 10 ^ (k + 1) → k ≤ 19 → n < 18446744073709551616 → Calls Tryd.prog 29 #[.int .u64 (n : Int)] w (RetS (Lib.decDigits n) w) := by
  induction k with
  | zero =>
    intro n w hn hk hu
    have hn10 : n < 10 := by simpa using hn
    have d1 : decide ((n : Int) < 10) = true := by simp; omega
    have d2 : decide (n < 10) = true := by simpa using hn10
    have w1 : IntKind.u64.wrap ((n : Int) + 1) = (n : Int) + 1 := by rw [IntKind.wrap_u64]; omega
    have n0 : (0 : Int) ≤ (n : Int) := by omega
    have n16 : (n : Int) < 16 := by omega
    clear hn hk hu
    go_enter Tryd.func29, Tryd.ntmps29
    go_wp2_with fail
    go_ret
    have e : List.take 1 (List.drop n [(48 : UInt8), 49, 50, 51, 52, 53, 54, 55, 56, 57, 97, 98, 99, 100, 101, 102]) = Lib.decDigits n := by rw [Lib.decDigits_one hn10]; exact dec_cut ⟨n, hn10⟩
    exact ⟨congrArg (fun l : List UInt8 => Ending.returned (Value.string ⟨l.toArray⟩)) e, 0, rfl⟩
  | succ k ih =>
    intro n w hn hk hu
    by_cases hn10 : n < 10
    · exact ih n w (Nat.lt_of_lt_of_le hn10 (Nat.le_self_pow (by omega) 10)) (by omega) hu
    · have d1 : decide ((n : Int) < 10) = false := by simp; omega
      have d2 : decide (n < 10) = false := by simpa using hn10
      have w1 : IntKind.u64.wrap ((n : Int) % 10 + 1) = (n : Int) % 10 + 1 := by rw [IntKind.wrap_u64]; omega
      have w2 : IntKind.u64.wrap ((n : Int) / 10) = (n : Int) / 10 := by rw [IntKind.wrap_u64]; omega
      have w3 : IntKind.u64.wrap ((n : Int) % 10) = (n : Int) % 10 := by rw [IntKind.wrap_u64]; omega
      have n0 : (0 : Int) ≤ (n : Int) % 10 := by omega
      have n16 : (n : Int) % 10 < 10 := by omega
      have n00 : (0 : Int) ≤ (n : Int) := by omega
      have hpow : n / 10 < 10 ^ (k + 1) := by rw [Nat.pow_succ 10 (k + 1)] at hn; omega
      have hdig : Lib.decDigits n = Lib.decDigits (n / 10) ++ [UInt8.ofNat (48 + n % 10)] := by rw [Lib.decDigits, dif_neg hn10]
      have hm10 : n % 10 < 10 := by omega
      have HD := Lib.hid hdig
      have hlen := dec_len k (n / 10) hpow
      obtain ⟨D, hD⟩ : ∃ D, Lib.decDigits (n / 10) = D := ⟨_, rfl⟩
      rw [hD] at HD hlen
      have HI : Hid (∀ W : World, Calls Tryd.prog 29 #[.int .u64 ((n : Int) / 10)] W fun e w' => e = .returned (.string ⟨D.toArray⟩) ∧ ∃ q, w' = W.drewN q) := Lib.hid (fun W => by
        have := ih (n / 10) W hpow (by omega) (by omega)
        rw [hD] at this
        rw [show (n : Int) / 10 = ((n / 10 : Nat) : Int) from by omega]
        exact this)
      have hl100 : D.length ≤ 100 := by omega
      clear ih hn hu hdig hpow hD hlen
      go_enter Tryd.func29, Tryd.ntmps29
      go_wp2_with fail
      go_quiet ((go_at_call 29; exact Calls.quiet_of (HI.out _)))
      go_wp2
      go_ret
      refine ⟨congrArg (fun s => Ending.returned (Value.string s)) ?_, _, rfl⟩
      rw [HD.out]
      have hc := dec_cut ⟨n % 10, hm10⟩
      simp only at hc
      rw [hc]
      exact ba_app D [UInt8.ofNat (48 + n % 10)]
theorem and_top (n b : Nat) (hn : n < 18446744073709551616) (hb : b ≤ 64) : bits .and .u64 (n : Int) ((2 ^ b - 1 : Nat) : Int) = ((n % 2 ^ b : Nat) : Int) := by
  have hp := Ltr.pow_fin ⟨b, by omega⟩
  simp only at hp
  rw [u64_and_nat _ _ hn (by have := Nat.two_pow_pos b; omega), Nat.and_two_pow_sub_one_eq_mod]
theorem dec_all (n : Nat) (w : World) (hn : n < 18446744073709551616) : Calls Tryd.prog 29 #[.int .u64 (n : Int)] w (RetS (Lib.decDigits n) w) := dec_any 19 n w (by omega) (by omega) hn

set_option maxHeartbeats 1000000 in
set_option maxRecDepth 100000 in
theorem rtext_any (n : Nat) (hn : n < 18446744073709551616) (bits : Int) (w : World) :
    Calls Tryd.prog 21 #[.int .u64 (n : Int), .int .i64 bits] w (RetS (Ltr.textF n bits) w) := by
  unfold Ltr.textF
  by_cases h : bits < 1 ∨ 64 < bits
  · rw [if_pos h]
    rcases (by omega : bits < 1 ∨ (1 ≤ bits ∧ 64 < bits)) with h | ⟨h1, h2⟩
    · have d1 : decide (bits < 1) = true := by simpa using h
      go_enter Tryd.func21, Tryd.ntmps21
      go_wp2
      go_ret
      exact ⟨rfl, 0, rfl⟩
    · have d1 : decide (bits < 1) = false := by simp; omega
      have d2 : decide (64 < bits) = true := by simpa using h2
      go_enter Tryd.func21, Tryd.ntmps21
      go_wp2
      go_ret
      exact ⟨rfl, 0, rfl⟩
  · rw [if_neg h]
    obtain ⟨b, rfl⟩ : ∃ b : Nat, bits = (b : Int) := ⟨bits.toNat, by omega⟩
    rw [show ((b : Int)).toNat = b from by omega]
    have h1 : 1 ≤ b := by omega
    have h2 : b ≤ 64 := by omega
    have d1 : decide ((b : Int) < 1) = false := by simp; omega
    have d2 : decide (64 < (b : Int)) = false := by simp; omega
    have hK1 : 2 ^ b = 2 ^ (b - 1) + 2 ^ (b - 1) := by
      obtain ⟨m, rfl⟩ : ∃ m, b = m + 1 := ⟨b - 1, by omega⟩
      rw [Nat.pow_succ]; simp; omega
    have hp' := Ltr.pow_fin' ⟨b - 1, by omega⟩
    simp only at hp'
    have hpos' := Nat.two_pow_pos (b - 1)
    have hsh : (2 : Int) ^ (b - 1) = ((2 ^ (b - 1) : Nat) : Int) := by simp
    have hand := and_top n b hn h2
    have hm := Nat.mod_lt n (Nat.two_pow_pos b)
    unfold Ltr.sx
    generalize n % 2 ^ b = m at *
    generalize hQ : 2 ^ b = Q at *
    generalize 2 ^ (b - 1) = K at *
    have hw0 : IntKind.u64.wrap (K : Int) = (K : Int) := by rw [IntKind.wrap_u64]; omega
    have hw1 : IntKind.u64.wrap ((K : Int) - 1) = (K : Int) - 1 := by rw [IntKind.wrap_u64]; omega
    have hw2 : IntKind.u64.wrap ((K : Int) - 1 + (K : Int)) = ((Q - 1 : Nat) : Int) := by rw [IntKind.wrap_u64]; omega
    have HQ := Lib.hid hQ
    by_cases hc : m < K
    · rw [if_pos hc]
      have c1 : decide ((m : Int) < (K : Int)) = true := by simpa using hc
      have c2 : decide (m < K) = true := by simpa using hc
      have HD := Lib.hid (dec_all m w (by omega))
      have HI : Hid (Lib.itoa (m : Int) = Lib.decDigits m) := Lib.hid (Lib.itoa_nonneg m)
      clear h hp' hpos' hQ hm hK1
      go_enter Tryd.func21, Tryd.ntmps21
      go_wp2_with (go_at_call 29; refine HD.out.mono ?_; rintro e w1 ⟨rfl, q, rfl⟩)
      go_ret
      exact ⟨congrArg (fun l : List UInt8 => Ending.returned (Value.string ⟨l.toArray⟩)) HI.out.symm, q, rfl⟩
    · rw [if_neg hc]
      have c1 : decide ((m : Int) < (K : Int)) = false := by simp; omega
      have c2 : decide (m < K) = false := by simpa using hc
      have hw3 : IntKind.u64.wrap ((m : Int) - (K : Int)) = (m : Int) - (K : Int) := by rw [IntKind.wrap_u64]; omega
      have hw4 : IntKind.u64.wrap ((K : Int) - ((m : Int) - (K : Int))) = ((Q - m : Nat) : Int) := by rw [IntKind.wrap_u64]; omega
      have HD : Hid (∀ W : World, Calls Tryd.prog 29 #[.int .u64 ((Q - m : Nat) : Int)] W (RetS (Lib.decDigits (Q - m)) W)) := Lib.hid (fun W => dec_all (Q - m) W (by omega))
      have HI : Hid (Lib.itoa ((m : Int) - (Q : Int)) = 45 :: Lib.decDigits (Q - m)) := Lib.hid (by
        rw [show (m : Int) - (Q : Int) = -(((Q - m : Nat)) : Int) from by omega]
        exact Lib.itoa_neg _ (by omega))
      have hdl := dec_len 19 (Q - m) (by omega)
      generalize hM : Q - m = M at *
      obtain ⟨D, hD⟩ : ∃ D, Lib.decDigits M = D := ⟨_, rfl⟩
      rw [hD] at HD HI hdl
      have hl : D.length ≤ 100 := by omega
      clear h hp' hpos' hQ hm hK1 hM hD hdl
      go_enter Tryd.func21, Tryd.ntmps21
      go_wp2_with (go_at_call 29; refine (HD.out _).mono ?_; rintro e w1 ⟨rfl, q, rfl⟩)
      go_ret
      refine ⟨congrArg (fun s => Ending.returned (Value.string s)) ?_, q, rfl⟩
      rw [HI.out]
      exact ba_app [45] D
end Go.Proofs.YtpmalmednkknpaaDoor
