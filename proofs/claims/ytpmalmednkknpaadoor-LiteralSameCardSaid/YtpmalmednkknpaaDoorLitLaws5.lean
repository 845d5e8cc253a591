/-
  The law Range of the literals: the walk.
-/
import Derived.Test.YtpmalmednkknpaaDoorLitAlive
import Derived.Test.YtpmalmednkknpaaDoorLitP2
import Derived.Test.YtpmalmednkknpaaDoorLitLaws3
set_option linter.unusedVariables false
namespace Go.Proofs.YtpmalmednkknpaaDoor
open Go.RowKit
attribute [local go_sem] ByteArray.extract_mk

namespace Ltr
theorem text_half (m : Nat) (h : m < 9223372036854775808) : textF m 64 = Lib.decDigits m := by
  unfold textF
  rw [if_neg (by decide)]
  unfold sx
  rw [show (64 : Int).toNat = 64 from rfl, Nat.mod_eq_of_lt (by omega : m < 2 ^ 64), if_pos (by omega), Lib.itoa_nonneg]
end Ltr

theorem shr1 (n : Nat) : (n : Int) / 2 = ((n / 2 : Nat) : Int) := by omega

set_option maxHeartbeats 1000000 in
set_option maxRecDepth 100000 in
theorem range_walk (n : Nat) (hn : n < 18446744073709551616) (bits : Int) (w : World) (ht : Tab w) :
    Calls Tryd.prog 10 #[.int .u64 (n : Int), .int .i64 bits] w fun e w' => e = .returned (.bool true) ∧ Below w.heap.size w w' := by
  have HA : Hid (∀ W, Tab W → Calls Tryd.prog 11 #[] W fun e w' => e = .returned (.bool true) ∧ Below W.heap.size W w') := Lib.hid (fun W h => alive_any W h)
  by_cases hb1 : bits < 1
  · have d1 : decide (bits < 1) = true := by simpa using hb1
    go_enter Tryd.func10, Tryd.ntmps10
    go_wp2_with (first
      | (go_at_call 11; refine (HA.out _ ht).mono ?_; rintro e w2 ⟨rfl, hb2⟩))
    go_ret
    exact ⟨rfl, hb2⟩
  have d1 : decide (bits < 1) = false := by simpa using hb1
  by_cases hb2 : 63 < bits
  · have d2 : decide (63 < bits) = true := by simpa using hb2
    go_enter Tryd.func10, Tryd.ntmps10
    go_wp2_with (first
      | (go_at_call 11; refine (HA.out _ ht).mono ?_; rintro e w2 ⟨rfl, hb2⟩))
    go_ret
    exact ⟨rfl, hb2⟩
  have d2 : decide (63 < bits) = false := by simpa using hb2
  obtain ⟨b, rfl⟩ := Int.eq_ofNat_of_zero_le (by omega : 0 ≤ bits)
  obtain ⟨m, hm⟩ : ∃ m, n / 2 = m := ⟨_, rfl⟩
  have hml : m < 9223372036854775808 := by omega
  have hsh : (n : Int) / 2 = (m : Int) := by omega
  have H3 : Hid (∀ W, Tab W → Calls Tryd.prog 20 #[.int .u64 (m : Int), .int .i64 64] W fun e w' => e = .returned (.string ⟨(Lib.decDigits m).toArray⟩) ∧ Below W.heap.size W w') := Lib.hid (fun W h => by have := text_any m (by omega) 64 W h; rw [Ltr.text_half m hml] at this; exact this)
  have hTl : (Lib.decDigits m).length ≤ 20 := dec_len 19 m (by omega)
  have HN : Hid (∀ (S : ByteArray) W, S.size ≤ 1000000 → Calls Tryd.prog 16 #[.string S, .int .i64 (b : Int)] W (RetN (Ltr.numF S.data.toList b) W)) := Lib.hid (fun S W h => by
    obtain ⟨⟨l⟩⟩ := S
    exact num_any l b W h)
  have H4 := Ltr.num_dec m (by omega) b (by omega) (by omega)
  have H5 := Ltr.num_neg m (by omega) b (by omega) (by omega)
  simp only [Int.toNat_natCast] at H4 H5
  obtain ⟨T, hT⟩ : ∃ q, Lib.decDigits m = q := ⟨_, rfl⟩
  rw [hT] at H3 H4 H5 hTl
  have k1 : IntKind.i64.wrap (64 - (b : Int)) = 64 - (b : Int) := by rw [IntKind.wrap_i64]; omega
  have hp := Ltr.pow_fin' ⟨b, by omega⟩
  have hp1 := Ltr.pow_fin' ⟨b - 1, by omega⟩
  simp only at hp hp1
  have hK1 : 2 ^ b = 2 ^ (b - 1) + 2 ^ (b - 1) := by
    obtain ⟨j, rfl⟩ : ∃ j, b = j + 1 := ⟨b - 1, by omega⟩
    rw [Nat.pow_succ]; simp; omega
  have happ : (ByteArray.mk #[45]) ++ (ByteArray.mk T.toArray) = ⟨(45 :: T).toArray⟩ := by
    apply ByteArray.ext
    simp
  have z1 : (ByteArray.mk T.toArray).size ≤ 1000000 := by simp [ByteArray.size]; omega
  have z2 : ((ByteArray.mk #[45]) ++ (ByteArray.mk T.toArray)).size ≤ 1000000 := by rw [happ]; simp [ByteArray.size]; omega
  have e1 : (ByteArray.mk T.toArray).data.toList = T := by simp
  have e2 : ((ByteArray.mk #[45]) ++ (ByteArray.mk T.toArray)).data.toList = 45 :: T := by rw [happ]
  clear happ
  obtain ⟨N, hN⟩ : ∃ q, (18446744073709551616 - m) % 18446744073709551616 = q := ⟨_, rfl⟩
  rw [hN] at H5
  have k2 := shl_shr_u N b (by omega) (by omega) (by omega)
  have k3 : IntKind.u64.wrap (-(m : Int)) = (N : Int) := by rw [IntKind.wrap_u64]; omega
  have c1 : ((2 ^ b : Nat) : Int) = 2 ^ b := by simp
  have c2 : ((2 ^ (b - 1) : Nat) : Int) = 2 ^ (b - 1) := by simp
  have k4 : IntKind.u64.wrap (2 ^ b) = 2 ^ b := by rw [IntKind.wrap_u64, ← c1]; omega
  have k5 : IntKind.u64.wrap (2 ^ (b - 1)) = 2 ^ (b - 1) := by rw [IntKind.wrap_u64, ← c2]; omega
  have k6 : IntKind.i64.wrap ((b : Int) - 1) = (b : Int) - 1 := by rw [IntKind.wrap_i64]; omega
  have hT2 : T.length ≤ 20 := hTl
  clear hN
  have three : m ≤ 2 ^ (b - 1) ∨ (2 ^ (b - 1) < m ∧ m ≤ 2 ^ b - 1) ∨ 2 ^ b - 1 < m := by omega
  have HK := Lib.hid hK1
  clear hK1
  rcases three with hc | ⟨hc1, hc2⟩ | hc
  · have hb0 := HK.out
    rw [if_neg (by omega)] at H4
    rw [if_neg (by omega)] at H5
    have g1 : decide ((m : Int) < 2 ^ b) = true := by rw [← c1]; simp; omega
    have g2 : decide ((m : Int) ≤ 2 ^ (b - 1)) = true := by rw [← c2]; simp; omega
    have g3 : decide ((2 : Int) ^ b ≤ (m : Int)) = false := by rw [← c1]; simp; omega
    clear hb0 c1 c2 hp hp1
    go_enter Tryd.func10, Tryd.ntmps10
    go_wp2_with (first
      | (go_at_call 20; (refine (H3.out _ ht).mono ?_; rintro e3 w3 ⟨rfl, hb3⟩; have hs3 := hb3.size))
      | (go_at_call 16; refine (HN.out _ _ (by first | with_reducible exact z1 | with_reducible exact z2)).mono ?_; rintro e4 w4 ⟨rfl, q4, rfl⟩; simp only [e2, H4, H5])
      | (go_at_call 11; refine (HA.out _ ((ht.below hb3).drewN _)).mono ?_; rintro e5 w5 ⟨rfl, hb5⟩))
    go_ret
    exact ⟨rfl, hb3.trans (((below_drewN w3 _).trans hb5).mono hb3.size)⟩
  · have hb0 := HK.out
    rw [if_neg (by omega)] at H4
    rw [if_pos (by omega)] at H5
    have g1 : decide ((m : Int) < 2 ^ b) = true := by rw [← c1]; simp; omega
    have g2 : decide ((m : Int) ≤ 2 ^ (b - 1)) = false := by rw [← c2]; simp; omega
    have g3 : decide ((2 : Int) ^ b ≤ (m : Int)) = false := by rw [← c1]; simp; omega
    clear hb0 c1 c2 hp hp1
    go_enter Tryd.func10, Tryd.ntmps10
    go_wp2_with (first
      | (go_at_call 20; (refine (H3.out _ ht).mono ?_; rintro e3 w3 ⟨rfl, hb3⟩; have hs3 := hb3.size))
      | (go_at_call 16; refine (HN.out _ _ (by first | with_reducible exact z1 | with_reducible exact z2)).mono ?_; rintro e4 w4 ⟨rfl, q4, rfl⟩; simp only [e2, H4, H5])
      | (go_at_call 11; refine (HA.out _ ((ht.below hb3).drewN _)).mono ?_; rintro e5 w5 ⟨rfl, hb5⟩))
    go_ret
    exact ⟨rfl, hb3.trans (((below_drewN w3 _).trans hb5).mono hb3.size)⟩
  · have hb0 := HK.out
    rw [if_pos (by omega)] at H4
    rw [if_pos (by omega)] at H5
    have g1 : decide ((m : Int) < 2 ^ b) = false := by rw [← c1]; simp; omega
    have g2 : decide ((m : Int) ≤ 2 ^ (b - 1)) = false := by rw [← c2]; simp; omega
    have g3 : decide ((2 : Int) ^ b ≤ (m : Int)) = true := by rw [← c1]; simp; omega
    clear hb0 c1 c2 hp hp1
    go_enter Tryd.func10, Tryd.ntmps10
    go_wp2_with (first
      | (go_at_call 20; (refine (H3.out _ ht).mono ?_; rintro e3 w3 ⟨rfl, hb3⟩; have hs3 := hb3.size))
      | (go_at_call 16; refine (HN.out _ _ (by first | with_reducible exact z1 | with_reducible exact z2)).mono ?_; rintro e4 w4 ⟨rfl, q4, rfl⟩; simp only [e2, H4, H5])
      | (go_at_call 11; refine (HA.out _ ((ht.below hb3).drewN _)).mono ?_; rintro e5 w5 ⟨rfl, hb5⟩))
    go_ret
    exact ⟨rfl, hb3.trans (((below_drewN w3 _).trans hb5).mono hb3.size)⟩
end Go.Proofs.YtpmalmednkknpaaDoor
