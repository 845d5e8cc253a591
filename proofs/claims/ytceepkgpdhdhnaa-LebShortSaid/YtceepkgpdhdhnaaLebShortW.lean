/-
  The walk of the law LebShort.
-/
import Derived.Test.YtceepkgpdhdhnaaLebAlive
import Derived.Test.YtceepkgpdhdhnaaLebEnc
set_option linter.unusedVariables false
namespace Go.Proofs.Ytceepkgpdhdhnaa
open Go.RowKit

theorem pow63 (d : Nat) (h : d ≤ 63) : 2 ^ d ≤ 9223372036854775808 ∧ 2 ^ (d + 1) ≤ 18446744073709551616 := by
  have h1 : (2 : Nat) ^ d ≤ 2 ^ 63 := Nat.pow_le_pow_right (by omega) h
  have h2 : (2 : Nat) ^ (d + 1) ≤ 2 ^ 64 := Nat.pow_le_pow_right (by omega) (by omega)
  exact ⟨h1, h2⟩
theorem wrapU_pow (d n : Nat) (hd : d < 63) (hn : n < 2 ^ (d + 1)) : (n : Int) < IntKind.u64.wrap (2 ^ (d + 1)) := by
  have : (2 : Nat) ^ (d + 1) ≤ 2 ^ 63 := Nat.pow_le_pow_right (by omega) (by omega)
  have e : (2 : Int) ^ (d + 1) = ((2 ^ (d + 1) : Nat) : Int) := by simp
  rw [e, IntKind.wrap_u64]; omega
theorem wrapS_pow (d : Nat) (n : Int) (hd : d < 63) (hn : Leb.FitsS n (d + 1)) : n < wrap64 (2 ^ d) ∧ wrap64 (-wrap64 (2 ^ d)) ≤ n := by
  have : (2 : Nat) ^ d ≤ 2 ^ 62 := Nat.pow_le_pow_right (by omega) (by omega)
  have e : (2 : Int) ^ d = ((2 ^ d : Nat) : Int) := by simp
  unfold Leb.FitsS at hn
  simp only [Nat.add_sub_cancel] at hn
  rw [e]
  unfold wrap64; omega

set_option maxHeartbeats 4000000 in
set_option maxRecDepth 100000 in
theorem lebShort_walk (A : Option Addr) (c : Nat) (l : List UInt8) (bits : Int) (w : World) (hr : RdB w w.heap.size A l) (hmax : l.length ≤ 9223372036854775807) :
    Calls Try.prog 8 #[.slice A l.length c, .int .i64 bits] w fun e w' => e = .returned (.bool true) ∧ Below w.heap.size w w' := by
  by_cases hbig : 100 < l.length
  · go_enter Try.func8, Try.ntmps8
    go_wp2_with (go_at_call 9; refine (alive_any _).mono ?_; rintro e w1 ⟨rfl, hb⟩)
    go_ret
    exact ⟨rfl, hb⟩
  by_cases h1 : bits < 1
  · go_enter Try.func8, Try.ntmps8
    go_wp2_with (go_at_call 9; refine (alive_any _).mono ?_; rintro e w1 ⟨rfl, hb⟩)
    go_ret
    exact ⟨rfl, hb⟩
  by_cases h2 : 64 < bits
  · go_enter Try.func8, Try.ntmps8
    go_wp2_with (go_at_call 9; refine (alive_any _).mono ?_; rintro e w1 ⟨rfl, hb⟩)
    go_ret
    exact ⟨rfl, hb⟩
  obtain ⟨b, rfl⟩ := Int.eq_ofNat_of_zero_le (show 0 ≤ bits by omega)
  have h1' : 1 ≤ b := by omega
  have h2' : b ≤ 64 := by omega
  have hl100 : l.length ≤ 100 := by omega
  clear h1 h2 hmax hbig
  obtain ⟨d, rfl⟩ : ∃ d, b = d + 1 := ⟨b - 1, by omega⟩
  have H63 := Lib.hid (pow63 d (by omega))
  rcases Leb.uF_short l (d + 1) h1' h2' with ⟨er, her, hu⟩ | ⟨n, k, hu, hk1, hk2, hn⟩
  all_goals have HU := Lib.hid hu; clear hu
  all_goals rcases Leb.sF_short l (d + 1) h1' h2' with ⟨er', her', hs⟩ | ⟨n', k', hs, hk1', hk2', hn'⟩
  all_goals have HS := Lib.hid hs; clear hs
  all_goals try have hn64 : InU64 n := (by have := H63.out; unfold InU64; omega)
  all_goals try have hn64' : InI64 n' := (by have := H63.out; unfold Leb.FitsS at hn'; unfold InI64; simp only [Nat.add_sub_cancel] at hn'; omega)
  all_goals by_cases hd : d < 63
  all_goals try have hlt : (n : Int) < IntKind.u64.wrap (2 ^ (d + 1)) := wrapU_pow d n hd hn
  all_goals try have hlt1 : n' < wrap64 (2 ^ d) := (wrapS_pow d n' hd hn').1
  all_goals try have hlt2 : wrap64 (-wrap64 (2 ^ d)) ≤ n' := (wrapS_pow d n' hd hn').2
  all_goals try clear hn
  all_goals try clear hn'
  all_goals try (obtain ⟨U, hU⟩ : ∃ U, IntKind.u64.wrap (2 ^ (d + 1)) = U := ⟨_, rfl⟩; rw [hU] at hlt)
  all_goals try (obtain ⟨P, hP⟩ : ∃ P, wrap64 (2 ^ d) = P := ⟨_, rfl⟩; rw [hP] at hlt1 hlt2; obtain ⟨M, hM⟩ : ∃ M, wrap64 (-P) = M := ⟨_, rfl⟩; rw [hM] at hlt2)
  all_goals try have g1 : decide (k < (Leb.putU n).length) = false := (by simp; omega)
  all_goals try have g2 : decide (l.length < k) = false := (by simp; omega)
  all_goals try have g3 : decide (U ≤ (n : Int)) = false := (by simp; omega)
  all_goals try have g4 : decide (k' < (Leb.putS n').length) = false := (by simp; omega)
  all_goals try have g5 : decide (l.length < k') = false := (by simp; omega)
  all_goals try have g6 : decide (P ≤ n') = false := (by simp; omega)
  all_goals try have g7 : decide (n' < M) = false := (by simp; omega)
  all_goals try have g8 : decide ((d : Int) + 1 < 64) = true := (by simp; omega)
  all_goals try have g8 : decide ((d : Int) + 1 < 64) = false := (by simp; omega)
  all_goals have g9 : decide ((100 : Int) < (l.length : Int)) = false := by simp; omega
  all_goals have g10 : decide ((d : Int) + 1 < 1) = false := by simp; omega
  all_goals have g11 : decide ((64 : Int) < (d : Int) + 1) = false := by simp; omega
  all_goals
    go_enter Try.func8, Try.ntmps8
    go_wp2_with (first
      | (go_at_call 20; refine (u_any A c l (d + 1 : Nat) _ _ hr (by omega)).mono ?_; rintro e w1 ⟨rfl, rfl⟩; rw [HU.out])
      | (go_at_call 14; refine (len_any n _ hn64).mono ?_; rintro e w1 ⟨rfl, hb1⟩)
      | (go_at_call 19; refine (s_any A c l (d + 1 : Nat) _ w.heap.size (by first | exact hr | exact hr.below hb1) (by omega)).mono ?_; rintro e w2 ⟨rfl, rfl⟩; rw [HS.out])
      | (go_at_call 16; refine (lenS_any n' _ hn64').mono ?_; rintro e w2 ⟨rfl, hb2⟩)
      | (go_at_call 9; refine (alive_any _).mono ?_; rintro e w3 ⟨rfl, hb3⟩))
    go_ret
    exact ⟨rfl, by first
      | exact hb3
      | exact hb1.trans (hb3.mono hb1.size)
      | exact hb2.trans (hb3.mono hb2.size)
      | exact (hb1.trans (hb2.mono hb1.size)).trans (hb3.mono (Nat.le_trans hb1.size hb2.size))⟩
end Go.Proofs.Ytceepkgpdhdhnaa
