/-
  The walks of the laws LebBack and LebSigned.
-/
import Derived.Test.YtceepkgpdhdhnaaLebAlive
import Derived.Test.YtceepkgpdhdhnaaLebEnc
set_option linter.unusedVariables false
namespace Go.Proofs.Ytceepkgpdhdhnaa
open Go.RowKit

theorem wrapU_lt (b n : Nat) (hb : b < 64) : (decide ((n : Int) < IntKind.u64.wrap (2 ^ b))) = decide (n < 2 ^ b) := by
  have : (2 : Nat) ^ b ≤ 2 ^ 63 := Nat.pow_le_pow_right (by omega) (by omega)
  have e : (2 : Int) ^ b = ((2 ^ b : Nat) : Int) := by simp
  rw [e, IntKind.wrap_u64, decide_eq_decide]
  generalize (2 : Nat) ^ b = P at *
  omega

set_option maxHeartbeats 1000000 in
set_option maxRecDepth 100000 in
theorem lebBack_walk (n : Nat) (bits : Int) (A : Option Addr) (c : Nat) (l : List UInt8) (w : World) (hn : InU64 n) (hr : RdB w w.heap.size A l) (hmax : l.length ≤ 9223372036854775807) :
    Calls Try.prog 6 #[.int .u64 n, .int .i64 bits, .slice A l.length c] w fun e w' => e = .returned (.bool true) ∧ Below w.heap.size w w' := by
  by_cases h1 : bits < 1
  · go_enter Try.func6, Try.ntmps6
    go_wp2_with (go_at_call 9; refine (alive_any _).mono ?_; rintro e w1 ⟨rfl, hb⟩)
    go_ret
    exact ⟨rfl, hb⟩
  by_cases h2 : 64 < bits
  · go_enter Try.func6, Try.ntmps6
    go_wp2_with (go_at_call 9; refine (alive_any _).mono ?_; rintro e w1 ⟨rfl, hb⟩)
    go_ret
    exact ⟨rfl, hb⟩
  by_cases hbig : 100 < l.length
  · go_enter Try.func6, Try.ntmps6
    go_wp2_with (go_at_call 9; refine (alive_any _).mono ?_; rintro e w1 ⟨rfl, hb⟩)
    go_ret
    exact ⟨rfl, hb⟩
  obtain ⟨b, rfl⟩ := Int.eq_ofNat_of_zero_le (show 0 ≤ bits by omega)
  have h1' : 1 ≤ b := by omega
  have h2' : b ≤ 64 := by omega
  have hl100 : l.length ≤ 100 := by omega
  clear h1 h2 hmax hbig
  have g1 : decide ((b : Int) < 1) = false := by simp; omega
  have g2 : decide ((64 : Int) < (b : Int)) = false := by simp; omega
  have g3 : decide ((100 : Int) < (l.length : Int)) = false := by simp; omega
  have hu := Leb.back_u n (by unfold InU64 at hn; omega) b h1' h2' l
  have h10 := Leb.putU_len10 n (by unfold InU64 at hn; omega)
  have hp := Leb.putU_pos n
  have q1 : ((n : Int) == n) = true := by simp
  have q2 : (((Leb.putU n).length : Int) == (Leb.putU n).length) = true := by simp
  have own0 := fun W : World => World.ownsRow_lit (base := W.heap.size) (e := 5) (size := 1) W #[] 0 (Nat.le_refl _) (Nat.zero_le _) rfl
  by_cases hfit : n < 2 ^ b
  · rw [if_pos hfit] at hu
    have HU := Lib.hid hu; clear hu
    by_cases h64 : b = 64
    · have g4 : ((b : Int) == 64) = true := by simp [h64]
      clear h64 hfit
      go_enter Try.func6, Try.ntmps6
      go_wp2_with fail
      refine (putU_any none 0 [] n _ RdB.nil_ (by simp) hn).mono ?_
      rintro e w1 ⟨A1, c1, rfl, hown1, hc1, hb1⟩
      rw [List.nil_append] at hown1 hc1 ⊢
      have hs1 := hb1.size
      have o1 := own0 w1
      clear own0
      go_wp2_with (first
        | (at_builtin; refine app_bytes _ rfl (.tmp 26) (.tmp 27) rfl w1.heap.size _ [] rfl o1 w1.heap.size A1 c1 (Leb.putU n) rfl ((RdB.of_own hown1).alloc (Nat.le_refl _) _) (by simp; omega) (by simp) ?_; intro A2 c2 w2 hown2 hg2 hat2; have hb2 : Below w1.heap.size w1 w2 := ((Below.refl _ _).alloc (Nat.le_refl _) _).trans (below_own o1 hg2 (by simp)); have hs2 := hb2.size; rw [List.nil_append] at hown2)
        | (at_builtin; refine app_bytes _ rfl (.tmp 28) (.tmp 29) rfl w1.heap.size _ (Leb.putU n) rfl hown2 w.heap.size A c l rfl ((hr.below hb1).below (hb2.mono hs1)) (by omega) (by omega) ?_; intro A3 c3 w3 hown3 hg3 hat3; have hb3 : Below w1.heap.size w2 w3 := below_own hown2 hg3 (by omega); have hs3 := hb3.size; have hr3 := RdB.of_own hown3)
        | (go_at_call 20; (with_reducible refine (u_len A3 c3 (Leb.putU n ++ l) b _ _ (by simp) hr3 (by simp; omega)).mono ?_); rintro e w4 ⟨rfl, rfl⟩; rw [HU.out])
        | (go_at_call 14; refine (len_any n _ hn).mono ?_; rintro e w4 ⟨rfl, hb4⟩)
        | (go_at_call 9; refine (alive_any _).mono ?_; rintro e w5 ⟨rfl, hb5⟩))
      go_ret
      have hs4 := hb4.size
      exact ⟨rfl, (((hb1.trans (hb2.mono hs1)).trans (hb3.mono (by omega))).trans (hb4.mono (by omega))).trans (hb5.mono (by omega))⟩
    · have g4 : ((b : Int) == 64) = false := by simp; omega
      have g5 := wrapU_lt b n (by omega)
      rw [decide_eq_true hfit] at g5
      clear h64 hfit
      go_enter Try.func6, Try.ntmps6
      go_wp2_with fail
      refine (putU_any none 0 [] n _ RdB.nil_ (by simp) hn).mono ?_
      rintro e w1 ⟨A1, c1, rfl, hown1, hc1, hb1⟩
      rw [List.nil_append] at hown1 hc1 ⊢
      have hs1 := hb1.size
      have o1 := own0 w1
      clear own0
      go_wp2_with (first
        | (at_builtin; refine app_bytes _ rfl (.tmp 26) (.tmp 27) rfl w1.heap.size _ [] rfl o1 w1.heap.size A1 c1 (Leb.putU n) rfl ((RdB.of_own hown1).alloc (Nat.le_refl _) _) (by simp; omega) (by simp) ?_; intro A2 c2 w2 hown2 hg2 hat2; have hb2 : Below w1.heap.size w1 w2 := ((Below.refl _ _).alloc (Nat.le_refl _) _).trans (below_own o1 hg2 (by simp)); have hs2 := hb2.size; rw [List.nil_append] at hown2)
        | (at_builtin; refine app_bytes _ rfl (.tmp 28) (.tmp 29) rfl w1.heap.size _ (Leb.putU n) rfl hown2 w.heap.size A c l rfl ((hr.below hb1).below (hb2.mono hs1)) (by omega) (by omega) ?_; intro A3 c3 w3 hown3 hg3 hat3; have hb3 : Below w1.heap.size w2 w3 := below_own hown2 hg3 (by omega); have hs3 := hb3.size; have hr3 := RdB.of_own hown3)
        | (go_at_call 20; (with_reducible refine (u_len A3 c3 (Leb.putU n ++ l) b _ _ (by simp) hr3 (by simp; omega)).mono ?_); rintro e w4 ⟨rfl, rfl⟩; rw [HU.out])
        | (go_at_call 14; refine (len_any n _ hn).mono ?_; rintro e w4 ⟨rfl, hb4⟩)
        | (go_at_call 9; refine (alive_any _).mono ?_; rintro e w5 ⟨rfl, hb5⟩))
      go_ret
      have hs4 := hb4.size
      exact ⟨rfl, (((hb1.trans (hb2.mono hs1)).trans (hb3.mono (by omega))).trans (hb4.mono (by omega))).trans (hb5.mono (by omega))⟩
  · rw [if_neg hfit] at hu
    have HU := Lib.hid hu; clear hu
    have h64 : ¬ b = 64 := by
      intro h
      subst h
      unfold InU64 at hn
      omega
    have g4 : ((b : Int) == 64) = false := by simp; omega
    have g5 := wrapU_lt b n (by omega)
    rw [decide_eq_false hfit] at g5
    clear h64 hfit
    go_enter Try.func6, Try.ntmps6
    go_wp2_with fail
    refine (putU_any none 0 [] n _ RdB.nil_ (by simp) hn).mono ?_
    rintro e w1 ⟨A1, c1, rfl, hown1, hc1, hb1⟩
    rw [List.nil_append] at hown1 hc1 ⊢
    have hs1 := hb1.size
    have o1 := own0 w1
    clear own0
    go_wp2_with (first
      | (at_builtin; refine app_bytes _ rfl (.tmp 26) (.tmp 27) rfl w1.heap.size _ [] rfl o1 w1.heap.size A1 c1 (Leb.putU n) rfl ((RdB.of_own hown1).alloc (Nat.le_refl _) _) (by simp; omega) (by simp) ?_; intro A2 c2 w2 hown2 hg2 hat2; have hb2 : Below w1.heap.size w1 w2 := ((Below.refl _ _).alloc (Nat.le_refl _) _).trans (below_own o1 hg2 (by simp)); have hs2 := hb2.size; rw [List.nil_append] at hown2)
      | (at_builtin; refine app_bytes _ rfl (.tmp 28) (.tmp 29) rfl w1.heap.size _ (Leb.putU n) rfl hown2 w.heap.size A c l rfl ((hr.below hb1).below (hb2.mono hs1)) (by omega) (by omega) ?_; intro A3 c3 w3 hown3 hg3 hat3; have hb3 : Below w1.heap.size w2 w3 := below_own hown2 hg3 (by omega); have hs3 := hb3.size; have hr3 := RdB.of_own hown3)
      | (go_at_call 20; (with_reducible refine (u_len A3 c3 (Leb.putU n ++ l) b _ _ (by simp) hr3 (by simp; omega)).mono ?_); rintro e w4 ⟨rfl, rfl⟩; rw [HU.out])
      | (go_at_call 9; refine (alive_any _).mono ?_; rintro e w5 ⟨rfl, hb5⟩))
    go_ret
    exact ⟨rfl, ((hb1.trans (hb2.mono hs1)).trans (hb3.mono (by omega))).trans (hb5.mono (by omega))⟩
end Go.Proofs.Ytceepkgpdhdhnaa
