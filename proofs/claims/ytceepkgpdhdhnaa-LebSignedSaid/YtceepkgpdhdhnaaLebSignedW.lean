/-
  The walk of the law LebSigned.
-/
import Derived.Test.YtceepkgpdhdhnaaLebAlive
import Derived.Test.YtceepkgpdhdhnaaLebEnc
set_option linter.unusedVariables false
namespace Go.Proofs.Ytceepkgpdhdhnaa
open Go.RowKit

theorem fits64 (n : Int) (d : Nat) (h : d = 63) (hn : InI64 n) : Leb.FitsS n (d + 1) := by
  subst h
  unfold Leb.FitsS
  unfold InI64 at hn
  simp only [Nat.add_sub_cancel, show (2 : Nat) ^ 63 = 9223372036854775808 from rfl]
  omega
theorem wrapS_fits (d : Nat) (n : Int) (hd : d < 63) : Leb.FitsS n (d + 1) ↔ (wrap64 (-wrap64 (2 ^ d)) ≤ n ∧ n < wrap64 (2 ^ d)) := by
  have : (2 : Nat) ^ d ≤ 2 ^ 62 := Nat.pow_le_pow_right (by omega) (by omega)
  have e : (2 : Int) ^ d = ((2 ^ d : Nat) : Int) := by simp
  unfold Leb.FitsS
  simp only [Nat.add_sub_cancel]
  rw [e]
  generalize (2 : Nat) ^ d = P at *
  unfold wrap64; omega

set_option maxHeartbeats 1000000 in
set_option maxRecDepth 100000 in
theorem lebSigned_walk (n : Int) (bits : Int) (A : Option Addr) (c : Nat) (l : List UInt8) (w : World) (hn : InI64 n) (hr : RdB w w.heap.size A l) (hmax : l.length ≤ 9223372036854775807) :
    Calls Try.prog 4 #[.int .i64 n, .int .i64 bits, .slice A l.length c] w fun e w' => e = .returned (.bool true) ∧ Below w.heap.size w w' := by
  by_cases h1 : bits < 1
  · go_enter Try.func4, Try.ntmps4
    go_wp2_with (go_at_call 9; refine (alive_any _).mono ?_; rintro e w1 ⟨rfl, hb⟩)
    go_ret
    exact ⟨rfl, hb⟩
  by_cases h2 : 64 < bits
  · go_enter Try.func4, Try.ntmps4
    go_wp2_with (go_at_call 9; refine (alive_any _).mono ?_; rintro e w1 ⟨rfl, hb⟩)
    go_ret
    exact ⟨rfl, hb⟩
  by_cases hbig : 100 < l.length
  · go_enter Try.func4, Try.ntmps4
    go_wp2_with (go_at_call 9; refine (alive_any _).mono ?_; rintro e w1 ⟨rfl, hb⟩)
    go_ret
    exact ⟨rfl, hb⟩
  obtain ⟨b, rfl⟩ := Int.eq_ofNat_of_zero_le (show 0 ≤ bits by omega)
  have h1' : 1 ≤ b := by omega
  have h2' : b ≤ 64 := by omega
  have hl100 : l.length ≤ 100 := by omega
  clear h1 h2 hmax hbig
  obtain ⟨d, rfl⟩ : ∃ d, b = d + 1 := ⟨b - 1, by omega⟩
  have g1 : decide ((d : Int) + 1 < 1) = false := by simp; omega
  have g2 : decide ((64 : Int) < (d : Int) + 1) = false := by simp; omega
  have g3 : decide ((100 : Int) < (l.length : Int)) = false := by simp; omega
  have h10 := Leb.putS_len10 n hn.1 hn.2
  have hp := Leb.putS_pos n
  have q1 : (n == n) = true := by simp
  have q2 : (((Leb.putS n).length : Int) == (Leb.putS n).length) = true := by simp
  have own0 := fun W : World => World.ownsRow_lit (base := W.heap.size) (e := 5) (size := 1) W #[] 0 (Nat.le_refl _) (Nat.zero_le _) rfl
  by_cases h64 : d = 63
  · have HU := Lib.hid (show Leb.sF (Leb.putS n ++ l) ((d : Int) + 1) = _ from Leb.back_s n (d + 1) h1' h2' l (fits64 n d h64 hn))
    have g4 : ((d : Int) + 1 == 64) = true := by simp; omega
    clear h64
    go_enter Try.func4, Try.ntmps4
    go_wp2_with fail
    refine (putS_any none 0 [] n _ RdB.nil_ (by simp) hn).mono ?_
    rintro e w1 ⟨A1, c1, rfl, hown1, hc1, hb1⟩
    rw [List.nil_append] at hown1 hc1 ⊢
    have hs1 := hb1.size
    have o1 := own0 w1
    clear own0
    go_wp2_with (first
      | (at_builtin; refine app_bytes _ rfl (.tmp 26) (.tmp 27) rfl w1.heap.size _ [] rfl o1 w1.heap.size A1 c1 (Leb.putS n) rfl ((RdB.of_own hown1).alloc (Nat.le_refl _) _) (by simp; omega) (by simp) ?_; intro A2 c2 w2 hown2 hg2 hat2; have hb2 : Below w1.heap.size w1 w2 := ((Below.refl _ _).alloc (Nat.le_refl _) _).trans (below_own o1 hg2 (by simp)); have hs2 := hb2.size; rw [List.nil_append] at hown2)
      | (at_builtin; refine app_bytes _ rfl (.tmp 28) (.tmp 29) rfl w1.heap.size _ (Leb.putS n) rfl hown2 w.heap.size A c l rfl ((hr.below hb1).below (hb2.mono hs1)) (by omega) (by omega) ?_; intro A3 c3 w3 hown3 hg3 hat3; have hb3 : Below w1.heap.size w2 w3 := below_own hown2 hg3 (by omega); have hs3 := hb3.size; have hr3 := RdB.of_own hown3)
      | (go_at_call 19; (with_reducible refine (s_len A3 c3 (Leb.putS n ++ l) ((d : Int) + 1) _ _ (by simp) hr3 (by simp; omega)).mono ?_); rintro e w4 ⟨rfl, rfl⟩; rw [HU.out])
      | (go_at_call 16; refine (lenS_any n _ hn).mono ?_; rintro e w4 ⟨rfl, hb4⟩)
      | (go_at_call 9; refine (alive_any _).mono ?_; rintro e w5 ⟨rfl, hb5⟩))
    go_ret
    have hs4 := hb4.size
    exact ⟨rfl, (((hb1.trans (hb2.mono hs1)).trans (hb3.mono (by omega))).trans (hb4.mono (by omega))).trans (hb5.mono (by omega))⟩
  · have g4 : ((d : Int) + 1 == 64) = false := by simp; omega
    have hpm := wrapS_fits d n (by omega)
    obtain ⟨P, hP⟩ : ∃ P, wrap64 (2 ^ d) = P := ⟨_, rfl⟩
    rw [hP] at hpm
    obtain ⟨M, hM⟩ : ∃ M, wrap64 (-P) = M := ⟨_, rfl⟩
    rw [hM] at hpm
    by_cases hfit : Leb.FitsS n (d + 1)
    · have HU := Lib.hid (show Leb.sF (Leb.putS n ++ l) ((d : Int) + 1) = _ from Leb.back_s n (d + 1) h1' h2' l hfit)
      have g5 : decide (M ≤ n) = true := by simpa using (hpm.1 hfit).1
      have g6 : decide (n < P) = true := by simpa using (hpm.1 hfit).2
      clear h64 hfit hpm
      go_enter Try.func4, Try.ntmps4
      go_wp2_with fail
      refine (putS_any none 0 [] n _ RdB.nil_ (by simp) hn).mono ?_
      rintro e w1 ⟨A1, c1, rfl, hown1, hc1, hb1⟩
      rw [List.nil_append] at hown1 hc1 ⊢
      have hs1 := hb1.size
      have o1 := own0 w1
      clear own0
      go_wp2_with (first
        | (at_builtin; refine app_bytes _ rfl (.tmp 26) (.tmp 27) rfl w1.heap.size _ [] rfl o1 w1.heap.size A1 c1 (Leb.putS n) rfl ((RdB.of_own hown1).alloc (Nat.le_refl _) _) (by simp; omega) (by simp) ?_; intro A2 c2 w2 hown2 hg2 hat2; have hb2 : Below w1.heap.size w1 w2 := ((Below.refl _ _).alloc (Nat.le_refl _) _).trans (below_own o1 hg2 (by simp)); have hs2 := hb2.size; rw [List.nil_append] at hown2)
        | (at_builtin; refine app_bytes _ rfl (.tmp 28) (.tmp 29) rfl w1.heap.size _ (Leb.putS n) rfl hown2 w.heap.size A c l rfl ((hr.below hb1).below (hb2.mono hs1)) (by omega) (by omega) ?_; intro A3 c3 w3 hown3 hg3 hat3; have hb3 : Below w1.heap.size w2 w3 := below_own hown2 hg3 (by omega); have hs3 := hb3.size; have hr3 := RdB.of_own hown3)
        | (go_at_call 19; (with_reducible refine (s_len A3 c3 (Leb.putS n ++ l) ((d : Int) + 1) _ _ (by simp) hr3 (by simp; omega)).mono ?_); rintro e w4 ⟨rfl, rfl⟩; rw [HU.out])
        | (go_at_call 16; refine (lenS_any n _ hn).mono ?_; rintro e w4 ⟨rfl, hb4⟩)
        | (go_at_call 9; refine (alive_any _).mono ?_; rintro e w5 ⟨rfl, hb5⟩))
      go_ret
      have hs4 := hb4.size
      exact ⟨rfl, (((hb1.trans (hb2.mono hs1)).trans (hb3.mono (by omega))).trans (hb4.mono (by omega))).trans (hb5.mono (by omega))⟩
    · have HU := Lib.hid (show Leb.sF (Leb.putS n ++ l) ((d : Int) + 1) = _ from Leb.back_s_no n (d + 1) h1' h2' l hfit)
      by_cases hM' : M ≤ n
      · have g5 : decide (M ≤ n) = true := by simpa using hM'
        have g6 : decide (n < P) = false := by
          rw [decide_eq_false_iff_not]
          exact fun h => hfit (hpm.2 ⟨hM', h⟩)
        clear h64 hfit hpm hM'
        go_enter Try.func4, Try.ntmps4
        go_wp2_with fail
        refine (putS_any none 0 [] n _ RdB.nil_ (by simp) hn).mono ?_
        rintro e w1 ⟨A1, c1, rfl, hown1, hc1, hb1⟩
        rw [List.nil_append] at hown1 hc1 ⊢
        have hs1 := hb1.size
        have o1 := own0 w1
        clear own0
        go_wp2_with (first
          | (at_builtin; refine app_bytes _ rfl (.tmp 26) (.tmp 27) rfl w1.heap.size _ [] rfl o1 w1.heap.size A1 c1 (Leb.putS n) rfl ((RdB.of_own hown1).alloc (Nat.le_refl _) _) (by simp; omega) (by simp) ?_; intro A2 c2 w2 hown2 hg2 hat2; have hb2 : Below w1.heap.size w1 w2 := ((Below.refl _ _).alloc (Nat.le_refl _) _).trans (below_own o1 hg2 (by simp)); have hs2 := hb2.size; rw [List.nil_append] at hown2)
          | (at_builtin; refine app_bytes _ rfl (.tmp 28) (.tmp 29) rfl w1.heap.size _ (Leb.putS n) rfl hown2 w.heap.size A c l rfl ((hr.below hb1).below (hb2.mono hs1)) (by omega) (by omega) ?_; intro A3 c3 w3 hown3 hg3 hat3; have hb3 : Below w1.heap.size w2 w3 := below_own hown2 hg3 (by omega); have hs3 := hb3.size; have hr3 := RdB.of_own hown3)
          | (go_at_call 19; (with_reducible refine (s_len A3 c3 (Leb.putS n ++ l) ((d : Int) + 1) _ _ (by simp) hr3 (by simp; omega)).mono ?_); rintro e w4 ⟨rfl, rfl⟩; rw [HU.out])
          | (go_at_call 9; refine (alive_any _).mono ?_; rintro e w5 ⟨rfl, hb5⟩))
        go_ret
        exact ⟨rfl, ((hb1.trans (hb2.mono hs1)).trans (hb3.mono (by omega))).trans (hb5.mono (by omega))⟩
      · have g5 : decide (M ≤ n) = false := by simpa using hM'
        clear h64 hfit hpm hM'
        go_enter Try.func4, Try.ntmps4
        go_wp2_with fail
        refine (putS_any none 0 [] n _ RdB.nil_ (by simp) hn).mono ?_
        rintro e w1 ⟨A1, c1, rfl, hown1, hc1, hb1⟩
        rw [List.nil_append] at hown1 hc1 ⊢
        have hs1 := hb1.size
        have o1 := own0 w1
        clear own0
        go_wp2_with (first
          | (at_builtin; refine app_bytes _ rfl (.tmp 26) (.tmp 27) rfl w1.heap.size _ [] rfl o1 w1.heap.size A1 c1 (Leb.putS n) rfl ((RdB.of_own hown1).alloc (Nat.le_refl _) _) (by simp; omega) (by simp) ?_; intro A2 c2 w2 hown2 hg2 hat2; have hb2 : Below w1.heap.size w1 w2 := ((Below.refl _ _).alloc (Nat.le_refl _) _).trans (below_own o1 hg2 (by simp)); have hs2 := hb2.size; rw [List.nil_append] at hown2)
          | (at_builtin; refine app_bytes _ rfl (.tmp 28) (.tmp 29) rfl w1.heap.size _ (Leb.putS n) rfl hown2 w.heap.size A c l rfl ((hr.below hb1).below (hb2.mono hs1)) (by omega) (by omega) ?_; intro A3 c3 w3 hown3 hg3 hat3; have hb3 : Below w1.heap.size w2 w3 := below_own hown2 hg3 (by omega); have hs3 := hb3.size; have hr3 := RdB.of_own hown3)
          | (go_at_call 19; (with_reducible refine (s_len A3 c3 (Leb.putS n ++ l) ((d : Int) + 1) _ _ (by simp) hr3 (by simp; omega)).mono ?_); rintro e w4 ⟨rfl, rfl⟩; rw [HU.out])
          | (go_at_call 9; refine (alive_any _).mono ?_; rintro e w5 ⟨rfl, hb5⟩))
        go_ret
        exact ⟨rfl, ((hb1.trans (hb2.mono hs1)).trans (hb3.mono (by omega))).trans (hb5.mono (by omega))⟩
end Go.Proofs.Ytceepkgpdhdhnaa
