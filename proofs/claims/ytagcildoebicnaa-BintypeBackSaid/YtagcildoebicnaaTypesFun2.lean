/-
  Equality of lists of types: contracts of the program's and the reference's functions.
-/
import Derived.Test.YtagcildoebicnaaTypesFun
import Derived.Deep.QuietTactic
import Derived.BigQuiet
set_option linter.unusedVariables false
namespace Go.Proofs.Ytagcildoebicnaa
open Go.RowKit

set_option maxHeartbeats 2000000 in
set_option maxRecDepth 100000 in
theorem refSameVals_any (A B : Option Addr) (c d : Nat) (xs ys : List Int) (w : World) (N : Nat) (ha : RdI w N A xs) (hb : RdI w N B ys) (hl : xs.length ≤ 1000000) :
    Calls Try.prog 79 #[.slice A xs.length c, .slice B ys.length d] w fun e w' => e = .returned (.bool (decide (xs = ys))) ∧ ∃ q, w' = w.drewN q := by
  by_cases h : xs.length = ys.length
  · obtain ⟨n, hn⟩ : ∃ n, ys.length = n := ⟨_, rfl⟩
    rw [h, hn]
    have han : xs.length = n := h.trans hn
    go_enter Try.func79, Try.ntmps79
    go_wp2
    go_loopw [5] (fun i wr => ∃ (k q : Nat), k ≤ n ∧ i = .int .i64 k ∧ wr = w.drewN q ∧ Hid (decide (xs = ys) = decide (xs.drop k = ys.drop k))) (fun i _ => n - (intOf i).toNat)
    case atStart => exact ⟨0, 0, by omega, rfl, rfl, by simp [Hid]⟩
    case round =>
      obtain ⟨k, q, hk, rfl, rfl, HR⟩ := hrel
      by_cases hkl : k < n
      · obtain ⟨ad, rfl, _, hcell⟩ := ha.at_ (show k < xs.length by omega)
        obtain ⟨bd, rfl, _, hcelb⟩ := hb.at_ (show k < ys.length by omega)
        obtain ⟨t, ht⟩ : ∃ t, xs[k] = t := ⟨_, rfl⟩
        obtain ⟨u, hu⟩ : ∃ u, ys[k] = u := ⟨_, rfl⟩
        rw [ht] at hcell
        rw [hu] at hcelb
        have hd := drop_eq_cons (by omega) ht
        have hd' := drop_eq_cons (by omega) hu
        have hk0 : (0 : Int) ≤ (k : Int) := Int.natCast_nonneg _
        have hk1 : (k : Int) < (n : Int) := by omega
        rcases hv : (t == u) with _ | _
        · have hf : Hid (decide (xs = ys) = false) := by
            unfold Hid
            rw [HR.out, hd, hd']
            simp at hv ⊢
            intro e; exact absurd e hv
          clear ht hu hd hd'
          go_wp2_with fail
          go_quiet (fail)
          go_wp2
          go_ret
          exact ⟨by rw [hf.out]; rfl, _, by first | rfl | rw [World.drewN_drewN]⟩
        · have hf : Hid (decide (xs = ys) = decide (xs.drop (k + 1) = ys.drop (k + 1))) := by
            unfold Hid
            rw [HR.out, hd, hd']
            simp at hv
            simp [hv]
          clear ht hu hd hd'
          go_wp2_with fail
          go_quiet (fail)
          go_wp2
          go_roundw
          case rel => exact ⟨k + 1, _, by omega, by go_num, by first | rfl | rw [World.drewN_drewN], hf⟩
          case measure => simp [intOf]; omega
      · have hf : Hid (decide (xs = ys) = true) := by unfold Hid; rw [HR.out, List.drop_of_length_le (by omega), List.drop_of_length_le (by omega)]; simp
        go_wp2
        go_ret
        exact ⟨by rw [hf.out]; rfl, _, rfl⟩
  · have hf : Hid (decide (xs = ys) = false) := by unfold Hid; simp; intro e; exact h (by rw [e])
    have g1 : ((xs.length : Int) == (ys.length : Int)) = false := by simp; omega
    go_enter Try.func79, Try.ntmps79
    go_wp2
    go_ret
    exact ⟨by rw [hf.out]; rfl, 0, rfl⟩
end Go.Proofs.Ytagcildoebicnaa
