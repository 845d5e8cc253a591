/-
  The reference of layer 10: which limits, block types and lists can be written.
-/
import Derived.Test.YtagcildoebicnaaRefPut2
set_option linter.unusedVariables false
set_option linter.unusedSimpArgs false
namespace Go.Proofs.Ytagcildoebicnaa
open Go.RowKit

def nb (n : Int) : Bool := decide (0 ≤ n) && decide (n ≤ 4294967295)
namespace Oct
theorem limOk_no (mn mx : Int) : limOk ⟨mn, mx, false⟩ = (nb mn && mx == 0) := by
  show (if mn < 0 ∨ 4294967295 < mn then false else if (false : Bool) = false then mx == 0 else _) = _
  unfold nb
  by_cases h : mn < 0 ∨ 4294967295 < mn
  · rw [if_pos h]
    rcases h with h | h
    · rw [decide_eq_false (show ¬ 0 ≤ mn by omega)]; rfl
    · rw [decide_eq_false (show ¬ mn ≤ 4294967295 by omega)]; simp
  · rw [if_neg h, if_pos rfl, decide_eq_true (show 0 ≤ mn by omega), decide_eq_true (show mn ≤ 4294967295 by omega)]; rfl
theorem limOk_yes (mn mx : Int) : limOk ⟨mn, mx, true⟩ = (nb mn && nb mx && decide (mn ≤ mx)) := by
  show (if mn < 0 ∨ 4294967295 < mn then false else if (true : Bool) = false then mx == 0 else decide (mn ≤ mx) && decide (mx ≤ 4294967295)) = _
  unfold nb
  by_cases h : mn < 0 ∨ 4294967295 < mn
  · rw [if_pos h]
    rcases h with h | h
    · rw [decide_eq_false (show ¬ 0 ≤ mn by omega)]; rfl
    · rw [decide_eq_false (show ¬ mn ≤ 4294967295 by omega)]; simp
  · rw [if_neg h, if_neg (by decide), decide_eq_true (show 0 ≤ mn by omega), decide_eq_true (show mn ≤ 4294967295 by omega)]
    by_cases h1 : mn ≤ mx
    · rw [decide_eq_true h1, decide_eq_true (show 0 ≤ mx by omega)]; simp
    · rw [decide_eq_false h1]; simp
end Oct
theorem number_any (n : Int) (w : World) : Calls Try.prog 89 #[.int .i64 n] w fun e w' => e = .returned (.bool (nb n)) ∧ w = w' := by
  unfold nb
  rcases h1 : decide (0 ≤ n) with _ | _ <;> rcases h2 : decide (n ≤ 4294967295) with _ | _
  all_goals
    go_enter Try.func89, Try.ntmps89
    go_wp2
    go_ret
    exact ⟨rfl, rfl⟩
set_option maxHeartbeats 4000000 in
set_option maxRecDepth 100000 in
theorem refLimits_any (l : Oct.Lim) (w : World) : Calls Try.prog 72 #[.agg #[.int .i64 l.mn, .int .i64 l.mx, .bool l.has]] w fun e w' => e = .returned (.bool (Oct.limOk l)) ∧ Below w.heap.size w w' := by
  obtain ⟨mn, mx, has⟩ := l
  have H1 := Lib.hid (fun w => number_any mn w)
  have H2 := Lib.hid (fun w => number_any mx w)
  dsimp only
  rcases has with _ | _
  · rw [Oct.limOk_no]
    generalize nb mn = x at H1 ⊢
    rcases x with _ | _ <;> rcases h2 : (mx == 0) with _ | _
    all_goals
      clear H2
      go_enter Try.func72, Try.ntmps72
      go_wp2_with (go_at_call 89; refine (H1.out _).mono ?_; rintro e w1 ⟨rfl, rfl⟩)
      go_ret
      exact ⟨rfl, by go_grown⟩
  · rw [Oct.limOk_yes]
    generalize nb mn = x at H1 ⊢
    generalize nb mx = y at H2 ⊢
    rcases x with _ | _ <;> rcases y with _ | _ <;> rcases h2 : decide (mn ≤ mx) with _ | _
    all_goals
      go_enter Try.func72, Try.ntmps72
      go_wp2_with (first
        | (go_at_call 89; (with_reducible refine (H1.out _).mono ?_); rintro e w1 ⟨rfl, rfl⟩)
        | (go_at_call 89; (with_reducible refine (H2.out _).mono ?_); rintro e w1 ⟨rfl, rfl⟩))
      go_ret
      exact ⟨rfl, by go_grown⟩

set_option maxHeartbeats 4000000 in
set_option maxRecDepth 100000 in
theorem refBlock_any (x : Oct.Blk) (w : World) : Calls Try.prog 58 #[.agg #[.int .i64 x.kind, .int .i64 x.val, .int .i64 x.idx]] w fun e w' => e = .returned (.bool (Oct.blkOk x)) ∧ Below w.heap.size w w' := by
  obtain ⟨k, t, i⟩ := x
  have H1 := Lib.hid (fun w => refVal_any t w)
  have H2 := Lib.hid (fun w => number_any i w)
  have hnb : (decide (0 ≤ i) && decide (i ≤ 4294967295)) = nb i := rfl
  unfold Oct.blkOk
  dsimp only
  by_cases hk0 : k = 0
  · subst hk0
    rcases h1 : (t == 0) with _ | _ <;> rcases h2 : (i == 0) with _ | _
    all_goals
      go_enter Try.func58, Try.ntmps58
      go_wp2
      go_ret
      exact ⟨by rfl, by go_grown⟩
  · by_cases hk1 : k = 1
    · subst hk1
      rcases h1 : Ty.val t with _ | _ <;> rcases h2 : (i == 0) with _ | _
      all_goals
        rw [h1] at H1
        clear h1
        go_enter Try.func58, Try.ntmps58
        go_wp2_with (go_at_call 88; refine (H1.out _).mono ?_; rintro e w1 ⟨rfl, rfl⟩)
        go_ret
        exact ⟨by rfl, by go_grown⟩
    · by_cases hk2 : k = 2
      · subst hk2
        rw [show ((2 : Int) == 0 && t == 0 && i == 0 || (2 : Int) == 1 && i == 0 && Ty.val t || (2 : Int) == 2 && t == 0 && decide (0 ≤ i) && decide (i ≤ 4294967295)) = (t == 0 && nb i) by rw [← hnb]; simp [Bool.and_assoc]]
        clear hnb
        generalize nb i = y at H2 ⊢
        rcases h1 : (t == 0) with _ | _ <;> rcases y with _ | _
        all_goals
          clear hk0 hk1
          go_enter Try.func58, Try.ntmps58
          go_wp2_with (go_at_call 89; refine (H2.out _).mono ?_; rintro e w1 ⟨rfl, rfl⟩)
          go_ret
          exact ⟨by rfl, by go_grown⟩
      · have g0 : (k == 0) = false := by simpa using hk0
        have g1 : (k == 1) = false := by simpa using hk1
        have g2 : (k == 2) = false := by simpa using hk2
        rw [g0, g1, g2]
        clear hk0 hk1 hk2 hnb
        go_enter Try.func58, Try.ntmps58
        go_wp2
        go_ret
        exact ⟨by rfl, by go_grown⟩

set_option maxHeartbeats 1000000 in
set_option maxRecDepth 100000 in
theorem refVals10_any (A : Option Addr) (c : Nat) (vs : List Int) (w : World) (B : Nat) (hr : RdI w B A vs) (hl : vs.length ≤ 1000000) :
    Calls Try.prog 77 #[.slice A vs.length c] w fun e w' => e = .returned (.int .i64 (Oct.listErr vs)) ∧ w = w' := by
  by_cases h8 : 8 < vs.length
  · have HV := Lib.hid (show Oct.listErr vs = 6 from if_pos h8)
    have g1 : decide (8 < vs.length) = true := by simpa using h8
    have g2 : decide ((8 : Int) < (vs.length : Int)) = true := by simp; omega
    clear h8
    go_enter Try.func77, Try.ntmps77
    go_wp2
    go_ret
    exact ⟨by rw [HV.out]; rfl, rfl⟩
  have HV := Lib.hid (show Oct.listErr vs = if vs.all Ty.val = true then 0 else 12 from if_neg h8)
  have g1 : decide (8 < vs.length) = false := by simpa using h8
  have g2 : decide ((8 : Int) < (vs.length : Int)) = false := by simp; omega
  clear h8
  go_enter Try.func77, Try.ntmps77
  go_wp2
  go_loop [3] (fun i => ∃ k : Nat, k ≤ vs.length ∧ i = .int .i64 k ∧ Hid (vs.all Ty.val = (vs.drop k).all Ty.val)) (fun i => vs.length - (intOf i).toNat)
  case atStart => exact ⟨0, by omega, rfl, by simp [Hid]⟩
  case round =>
    obtain ⟨k, hk, rfl, HR⟩ := hrel
    by_cases hkl : k < vs.length
    · obtain ⟨ad, rfl, _, hcell⟩ := hr.at_ hkl
      obtain ⟨t, ht⟩ : ∃ t, vs[k] = t := ⟨_, rfl⟩
      rw [ht] at hcell
      have hd : vs.drop k = t :: vs.drop (k + 1) := drop_eq_cons hkl ht
      rcases hv : Ty.val t with _ | _
      · have hf : Hid (Oct.listErr vs = 12) := by unfold Hid; rw [HV.out, HR.out, hd, List.all_cons, hv]; rfl
        have HT := Lib.hid hv
        clear hv ht hd
        go_wp2_with (go_at_call 88; refine (refVal_any _ _).mono ?_; rintro e w1 ⟨rfl, rfl⟩; rw [HT.out])
        go_ret
        exact ⟨by rw [hf.out]; rfl, rfl⟩
      · have hf : Hid (vs.all Ty.val = (vs.drop (k + 1)).all Ty.val) := by unfold Hid; rw [HR.out, hd, List.all_cons, hv, Bool.true_and]
        have HT := Lib.hid hv
        clear hv ht hd
        go_wp2_with (go_at_call 88; refine (refVal_any _ _).mono ?_; rintro e w1 ⟨rfl, rfl⟩; rw [HT.out])
        go_round
        case rel => exact ⟨k + 1, by omega, by go_num, hf⟩
        case measure => simp [intOf]; omega
    · have hf : Hid (Oct.listErr vs = 0) := by
        unfold Hid
        rw [HV.out, HR.out, List.drop_of_length_le (by omega), List.all_nil]; rfl
      go_wp2
      go_ret
      exact ⟨by rw [hf.out]; rfl, rfl⟩
end Go.Proofs.Ytagcildoebicnaa
