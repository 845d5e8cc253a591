/-
  The reference's place: the last index of a name.
-/
import Derived.Test.YtbnddnoognoekaaScopeRef
set_option linter.unusedVariables false
namespace Go.Proofs.Ytbnddnoognoekaa
open Go.RowKit Go.Maps

/-- The last index of a name, or -1. -/
def placeF (xs : List Nm) (t : Nm) : Int := match labF xs t with | some n => (xs.length : Int) - 1 - n | none => -1

set_option maxHeartbeats 1000000 in
set_option maxRecDepth 100000 in
theorem place_name (A : Option Addr) (c : Nat) (xs : List Nm) (t : Nm) (w : World) (B : Nat) (hr : RdS w B A xs) (hl : xs.length ≤ 1000000) (ht : t ≠ []) :
    Calls Try.prog 36 #[.slice A xs.length c, .string ⟨t.toArray⟩] w fun e w' => e = .returned (.int .i64 (placeF xs t)) ∧ w = w' := by
  have hw0 : IntKind.i64.wrap ((xs.length : Int) - 1) = (xs.length : Int) - 1 := by rw [IntKind.wrap_i64]; omega
  have hte : List.isEmpty t = false := by cases t <;> simp at ht ⊢
  have HT := Lib.hid ht
  clear ht
  go_enter Try.func36, Try.ntmps36
  go_wp2_with fail
  go_loopw [5] (fun i wr => ∃ n : Nat, n ≤ xs.length ∧ i = .int .i64 ((xs.length : Int) - 1 - n) ∧ wr = w ∧ ∀ j (hj : j < n) (hn : n ≤ xs.length), xs[xs.length - 1 - j]'(by omega) ≠ t) (fun i _ => (intOf i + 1).toNat)
  case atStart => exact ⟨0, by omega, by simp, rfl, fun j hj => by omega⟩
  case round =>
    obtain ⟨n, hn, rfl, rfl, hno⟩ := hrel
    by_cases hnl : n < xs.length
    · obtain ⟨m, hm⟩ : ∃ m, m = xs.length - 1 - n := ⟨_, rfl⟩
      have hml : m < xs.length := by omega
      have hmi : (xs.length : Int) - 1 - (n : Int) = (m : Int) := by omega
      obtain ⟨ad, rfl, _, hcell⟩ := hr.at_ hml
      obtain ⟨x, hx⟩ : ∃ x, xs[m] = x := ⟨_, rfl⟩
      rw [hx] at hcell
      rw [hmi]
      have q3 : (0 : Int) ≤ (m : Int) := Int.natCast_nonneg _
      have q4 : (m : Int) < (xs.length : Int) := by omega
      have q5 : decide ((0 : Int) ≤ (m : Int)) = true := by simp
      have q6 : IntKind.i64.wrap ((m : Int) - 1) = (m : Int) - 1 := by rw [IntKind.wrap_i64]; omega
      have HNO := Lib.hid hno
      have HM := Lib.hid hm
      have HXX := Lib.hid hx
      have HMI := Lib.hid hmi
      clear hno hm hx hmi
      rcases hb : (x == t) with _ | _
      · go_wp2_with fail
        go_roundw
        case rel =>
          have hm := HM.out
          refine ⟨n + 1, by omega, by congr 1; omega, by first | rfl | trivial, fun j hj hk' => ?_⟩
          by_cases hjn : j < n
          · exact HNO.out j hjn (by omega)
          · obtain rfl : j = n := by omega
            have : xs[xs.length - 1 - j]'(by omega) = x := by rw [← HXX.out]; congr 1; exact hm.symm
            rw [this]
            simpa using hb
        case measure => have hm := HM.out; first | (simp [intOf]; done) | (simp [intOf]; omega)
      · go_wp2_with fail
        go_ret
        have hm := HM.out
        have he : labF xs t = some n := labF_some hnl (fun j hj => HNO.out j hj (by omega)) (by
          have : xs[xs.length - 1 - n]'(by omega) = x := by rw [← HXX.out]; congr 1; exact hm.symm
          rw [this]
          simpa using hb)
        refine ⟨?_, rfl⟩
        unfold placeF
        rw [he]
        dsimp only
        rw [HMI.out]
        rfl
    · obtain rfl : n = xs.length := by omega
      have he : labF xs t = none := labF_none (fun j hj => hno j hj (Nat.le_refl _))
      have HE := Lib.hid he
      have q5 : (xs.length : Int) - 1 - (xs.length : Int) = -1 := by omega
      rw [q5]
      clear hno he q5
      go_wp2_with fail
      go_ret
      exact ⟨by unfold placeF; rw [HE.out]; rfl, rfl⟩
set_option maxHeartbeats 1000000 in
set_option maxRecDepth 100000 in
theorem place_empty (A : Option Addr) (c : Nat) (xs : List Nm) (w : World) (B : Nat) (hr : RdS w B A xs) (hl : xs.length ≤ 1000000) :
    Calls Try.prog 36 #[.slice A xs.length c, .string ⟨#[]⟩] w fun e w' => e = .returned (.int .i64 (-1)) ∧ w = w' := by
  have hw0 : IntKind.i64.wrap ((xs.length : Int) - 1) = (xs.length : Int) - 1 := by rw [IntKind.wrap_i64]; omega
  go_enter Try.func36, Try.ntmps36
  go_wp2_with fail
  go_loopw [5] (fun i wr => ∃ n : Nat, n ≤ xs.length ∧ i = .int .i64 ((xs.length : Int) - 1 - n) ∧ wr = w) (fun i _ => (intOf i + 1).toNat)
  case atStart => exact ⟨0, by omega, by simp, rfl⟩
  case round =>
    obtain ⟨n, hn, rfl, rfl⟩ := hrel
    by_cases hnl : n < xs.length
    · obtain ⟨m, hm⟩ : ∃ m, m = xs.length - 1 - n := ⟨_, rfl⟩
      have hml : m < xs.length := by omega
      have hmi : (xs.length : Int) - 1 - (n : Int) = (m : Int) := by omega
      obtain ⟨ad, rfl, _, hcell⟩ := hr.at_ hml
      obtain ⟨x, hx⟩ : ∃ x, xs[m] = x := ⟨_, rfl⟩
      rw [hx] at hcell
      rw [hmi]
      have q3 : (0 : Int) ≤ (m : Int) := Int.natCast_nonneg _
      have q4 : (m : Int) < (xs.length : Int) := by omega
      have q5 : decide ((0 : Int) ≤ (m : Int)) = true := by simp
      have q6 : IntKind.i64.wrap ((m : Int) - 1) = (m : Int) - 1 := by rw [IntKind.wrap_i64]; omega
      have HM := Lib.hid hm
      clear hm hx hmi
      rcases hb : List.isEmpty x with _ | _
      all_goals
        go_wp2_with fail
        go_roundw
        case rel => have hm := HM.out; exact ⟨n + 1, by omega, by congr 1; omega, by first | rfl | trivial⟩
        case measure => have hm := HM.out; first | (simp [intOf]; done) | (simp [intOf]; omega)
    · obtain rfl : n = xs.length := by omega
      have q5 : (xs.length : Int) - 1 - (xs.length : Int) = -1 := by omega
      rw [q5]
      clear q5
      go_wp2_with fail
      go_ret
      exact ⟨rfl, rfl⟩
end Go.Proofs.Ytbnddnoognoekaa
