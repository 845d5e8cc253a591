/-
  Equality of lists of types: contracts of the program's and the reference's functions.
-/
import Derived.Test.YtagcildoebicnaaTypesLim
import Derived.Deep.QuietTactic
import Derived.BigQuiet
set_option linter.unusedVariables false
namespace Go.Proofs.Ytagcildoebicnaa
open Go.RowKit

theorem drop_eq_cons {l : List Int} {k : Nat} {t : Int} (h : k < l.length) (ht : l[k] = t) : l.drop k = t :: l.drop (k + 1) := by rw [List.drop_eq_getElem_cons h, ht]

theorem two_rdi {w : World} {A : Option Addr} {vs : List Int} (h : RdI w w.heap.size A vs) (o o' : Obj) : RdI ((w.alloc o).alloc o') w.heap.size A vs :=
  (h.alloc (Nat.le_refl _) o).alloc (by simp) o'

set_option maxHeartbeats 1000000 in
set_option maxRecDepth 100000 in
theorem refVals_any (A : Option Addr) (c : Nat) (vs : List Int) (w : World) (B : Nat) (hr : RdI w B A vs) (hl : vs.length ≤ 1000000) :
    Calls Try.prog 80 #[.slice A vs.length c] w fun e w' => e = .returned (.bool (Ty.right vs)) ∧ w = w' := by
  have hR : Hid (Ty.right vs = (decide (vs.length ≤ 8) && vs.all Ty.val)) := rfl
  go_enter Try.func80, Try.ntmps80
  go_wp2
  go_loop [3] (fun i => ∃ k : Nat, k ≤ vs.length ∧ i = .int .i64 k ∧ Hid (vs.all Ty.val = (vs.drop k).all Ty.val)) (fun i => vs.length - (intOf i).toNat)
  case atStart => exact ⟨0, by omega, rfl, by simp [Hid]⟩
  case round =>
    obtain ⟨k, hk, rfl, HR⟩ := hrel
    by_cases hkl : k < vs.length
    · obtain ⟨ad, rfl, _, hcell⟩ := hr.at_ hkl
      obtain ⟨t, ht⟩ : ∃ t, vs[k] = t := ⟨_, rfl⟩
      rw [ht] at hcell
      have hd : vs.drop k = t :: vs.drop (k + 1) := drop_eq_cons hkl ht
      rcases hv : Ty.val t with _ | _
      · have hf : Hid (Ty.right vs = false) := by unfold Hid; rw [hR.out, HR.out, hd, List.all_cons, hv]; simp
        have HV := Lib.hid hv
        clear hv ht hd
        go_wp2_with (go_at_call 88; refine (refVal_any _ _).mono ?_; rintro e w1 ⟨rfl, rfl⟩; rw [HV.out])
        go_ret
        exact ⟨by rw [hf.out]; rfl, rfl⟩
      · have hf : Hid (vs.all Ty.val = (vs.drop (k + 1)).all Ty.val) := by unfold Hid; rw [HR.out, hd, List.all_cons, hv, Bool.true_and]
        have HV := Lib.hid hv
        clear hv ht hd
        go_wp2_with (go_at_call 88; refine (refVal_any _ _).mono ?_; rintro e w1 ⟨rfl, rfl⟩; rw [HV.out])
        go_round
        case rel => exact ⟨k + 1, by omega, by go_num, hf⟩
        case measure => simp [intOf]; omega
    · have hf : Hid (Ty.right vs = decide ((vs.length : Int) ≤ 8)) := by
        unfold Hid
        rw [hR.out, HR.out, List.drop_of_length_le (by omega), List.all_nil, Bool.and_true]
        exact decide_eq_decide.2 (by omega)
      go_wp2
      go_ret
      exact ⟨by rw [hf.out]; rfl, rfl⟩
end Go.Proofs.Ytagcildoebicnaa
