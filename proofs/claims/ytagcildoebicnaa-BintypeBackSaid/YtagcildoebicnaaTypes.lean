/-
  Value types: the predicates and names of package types.
-/
import Derived.Test.YtagcildoebicnaaWords
set_option linter.unusedVariables false
namespace Go.Proofs.Ytagcildoebicnaa
open Go.RowKit

namespace Ty
def num (t : Int) : Bool := t == 1 || t == 2
def ref (t : Int) : Bool := t == 3 || t == 4
def val (t : Int) : Bool := num t || ref t
def name (t : Int) : List UInt8 := if t = 1 then [105, 51, 50] else if t = 2 then [105, 54, 52] else if t = 3 then [102, 117, 110, 99, 114, 101, 102] else if t = 4 then [101, 120, 116, 101, 114, 110, 114, 101, 102] else []
def byte (t : Int) : Int := if t = 1 then 127 else if t = 2 then 126 else if t = 3 then 112 else if t = 4 then 111 else 0
theorem five (t : Int) : t = 1 ∨ t = 2 ∨ t = 3 ∨ t = 4 ∨ ((t == 1) = false ∧ (t == 2) = false ∧ (t == 3) = false ∧ (t == 4) = false) := by
  by_cases h1 : t = 1
  · exact .inl h1
  by_cases h2 : t = 2
  · exact .inr (.inl h2)
  by_cases h3 : t = 3
  · exact .inr (.inr (.inl h3))
  by_cases h4 : t = 4
  · exact .inr (.inr (.inr (.inl h4)))
  exact .inr (.inr (.inr (.inr ⟨by simpa using h1, by simpa using h2, by simpa using h3, by simpa using h4⟩)))
theorem name_no {t : Int} (h : (t == 1) = false ∧ (t == 2) = false ∧ (t == 3) = false ∧ (t == 4) = false) : name t = [] := by
  simp at h; simp [name, h]
theorem byte_no {t : Int} (h : (t == 1) = false ∧ (t == 2) = false ∧ (t == 3) = false ∧ (t == 4) = false) : byte t = 0 := by
  simp at h; simp [byte, h]
theorem val_no {t : Int} (h : (t == 1) = false ∧ (t == 2) = false ∧ (t == 3) = false ∧ (t == 4) = false) : val t = false := by
  unfold val num ref; rw [h.1, h.2.1, h.2.2.1, h.2.2.2]; rfl
end Ty

theorem num_any (t : Int) (w : World) : Calls Try.prog 84 #[.int .i64 t] w fun e w' => e = .returned (.bool (Ty.num t)) ∧ w = w' := by
  unfold Ty.num
  rcases h1 : (t == 1) with _ | _ <;> rcases h2 : (t == 2) with _ | _
  all_goals
    go_enter Try.func84, Try.ntmps84
    go_wp2
    go_ret
    exact ⟨rfl, rfl⟩
theorem ref_any (t : Int) (w : World) : Calls Try.prog 68 #[.int .i64 t] w fun e w' => e = .returned (.bool (Ty.ref t)) ∧ w = w' := by
  unfold Ty.ref
  rcases h1 : (t == 3) with _ | _ <;> rcases h2 : (t == 4) with _ | _
  all_goals
    go_enter Try.func68, Try.ntmps68
    go_wp2
    go_ret
    exact ⟨rfl, rfl⟩
theorem val_any (t : Int) (w : World) : Calls Try.prog 50 #[.int .i64 t] w fun e w' => e = .returned (.bool (Ty.val t)) ∧ w = w' := by
  unfold Ty.val
  rcases h1 : Ty.num t with _ | _ <;> rcases h2 : Ty.ref t with _ | _
  all_goals
    have H1 := Lib.hid h1
    have H2 := Lib.hid h2
    clear h1 h2
    go_enter Try.func50, Try.ntmps50
    go_wp2_with (first | (go_at_call 84; refine (num_any _ _).mono ?_; rintro e w1 ⟨rfl, rfl⟩; rw [H1.out]) | (go_at_call 68; refine (ref_any _ _).mono ?_; rintro e w1 ⟨rfl, rfl⟩; rw [H2.out]))
    go_ret
    exact ⟨rfl, rfl⟩
theorem byte_any (t : Int) (w : World) : Calls Try.prog 62 #[.int .i64 t] w fun e w' => e = .returned (.tuple #[.int .u8 (Ty.byte t), .bool (Ty.val t)]) ∧ w = w' := by
  rcases Ty.five t with rfl | rfl | rfl | rfl | h
  case inr.inr.inr.inr =>
    have HV := Lib.hid (Ty.byte_no h)
    have HB := Lib.hid (Ty.val_no h)
    obtain ⟨h1, h2, h3, h4⟩ := h
    go_enter Try.func62, Try.ntmps62
    go_wp2
    go_ret2
    exact ⟨by rw [HV.out, HB.out]; rfl, rfl⟩
  all_goals
    go_enter Try.func62, Try.ntmps62
    go_wp2
    go_ret2
    exact ⟨rfl, rfl⟩
end Go.Proofs.Ytagcildoebicnaa
