/-
  Layer 51, plain: the seven turned instructions of MachTurned are wrong.
-/
import Derived.Test.YtadnfekogmjieaaGreatDoorEGI
set_option linter.unusedVariables false
set_option linter.unusedSimpArgs false
namespace Go.Proofs.YtadnfekogmjieaaGreatDoor.Mc
/-- The instruction that MachTurned puts in the place of x (which is wh % 7). -/
def turnY (f : Mf) (x : Mi) (wh : Nat) : Nat → Mi
  | 0 => { x with d := x.d ++ [⟨false, 8⟩] }
  | 1 => { x with s := x.s ++ [⟨false, 0⟩] }
  | 2 => { x with s := ⟨false, 8⟩ :: x.s.drop 1 }
  | 3 => { x with d := ⟨true, f.slots⟩ :: x.d.drop 1 }
  | 4 => { x with tos := (f.code.length : Int) :: x.tos.drop 1 }
  | 5 => { x with kind := 24 + (wh : Int) }
  | _ => { x with trap := 10 }
section
variable {t : Th} {x : Mi} {f : Mf}
theorem pl_out {s : Int} : plOk s 8 ⟨false, 8⟩ = false := by
  unfold plOk within
  rw [if_neg (by decide)]
  decide
theorem pl_slot {s r : Int} : plOk s r ⟨true, s⟩ = false := by
  unfold plOk within
  rw [if_pos rfl]
  dsimp only
  rw [decide_eq_false (p := s ≤ s - 1) (by omega)]
  simp
theorem to_len {n : Nat} : toOk n (n : Int) = false := by
  unfold toOk within
  rw [decide_eq_false (p := (n : Int) ≤ (n : Int) - 1) (by omega)]
  simp
theorem turn_bad (hx : rightI t x f 8 = true) (wh : Nat) (k : Nat) (h6 : 6 ≤ k → x.kind ≠ 23) : rightI t (turnY f x wh k) f 8 = false := by
  match k, h6 with
  | 0, _ => exact bad_place (.inl ⟨⟨false, 8⟩, by simp [turnY], pl_out⟩)
  | 1, _ => exact turn1 hx _
  | 2, _ => exact bad_place (.inr ⟨⟨false, 8⟩, by simp [turnY], pl_out⟩)
  | 3, _ => exact bad_place (.inl ⟨⟨true, f.slots⟩, by simp [turnY], pl_slot⟩)
  | 4, _ => exact bad_to ⟨(f.code.length : Int), by simp [turnY], to_len⟩
  | 5, _ => exact turn5 wh
  | k + 6, h6 => exact turn6 hx (h6 (by omega)) 10 (by decide)
end
end Go.Proofs.YtadnfekogmjieaaGreatDoor.Mc
