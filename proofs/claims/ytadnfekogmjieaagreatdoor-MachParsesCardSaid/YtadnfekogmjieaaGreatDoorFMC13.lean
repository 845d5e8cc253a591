/-
  Layer 51, the program: Check. (Printed by gen_mc13.py.)
-/
import Derived.Test.YtadnfekogmjieaaGreatDoorFGV
import Derived.Test.YtadnfekogmjieaaGreatDoorFGW
import Derived.Test.YtadnfekogmjieaaGreatDoorFGK
import Derived.Test.YtadnfekogmjieaaGreatDoorFGI
set_option linter.unusedVariables false
set_option linter.unusedSimpArgs false
namespace Go.Proofs.YtadnfekogmjieaaGreatDoor
open Go.RowKit
open Mc (Pl Mi Mf Th Wt Im Md)
/-- The boxed arguments of Check. -/
structure C12 (w W : World) (mv fv : Array Value) : Prop where
  bel : Below w.heap.size w W
  md : Var W w.heap.size mv 33
  mf : Var W (w.heap.size + 1) fv 39
theorem C12.new (w : World) (mv fv : Array Value) : C12 w ((w.alloc (.cells mv 33)).alloc (.cells fv 39)) mv fv :=
  ⟨((Below.refl w.heap.size w).alloc (Nat.le_refl _) _).alloc (by simp) _, (Var.new w _ _).alloc _, by have h := Var.new (w.alloc (.cells mv 33)) fv 39; simpa using h⟩
theorem C12.below {w W W' : World} {mv fv : Array Value} (h : C12 w W mv fv) (hb : Below W.heap.size W W') : C12 w W' mv fv := ⟨h.bel.trans (hb.mono h.bel.size), var_keep h.md hb, var_keep h.mf hb⟩
/-- The state of Check behind read. -/
structure C13 (w W : World) (N K : Nat) (fv : Array Value) (S : Nat → Prop) (t : Th) (X : TX) : Prop where
  bel : Below w.heap.size w W
  mf : Var W (w.heap.size + 1) fv 39
  th : Var W K (thA t X) 97
  rd : ThRd (fun g => S g ∨ N ≤ g) W t X
theorem C13.below {w W W' : World} {N K : Nat} {fv : Array Value} {S : Nat → Prop} {t : Th} {X : TX} (h : C13 w W N K fv S t X) (hb : Below W.heap.size W W') : C13 w W' N K fv S t X := ⟨h.bel.trans (hb.mono h.bel.size), var_keep h.mf hb, var_keep h.th hb, h.rd.on hb⟩
namespace Mc
theorem on_goes (k : Int) : on k = goesK k := rfl
theorem mfOk_no {f : Mf} (h : (Ty.right f.ps && Ty.right f.rs) = false ∨ f.slots < (f.ps.length : Int) ∨ (65536 : Int) < f.slots ∨ f.code = []) : mfOk f = false := by
  rw [Bool.eq_false_iff]
  intro h'
  obtain ⟨⟨⟨h1, h2⟩, h3, h4⟩, h5⟩ := mfOk_iff.1 h'
  rcases h with h | h | h | h
  · rw [h1, h2] at h; cases h
  · omega
  · omega
  · exact h5 h
theorem check_no {t : Th} {f : Mf} {r : Int} (hr : within r 16 = true) (h : (Ty.right f.ps && Ty.right f.rs) = false ∨ f.slots < (f.ps.length : Int) ∨ (65536 : Int) < f.slots ∨ f.code = []) : check t f r = (0, 30) := by
  unfold check
  rw [if_neg (by rw [hr]; simp), if_pos (mfOk_no h)]
/-- The end of Check. -/
def checkEnd (f : Mf) : Int × Int := if goesK (f.code.getLastD mi0).kind then (((f.code.length - 1 : Nat) : Int), 30) else (0, 0)
def checkGo (t : Th) (f : Mf) (r : Int) (i : Nat) : Int × Int := match findBad t f r i (f.code.drop i) with | some i => ((i : Int), 30) | none => checkEnd f
theorem check_yes {t : Th} {f : Mf} {r : Int} (hr : within r 16 = true) (h : mfOk f = true) : check t f r = checkGo t f r 0 := by
  unfold check checkGo checkEnd
  rw [if_neg (by rw [hr]; simp), if_neg (by rw [h]; simp), List.drop_zero]
  rfl
theorem checkGo_bad {t : Th} {f : Mf} {r : Int} {i : Nat} (hi : i < f.code.length) (h : rightI t f.code[i] f r = false) : checkGo t f r i = ((i : Int), 30) := by
  unfold checkGo
  rw [List.drop_eq_getElem_cons hi, findBad, if_neg (by rw [h]; simp)]
theorem checkGo_next {t : Th} {f : Mf} {r : Int} {i : Nat} (hi : i < f.code.length) (h : rightI t f.code[i] f r = true) : checkGo t f r i = checkGo t f r (i + 1) := by
  unfold checkGo
  rw [List.drop_eq_getElem_cons hi, findBad, if_pos h]
theorem checkGo_end (t : Th) (f : Mf) (r : Int) : checkGo t f r f.code.length = checkEnd f := by
  unfold checkGo
  rw [List.drop_length]; rfl
theorem checkEnd_at {f : Mf} {k : Nat} (h : f.code.length = k + 1) : checkEnd f = if goesK (f.code[k]'(by omega)).kind then ((k : Int), 30) else (0, 0) := by
  unfold checkEnd
  have e : f.code.getLastD mi0 = f.code[k]'(by omega) := by
    have hne : f.code ≠ [] := by intro e; rw [e] at h; cases h
    rw [List.getLastD_eq_getLast?, List.getLast?_eq_some_getLast hne, Option.getD_some, List.getLast_eq_getElem]
    congr 1
    omega
  have h2 : f.code.length - 1 = k := by omega
  rw [e, h2]
end Mc
end Go.Proofs.YtadnfekogmjieaaGreatDoor
