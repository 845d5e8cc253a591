/-
  Plain laws for TypesBack: names and byte codes lead back; the text of a valid function type says which it is.
-/
import Derived.Test.YtkljmdekihlkeaaTypesLim
set_option linter.unusedVariables false
namespace Go.Proofs.Ytkljmdekihlkeaa
open Go.RowKit

namespace Ty
theorem four {t : Int} (h : val t = true) : t = 1 ∨ t = 2 ∨ t = 3 ∨ t = 4 := by
  rcases five t with h1 | h1 | h1 | h1 | h1
  · exact .inl h1
  · exact .inr (.inl h1)
  · exact .inr (.inr (.inl h1))
  · exact .inr (.inr (.inr h1))
  · rw [val_no h1] at h; cases h
theorem ofByte_byte {t : Int} (h : val t = true) : ofByte (byte t) = (t, true) := by
  rcases four h with rfl | rfl | rfl | rfl <;> decide
theorem find_name {t : Int} (h : val t = true) : find (name t) = (t, true) := by
  rcases four h with rfl | rfl | rfl | rfl <;> decide
theorem num_ref {t : Int} (h : val t = true) : (num t = true ∧ ref t = false) ∨ (num t = false ∧ ref t = true) := by
  rcases four h with rfl | rfl | rfl | rfl <;> decide

/-- What follows a list's first element. -/
def rest : List Int → List UInt8
  | [] => [41]
  | t :: vs => 44 :: 32 :: (name t ++ rest vs)
theorem rest_eq (vs : List Int) (h : ∀ t ∈ vs, val t = true) : Lib.joinTail [44, 32] (vs.map shown) ++ [41] = rest vs := by
  induction vs with
  | nil => rfl
  | cons t vs ih =>
    have ih := ih (fun u hu => h u (by simp [hu]))
    rw [rest, ← ih]
    have ht : shown t = name t := by unfold shown; rw [if_pos (h t (by simp))]
    simp [Lib.joinTail, ht]
theorem name_apart {t u : Int} (ht : val t = true) (hu : val u = true) {X Y : List UInt8} (h : name t ++ X = name u ++ Y) : t = u ∧ X = Y := by
  rcases four ht with rfl | rfl | rfl | rfl <;> rcases four hu with rfl | rfl | rfl | rfl <;> simp [name] at h ⊢ <;> exact h
theorem rest_apart (vs ws : List Int) (hv : ∀ t ∈ vs, val t = true) (hw : ∀ t ∈ ws, val t = true) (X Y : List UInt8) (h : rest vs ++ X = rest ws ++ Y) : vs = ws ∧ X = Y := by
  induction vs generalizing ws with
  | nil =>
    cases ws with
    | nil => simpa [rest] using h
    | cons u ws => simp [rest] at h
  | cons t vs ih =>
    cases ws with
    | nil => simp [rest] at h
    | cons u ws =>
      simp only [rest, List.cons_append, List.append_assoc, List.cons.injEq, true_and] at h
      obtain ⟨rfl, h2⟩ := name_apart (hv t (by simp)) (hw u (by simp)) h
      obtain ⟨rfl, h3⟩ := ih ws (fun a ha => hv a (by simp [ha])) (fun a ha => hw a (by simp [ha])) h2
      exact ⟨rfl, h3⟩
theorem list_cons (t : Int) (vs : List Int) (h : ∀ u ∈ t :: vs, val u = true) : list (t :: vs) = 40 :: (name t ++ rest vs) := by
  rw [← rest_eq vs (fun u hu => h u (by simp [hu]))]
  have ht : shown t = name t := by unfold shown; rw [if_pos (h t (by simp))]
  simp [list, Lib.join_cons, ht]
theorem name_head {t : Int} (h : val t = true) {X Y : List UInt8} : name t ++ X ≠ 41 :: Y := by
  rcases four h with rfl | rfl | rfl | rfl <;> simp [name]
theorem list_apart (vs ws : List Int) (hv : ∀ t ∈ vs, val t = true) (hw : ∀ t ∈ ws, val t = true) (X Y : List UInt8) (h : list vs ++ X = list ws ++ Y) : vs = ws ∧ X = Y := by
  cases vs with
  | nil =>
    cases ws with
    | nil => simpa [list, Lib.join] using h
    | cons u ws =>
      rw [list_cons u ws hw] at h
      simp [list, Lib.join] at h
      exact absurd h.symm (name_head (hw u (by simp)))
  | cons t vs =>
    cases ws with
    | nil =>
      rw [list_cons t vs hv] at h
      simp [list, Lib.join] at h
      exact absurd h (name_head (hv t (by simp)))
    | cons u ws =>
      rw [list_cons t vs hv, list_cons u ws hw] at h
      simp only [List.cons_append, List.append_assoc, List.cons.injEq, true_and] at h
      obtain ⟨rfl, h2⟩ := name_apart (hv t (by simp)) (hw u (by simp)) h
      obtain ⟨rfl, h3⟩ := rest_apart vs ws (fun a ha => hv a (by simp [ha])) (fun a ha => hw a (by simp [ha])) X Y h2
      exact ⟨rfl, h3⟩
theorem right_all {vs : List Int} (h : right vs = true) : ∀ t ∈ vs, val t = true := by
  simp [right] at h
  exact h.2
theorem text_apart (ps rs qs ss : List Int) (h1 : right ps = true) (h2 : right rs = true) (h3 : right qs = true) (h4 : right ss = true) :
    (text ps rs == text qs ss) = (decide (ps = qs) && decide (rs = ss)) := by
  by_cases h : text ps rs = text qs ss
  · have h' := h
    unfold text at h'
    obtain ⟨rfl, h'⟩ := list_apart ps qs (right_all h1) (right_all h3) _ _ h'
    have h'' := (List.append_cancel_left h')
    obtain ⟨rfl, _⟩ := list_apart rs ss (right_all h2) (right_all h4) [] [] (by simpa using h'')
    simp
  · have e : (decide (ps = qs) && decide (rs = ss)) = false := by
      by_cases hp : ps = qs
      · by_cases hr : rs = ss
        · subst hp hr; exact absurd rfl h
        · simp [hr]
      · simp [hp]
    rw [e]
    simpa using h
end Ty
end Go.Proofs.Ytkljmdekihlkeaa
