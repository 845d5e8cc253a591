/-
  The tokens of a text that is lexed end with the end, and hold it there alone.
-/
import Derived.Test.YtnjhbhbohnjckaaTreePlain
set_option linter.unusedVariables false
namespace Go.Proofs.Ytnjhbhbohnjckaa.Tree
open Tok (Tk)

theorem step_kind {l : List UInt8} {i j : Nat} {t : Tk} (h : Tok.step l i = .ok (some t, j)) : t.kind ≠ 4 ∧ t.kind ≤ 3 := by
  unfold Tok.step at h
  repeat' split at h
  all_goals first | (cases h; done) | (injection h with h; injection h with h _; injection h with h; subst h; exact ⟨by dsimp only; omega, by dsimp only; omega⟩)
theorem step_err0 {l : List UInt8} {i a : Nat} {er : Int} (h : Tok.step l i = .error (a, er)) : er ≠ 0 := by
  unfold Tok.step at h
  repeat' split at h
  all_goals first | (cases h; done) | (injection h with h; injection h with h1 h2; subst h2; decide)
theorem lexGo_shape {l : List UInt8} : ∀ (f i : Nat) (acc L : List Tk) (p : Nat), (∀ t ∈ acc, t.kind ≠ 4) → acc.length + f ≤ l.length → Tok.lexGo l f i acc = (L, p, 0) → ∃ a, L = a ++ [⟨4, l.length, []⟩] ∧ p = 0 ∧ (∀ t ∈ a, t.kind ≠ 4) ∧ a.length ≤ l.length := by
  intro f
  induction f with
  | zero =>
    intro i acc L p ha hl h
    rw [Tok.lexGo] at h
    injection h with h1 h2
    injection h2 with h2 _
    exact ⟨acc, h1.symm, h2.symm, ha, by omega⟩
  | succ f ih =>
    intro i acc L p ha hl h
    rw [Tok.lexGo] at h
    split at h
    · injection h with h1 h2
      injection h2 with h2 _
      exact ⟨acc, h1.symm, h2.symm, ha, by omega⟩
    · split at h
      · rename_i x hs
        obtain ⟨a, er⟩ := x
        injection h with h1 h2
        injection h2 with h2 h3
        exact absurd h3 (step_err0 hs)
      · rename_i x hs
        obtain ⟨o, j⟩ := x
        refine ih _ _ _ _ ?_ ?_ h
        · intro t ht
          rw [List.mem_append] at ht
          rcases ht with ht | ht
          · exact ha t ht
          · match o, ht with
            | some t', ht =>
              obtain rfl : t = t' := by simpa using ht
              exact (step_kind hs).1
        · cases o <;> simp <;> omega
theorem lexF_ends {s : List UInt8} {L : List Tk} {p : Nat} (h : Tok.lexF s = (L, p, 0)) : Ends L ∧ 0 < L.length ∧ L.length ≤ s.length + 1 ∧ p = 0 := by
  unfold Tok.lexF at h
  split at h
  · injection h with _ h; injection h with _ h; exact absurd h (by decide)
  · obtain ⟨a, rfl, hp, ha, hl⟩ := lexGo_shape _ _ _ _ _ (by simp) (by simp) h
    refine ⟨fun i hi => ?_, by simp, by simpa using hl, hp⟩
    rw [List.length_append, List.length_singleton] at hi ⊢
    by_cases h1 : i < a.length
    · rw [List.getElem_append_left h1]
      exact ⟨fun h => absurd h (ha _ (List.getElem_mem _)), fun h => by omega⟩
    · have : i = a.length := by omega
      subst this
      rw [List.getElem_append_right (by omega)]
      simp
theorem lexF_err {s : List UInt8} {L : List Tk} {p : Nat} {e : Int} (h : Tok.lexF s = (L, p, e)) (he : e ≠ 0) : parse s = ([], p, e) := by
  unfold parse
  rw [h, if_neg he]
theorem lexF_ok {s : List UInt8} {L : List Tk} {p : Nat} (h : Tok.lexF s = (L, p, 0)) : parse s = (row L L.length 0 0 0 []).out := by
  unfold parse
  rw [h, if_pos rfl]
end Go.Proofs.Ytnjhbhbohnjckaa.Tree
