/-
  Plain law of TokenCuts: text behind the first malformed byte does not matter.
-/
import Derived.Test.YtnjhbhbohnjckaaTokPlain
set_option linter.unusedVariables false
namespace Go.Proofs.Ytnjhbhbohnjckaa.Tok

theorem pre2_app (a : UInt8) (D m : List UInt8) (h : D ≠ []) : pre2 a 59 (D ++ 32 :: m) = pre2 a 59 D := by
  match D, h with
  | [c], _ => simp [pre2]
  | c :: d :: r, _ => simp [pre2]
theorem lineLen_app (X : List UInt8) : ∀ D : List UInt8, lineLen D < D.length → lineLen (D ++ X) = lineLen D := by
  intro D
  induction D with
  | nil => intro h; simp at h
  | cons c r ih =>
    intro h
    rw [List.cons_append, lineLen, lineLen]
    rw [lineLen] at h
    split
    · rfl
    · rename_i hc
      rw [if_neg hc] at h
      rw [ih (by simp only [List.length_cons] at h; omega)]
theorem rem_app (X : List UInt8) : ∀ (n : Nat) (D : List UInt8), D.length ≤ n → ∀ (d : Int) (i : Nat), rem D d i ≠ 0 → rem (D ++ X) d i = rem D d i := by
  intro n
  induction n with
  | zero =>
    intro D hD d i h
    obtain rfl : D = [] := List.eq_nil_of_length_eq_zero (by omega)
    simp [rem] at h
  | succ n ih =>
    intro D hD d i h
    match D, hD with
    | [], _ => simp [rem] at h
    | [a], _ => simp [rem] at h
    | a :: b :: r, hD =>
      simp only [List.length_cons] at hD
      rw [List.cons_append, List.cons_append, rem, rem]
      rw [rem] at h
      by_cases h1 : (a == 40 && b == 59) = true
      · rw [if_pos h1] at h ⊢; rw [if_pos h1]; exact ih r (by omega) _ _ h
      · rw [if_neg h1] at h ⊢; rw [if_neg h1]
        by_cases h2 : (a == 59 && b == 41) = true
        · rw [if_pos h2] at h ⊢; rw [if_pos h2]
          by_cases h3 : d - 1 = 0
          · rw [if_pos h3, if_pos h3]
          · rw [if_neg h3] at h ⊢; rw [if_neg h3]; exact ih r (by omega) _ _ h
        · rw [if_neg h2] at h ⊢; rw [if_neg h2]
          have := ih (b :: r) (by simp only [List.length_cons]; omega) d (i + 1) h
          rw [List.cons_append] at this; exact this
theorem quo_app (X : List UInt8) : ∀ (R : List UInt8) (e : Bool) (i : Nat), (quo R e i).2 ≠ 3 → quo (R ++ X) e i = quo R e i := by
  intro R
  induction R with
  | nil => intro e i h; simp [quo] at h
  | cons c r ih =>
    intro e i h
    rw [List.cons_append, quo, quo]
    rw [quo] at h
    split
    · rfl
    · rename_i h1
      rw [if_neg h1] at h
      split
      · rename_i h2; rw [if_pos h2] at h; exact ih _ _ h
      · rename_i h2
        rw [if_neg h2] at h
        split
        · rename_i h3; rw [if_pos h3] at h; exact ih _ _ h
        · rename_i h3
          rw [if_neg h3] at h
          split
          · rfl
          · rename_i h4; rw [if_neg h4] at h; exact ih _ _ h
theorem runLen_app (m : List UInt8) : ∀ D : List UInt8, runLen (D ++ 32 :: m) = runLen D := by
  intro D
  induction D with
  | nil =>
    have : runLen (32 :: m) = 0 := by rw [runLen]; exact if_neg (by decide)
    rw [List.nil_append, this]; rfl
  | cons c r ih => rw [List.cons_append, runLen, runLen, ih]

theorem step_more (l m : List UInt8) (i : Nat) (hi : i < l.length) (h : ∀ x, step l i = .ok x → x.2 < l.length) (h3 : ∀ a, step l i ≠ .error (a, 3)) : step (l ++ 32 :: m) i = step l i := by
  have hg : (l ++ 32 :: m).getD i 0 = l.getD i 0 := by simp [List.getElem?_append_left hi]
  have hd : (l ++ 32 :: m).drop i = l.drop i ++ 32 :: m := List.drop_append_of_le_length (by omega)
  have hd1 : (l ++ 32 :: m).drop (i + 1) = l.drop (i + 1) ++ 32 :: m := List.drop_append_of_le_length (by omega)
  have hD : l.drop i ≠ [] := by intro e; have := congrArg List.length e; simp at this; omega
  have hDl : (l.drop i).length = l.length - i := by simp
  have hRl : (l.drop (i + 1)).length = l.length - (i + 1) := by simp
  unfold step at h h3 ⊢
  rw [hg, hd, hd1, pre2_app 59 _ _ hD, pre2_app 40 _ _ hD]
  by_cases hw : ws (l.getD i 0) = true
  · rw [if_pos hw, if_pos hw]
  rw [if_neg hw] at h h3
  rw [if_neg hw, if_neg hw]
  by_cases h1 : pre2 59 59 (l.drop i) = true
  · rw [if_pos h1] at h
    rw [if_pos h1, if_pos h1, lineLen_app _ _ (by have := h _ rfl; dsimp only at this; omega)]
  rw [if_neg h1] at h h3
  rw [if_neg h1, if_neg h1]
  by_cases h2 : pre2 40 59 (l.drop i) = true
  · rw [if_pos h2] at h3
    rw [if_pos h2, if_pos h2]
    by_cases hr : rem (l.drop i) 0 0 = 0
    · exact absurd (if_pos hr) (h3 i)
    · rw [rem_app _ _ _ (Nat.le_refl _) _ _ hr]
  rw [if_neg h2] at h h3
  rw [if_neg h2, if_neg h2]
  by_cases h4 : (l.getD i 0 == 40) = true
  · rw [if_pos h4, if_pos h4]
  rw [if_neg h4] at h h3
  rw [if_neg h4, if_neg h4]
  by_cases h5 : (l.getD i 0 == 41) = true
  · rw [if_pos h5, if_pos h5]
  rw [if_neg h5] at h h3
  rw [if_neg h5, if_neg h5]
  by_cases h6 : (l.getD i 0 == 34) = true
  · rw [if_pos h6] at h3
    rw [if_pos h6, if_pos h6]
    by_cases hq : (quo (l.drop (i + 1)) false 1).2 = 3
    · rw [hq, if_neg (by omega), if_pos rfl] at h3
      exact absurd rfl (h3 i)
    · rw [quo_app _ _ _ _ hq]
      have hle := quo_le (l.drop (i + 1)) false 1
      rw [List.take_append_of_le_length (by omega)]
  rw [if_neg h6, if_neg h6, runLen_app]
  have := runLen_le (l.drop i)
  rw [List.take_append_of_le_length (by omega)]
theorem cut_at (l m : List UInt8) (a : Nat) : ∀ (f i : Nat) (acc acc' : List Tk), l.length ≤ i + f → (lexAt l i acc).2 = (a, 4) → (lexAt (l ++ 32 :: m) i acc').2 = (a, 4) := by
  intro f
  induction f with
  | zero =>
    intro i acc acc' hf h
    rw [lexAt_end (by omega)] at h
    simp at h
  | succ f ih =>
    intro i acc acc' hf h
    by_cases hi : i < l.length
    · have hi' : i < (l ++ 32 :: m).length := by simp; omega
      rcases hs : step l i with ⟨b, e⟩ | ⟨t, j⟩
      · rw [lexAt_error hi acc hs] at h
        have he : b = a ∧ e = 4 := by simpa using h
        obtain ⟨rfl, rfl⟩ := he
        have := step_more l m i hi (by intro x hx; rw [hs] at hx; cases hx) (by intro a' ha; rw [hs] at ha; simp at ha)
        rw [hs] at this
        rw [lexAt_error hi' acc' this]
      · rw [lexAt_ok hi acc hs] at h
        have hj := step_ok hi hs
        dsimp only at h hj
        by_cases hjl : j < l.length
        · have := step_more l m i hi (by intro x hx; rw [hs] at hx; injection hx with hx; subst hx; exact hjl) (by intro a' ha; rw [hs] at ha; cases ha)
          rw [hs] at this
          rw [lexAt_ok hi' acc' this]
          exact ih j _ _ (by omega) h
        · rw [lexAt_end (by omega)] at h
          simp at h
    · rw [lexAt_end (by omega)] at h
      simp at h
/-- TokenCuts' law. -/
theorem cuts (l m : List UInt8) (a : Nat) (hl : l.length ≤ 1000) (hm : m.length ≤ 1000) (h : (lexF l).2 = (a, 4)) : (lexF (l ++ 32 :: m)).2 = (a, 4) := by
  have e1 : lexF l = lexAt l 0 [] := by rw [lexF, if_neg (by omega), lexAt, Nat.sub_zero]
  have e2 : lexF (l ++ 32 :: m) = lexAt (l ++ 32 :: m) 0 [] := by rw [lexF, if_neg (by simp; omega), lexAt, Nat.sub_zero]
  rw [e2]
  rw [e1] at h
  exact cut_at l m a l.length 0 [] [] (by omega) h
end Go.Proofs.Ytnjhbhbohnjckaa.Tok
