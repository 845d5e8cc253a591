/-
  A text with a line feed and more behind it: its tokens, and the parse.
-/
import Derived.Test.YtnjhbhbohnjckaaTreePlacesP
set_option linter.unusedVariables false
namespace Go.Proofs.Ytnjhbhbohnjckaa.Tok

theorem pre2_lf (a : UInt8) (D m : List UInt8) (h : D ≠ []) : pre2 a 59 (D ++ 10 :: m) = pre2 a 59 D := by
  match D, h with
  | [c], _ => simp [pre2]
  | c :: d :: r, _ => simp [pre2]
theorem runLen_lf (m : List UInt8) : ∀ D : List UInt8, runLen (D ++ 10 :: m) = runLen D := by
  intro D
  induction D with
  | nil =>
    have : runLen (10 :: m) = 0 := by rw [runLen]; exact if_neg (by decide)
    rw [List.nil_append, this]; rfl
  | cons c r ih => rw [List.cons_append, runLen, runLen, ih]
theorem lineLen_lf (m : List UInt8) : ∀ D : List UInt8, lineLen (D ++ 10 :: m) = lineLen D ∨ (lineLen D = D.length ∧ lineLen (D ++ 10 :: m) = D.length + 1) := by
  intro D
  induction D with
  | nil => exact .inr ⟨rfl, rfl⟩
  | cons c r ih =>
    rw [List.cons_append, lineLen, lineLen]
    split
    · exact .inl rfl
    · rcases ih with h | ⟨h1, h2⟩
      · exact .inl (by rw [h])
      · exact .inr ⟨by rw [h1]; rfl, by rw [h2]; rfl⟩
theorem step_lf (l m : List UInt8) (i : Nat) (hi : i < l.length) {x : Option Tk × Nat} (h : step l i = .ok x) : step (l ++ 10 :: m) i = .ok x ∨ (x = (none, l.length) ∧ step (l ++ 10 :: m) i = .ok (none, l.length + 1)) := by
  have hg : (l ++ 10 :: m).getD i 0 = l.getD i 0 := by simp [List.getElem?_append_left hi]
  have hd : (l ++ 10 :: m).drop i = l.drop i ++ 10 :: m := List.drop_append_of_le_length (by omega)
  have hd1 : (l ++ 10 :: m).drop (i + 1) = l.drop (i + 1) ++ 10 :: m := List.drop_append_of_le_length (by omega)
  have hD : l.drop i ≠ [] := by intro e; have := congrArg List.length e; simp at this; omega
  have hDl : (l.drop i).length = l.length - i := by simp
  have hRl : (l.drop (i + 1)).length = l.length - (i + 1) := by simp
  unfold step at h ⊢
  rw [hg, hd, hd1, pre2_lf 59 _ _ hD, pre2_lf 40 _ _ hD]
  by_cases hw : ws (l.getD i 0) = true
  · rw [if_pos hw] at h ⊢; exact .inl h
  rw [if_neg hw] at h ⊢
  by_cases h1 : pre2 59 59 (l.drop i) = true
  · rw [if_pos h1] at h ⊢
    rcases lineLen_lf m (l.drop i) with e | ⟨e1, e2⟩
    · rw [e]; exact .inl h
    · rw [e1] at h
      injection h with h
      refine .inr ⟨by rw [← h, hDl, show i + (l.length - i) = l.length from by omega], ?_⟩
      rw [e2, hDl, show i + (l.length - i + 1) = l.length + 1 from by omega]
  rw [if_neg h1] at h ⊢
  by_cases h2 : pre2 40 59 (l.drop i) = true
  · rw [if_pos h2] at h ⊢
    by_cases hr : rem (l.drop i) 0 0 = 0
    · rw [if_pos hr] at h; cases h
    · rw [rem_app _ _ _ (Nat.le_refl _) _ _ hr]; exact .inl h
  rw [if_neg h2] at h ⊢
  by_cases h4 : (l.getD i 0 == 40) = true
  · rw [if_pos h4] at h ⊢; exact .inl h
  rw [if_neg h4] at h ⊢
  by_cases h5 : (l.getD i 0 == 41) = true
  · rw [if_pos h5] at h ⊢; exact .inl h
  rw [if_neg h5] at h ⊢
  by_cases h6 : (l.getD i 0 == 34) = true
  · rw [if_pos h6] at h ⊢
    by_cases hq : (quo (l.drop (i + 1)) false 1).2 = 3
    · rw [hq, if_neg (by omega), if_pos rfl] at h
      cases h
    · rw [quo_app _ _ _ _ hq]
      have hle := quo_le (l.drop (i + 1)) false 1
      rw [List.take_append_of_le_length (by omega)]
      exact .inl h
  rw [if_neg h6] at h ⊢
  rw [runLen_lf]
  have := runLen_le (l.drop i)
  rw [List.take_append_of_le_length (by omega)]
  exact .inl h
theorem at_lf (l m : List UInt8) (acc : List Tk) : lexAt (l ++ 10 :: m) l.length acc = lexAt (l ++ 10 :: m) (l.length + 1) acc := by
  have hst : step (l ++ 10 :: m) l.length = .ok (none, l.length + 1) := by
    rw [step]
    rw [if_pos (by simp [ws])]
  rw [lexAt_ok (by simp) acc hst]
  simp
theorem lex_lf (l m : List UInt8) : ∀ (f k : Nat) (acc acc' L : List Tk) (a : Nat), l.length ≤ k + f → k ≤ l.length → lexAt l k acc = (L, a, 0) → ∃ b, L = acc ++ b ++ [⟨4, l.length, []⟩] ∧ lexAt (l ++ 10 :: m) k acc' = lexAt (l ++ 10 :: m) (l.length + 1) (acc' ++ b) := by
  intro f
  induction f with
  | zero =>
    intro k acc acc' L a hf hk h
    obtain rfl : k = l.length := by omega
    rw [lexAt_end (Nat.le_refl _)] at h
    injection h with h _
    exact ⟨[], by simpa using h.symm, by rw [at_lf]; simp⟩
  | succ f ih =>
    intro k acc acc' L a hf hk h
    by_cases hkl : k < l.length
    · rcases hs : step l k with x | ⟨t, j⟩
      · rw [lexAt_error hkl acc hs] at h
        injection h with _ h; injection h with _ h
        exact absurd h (Tree.step_err0 hs)
      · have hj := step_ok hkl hs
        dsimp only at hj
        rw [lexAt_ok hkl acc hs] at h
        have hkm : k < (l ++ 10 :: m).length := by simp; omega
        rcases step_lf l m k hkl hs with h1 | ⟨h1, h2⟩
        · obtain ⟨b, e1, e2⟩ := ih j _ (acc' ++ t.toList) L a (by omega) hj.2 h
          refine ⟨t.toList ++ b, by rw [e1]; simp, ?_⟩
          rw [lexAt_ok hkm acc' h1]
          dsimp only
          rw [e2]; simp
        · injection h1 with h1 h3
          subst h1
          subst h3
          rw [lexAt_end (by show l.length ≤ l.length; exact Nat.le_refl _)] at h
          injection h with h _
          refine ⟨[], by rw [← h]; simp, ?_⟩
          rw [lexAt_ok hkm acc' h2]
          simp
    · obtain rfl : k = l.length := by omega
      rw [lexAt_end (Nat.le_refl _)] at h
      injection h with h _
      exact ⟨[], by simpa using h.symm, by rw [at_lf]; simp⟩
/-- The tokens of a text with a line feed and a parenthesis behind it. -/
theorem lexF_lf {l : List UInt8} {body : List Tk} {a : Nat} (hl : l.length ≤ 1000) (h : lexF l = (body ++ [⟨4, l.length, []⟩], a, 0)) (c : UInt8) (kd : Nat) (hc : (c = 40 ∧ kd = 0) ∨ (c = 41 ∧ kd = 1)) :
    lexF (l ++ [10, c]) = (body ++ [⟨kd, l.length + 1, []⟩, ⟨4, l.length + 2, []⟩], 0, 0) := by
  have e1 : lexF l = lexAt l 0 [] := by rw [lexF, if_neg (by omega), lexAt, Nat.sub_zero]
  have e2 : lexF (l ++ [10, c]) = lexAt (l ++ [10, c]) 0 [] := by rw [lexF, if_neg (by simp; omega), lexAt, Nat.sub_zero]
  rw [e1] at h
  obtain ⟨b, h1, h2⟩ := lex_lf l [c] l.length 0 [] [] _ a (by omega) (by omega) h
  rw [List.nil_append] at h1
  have hb := List.append_cancel_right h1
  subst hb
  rw [e2, h2, List.nil_append]
  have hg : (l ++ [10, c]).getD (l.length + 1) 0 = c := by
    rw [List.getD_eq_getElem?_getD, List.getElem?_append_right (by omega), show l.length + 1 - l.length = 1 from by omega]; rfl
  have hd : (l ++ [10, c]).drop (l.length + 1) = [c] := by
    rw [List.drop_append, List.drop_eq_nil_of_le (by omega), show l.length + 1 - l.length = 1 from by omega]; rfl
  have hlen : (l ++ [10, c]).length = l.length + 2 := by simp
  have hst : step (l ++ [10, c]) (l.length + 1) = .ok (some ⟨kd, l.length + 1, []⟩, l.length + 2) := by
    rw [step, hg, hd]
    rcases hc with ⟨rfl, rfl⟩ | ⟨rfl, rfl⟩
    · rw [if_neg (by decide), if_neg (by decide), if_neg (by decide), if_pos (by decide)]
    · rw [if_neg (by decide), if_neg (by decide), if_neg (by decide), if_neg (by decide), if_pos (by decide)]
  rw [lexAt_ok (by rw [hlen]; omega) _ hst, lexAt_end (by rw [hlen]; exact Nat.le_refl _), hlen]
  simp
end Go.Proofs.Ytnjhbhbohnjckaa.Tok
namespace Go.Proofs.Ytnjhbhbohnjckaa.Tree
open Tok (Tk)
/-- More steps than enough change nothing. -/
theorem row_fuel {L : List Tk} : ∀ (f e i deep op : Nat) (acc l : List Tr) (j : Nat), row L f i deep op acc = .ok l j → row L (f + e) i deep op acc = .ok l j := by
  intro f
  induction f with
  | zero => intro e i deep op acc l j h; cases h
  | succ f ih =>
    intro e i deep op acc l j h
    rw [show f + 1 + e = (f + e) + 1 from by omega]
    rw [row] at h ⊢
    split
    · rename_i h4; rw [if_pos h4] at h; exact h
    rename_i h4
    rw [if_neg h4] at h
    split
    · rename_i h1; rw [if_pos h1] at h; exact h
    rename_i h1
    rw [if_neg h1] at h
    split
    · rename_i h0
      rw [if_pos h0] at h
      split
      · rename_i h2; rw [if_pos h2] at h; exact h
      rename_i h2
      rw [if_neg h2] at h
      split at h
      · cases h
      · rename_i l' j' hr
        rw [ih e _ _ _ _ _ _ hr]
        exact ih e _ _ _ _ _ _ h
    · rename_i h0
      rw [if_neg h0] at h
      exact ih e _ _ _ _ _ _ h
/-- A row below the top reads no token behind its end. -/
theorem row_local {L L' : List Tk} (hE : Ends L) : ∀ (f i deep op : Nat) (acc l : List Tr) (j : Nat), 0 < deep → i < L.length → (∀ k, k + 1 < L.length → L'.getD k ⟨4, 0, []⟩ = L.getD k ⟨4, 0, []⟩) → row L f i deep op acc = .ok l j → row L' f i deep op acc = .ok l j := by
  intro f
  induction f with
  | zero => intro i deep op acc l j _ _ _ h; cases h
  | succ f ih =>
    intro i deep op acc l j hd hi hL h
    have he := hE i hi
    have hi1 : i + 1 < L.length := by
      rcases Nat.lt_or_ge (i + 1) L.length with h' | h'
      · exact h'
      · rw [row, Ends.get hi, if_pos (he.2 (by omega)), if_pos hd] at h; cases h
    have hG := hL i hi1
    have h4' : ¬ (L.getD i ⟨4, 0, []⟩).kind = 4 := by rw [Ends.get hi]; intro e; have := he.1 e; omega
    rw [row] at h ⊢
    rw [hG]
    rw [if_neg h4'] at h ⊢
    split
    · rename_i h1; rw [if_pos h1] at h; exact h
    rename_i h1
    rw [if_neg h1] at h
    split
    · rename_i h0
      rw [if_pos h0] at h
      split
      · rename_i h2; rw [if_pos h2] at h; exact h
      rename_i h2
      rw [if_neg h2] at h
      split at h
      · cases h
      · rename_i l' j' hr
        have hj := row_ok hE _ _ _ _ _ _ _ (by omega) hi1 hr
        rw [ih _ _ _ _ _ _ (by omega) hi1 hL hr]
        exact ih _ _ _ _ _ _ hd hj.2 hL h
    · rename_i h0
      rw [if_neg h0] at h
      exact ih _ _ _ _ _ _ hd hi1 hL h
/-- At the top a row goes on where the other tokens ended. -/
theorem row_goes {L L' : List Tk} (hE : Ends L) (N : Nat) (hN : N + 1 = L.length) : ∀ (f i op : Nat) (acc l : List Tr) (j : Nat), i < L.length → (∀ k, k + 1 < L.length → L'.getD k ⟨4, 0, []⟩ = L.getD k ⟨4, 0, []⟩) → row L f i 0 op acc = .ok l j → ∃ g, ∀ e, row L' (f + e) i 0 op acc = row L' (g + 1 + e) N 0 op l := by
  intro f
  induction f with
  | zero => intro i op acc l j _ _ h; cases h
  | succ f ih =>
    intro i op acc l j hi hL h
    have he := hE i hi
    rcases Nat.lt_or_ge (i + 1) L.length with hi1 | hi1
    · have hG := hL i hi1
      have h4' : ¬ (L.getD i ⟨4, 0, []⟩).kind = 4 := by rw [Ends.get hi]; intro e; have := he.1 e; omega
      rw [row, if_neg h4'] at h
      split at h
      · rw [if_pos rfl] at h; cases h
      rename_i h1
      split at h
      · rename_i h0
        rw [if_neg (by omega)] at h
        split at h
        · cases h
        · rename_i l' j' hr
          have hj := row_ok hE _ _ _ _ _ _ _ (by omega) hi1 hr
          obtain ⟨g, hg⟩ := ih _ _ _ _ _ hj.2 hL h
          refine ⟨g, fun e => ?_⟩
          have hr' := row_fuel f e _ _ _ _ _ _ (row_local hE _ _ _ _ _ _ _ (by omega) hi1 hL hr)
          rw [← hg e, show f + 1 + e = (f + e) + 1 from by omega, row, hG, if_neg h4', if_neg h1, if_pos h0, if_neg (by omega), hr']
      · rename_i h0
        obtain ⟨g, hg⟩ := ih _ _ _ _ _ hi1 hL h
        refine ⟨g, fun e => ?_⟩
        rw [← hg e, show f + 1 + e = (f + e) + 1 from by omega, row, hG, if_neg h4', if_neg h1, if_neg h0]
    · have h4' : (L.getD i ⟨4, 0, []⟩).kind = 4 := by rw [Ends.get hi]; exact he.2 (by omega)
      rw [row, if_pos h4', if_neg (by omega)] at h
      injection h with h1 h2
      subst h1 h2
      obtain rfl : i = N := by omega
      exact ⟨f, fun e => rfl⟩
theorem more_get {body : List Tk} (n kd p q : Nat) : ∀ k, k + 1 < (body ++ [(⟨4, n, []⟩ : Tk)]).length → (body ++ [(⟨kd, p, []⟩ : Tk), ⟨4, q, []⟩]).getD k ⟨4, 0, []⟩ = (body ++ [(⟨4, n, []⟩ : Tk)]).getD k ⟨4, 0, []⟩ := by
  intro k hk
  rw [List.length_append, List.length_singleton] at hk
  rw [List.getD_eq_getElem?_getD, List.getD_eq_getElem?_getD, List.getElem?_append_left (by omega), List.getElem?_append_left (by omega)]
theorem parse_close {s : List UInt8} {l : List Tr} {p : Nat} (hs : s.length ≤ 1000) (h : parse s = (l, p, 0)) : parse (s ++ [10, 41]) = ([], s.length + 1, 4) := by
  obtain ⟨body, hx, hc, hr⟩ := parse_row h
  rw [lexF_ok (Tok.lexF_lf hs hx 41 1 (.inr ⟨rfl, rfl⟩))]
  obtain ⟨g, hg⟩ := row_goes (stand_of hc).ends body.length (by simp) _ _ _ _ _ _ (by simp) (more_get s.length 1 (s.length + 1) (s.length + 2)) hr
  rw [show (body ++ [(⟨1, s.length + 1, []⟩ : Tk), ⟨4, s.length + 2, []⟩]).length = body.length + 1 + 1 from by simp, hg 1]
  have hG : (body ++ [(⟨1, s.length + 1, []⟩ : Tk), ⟨4, s.length + 2, []⟩]).getD body.length ⟨4, 0, []⟩ = ⟨1, s.length + 1, []⟩ := by
    rw [List.getD_eq_getElem?_getD, List.getElem?_append_right (Nat.le_refl _), Nat.sub_self]; rfl
  rw [row_close_bad hG rfl rfl]
  rfl
theorem parse_again {s : List UInt8} {l : List Tr} {p : Nat} (hs : s.length ≤ 1000) (h : parse s = (l, p, 0)) : parse (s ++ [10, 40]) = ([], s.length + 1, 3) := by
  obtain ⟨body, hx, hc, hr⟩ := parse_row h
  rw [lexF_ok (Tok.lexF_lf hs hx 40 0 (.inl ⟨rfl, rfl⟩))]
  obtain ⟨g, hg⟩ := row_goes (stand_of hc).ends body.length (by simp) _ _ _ _ _ _ (by simp) (more_get s.length 0 (s.length + 1) (s.length + 2)) hr
  rw [show (body ++ [(⟨0, s.length + 1, []⟩ : Tk), ⟨4, s.length + 2, []⟩]).length = body.length + 1 + 1 from by simp, hg 1]
  have hG : (body ++ [(⟨0, s.length + 1, []⟩ : Tk), ⟨4, s.length + 2, []⟩]).getD body.length ⟨4, 0, []⟩ = ⟨0, s.length + 1, []⟩ := by
    rw [List.getD_eq_getElem?_getD, List.getElem?_append_right (Nat.le_refl _), Nat.sub_self]; rfl
  have hG1 : (body ++ [(⟨0, s.length + 1, []⟩ : Tk), ⟨4, s.length + 2, []⟩]).getD (body.length + 1) ⟨4, 0, []⟩ = ⟨4, s.length + 2, []⟩ := by
    rw [List.getD_eq_getElem?_getD, List.getElem?_append_right (by omega), show body.length + 1 - body.length = 1 from by omega]; rfl
  rw [row_open_bad hG rfl (by omega) (row_end_bad hG1 rfl (by omega))]
  rfl
end Go.Proofs.Ytnjhbhbohnjckaa.Tree
