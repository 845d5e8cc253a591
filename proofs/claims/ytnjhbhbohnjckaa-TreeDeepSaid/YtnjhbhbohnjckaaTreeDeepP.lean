/-
  Parentheses alone: the tokens, the nodes, the error.
-/
import Derived.Test.YtnjhbhbohnjckaaTreeEnds
import Derived.Test.YtnjhbhbohnjckaaTreeNodes
set_option linter.unusedVariables false
namespace Go.Proofs.Ytnjhbhbohnjckaa.Tree
open Tok (Tk)

def par (k m : Nat) : List UInt8 := List.replicate k 40 ++ List.replicate m 41
def ptok (k i : Nat) : Tk := ⟨if i < k then 0 else 1, i, []⟩
def ptoks (k m : Nat) : List Tk := (List.range (k + m)).map (ptok k) ++ [⟨4, k + m, []⟩]
theorem par_len (k m : Nat) : (par k m).length = k + m := by simp [par]
theorem par_get (k m i : Nat) (hi : i < k + m) : (par k m).getD i 0 = if i < k then 40 else 41 := by
  unfold par
  rw [List.getD_eq_getElem?_getD]
  split
  · rw [List.getElem?_append_left (by simpa)]; simp [*]
  · rw [List.getElem?_append_right (by simp; omega)]
    rw [List.getElem?_replicate, if_pos (by simp; omega)]; rfl
theorem par_drop (k m i : Nat) : (par k m).drop i = par (k - i) (m - (i - k)) := by
  unfold par
  rw [List.drop_append]
  simp
theorem pre_par (a : UInt8) (k m : Nat) : Tok.pre2 a 59 (par k m) = false := by
  unfold Tok.pre2 par
  match k, m with
  | 0, 0 => simp
  | 0, 1 => simp
  | 0, m + 2 => simp [List.replicate_succ]
  | 1, 0 => simp
  | 1, m + 1 => simp [List.replicate_succ]
  | k + 2, m => simp [List.replicate_succ]
theorem par_step (k m i : Nat) (hi : i < k + m) : Tok.step (par k m) i = .ok (some (ptok k i), i + 1) := by
  unfold Tok.step ptok
  rw [par_drop, par_get k m i hi, pre_par, pre_par]
  by_cases h : i < k
  · rw [if_pos h, if_neg (by decide), if_neg (by decide), if_neg (by decide), if_pos (by decide), if_pos h]
  · rw [if_neg h, if_neg (by decide), if_neg (by decide), if_neg (by decide), if_neg (by decide), if_pos (by decide), if_neg h]
theorem par_at (k m : Nat) : ∀ n i, i + n = k + m → Tok.lexAt (par k m) i ((List.range i).map (ptok k)) = (ptoks k m, 0, 0) := by
  intro n
  induction n with
  | zero =>
    intro i hi
    rw [Tok.lexAt_end (by rw [par_len]; omega), par_len]
    obtain rfl : i = k + m := by omega
    rfl
  | succ n ih =>
    intro i hi
    rw [Tok.lexAt_ok (by rw [par_len]; omega) _ (par_step k m i (by omega))]
    have := ih (i + 1) (by omega)
    rw [List.range_succ, List.map_append] at this
    exact this
theorem par_lex (k m : Nat) (h : k + m ≤ 1000) : Tok.lexF (par k m) = (ptoks k m, 0, 0) := by
  have := par_at k m (k + m) 0 (by omega)
  rw [Tok.lexF, if_neg (by rw [par_len]; omega)]
  rw [Tok.lexAt, Nat.sub_zero] at this
  exact this
theorem ptoks_len (k m : Nat) : (ptoks k m).length = k + m + 1 := by simp [ptoks]
theorem ptoks_get (k m i : Nat) (h : i < k + m) : (ptoks k m).getD i ⟨4, 0, []⟩ = ptok k i := by
  unfold ptoks
  rw [List.getD_eq_getElem?_getD, List.getElem?_append_left (by simpa)]
  simp [h]
theorem ptoks_end (k m : Nat) : (ptoks k m).getD (k + m) ⟨4, 0, []⟩ = ⟨4, k + m, []⟩ := by
  unfold ptoks
  rw [List.getD_eq_getElem?_getD, List.getElem?_append_right (by simp)]
  simp
/-- n lists in each other, the first at p. -/
def nst : Nat → Nat → List Tr
  | 0, _ => []
  | n + 1, p => [.mk 0 p [] (nst n (p + 1))]
theorem get_open {k m i : Nat} (h : i < k) : (ptoks k m).getD i ⟨4, 0, []⟩ = ⟨0, i, []⟩ := by rw [ptoks_get k m i (by omega), ptok, if_pos h]
theorem get_close {k m i : Nat} (h : k ≤ i) (h' : i < k + m) : (ptoks k m).getD i ⟨4, 0, []⟩ = ⟨1, i, []⟩ := by rw [ptoks_get k m i h', ptok, if_neg (by omega)]
theorem par_ok {k m : Nat} (hk : k ≤ 200) : ∀ n d f op, d + n = k → n < m → 0 < d → 2 * n + 1 ≤ f → row (ptoks k m) f d d op [] = .ok (nst n d) (k + n + 1) := by
  intro n
  induction n with
  | zero =>
    intro d f op hd hm h0 hf
    obtain ⟨f, rfl⟩ : ∃ g, f = g + 1 := ⟨f - 1, by omega⟩
    obtain rfl : d = k := by omega
    rw [row_close_ok (get_close (Nat.le_refl _) (by omega)) rfl (by omega)]
    rfl
  | succ n ih =>
    intro d f op hd hm h0 hf
    obtain ⟨f, rfl⟩ : ∃ g, f = g + 1 := ⟨f - 1, by omega⟩
    rw [row_open_ok (get_open (by omega)) rfl (by omega) (ih (d + 1) f d (by omega) (by omega) (by omega) (by omega))]
    obtain ⟨f, rfl⟩ : ∃ g, f = g + 1 := ⟨f - 1, by omega⟩
    rw [row_close_ok (get_close (by omega) (by omega)) rfl (by omega)]
    rfl
/-- The depth D behind the last closing parenthesis is not the top. -/
theorem par_at_end {k m D : Nat} (hk : k ≤ 200) (hD : D + m = k) (h0 : 0 < D) (f op : Nat) (hf : 2 * m + 1 ≤ f) : row (ptoks k m) f D D op [] = .bad op 3 := by
  rcases m with _ | m
  · obtain ⟨f, rfl⟩ : ∃ g, f = g + 1 := ⟨f - 1, by omega⟩
    obtain rfl : D = k := by omega
    exact row_end_bad (ptoks_end D 0) rfl h0
  · obtain ⟨f, rfl⟩ : ∃ g, f = g + 1 := ⟨f - 1, by omega⟩
    rw [row_open_ok (get_open (by omega)) rfl (by omega) (par_ok hk m (D + 1) f D (by omega) (by omega) (by omega) (by omega))]
    obtain ⟨f, rfl⟩ : ∃ g, f = g + 1 := ⟨f - 1, by omega⟩
    exact row_end_bad (ptoks_end k (m + 1)) rfl h0
theorem par_bad {k m D : Nat} (hk : k ≤ 200) (hD : D + m = k) (h0 : 0 < D) : ∀ n d f op, d + n = D → 0 < n → 2 * m + 1 + n ≤ f → row (ptoks k m) f d d op [] = .bad (D - 1) 3 := by
  intro n
  induction n with
  | zero => intro d f op _ h; omega
  | succ n ih =>
    intro d f op hd _ hf
    obtain ⟨f, rfl⟩ : ∃ g, f = g + 1 := ⟨f - 1, by omega⟩
    rcases Nat.eq_zero_or_pos n with rfl | hn
    · have h := par_at_end hk hD h0 f d (by omega)
      obtain rfl : d = D - 1 := by omega
      rw [show D - 1 + 1 = D from by omega] at *
      exact row_open_bad (get_open (by omega)) rfl (by omega) (by rw [show D - 1 + 1 = D from by omega]; exact h)
    · exact row_open_bad (get_open (by omega)) rfl (by omega) (ih (d + 1) f d (by omega) hn (by omega))
theorem par_long {k m : Nat} (hk : 200 < k) : ∀ n d f op, d + n = 200 → n + 1 ≤ f → row (ptoks k m) f d d op [] = .bad 200 6 := by
  intro n
  induction n with
  | zero =>
    intro d f op hd hf
    obtain ⟨f, rfl⟩ : ∃ g, f = g + 1 := ⟨f - 1, by omega⟩
    obtain rfl : d = 200 := by omega
    exact row_deep (get_open (by omega)) rfl rfl
  | succ n ih =>
    intro d f op hd hf
    obtain ⟨f, rfl⟩ : ∃ g, f = g + 1 := ⟨f - 1, by omega⟩
    exact row_open_bad (get_open (by omega)) rfl (by omega) (ih (d + 1) f d (by omega) (by omega))
theorem nst_count : ∀ n p, counts (nst n p) = n
  | 0, p => by rw [nst, counts]
  | n + 1, p => by rw [nst, counts, count, nst_count n, counts]; omega
theorem nst_high : ∀ n p, highs (nst n p) = n
  | 0, p => by rw [nst, highs]
  | n + 1, p => by rw [nst, highs, high, nst_high n, highs, if_pos rfl]; omega
theorem parse_long {k m : Nat} (hk : 200 < k) (h : k + m ≤ 1000) : parse (par k m) = ([], 200, 6) := by
  rw [lexF_ok (par_lex k m h), par_long hk 200 0 _ 0 rfl (by rw [ptoks_len]; omega)]
  rfl
theorem parse_open {k m : Nat} (hk : k ≤ 200) (hm : m < k) : parse (par k m) = ([], k - m - 1, 3) := by
  rw [lexF_ok (par_lex k m (by omega)), par_bad hk (D := k - m) (by omega) (by omega) (k - m) 0 _ 0 (by omega) (by omega) (by rw [ptoks_len]; omega)]
  rfl
theorem parse_even {k : Nat} (hk : k ≤ 200) : parse (par k k) = (nst k 0, 0, 0) := by
  rw [lexF_ok (par_lex k k (by omega))]
  rcases k with _ | k
  · rfl
  · rw [ptoks_len]
    rw [row_open_ok (get_open (by omega)) rfl (by omega) (par_ok hk k 1 _ 0 (by omega) (by omega) (by omega) (by omega))]
    rw [show k + 1 + (k + 1) = (k + 1 + k) + 1 from by omega, row_end_ok (by rw [show k + 1 + k + 1 = (k + 1) + (k + 1) from by omega]; exact ptoks_end _ _) rfl (by omega)]
    rfl
end Go.Proofs.Ytnjhbhbohnjckaa.Tree
