/-
  How many nodes a text has, and how long their texts are.
-/
import Derived.Test.YtnjhbhbohnjckaaTreeEnds
import Derived.Test.YtnjhbhbohnjckaaTreeCount
import Derived.Test.YtnjhbhbohnjckaaTreeRows2
set_option linter.unusedVariables false
namespace Go.Proofs.Ytnjhbhbohnjckaa.Tree
open Tok (Tk)

mutual
/-- Every text has at most N bytes. -/
def fits (N : Nat) : Tr → Prop
  | .mk _ _ t l => t.length ≤ N ∧ fitss N l
def fitss (N : Nat) : List Tr → Prop
  | [] => True
  | n :: l => fits N n ∧ fitss N l
end
theorem fitss_snoc {N : Nat} {n : Tr} (h : fits N n) : ∀ {l : List Tr}, fitss N l → fitss N (l ++ [n])
  | [], _ => by rw [List.nil_append, fitss, fitss]; exact ⟨h, trivial⟩
  | m :: l, hl => by
    rw [fitss] at hl
    rw [List.cons_append, fitss]
    exact ⟨hl.1, fitss_snoc h hl.2⟩
theorem row_size {L : List Tk} (N : Nat) (hL : ∀ t ∈ L, t.text.length ≤ N) : ∀ (f i deep op : Nat) (acc l : List Tr) (j : Nat), row L f i deep op acc = .ok l j → fitss N acc → i ≤ j ∧ counts l ≤ counts acc + (j - i) ∧ fitss N l := by
  intro f
  induction f with
  | zero => intro i deep op acc l j h _; rw [row] at h; cases h
  | succ f ih =>
    intro i deep op acc l j h ha
    have ht : (L.getD i ⟨4, 0, []⟩).text.length ≤ N := by
      rw [List.getD_eq_getElem?_getD]
      rcases Nat.lt_or_ge i L.length with hi | hi
      · rw [List.getElem?_eq_getElem hi]; exact hL _ (List.getElem_mem _)
      · rw [List.getElem?_eq_none hi]; simp
    rw [row] at h
    split at h
    · split at h
      · cases h
      · injection h with h1 h2; subst h1 h2; exact ⟨Nat.le_refl _, by omega, ha⟩
    split at h
    · split at h
      · cases h
      · injection h with h1 h2; subst h1 h2; exact ⟨by omega, by omega, ha⟩
    split at h
    · split at h
      · cases h
      · split at h
        · cases h
        · rename_i l' j' hr
          have h1 := ih _ _ _ _ _ _ hr (by rw [fitss]; trivial)
          have h2 := ih _ _ _ _ _ _ h (fitss_snoc (by rw [fits]; exact ⟨by simp, h1.2.2⟩) ha)
          rw [counts_snoc, count] at h2
          have h3 := h1.2.1
          rw [counts] at h3
          exact ⟨by omega, by omega, h2.2.2⟩
    · have h2 := ih _ _ _ _ _ _ h (fitss_snoc (by rw [fits]; exact ⟨ht, by rw [fitss]; trivial⟩) ha)
      rw [counts_snoc, count, counts] at h2
      exact ⟨by omega, by omega, h2.2.2⟩
mutual
theorem show1_fits {N : Nat} : ∀ n : Tr, fits N n → (show1 n).length + 1 ≤ count n * (N + 3)
  | .mk k p t l, h => by
    rw [fits] at h
    have h1 := shows_fits l h.2
    rw [show1, count, Nat.add_mul, Nat.one_mul]
    split
    · omega
    · split
      · simp; omega
      · split
        · simp; omega
        · simp; omega
theorem shows_fits {N : Nat} : ∀ l : List Tr, fitss N l → (shows l).length ≤ counts l * (N + 3)
  | [], _ => by rw [shows]; simp
  | [n], h => by
    rw [fitss] at h
    have h1 := show1_fits n h.1
    rw [shows, counts, counts, Nat.add_zero]
    omega
  | n :: m :: l, h => by
    rw [fitss] at h
    have h1 := show1_fits n h.1
    have h2 := shows_fits (m :: l) h.2
    rw [shows, counts, Nat.add_mul]
    simp only [List.length_append, List.length_cons, List.length_nil]
    omega
end
theorem flat_le {M : Nat} : ∀ xs : List (List UInt8), (∀ x ∈ xs, x.length ≤ M) → (xs.flatMap (· ++ [10])).length ≤ xs.length * (M + 1)
  | [], _ => by simp
  | x :: xs, h => by
    have h1 := flat_le xs fun y hy => h y (List.mem_cons_of_mem _ hy)
    have h2 := h x (List.mem_cons_self ..)
    rw [List.flatMap_cons, List.length_cons, Nat.add_mul, Nat.one_mul]
    simp only [List.length_append, List.length_cons, List.length_nil]
    omega
theorem show1_shows : ∀ (l : List Tr) (n : Tr), n ∈ l → (show1 n).length ≤ (shows l).length ∧ count n ≤ counts l
  | [], n, h => by cases h
  | [m], n, h => by
    obtain rfl : n = m := by simpa using h
    rw [shows, counts, counts]; exact ⟨Nat.le_refl _, by omega⟩
  | m :: m' :: l, n, h => by
    rw [shows, counts]
    simp only [List.length_append]
    rcases List.mem_cons.1 h with rfl | h
    · exact ⟨by omega, by omega⟩
    · have := show1_shows (m' :: l) n h
      exact ⟨by omega, by omega⟩
theorem flat_rows_len : ∀ l : List Tr, (l.flatMap rows).length ≤ counts l
  | [] => by simp
  | n :: l => by
    rw [List.flatMap_cons, List.length_append, counts]
    have := rows_len n
    have := flat_rows_len l
    omega
theorem linesOf_len (l : List Tr) : (linesOf l).length ≤ counts l * ((shows l).length + 3 * counts l + 1) := by
  unfold linesOf
  refine Nat.le_trans (flat_le (M := (shows l).length + 3 * counts l) _ fun x hx => ?_) (Nat.mul_le_mul_right _ (flat_rows_len l))
  obtain ⟨n, hn, hx⟩ := List.mem_flatMap.1 hx
  have h1 := rows_line n x hx
  have h2 := show1_shows l n hn
  have h3 : 3 * count n ≤ 3 * counts l := Nat.mul_le_mul_left _ h2.2
  omega
theorem lexGo_texts {l : List UInt8} : ∀ (f i : Nat) (acc : List Tk), (∀ t ∈ acc, t.text.length ≤ l.length) → ∀ t ∈ (Tok.lexGo l f i acc).1, t.text.length ≤ l.length := by
  intro f
  induction f with
  | zero =>
    intro i acc ha t ht
    rw [Tok.lexGo] at ht
    rcases List.mem_append.1 ht with h | h
    · exact ha t h
    · obtain rfl : t = ⟨4, l.length, []⟩ := by simpa using h
      simp
  | succ f ih =>
    intro i acc ha t ht
    rw [Tok.lexGo] at ht
    split at ht
    · rcases List.mem_append.1 ht with h | h
      · exact ha t h
      · obtain rfl : t = ⟨4, l.length, []⟩ := by simpa using h
        simp
    · split at ht
      · cases ht
      · rename_i x hs
        refine ih _ _ ?_ t ht
        intro t ht
        rcases List.mem_append.1 ht with h | h
        · exact ha t h
        · obtain ⟨o, j⟩ := x
          match o, h with
          | some t', h =>
            obtain rfl : t = t' := by simpa using h
            unfold Tok.step at hs
            repeat' split at hs
            all_goals first | (cases hs; done) | (injection hs with hs; injection hs with hs _; injection hs with hs; subst hs; simp; done) | (injection hs with hs; injection hs with hs _; injection hs with hs; subst hs; dsimp only; rw [List.length_take, List.length_drop]; omega)
/-- At the top a row ends with the end. -/
theorem row_top {L : List Tk} (hE : Ends L) : ∀ (f i op : Nat) (acc l : List Tr) (j : Nat), i < L.length → row L f i 0 op acc = .ok l j → j + 1 = L.length := by
  intro f
  induction f with
  | zero => intro i op acc l j _ h; cases h
  | succ f ih =>
    intro i op acc l j hi h
    have he := hE i hi
    rw [row, Ends.get hi] at h
    split at h
    · rename_i h4
      rw [if_neg (by omega)] at h
      injection h with h1 h2
      subst h2
      exact he.1 h4
    rename_i h4
    have hi1 : i + 1 < L.length := by
      rcases Nat.lt_or_ge (i + 1) L.length with h' | h'
      · exact h'
      · exact absurd (he.2 (by omega)) h4
    split at h
    · rw [if_pos rfl] at h; cases h
    split at h
    · split at h
      · cases h
      · split at h
        · cases h
        · rename_i l' j' hr
          have h1 := row_ok hE _ _ _ _ _ _ _ (by omega) hi1 hr
          exact ih _ _ _ _ _ h1.2 h
    · exact ih _ _ _ _ _ hi1 h
/-- What the nodes of a text come to. -/
structure Small (n : Nat) (l : List Tr) : Prop where
  counts : counts l ≤ n + 1
  fits : fitss n l
theorem parse_small {s : List UInt8} {l : List Tr} {p : Nat} {e : Int} (h : parse s = (l, p, e)) : Small s.length l := by
  rcases hr : Tok.lexF s with ⟨L, q, er⟩
  by_cases he : er = 0
  · subst he
    obtain ⟨hE, h0, hLl, rfl⟩ := lexF_ends hr
    rw [lexF_ok hr] at h
    have hT : ∀ t ∈ L, t.text.length ≤ s.length := by
      have : L = (Tok.lexF s).1 := by rw [hr]
      rw [this]
      unfold Tok.lexF
      split
      · intro t ht; cases ht
      · exact lexGo_texts _ _ _ (by simp)
    rcases hw : row L L.length 0 0 0 [] with ⟨ns, j⟩ | ⟨pb, er⟩
    · rw [hw] at h
      injection h with h _
      subst h
      have h1 := row_size s.length hT _ _ _ _ _ _ _ hw (by rw [fitss]; trivial)
      have h2 := row_top hE _ _ _ _ _ _ h0 hw
      rw [Tree.counts] at h1
      exact ⟨by omega, h1.2.2⟩
    · rw [hw] at h
      injection h with h _
      subst h
      exact ⟨by rw [Tree.counts]; omega, by rw [fitss]; trivial⟩
  · rw [lexF_err hr he] at h
    injection h with h _
    subst h
    exact ⟨by rw [Tree.counts]; omega, by rw [fitss]; trivial⟩
theorem Small.shows {n : Nat} {l : List Tr} (h : Small n l) (hn : n ≤ 10000) : (shows l).length ≤ 200000000 := by
  have h1 := shows_fits l h.fits
  have h2 : Tree.counts l * (n + 3) ≤ 10001 * 10003 := Nat.mul_le_mul (by have := h.counts; omega) (by omega)
  omega
theorem Small.lines {n : Nat} {l : List Tr} (h : Small n l) (hn : n ≤ 10000) (hs : (Tree.shows l).length ≤ 20000000) : (linesOf l).length ≤ 1000000000000 := by
  have h1 := linesOf_len l
  have h2 : Tree.counts l * ((Tree.shows l).length + 3 * Tree.counts l + 1) ≤ 10001 * (20000000 + 30003 + 1) := Nat.mul_le_mul (by have := h.counts; omega) (by have := h.counts; omega)
  omega
end Go.Proofs.Ytnjhbhbohnjckaa.Tree
