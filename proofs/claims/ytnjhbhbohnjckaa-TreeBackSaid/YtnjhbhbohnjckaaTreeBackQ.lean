/-
  Plain law of TreeBack, second part: the parse of the written tokens; equal nodes have equal texts; how long the text is.
-/
import Derived.Test.YtnjhbhbohnjckaaTreeBackP
import Derived.Test.YtnjhbhbohnjckaaTreeSame
set_option linter.unusedVariables false
namespace Go.Proofs.Ytnjhbhbohnjckaa.Tree
open Tok (Tk sign ws)

theorem kt_get {L : List Tk} {i : Nat} {x : Nat × List UInt8} {R : List (Nat × List UInt8)} (h : (L.drop i).map kt = x :: R) : ∃ ps, L.getD i ⟨4, 0, []⟩ = ⟨x.1, ps, x.2⟩ ∧ (L.drop (i + 1)).map kt = R ∧ i < L.length := by
  match hd : L.drop i with
  | [] => rw [hd] at h; cases h
  | t :: D =>
    rw [hd] at h
    rw [List.map_cons] at h
    injection h with h1 h2
    have hi : i < L.length := by
      rcases Nat.lt_or_ge i L.length with h' | h'
      · exact h'
      · rw [List.drop_eq_nil_of_le h'] at hd; cases hd
    rw [List.drop_eq_getElem_cons hi] at hd
    injection hd with h3 h4
    refine ⟨t.pos, ?_, by rw [h4]; exact h2, hi⟩
    rw [Ends.get hi, h3, ← h1]
    rfl
mutual
theorem row_one : ∀ (n : Tr) (d : Nat), fine d n → ∀ (L : List Tk) (deep i f op : Nat) (acc : List Tr) (R : List (Nat × List UInt8)), deep + d ≤ 200 → (L.drop i).map kt = flat n ++ R → (flat n).length ≤ f →
    ∃ n' g, same false n n' = true ∧ f ≤ g + (flat n).length ∧ (L.drop (i + (flat n).length)).map kt = R ∧ row L f i deep op acc = row L g (i + (flat n).length) deep op (acc ++ [n'])
  | .mk k p t l, d, h, L, deep, i, f, op, acc, R, hd, hL, hf => by
    rw [fine] at h
    rcases h with ⟨rfl, rfl, h0, hfi⟩ | ⟨rfl, rfl, ht, hs⟩ | ⟨rfl, rfl, hq⟩
    · rw [flat, if_pos rfl] at hL hf ⊢
      simp only [List.length_cons, List.length_append, List.length_nil] at hf ⊢
      obtain ⟨f, rfl⟩ : ∃ g, f = g + 1 := ⟨f - 1, by omega⟩
      rw [List.cons_append, List.append_assoc] at hL
      obtain ⟨ps, e1, e2, _⟩ := kt_get hL
      obtain ⟨l', g, h1, h2, h3, h4⟩ := row_many l (d - 1) hfi L (deep + 1) (i + 1) f ps [] ((1, []) :: R) (by omega) e2 (by omega)
      obtain ⟨ps2, e3, e4, _⟩ := kt_get (x := (1, [])) h3
      obtain ⟨g, rfl⟩ : ∃ g', g = g' + 1 := ⟨g - 1, by omega⟩
      rw [List.nil_append] at h4
      rw [row_close_ok e3 rfl (by omega)] at h4
      refine ⟨.mk 0 ps [] l', f, ?_, by omega, ?_, ?_⟩
      · rw [same, h1]; simp
      · rw [show i + ((flats l).length + (0 + 1) + 1) = i + 1 + (flats l).length + 1 from by omega]; exact e4
      · rw [row_open_ok e1 rfl (by omega) h4, show i + ((flats l).length + (0 + 1) + 1) = i + 1 + (flats l).length + 1 from by omega]
        rfl
    · rw [flat, if_neg (by decide)] at hL hf ⊢
      simp only [List.length_cons, List.length_nil] at hf ⊢
      obtain ⟨f, rfl⟩ : ∃ g, f = g + 1 := ⟨f - 1, by omega⟩
      obtain ⟨ps, e1, e2, _⟩ := kt_get hL
      refine ⟨.mk 2 ps t [], f, ?_, by omega, e2, ?_⟩
      · rw [same, sames_self]; simp
      · rw [row_leaf e1 (show ¬ (2 : Nat) = 4 by decide) (show ¬ (2 : Nat) = 1 by decide) (show ¬ (2 : Nat) = 0 by decide)]; rfl
    · rw [flat, if_neg (by decide)] at hL hf ⊢
      simp only [List.length_cons, List.length_nil] at hf ⊢
      obtain ⟨f, rfl⟩ : ∃ g, f = g + 1 := ⟨f - 1, by omega⟩
      obtain ⟨ps, e1, e2, _⟩ := kt_get hL
      refine ⟨.mk 3 ps t [], f, ?_, by omega, e2, ?_⟩
      · rw [same, sames_self]; simp
      · rw [row_leaf e1 (show ¬ (3 : Nat) = 4 by decide) (show ¬ (3 : Nat) = 1 by decide) (show ¬ (3 : Nat) = 0 by decide)]; rfl
theorem row_many : ∀ (l : List Tr) (d : Nat), fines d l → ∀ (L : List Tk) (deep i f op : Nat) (acc : List Tr) (R : List (Nat × List UInt8)), deep + d ≤ 200 → (L.drop i).map kt = flats l ++ R → (flats l).length ≤ f →
    ∃ l' g, sames false l l' = true ∧ f ≤ g + (flats l).length ∧ (L.drop (i + (flats l).length)).map kt = R ∧ row L f i deep op acc = row L g (i + (flats l).length) deep op (acc ++ l')
  | [], d, h, L, deep, i, f, op, acc, R, hd, hL, hf => by
    refine ⟨[], f, by rw [sames], by omega, by rw [flats] at hL ⊢; exact hL, by rw [flats]; simp⟩
  | n :: l, d, h, L, deep, i, f, op, acc, R, hd, hL, hf => by
    rw [fines] at h
    rw [flats] at hL hf ⊢
    rw [List.length_append] at hf ⊢
    rw [List.append_assoc] at hL
    obtain ⟨n', g1, h1, h2, h3, h4⟩ := row_one n d h.1 L deep i f op acc _ hd hL (by omega)
    obtain ⟨l', g2, k1, k2, k3, k4⟩ := row_many l d h.2 L deep _ g1 op (acc ++ [n']) R hd h3 (by omega)
    refine ⟨n' :: l', g2, by rw [sames, h1, k1]; rfl, by omega, by rw [← Nat.add_assoc]; exact k3, ?_⟩
    rw [h4, k4, Nat.add_assoc]
    simp
end
/-- What is written as these nodes' tokens is parsed to these nodes. -/
theorem parse_lx {X : List UInt8} {l : List Tr} (hX : Lx X (flats l)) (hl : X.length ≤ 1048576) (hf : fines 200 l) : ∃ l', parse X = (l', 0, 0) ∧ sames false l l' = true := by
  obtain ⟨L, h1, h2⟩ := hX.lex X 0 [] rfl
  rw [Tok.lexAt, Nat.sub_zero, List.nil_append] at h1
  have hx : Tok.lexF X = (L ++ [⟨4, X.length, []⟩], 0, 0) := by rw [Tok.lexF, if_neg (by omega), h1]
  have hlen : L.length = (flats l).length := by rw [← h2, List.length_map]
  obtain ⟨l', g, k1, k2, k3, k4⟩ := row_many l 200 hf (L ++ [⟨4, X.length, []⟩]) 0 0 (L.length + 1) 0 [] [(4, [])] (by omega) (by rw [List.drop_zero, List.map_append, h2]; rfl) (by omega)
  obtain ⟨ps, e1, _, _⟩ := kt_get k3
  obtain ⟨g, rfl⟩ : ∃ g', g = g' + 1 := ⟨g - 1, by omega⟩
  refine ⟨l', ?_, k1⟩
  rw [lexF_ok hx, List.length_append, List.length_singleton, k4, row_end_ok e1 rfl (by omega)]
  rfl

mutual
theorem same_kind {b : Bool} : ∀ {n m : Tr}, same b n m = true → n.kind = m.kind ∧ n.text = m.text
  | .mk k p t l, .mk k' p' t' l', h => by
    rw [same] at h
    simp at h
    exact ⟨h.1.1.1, h.1.1.2⟩
end
theorem sames_len_eq {b : Bool} : ∀ {l m : List Tr}, sames b l m = true → l.length = m.length
  | [], [], _ => rfl
  | n :: l, m :: l', h => by
    rw [sames] at h
    simp only [Bool.and_eq_true] at h
    rw [List.length_cons, List.length_cons, sames_len_eq h.2]
  | [], m :: l', h => absurd h (by rw [sames_len _ _ _ (by simp)]; decide)
  | n :: l, [], h => absurd h (by rw [sames_len _ _ _ (by simp)]; decide)
theorem sames_get {b : Bool} : ∀ {l m : List Tr}, sames b l m = true → ∀ (k : Nat) (h1 : k < l.length) (h2 : k < m.length), same b l[k] m[k] = true
  | n :: l, m :: l', h, 0, h1, h2 => by
    rw [sames] at h
    simp only [Bool.and_eq_true] at h
    exact h.1
  | n :: l, m :: l', h, k + 1, h1, h2 => by
    rw [sames] at h
    simp only [Bool.and_eq_true] at h
    exact sames_get h.2 k (by simpa using h1) (by simpa using h2)
theorem sames_first {b : Bool} : ∀ {l m : List Tr}, sames b l m = true → firstL l = firstL m
  | [], [], _ => rfl
  | n :: l, m :: l', h => by
    rw [sames] at h
    simp only [Bool.and_eq_true] at h
    rw [firstL, firstL, (same_kind h.1).1, sames_first h.2]
  | [], m :: l', h => absurd h (by rw [sames_len _ _ _ (by simp)]; decide)
  | n :: l, [], h => absurd h (by rw [sames_len _ _ _ (by simp)]; decide)
theorem sames_take {b : Bool} : ∀ {l m : List Tr} (k : Nat), sames b l m = true → sames b (l.take k) (m.take k) = true
  | [], [], k, _ => by rw [List.take_nil, sames]
  | n :: l, m :: l', 0, h => by rw [List.take_zero, List.take_zero, sames]
  | n :: l, m :: l', k + 1, h => by
    rw [sames] at h
    simp only [Bool.and_eq_true] at h
    rw [List.take_succ_cons, List.take_succ_cons, sames, h.1, sames_take k h.2]; rfl
  | [], m :: l', k, h => absurd h (by rw [sames_len _ _ _ (by simp)]; decide)
  | n :: l, [], k, h => absurd h (by rw [sames_len _ _ _ (by simp)]; decide)
mutual
theorem same_show {b : Bool} : ∀ {n m : Tr}, same b n m = true → show1 n = show1 m
  | .mk k p t l, .mk k' p' t' l', h => by
    rw [same] at h
    simp at h
    obtain ⟨⟨⟨rfl, rfl⟩, _⟩, h2⟩ := h
    rw [show1, show1, sames_show h2]
theorem sames_show {b : Bool} : ∀ {l m : List Tr}, sames b l m = true → shows l = shows m
  | [], [], _ => rfl
  | [n], [m], h => by
    rw [sames] at h
    simp only [Bool.and_eq_true] at h
    rw [shows, shows, same_show h.1]
  | n :: n' :: l, m :: m' :: l', h => by
    rw [sames] at h
    simp only [Bool.and_eq_true] at h
    rw [shows, shows, same_show h.1, sames_show h.2]
  | [], m :: l', h => absurd h (by rw [sames_len _ _ _ (by simp)]; decide)
  | n :: l, [], h => absurd h (by rw [sames_len _ _ _ (by simp)]; decide)
  | [n], m :: m' :: l', h => by
    have := sames_len_eq h
    simp at this
  | n :: n' :: l, [m], h => by
    have := sames_len_eq h
    simp at this
end
mutual
theorem same_rows {b : Bool} : ∀ {n m : Tr}, same b n m = true → rows n = rows m
  | .mk k p t l, .mk k' p' t' l', h => by
    have hs := same_show h
    rw [same] at h
    simp at h
    obtain ⟨⟨⟨rfl, rfl⟩, _⟩, h2⟩ := h
    rw [rows, rows, hs, sames_first h2, sames_len_eq h2, sames_show (sames_take (firstL l') h2), sames_rowsAt h2]
theorem sames_rowsAt {b : Bool} : ∀ {l m : List Tr} {k : Nat}, sames b l m = true → rowsAt l k = rowsAt m k
  | [], [], k, _ => by rw [rowsAt]
  | n :: l, m :: l', 0, h => by
    rw [sames] at h
    simp only [Bool.and_eq_true] at h
    rw [rowsAt, rowsAt, same_rows h.1, sames_rowsAt h.2]
  | n :: l, m :: l', k + 1, h => by
    rw [sames] at h
    simp only [Bool.and_eq_true] at h
    rw [rowsAt, rowsAt, sames_rowsAt h.2]
  | [], m :: l', k, h => absurd h (by rw [sames_len _ _ _ (by simp)]; decide)
  | n :: l, [], k, h => absurd h (by rw [sames_len _ _ _ (by simp)]; decide)
end
mutual
theorem same_count {b : Bool} : ∀ {n m : Tr}, same b n m = true → count n = count m
  | .mk k p t l, .mk k' p' t' l', h => by
    rw [same] at h
    simp at h
    rw [count, count, sames_counts h.2]
theorem sames_counts {b : Bool} : ∀ {l m : List Tr}, sames b l m = true → counts l = counts m
  | [], [], _ => rfl
  | n :: l, m :: l', h => by
    rw [sames] at h
    simp only [Bool.and_eq_true] at h
    rw [counts, counts, same_count h.1, sames_counts h.2]
  | [], m :: l', h => absurd h (by rw [sames_len _ _ _ (by simp)]; decide)
  | n :: l, [], h => absurd h (by rw [sames_len _ _ _ (by simp)]; decide)
end
mutual
theorem same_symm {b : Bool} : ∀ {n m : Tr}, same b n m = true → same b m n = true
  | .mk k p t l, .mk k' p' t' l', h => by
    rw [same] at h ⊢
    simp only [Bool.and_eq_true, Bool.or_eq_true, beq_iff_eq] at h ⊢
    exact ⟨⟨⟨h.1.1.1.symm, h.1.1.2.symm⟩, h.1.2.imp id Eq.symm⟩, sames_symm h.2⟩
theorem sames_symm {b : Bool} : ∀ {l m : List Tr}, sames b l m = true → sames b m l = true
  | [], [], h => h
  | n :: l, m :: l', h => by
    rw [sames] at h ⊢
    simp only [Bool.and_eq_true] at h ⊢
    exact ⟨same_symm h.1, sames_symm h.2⟩
  | [], m :: l', h => absurd h (by rw [sames_len _ _ _ (by simp)]; decide)
  | n :: l, [], h => absurd h (by rw [sames_len _ _ _ (by simp)]; decide)
end
theorem counts_get : ∀ (l : List Tr) (i : Nat) (h : i < l.length), counts [l[i]] ≤ counts l
  | n :: l, 0, h => by simp only [List.getElem_cons_zero]; rw [counts, counts, counts]; omega
  | n :: l, i + 1, h => by
    have := counts_get l i (by simpa using h)
    simp only [List.getElem_cons_succ]
    rw [show counts (n :: l) = count n + counts l from by rw [counts]]
    omega
theorem sames_lines {b : Bool} : ∀ {l m : List Tr}, sames b l m = true → linesOf l = linesOf m
  | [], [], _ => rfl
  | n :: l, m :: l', h => by
    rw [sames] at h
    simp only [Bool.and_eq_true] at h
    have := sames_lines h.2
    unfold linesOf at this ⊢
    rw [List.flatMap_cons, List.flatMap_cons, List.flatMap_append, List.flatMap_append, this, same_rows h.1]
  | [], m :: l', h => absurd h (by rw [sames_len _ _ _ (by simp)]; decide)
  | n :: l, [], h => absurd h (by rw [sames_len _ _ _ (by simp)]; decide)

theorem shows_cons_len (n : Tr) (l : List Tr) : (show1 n).length + (shows l).length ≤ (shows (n :: l)).length := by
  rcases l with _ | ⟨m, l⟩
  · rw [shows, shows]; simp
  · rw [shows]; simp only [List.length_append]; omega
theorem shows_take_drop (l : List Tr) : ∀ m, (shows (l.take m)).length + (shows (l.drop m)).length ≤ (shows l).length := by
  induction l with
  | nil => intro m; simp [shows]
  | cons n l ih =>
    intro m
    rcases m with _ | m
    · rw [List.take_zero, List.drop_zero, shows]; simp
    · rw [List.take_succ_cons, List.drop_succ_cons]
      have h1 := ih m
      have h2 := shows_cons_len n l
      rcases l with _ | ⟨x, l⟩
      · simp [shows]
      · rcases m with _ | m
        · rw [List.take_zero, List.drop_zero]
          simp only [shows] at h2 ⊢
          simp only [List.length_append] at h2 ⊢
          omega
        · rw [List.take_succ_cons] at h1 ⊢
          rw [shows, shows]
          simp only [List.length_append] at h1 ⊢
          omega
def tot (xs : List (List UInt8)) : Nat := (xs.flatMap (· ++ [10])).length
theorem tot_app (xs ys : List (List UInt8)) : tot (xs ++ ys) = tot xs + tot ys := by simp [tot, List.flatMap_append]
theorem tot_map (b : List UInt8) (xs : List (List UInt8)) : tot (xs.map (b ++ ·)) = tot xs + xs.length * b.length := by
  induction xs with
  | nil => simp [tot]
  | cons x xs ih =>
    rw [List.map_cons, show (b ++ x) :: xs.map (b ++ ·) = [b ++ x] ++ xs.map (b ++ ·) from rfl, tot_app, ih, show x :: xs = [x] ++ xs from rfl, tot_app]
    simp [tot, Nat.add_mul]
    omega
theorem tot_shut (xs : List (List UInt8)) (h : xs ≠ []) : tot (shut xs) = tot xs + 1 := by
  obtain ⟨ys, y, rfl⟩ : ∃ ys y, xs = ys ++ [y] := ⟨xs.dropLast, xs.getLast h, (List.dropLast_concat_getLast h).symm⟩
  have : shut (ys ++ [y]) = ys ++ [y ++ [41]] := by unfold shut; simp
  rw [this, tot_app, tot_app]
  simp [tot]
  omega
theorem rows_tot : ∀ (N : Nat), (∀ (n : Tr) (d : Nat), count n ≤ N → fine d n → tot (rows n) ≤ (show1 n).length + count n * (2 * d + 2)) ∧ (∀ (l : List Tr) (d : Nat), counts l ≤ N → fines d l → tot (rowsAt l 0) ≤ (shows l).length + counts l * (2 * d + 4)) := by
  intro N
  induction N with
  | zero =>
    refine ⟨fun n d h => ?_, fun l d h _ => ?_⟩
    · obtain ⟨k, p, t, l⟩ := n
      rw [count] at h; omega
    · match l with
      | [] => rw [rowsAt]; simp [tot]
      | n :: l =>
        obtain ⟨k, p, t, c⟩ := n
        rw [counts, count] at h; omega
  | succ N ih =>
    have hC : ∀ (n : Tr) (d : Nat), count n ≤ N + 1 → fine d n → tot (rows n) ≤ (show1 n).length + count n * (2 * d + 2) := by
      intro n d hct hf
      obtain ⟨k, p, t, l⟩ := n
      rw [count] at hct
      by_cases hx : k = 0 ∧ firstL l < l.length
      · obtain ⟨rfl, hm⟩ := hx
        rw [fine] at hf
        rcases hf with ⟨_, rfl, h0, hf⟩ | ⟨h, _⟩ | ⟨h, _⟩
        rotate_left
        · cases h
        · cases h
        have hcd := counts_take_drop l (firstL l)
        have h1 := ih.2 (l.drop (firstL l)) (d - 1) (by omega) (fines_drop _ hf)
        have h2 := shows_take_drop l (firstL l)
        rw [rows, if_pos ⟨rfl, hm⟩, tot_shut _ (by simp), rowsAt_drop, show1, if_neg (by decide), if_neg (by decide), if_pos rfl, count, Nat.add_mul, Nat.one_mul]
        rw [show ∀ (x : List UInt8) xs, x :: xs = [x] ++ xs from fun _ _ => rfl, tot_app]
        have h3 : counts (l.drop (firstL l)) * (2 * (d - 1) + 4) ≤ counts l * (2 * d + 2) := Nat.mul_le_mul (by omega) (by omega)
        have h4 : tot [40 :: shows (l.take (firstL l))] = (shows (l.take (firstL l))).length + 2 := by simp [tot]
        rw [h4]
        simp only [List.length_append, List.length_cons, List.length_nil]
        omega
      · rw [rows, if_neg hx, count, Nat.add_mul, Nat.one_mul]
        have h4 : tot [show1 (.mk k p t l)] = (show1 (.mk k p t l)).length + 1 := by simp [tot]
        rw [h4]
        omega
    refine ⟨hC, ?_⟩
    intro l
    induction l with
    | nil => intro d _ _; rw [rowsAt]; simp [tot]
    | cons n l ihl =>
      intro d hct hf
      rw [counts] at hct
      rw [fines] at hf
      have h1 := hC n d (by omega) hf.1
      have h2 := ihl d (by omega) hf.2
      have h3 := rows_len n
      have h4 := shows_cons_len n l
      rw [rowsAt, tot_app, tot_map, counts, Nat.add_mul]
      have h5 : count n * (2 * d + 4) = count n * (2 * d + 2) + count n * 2 := by rw [← Nat.mul_add]
      have h6 : (rows n).length * ([32, 32] : List UInt8).length ≤ count n * 2 := Nat.mul_le_mul_right _ h3
      omega
theorem linesOf_tot : ∀ (l : List Tr) (d : Nat), fines d l → (linesOf l).length ≤ (shows l).length + counts l * (2 * d + 2)
  | [], d, _ => by simp [linesOf]
  | n :: l, d, h => by
    rw [fines] at h
    have h1 := (rows_tot (count n)).1 n d (Nat.le_refl _) h.1
    have h2 := linesOf_tot l d h.2
    have h4 := shows_cons_len n l
    have e : (linesOf (n :: l)).length = tot (rows n) + (linesOf l).length := by unfold linesOf tot; rw [List.flatMap_cons, List.flatMap_append, List.length_append]
    rw [e, counts, Nat.add_mul]
    omega
/-- THE LAW, for Lines. -/
theorem back_lines {s : List UInt8} {l : List Tr} {p : Nat} (hs : s.length ≤ 600) (h : parse s = (l, p, 0)) : ∃ l', parse (linesOf l) = (l', 0, 0) ∧ sames false l l' = true ∧ linesOf l' = linesOf l ∧ (linesOf l).length ≤ 1048576 := by
  have hf := parse_fine h
  have hsm := parse_small h
  have h1 := shows_fits l hsm.fits
  have h2 : counts l * (s.length + 3) ≤ 601 * 603 := Nat.mul_le_mul (by have := hsm.counts; omega) (by omega)
  have h3 := linesOf_tot l 200 hf
  have h4 : counts l * (2 * 200 + 2) ≤ 601 * 402 := Nat.mul_le_mul (by have := hsm.counts; omega) (by omega)
  have hlen : (linesOf l).length ≤ 1048576 := by omega
  obtain ⟨l', k1, k2⟩ := parse_lx (linesOf_lx l hf) hlen hf
  exact ⟨l', k1, k2, (sames_lines k2).symm, hlen⟩
theorem fines_get {d : Nat} : ∀ {l : List Tr}, fines d l → ∀ (i : Nat) (h : i < l.length), fine d l[i]
  | n :: l, h, 0, hi => by rw [fines] at h; exact h.1
  | n :: l, h, i + 1, hi => by rw [fines] at h; exact fines_get h.2 i (by simpa using hi)
/-- THE LAW, for Show. -/
theorem back_show {s : List UInt8} {l : List Tr} {p : Nat} (hs : s.length ≤ 600) (h : parse s = (l, p, 0)) (i : Nat) (hi : i < l.length) : ∃ n', parse (show1 l[i]) = ([n'], 0, 0) ∧ same false l[i] n' = true ∧ (show1 l[i]).length ≤ 1048576 := by
  have hf := fines_get (parse_fine h) i hi
  have hsm := parse_small h
  have h1 := shows_fits l hsm.fits
  have h2 : counts l * (s.length + 3) ≤ 601 * 603 := Nat.mul_le_mul (by have := hsm.counts; omega) (by omega)
  have h3 := show1_len l i hi
  have hlen : (show1 l[i]).length ≤ 1048576 := by omega
  have hx : Lx (show1 l[i]) (flats [l[i]]) := by
    have := show1_lx l[i] hf Lx.nil nb_nil
    rw [flats, flats]
    simpa using this
  obtain ⟨l', k1, k2⟩ := parse_lx hx hlen (by rw [fines, fines]; exact ⟨hf, trivial⟩)
  have k3 := sames_len_eq k2
  match l', k3, k2, k1 with
  | [n'], _, k2, k1 =>
    rw [sames, sames, Bool.and_true] at k2
    exact ⟨n', k1, k2, hlen⟩
end Go.Proofs.Ytnjhbhbohnjckaa.Tree
