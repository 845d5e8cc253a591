/-
  Plain law of TreeBack: what Lines and Show write is parsed to the same nodes again.
-/
import Derived.Test.YtnjhbhbohnjckaaTreePlacesP
import Derived.Test.YtnjhbhbohnjckaaTreeLines
set_option linter.unusedVariables false
namespace Go.Proofs.Ytnjhbhbohnjckaa.Tree
open Tok (Tk sign ws)

def kt (t : Tk) : Nat × List UInt8 := (t.kind, t.text)
mutual
/-- The tokens of a node. -/
def flat : Tr → List (Nat × List UInt8)
  | .mk k p t l => if k = 0 then (0, []) :: (flats l ++ [(1, [])]) else [(k.toNat, t)]
def flats : List Tr → List (Nat × List UInt8)
  | [] => []
  | n :: l => flat n ++ flats l
end
mutual
/-- A node as the parse makes them, with at most d lists in each other. -/
def fine : Nat → Tr → Prop
  | d, .mk k p t l => (k = 0 ∧ t = [] ∧ 0 < d ∧ fines (d - 1) l) ∨ (k = 2 ∧ l = [] ∧ t ≠ [] ∧ ∀ c ∈ t, sign c = true) ∨ (k = 3 ∧ l = [] ∧ Tok.quo (t ++ [34]) false 1 = (t.length + 2, 0))
def fines : Nat → List Tr → Prop
  | d, [] => True
  | d, n :: l => fine d n ∧ fines d l
end
theorem fines_snoc {d : Nat} {n : Tr} (h : fine d n) : ∀ {l : List Tr}, fines d l → fines d (l ++ [n])
  | [], _ => by rw [List.nil_append, fines, fines]; exact ⟨h, trivial⟩
  | m :: l, hl => by
    rw [fines] at hl
    rw [List.cons_append, fines]
    exact ⟨hl.1, fines_snoc h hl.2⟩
theorem fines_take {d : Nat} : ∀ {l : List Tr} (m : Nat), fines d l → fines d (l.take m)
  | [], m, h => by rw [List.take_nil]; exact h
  | n :: l, 0, h => by rw [List.take_zero, fines]; trivial
  | n :: l, m + 1, h => by
    rw [fines] at h
    rw [List.take_succ_cons, fines]
    exact ⟨h.1, fines_take m h.2⟩
theorem fines_drop {d : Nat} : ∀ {l : List Tr} (m : Nat), fines d l → fines d (l.drop m)
  | [], m, h => by rw [List.drop_nil]; exact h
  | n :: l, 0, h => by rw [List.drop_zero]; exact h
  | n :: l, m + 1, h => by
    rw [fines] at h
    rw [List.drop_succ_cons]
    exact fines_drop m h.2
theorem flats_app : ∀ (a b : List Tr), flats (a ++ b) = flats a ++ flats b
  | [], b => by rw [List.nil_append, flats, List.nil_append]
  | n :: a, b => by rw [List.cons_append, flats, flats, flats_app a b, List.append_assoc]
theorem row_fine {L : List Tk} (hG : ∀ i (h : i < L.length), L[i].kind ≠ 4 → Tok.Good L[i]) (hE : Ends L) : ∀ (f i deep op : Nat) (acc l : List Tr) (j : Nat), i < L.length → deep ≤ 200 → row L f i deep op acc = .ok l j → fines (200 - deep) acc → fines (200 - deep) l := by
  intro f
  induction f with
  | zero => intro i deep op acc l j _ _ h _; cases h
  | succ f ih =>
    intro i deep op acc l j hi hd h ha
    have he := hE i hi
    rw [row, Ends.get hi] at h
    split at h
    · split at h
      · cases h
      · injection h with h1 h2; subst h1; exact ha
    rename_i h4
    have hi1 : i + 1 < L.length := by
      rcases Nat.lt_or_ge (i + 1) L.length with h' | h'
      · exact h'
      · exact absurd (he.2 (by omega)) h4
    have hg := hG i hi h4
    split at h
    · split at h
      · cases h
      · injection h with h1 h2; subst h1; exact ha
    rename_i h1
    split at h
    · rename_i h0
      split at h
      · cases h
      · split at h
        · cases h
        · rename_i hd2 _ l' j' hr
          have hj := row_ok hE _ _ _ _ _ _ _ (by omega) hi1 hr
          have h3 := ih _ _ _ _ _ _ hi1 (by omega) hr (by rw [fines]; trivial)
          refine ih _ _ _ _ _ _ hj.2 hd h (fines_snoc ?_ ha)
          rw [fine]
          exact .inl ⟨rfl, rfl, by omega, by rw [show 200 - deep - 1 = 200 - (deep + 1) from by omega]; exact h3⟩
    · rename_i h0
      refine ih _ _ _ _ _ _ hi1 hd h (fines_snoc ?_ ha)
      rw [fine]
      rcases hg with ⟨hk, _⟩ | ⟨hk, _⟩ | ⟨hk, ht, hs⟩ | ⟨hk, hq⟩
      · exact absurd hk h0
      · exact absurd hk h1
      · exact .inr (.inl ⟨by omega, rfl, ht, hs⟩)
      · exact .inr (.inr ⟨by omega, rfl, hq⟩)
theorem parse_fine {s : List UInt8} {l : List Tr} {p : Nat} (h : parse s = (l, p, 0)) : fines 200 l := by
  obtain ⟨body, _, hc, hr⟩ := parse_row h
  have hS := stand_of hc
  exact row_fine (fun i h h4 => (hS.good i h h4).1) hS.ends _ _ _ _ _ _ _ (by simp) (by omega) hr (by rw [fines]; trivial)

/-- A text and its tokens. -/
inductive Lx : List UInt8 → List (Nat × List UInt8) → Prop
  | nil : Lx [] []
  | blank {c : UInt8} {X : List UInt8} {T : List (Nat × List UInt8)} : ws c = true → Lx X T → Lx (c :: X) T
  | tok {k : Nat} {t X : List UInt8} {T : List (Nat × List UInt8)} : Tok.Good ⟨k, 0, t⟩ → (∀ c D, X = c :: D → c ≠ 59 ∧ (k = 2 → sign c = false)) → Lx X T → Lx (Tok.ttext ⟨k, 0, t⟩ ++ X) ((k, t) :: T)
theorem Lx.lex {X : List UInt8} {T : List (Nat × List UInt8)} (h : Lx X T) : ∀ (B : List UInt8) (i : Nat) (acc : List Tk), B.drop i = X → ∃ L, Tok.lexAt B i acc = (acc ++ (L ++ [⟨4, B.length, []⟩]), 0, 0) ∧ L.map kt = T := by
  induction h with
  | nil =>
    intro B i acc h
    refine ⟨[], ?_, rfl⟩
    rw [Tok.lexAt_end (by simpa using h)]
    simp
  | @blank c X T hw _ ih =>
    intro B i acc h
    obtain ⟨g1, g2, g3⟩ := Tok.getD_drop h
    have hst : Tok.step B i = .ok (none, i + 1) := by rw [Tok.step, g1, if_pos hw]
    obtain ⟨L, h1, h2⟩ := ih B (i + 1) acc g3
    refine ⟨L, ?_, h2⟩
    rw [Tok.lexAt_ok g2 acc hst]
    simp only [Option.toList_none, List.append_nil]
    exact h1
  | @tok k t X T hg hX _ ih =>
    intro B i acc h
    obtain ⟨h1, h2⟩ := Tok.step_at hg (fun c D hc => hX c D hc) h
    obtain ⟨L, h3, h4⟩ := ih B (i + (Tok.ttext ⟨k, 0, t⟩).length) (acc ++ [⟨k, i, t⟩]) (by rw [← List.drop_drop, h, List.drop_left])
    refine ⟨⟨k, i, t⟩ :: L, ?_, by rw [List.map_cons, h4]; rfl⟩
    rw [Tok.lexAt_ok h1 acc h2]
    simp only [Option.toList_some]
    rw [h3]
    simp
/-- What may follow a node. -/
def NB (Y : List UInt8) : Prop := ∀ c D, Y = c :: D → c ≠ 59 ∧ sign c = false
theorem nb_nil : NB [] := fun c D h => by cases h
theorem nb_32 (Y : List UInt8) : NB (32 :: Y) := fun c D h => by injection h with h _; subst h; exact ⟨by decide, by decide⟩
theorem nb_10 (Y : List UInt8) : NB (10 :: Y) := fun c D h => by injection h with h _; subst h; exact ⟨by decide, by decide⟩
theorem nb_41 (Y : List UInt8) : NB (41 :: Y) := fun c D h => by injection h with h _; subst h; exact ⟨by decide, by decide⟩
theorem Lx.close {Y : List UInt8} {U : List (Nat × List UInt8)} (h : Lx Y U) (hY : NB Y) : Lx (41 :: Y) ((1, []) :: U) :=
  Lx.tok (k := 1) (t := []) (.inr (.inl ⟨rfl, rfl⟩)) (fun c D hc => ⟨(hY c D hc).1, fun h => by cases h⟩) h
theorem Lx.opens {Y : List UInt8} {U : List (Nat × List UInt8)} (h : Lx Y U) (hY : ∀ c D, Y = c :: D → c ≠ 59) : Lx (40 :: Y) ((0, []) :: U) :=
  Lx.tok (k := 0) (t := []) (.inl ⟨rfl, rfl⟩) (fun c D hc => ⟨hY c D hc, fun h => by cases h⟩) h
theorem show1_head {d : Nat} {n : Tr} (h : fine d n) : ∃ c D, show1 n = c :: D ∧ c ≠ 59 := by
  obtain ⟨k, p, t, l⟩ := n
  rw [fine] at h
  rw [show1]
  rcases h with ⟨rfl, _⟩ | ⟨rfl, _, ht, hs⟩ | ⟨rfl, _⟩
  · exact ⟨40, shows l ++ [41], by simp, by decide⟩
  · match t, ht with
    | c :: t, _ =>
      refine ⟨c, t, by simp, fun e => ?_⟩
      have := hs c (by simp)
      subst e
      exact absurd this (by decide)
  · exact ⟨34, t ++ [34], by simp, by decide⟩
theorem shows_head {d : Nat} {l : List Tr} (h : fines d l) {Y : List UInt8} (hY : ∀ c D, Y = c :: D → c ≠ 59) : ∀ c D, shows l ++ Y = c :: D → c ≠ 59 := by
  intro c D hc
  match l, h, hc with
  | [], _, hc => rw [shows] at hc; exact hY c D hc
  | [n], h, hc =>
    rw [fines] at h
    obtain ⟨c', D', e, hne⟩ := show1_head h.1
    rw [shows, e] at hc
    injection hc with hc _
    rw [← hc]; exact hne
  | n :: m :: l, h, hc =>
    rw [fines] at h
    obtain ⟨c', D', e, hne⟩ := show1_head h.1
    rw [shows, e] at hc
    injection hc with hc _
    rw [← hc]; exact hne
mutual
theorem show1_lx : ∀ (n : Tr) {d : Nat}, fine d n → ∀ {Y : List UInt8} {U : List (Nat × List UInt8)}, Lx Y U → NB Y → Lx (show1 n ++ Y) (flat n ++ U)
  | .mk k p t l, d, h, Y, U, hY, hN => by
    rw [fine] at h
    rw [show1, flat]
    rcases h with ⟨rfl, rfl, _, hf⟩ | ⟨rfl, rfl, ht, hs⟩ | ⟨rfl, rfl, hq⟩
    · rw [if_neg (by decide), if_neg (by decide), if_pos rfl, if_pos rfl]
      have h1 := shows_lx l hf (hY.close hN) (nb_41 _)
      have h2 := h1.opens (shows_head hf (fun c D hc => (nb_41 Y c D hc).1))
      simpa using h2
    · rw [if_pos rfl, if_neg (by decide)]
      exact Lx.tok (k := 2) (t := t) (.inr (.inr (.inl ⟨rfl, ht, hs⟩))) (fun c D hc => ⟨(hN c D hc).1, fun _ => (hN c D hc).2⟩) hY
    · rw [if_neg (by decide), if_pos rfl, if_neg (by decide)]
      have := Lx.tok (k := 3) (t := t) (.inr (.inr (.inr ⟨rfl, hq⟩))) (fun c D hc => ⟨(hN c D hc).1, fun h => by cases h⟩) hY
      simpa [Tok.ttext] using this
theorem shows_lx : ∀ (l : List Tr) {d : Nat}, fines d l → ∀ {Y : List UInt8} {U : List (Nat × List UInt8)}, Lx Y U → NB Y → Lx (shows l ++ Y) (flats l ++ U)
  | [], d, h, Y, U, hY, hN => by rw [shows, flats]; exact hY
  | [n], d, h, Y, U, hY, hN => by
    rw [fines] at h
    rw [shows, flats, flats, List.append_nil]
    exact show1_lx n h.1 hY hN
  | n :: m :: l, d, h, Y, U, hY, hN => by
    rw [fines] at h
    rw [shows, flats]
    have h1 := shows_lx (m :: l) h.2 hY hN
    have h2 := show1_lx n h.1 (Lx.blank (c := 32) (by decide) h1) (nb_32 _)
    simpa using h2
end
/-- Lines, with line feeds between them. -/
def core : List (List UInt8) → List UInt8
  | [] => []
  | [x] => x
  | x :: y :: r => x ++ 10 :: core (y :: r)
theorem core_cons (x : List UInt8) {xs : List (List UInt8)} (h : xs ≠ []) : core (x :: xs) = x ++ 10 :: core xs := by
  match xs, h with
  | y :: r, _ => rw [core]
theorem core_app : ∀ (xs ys : List (List UInt8)), xs ≠ [] → ys ≠ [] → core (xs ++ ys) = core xs ++ 10 :: core ys
  | [], ys, h, _ => absurd rfl h
  | [x], ys, _, h => by rw [List.cons_append, List.nil_append, core_cons x h, core]
  | x :: y :: r, ys, _, h => by
    have := core_app (y :: r) ys (by simp) h
    rw [List.cons_append, core_cons x (by simp), this, core_cons x (by simp)]
    simp
theorem core_flat (xs : List (List UInt8)) (h : xs ≠ []) : xs.flatMap (· ++ [10]) = core xs ++ [10] := by
  induction xs with
  | nil => exact absurd rfl h
  | cons x xs ih =>
    rw [List.flatMap_cons]
    rcases xs with _ | ⟨y, r⟩
    · simp [core]
    · rw [ih (by simp), core_cons x (by simp)]; simp
theorem core_snoc : ∀ (xs : List (List UInt8)) (y z : List UInt8), core (xs ++ [y ++ z]) = core (xs ++ [y]) ++ z
  | [], y, z => by simp [core]
  | x :: xs, y, z => by
    rw [List.cons_append, List.cons_append, core_cons x (by simp), core_cons x (by simp), core_snoc xs y z]
    simp
theorem core_shut (xs : List (List UInt8)) (h : xs ≠ []) : core (shut xs) = core xs ++ [41] := by
  obtain ⟨ys, y, rfl⟩ : ∃ ys y, xs = ys ++ [y] := ⟨xs.dropLast, xs.getLast h, (List.dropLast_concat_getLast h).symm⟩
  have : shut (ys ++ [y]) = ys ++ [y ++ [41]] := by unfold shut; simp
  rw [this, core_snoc]
theorem lx_blanks {X : List UInt8} {T : List (Nat × List UInt8)} (h : Lx X T) : ∀ b : List UInt8, (∀ c ∈ b, c = 32) → Lx (b ++ X) T
  | [], _ => h
  | c :: b, hb => by
    obtain rfl : c = 32 := hb c (by simp)
    exact Lx.blank (by decide) (lx_blanks h b fun c hc => hb c (by simp [hc]))
theorem rowsAt_ne : ∀ {l : List Tr}, l ≠ [] → rowsAt l 0 ≠ []
  | [], h => absurd rfl h
  | n :: l, _ => by
    rw [rowsAt]
    have := rows_ne n
    simp [this]
theorem rows_lx : ∀ (N : Nat), (∀ (n : Tr) {d : Nat}, count n ≤ N → fine d n → ∀ (b : List UInt8), (∀ c ∈ b, c = 32) → ∀ {Y : List UInt8} {U : List (Nat × List UInt8)}, Lx Y U → NB Y → Lx (core ((rows n).map (b ++ ·)) ++ Y) (flat n ++ U)) ∧
    (∀ (l : List Tr) {d : Nat}, counts l ≤ N → l ≠ [] → fines d l → ∀ (b : List UInt8), (∀ c ∈ b, c = 32) → ∀ {Y : List UInt8} {U : List (Nat × List UInt8)}, Lx Y U → NB Y → Lx (core ((rowsAt l 0).map (b ++ ·)) ++ Y) (flats l ++ U)) := by
  intro N
  induction N with
  | zero =>
    refine ⟨fun n d h => ?_, fun l d h hne => ?_⟩
    · obtain ⟨k, p, t, l⟩ := n
      rw [count] at h; omega
    · match l, hne with
      | n :: l, _ =>
        obtain ⟨k, p, t, c⟩ := n
        rw [counts, count] at h; omega
  | succ N ih =>
    have hC : ∀ (n : Tr) {d : Nat}, count n ≤ N + 1 → fine d n → ∀ (b : List UInt8), (∀ c ∈ b, c = 32) → ∀ {Y : List UInt8} {U : List (Nat × List UInt8)}, Lx Y U → NB Y → Lx (core ((rows n).map (b ++ ·)) ++ Y) (flat n ++ U) := by
      intro n d hct hf b hb Y U hY hN
      obtain ⟨k, p, t, l⟩ := n
      rw [count] at hct
      by_cases hx : k = 0 ∧ firstL l < l.length
      · obtain ⟨rfl, hm⟩ := hx
        rw [fine] at hf
        rcases hf with ⟨_, rfl, _, hf⟩ | ⟨h, _⟩ | ⟨h, _⟩
        rotate_left
        · cases h
        · cases h
        have hdne : l.drop (firstL l) ≠ [] := by intro e; have := congrArg List.length e; simp at this; omega
        have hcd := counts_take_drop l (firstL l)
        rw [rows, if_pos ⟨rfl, hm⟩, shut_map b _ (by simp), List.map_cons, rowsAt_drop, core_shut _ (by simp), core_cons _ (by simpa using rowsAt_ne hdne)]
        have h1 := ih.2 (l.drop (firstL l)) (by omega) hdne (fines_drop _ hf) b hb (hY.close hN) (nb_41 _)
        have h2 := shows_lx (l.take (firstL l)) (fines_take _ hf) (Lx.blank (c := 10) (by decide) h1) (nb_10 _)
        have h3 := h2.opens (shows_head (fines_take _ hf) (fun c D hc => (nb_10 _ c D hc).1))
        have h4 := lx_blanks h3 b hb
        rw [flat, if_pos rfl]
        have e : flats l = flats (l.take (firstL l)) ++ flats (l.drop (firstL l)) := by rw [← flats_app, List.take_append_drop]
        rw [e]
        simpa using h4
      · rw [rows, if_neg hx, List.map_cons, List.map_nil, core]
        have h1 := lx_blanks (show1_lx (.mk k p t l) hf hY hN) b hb
        simpa using h1
    refine ⟨hC, ?_⟩
    intro l
    induction l with
    | nil => intro d _ h; exact absurd rfl h
    | cons n l ihl =>
      intro d hct _ hf b hb Y U hY hN
      rw [counts] at hct
      rw [fines] at hf
      have hb2 : ∀ c ∈ b ++ [32, 32], c = 32 := by
        intro c hc
        rcases List.mem_append.1 hc with h | h
        · exact hb c h
        · simp at h; exact h
      have em : ((rows n).map ([32, 32] ++ ·)).map (b ++ ·) = (rows n).map ((b ++ [32, 32]) ++ ·) := by
        rw [List.map_map]
        apply List.map_congr_left
        intro x _
        simp
      rw [rowsAt, List.map_append, em, flats]
      rcases l with _ | ⟨m, l⟩
      · have := hC n (by omega) hf.1 (b ++ [32, 32]) hb2 hY hN
        rw [rowsAt, flats]
        simpa using this
      · have hne : rowsAt (m :: l) 0 ≠ [] := rowsAt_ne (by simp)
        have h1 := ihl (by omega) (by simp) hf.2 b hb hY hN
        have h2 := hC n (by omega) hf.1 (b ++ [32, 32]) hb2 (Lx.blank (c := 10) (by decide) h1) (nb_10 _)
        rw [core_app _ _ (by simpa using rows_ne n) (by simpa using hne)]
        simpa using h2
theorem linesOf_lx : ∀ (l : List Tr) {d : Nat}, fines d l → Lx (linesOf l) (flats l)
  | [], d, _ => by rw [flats]; exact Lx.nil
  | n :: l, d, h => by
    rw [fines] at h
    have h1 := linesOf_lx l h.2
    have h2 := (rows_lx (count n)).1 n (Nat.le_refl _) h.1 [] (by simp) (Lx.blank (c := 10) (by decide) h1) (nb_10 _)
    have e : linesOf (n :: l) = core (rows n) ++ 10 :: linesOf l := by
      unfold linesOf
      rw [List.flatMap_cons, List.flatMap_append, core_flat _ (rows_ne n)]
      simp
    rw [e, flats]
    simpa using h2
end Go.Proofs.Ytnjhbhbohnjckaa.Tree
