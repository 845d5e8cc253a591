/-
  Plain mathematics of the lexer (chapter 15), with no program in sight.
-/
import Derived.Test.YtnjhbhbohnjckaaRows
import Derived.Lib.Bytealg
set_option linter.unusedVariables false
namespace Go.Proofs.Ytnjhbhbohnjckaa.Tok

/-- A word character. -/
def sign (c : UInt8) : Bool := 32 < c.toNat && c.toNat < 127 && c != 40 && c != 41 && c != 34 && c != 59 && c != 44
/-- A separator. -/
def ws (c : UInt8) : Bool := c == 32 || c == 9 || c == 10 || c == 13
/-- The text begins with the two bytes. -/
def pre2 (a b : UInt8) (l : List UInt8) : Bool := l.take 2 == [a, b]
/-- The length of the line comment at the beginning. -/
def lineLen : List UInt8 → Nat
  | [] => 0
  | c :: r => if c == 10 then 1 else lineLen r + 1
/-- The length of the block comment at the beginning, or 0 if it is not terminated; i bytes and the depth d are behind us. -/
def rem : List UInt8 → Int → Nat → Nat
  | a :: b :: r, d, i =>
    if a == 40 && b == 59 then rem r (d + 1) (i + 2)
    else if a == 59 && b == 41 then (if d - 1 = 0 then i + 2 else rem r (d - 1) (i + 2))
    else rem (b :: r) d (i + 1)
  | _, _, _ => 0
/-- The string at the beginning from its i-th byte on: its length and error. -/
def quo : List UInt8 → Bool → Nat → Nat × Int
  | [], _, _ => (0, 3)
  | c :: r, esc, i =>
    if c.toNat < 32 || c == 127 then (i, 4)
    else if esc then quo r false (i + 1)
    else if c == 92 then quo r true (i + 1)
    else if c == 34 then (i + 1, 0)
    else quo r false (i + 1)
/-- The number of word characters at the beginning. -/
def runLen : List UInt8 → Nat
  | [] => 0
  | c :: r => if sign c then runLen r + 1 else 0

structure Tk where
  kind : Nat
  pos : Nat
  text : List UInt8

/-- One step of the lexer at offset i: an error (its place and number), or perhaps a token and the next offset. -/
def step (l : List UInt8) (i : Nat) : Except (Nat × Int) (Option Tk × Nat) :=
  if ws (l.getD i 0) then .ok (none, i + 1)
  else if pre2 59 59 (l.drop i) then .ok (none, i + lineLen (l.drop i))
  else if pre2 40 59 (l.drop i) then (if rem (l.drop i) 0 0 = 0 then .error (i, 3) else .ok (none, i + rem (l.drop i) 0 0))
  else if l.getD i 0 == 40 then .ok (some ⟨0, i, []⟩, i + 1)
  else if l.getD i 0 == 41 then .ok (some ⟨1, i, []⟩, i + 1)
  else if l.getD i 0 == 34 then
    (if (quo (l.drop (i + 1)) false 1).2 = 4 then .error (i + (quo (l.drop (i + 1)) false 1).1, 4)
     else if (quo (l.drop (i + 1)) false 1).2 = 3 then .error (i, 3)
     else .ok (some ⟨3, i, (l.drop (i + 1)).take ((quo (l.drop (i + 1)) false 1).1 - 2)⟩, i + (quo (l.drop (i + 1)) false 1).1))
  else if sign (l.getD i 0) then .ok (some ⟨2, i, (l.drop i).take (runLen (l.drop i))⟩, i + runLen (l.drop i))
  else .error (i, 4)

/-- The lexer from offset i on, the tokens acc behind it; f bounds the steps. -/
def lexGo (l : List UInt8) : Nat → Nat → List Tk → List Tk × Nat × Int
  | 0, i, acc => (acc ++ [⟨4, l.length, []⟩], 0, 0)
  | f + 1, i, acc =>
    if l.length ≤ i then (acc ++ [⟨4, l.length, []⟩], 0, 0) else
    match step l i with
    | .error x => ([], x.1, x.2)
    | .ok x => lexGo l f x.2 (acc ++ x.1.toList)
def lexF (l : List UInt8) : List Tk × Nat × Int := if 1048576 < l.length then ([], 0, 6) else lexGo l l.length 0 []

theorem rem_le : ∀ (n : Nat) (l : List UInt8), l.length ≤ n → ∀ (d : Int) (i : Nat), rem l d i = 0 ∨ (i + 2 ≤ rem l d i ∧ rem l d i ≤ i + l.length) := by
  intro n
  induction n with
  | zero =>
    intro l hl d i
    obtain rfl : l = [] := List.eq_nil_of_length_eq_zero (by omega)
    exact .inl (by simp [rem])
  | succ n ih =>
    intro l hl d i
    match l, hl with
    | [], _ => exact .inl (by simp [rem])
    | [a], _ => exact .inl (by simp [rem])
    | a :: b :: r, hl =>
      simp only [List.length_cons] at hl
      rw [rem]
      split
      · rcases ih r (by omega) (d + 1) (i + 2) with h | h
        · exact .inl h
        · refine .inr ?_; simp only [List.length_cons]; omega
      · split
        · split
          · refine .inr ?_; simp only [List.length_cons]; omega
          · rcases ih r (by omega) (d - 1) (i + 2) with h | h
            · exact .inl h
            · refine .inr ?_; simp only [List.length_cons]; omega
        · rcases ih (b :: r) (by simp only [List.length_cons]; omega) d (i + 1) with h | h
          · exact .inl h
          · refine .inr ?_; simp only [List.length_cons] at h ⊢; omega
theorem quo_le : ∀ (l : List UInt8) (e : Bool) (i : Nat), (quo l e i).2 = 3 ∧ (quo l e i).1 = 0 ∨ (quo l e i).2 = 4 ∧ i ≤ (quo l e i).1 ∧ (quo l e i).1 < i + l.length ∨ (quo l e i).2 = 0 ∧ i + 1 ≤ (quo l e i).1 ∧ (quo l e i).1 ≤ i + l.length := by
  intro l
  induction l with
  | nil => intro e i; exact .inl ⟨rfl, rfl⟩
  | cons c r ih =>
    intro e i
    rw [quo]
    simp only [List.length_cons]
    split
    · exact .inr (.inl ⟨rfl, by dsimp only; omega, by dsimp only; omega⟩)
    · split
      · have := ih false (i + 1); omega
      · split
        · have := ih true (i + 1); omega
        · split
          · exact .inr (.inr ⟨rfl, by dsimp only; omega, by dsimp only; omega⟩)
          · have := ih false (i + 1); omega
theorem lineLen_le : ∀ l : List UInt8, lineLen l ≤ l.length := by
  intro l
  induction l with
  | nil => simp [lineLen]
  | cons c r ih => rw [lineLen]; split <;> simp only [List.length_cons] <;> omega
theorem lineLen_pos {l : List UInt8} (h : 0 < l.length) : 0 < lineLen l := by
  match l, h with
  | c :: r, _ => rw [lineLen]; split <;> omega
theorem runLen_le : ∀ l : List UInt8, runLen l ≤ l.length := by
  intro l
  induction l with
  | nil => simp [runLen]
  | cons c r ih => rw [runLen]; split <;> simp only [List.length_cons] <;> omega
/-- A step goes forward and stays inside the text. -/
theorem step_ok {l : List UInt8} {i : Nat} (hi : i < l.length) {x : Option Tk × Nat} (h : step l i = .ok x) : i < x.2 ∧ x.2 ≤ l.length := by
  have hd : (l.drop i).length = l.length - i := by simp
  have hd1 : (l.drop (i + 1)).length = l.length - (i + 1) := by simp
  unfold step at h
  split at h
  · injection h with h; subst h; dsimp only; omega
  split at h
  · injection h with h; subst h; dsimp only
    have := lineLen_le (l.drop i); have := lineLen_pos (l := l.drop i) (by omega); omega
  split at h
  · split at h
    · cases h
    · injection h with h; subst h; dsimp only
      have := rem_le _ (l.drop i) (Nat.le_refl _) 0 0; omega
  split at h
  · injection h with h; subst h; dsimp only; omega
  split at h
  · injection h with h; subst h; dsimp only; omega
  split at h
  · split at h
    · cases h
    split at h
    · cases h
    · injection h with h; subst h; dsimp only
      have := quo_le (l.drop (i + 1)) false 1; omega
  split at h
  · rename_i hs
    injection h with h; subst h; dsimp only
    have := runLen_le (l.drop i)
    have h1 : 0 < runLen (l.drop i) := by
      rw [List.drop_eq_getElem_cons hi, runLen]
      have : l.getD i 0 = l[i] := by simp [hi]
      rw [this] at hs
      rw [if_pos hs]; omega
    omega
  · cases h
/-- The bound on the steps does not matter. -/
theorem lexGo_fuel {l : List UInt8} : ∀ (f g i : Nat) (acc : List Tk), l.length ≤ i + f → l.length ≤ i + g → lexGo l f i acc = lexGo l g i acc := by
  intro f
  induction f with
  | zero =>
    intro g i acc hf hg
    match g with
    | 0 => rfl
    | g + 1 => rw [lexGo, lexGo, if_pos (by omega)]
  | succ f ih =>
    intro g i acc hf hg
    match g with
    | 0 => rw [lexGo, lexGo, if_pos (by omega)]
    | g + 1 =>
      rw [lexGo, lexGo]
      by_cases h : l.length ≤ i
      · rw [if_pos h, if_pos h]
      · rw [if_neg h, if_neg h]
        rcases hs : step l i with x | x
        · rfl
        · have := step_ok (by omega) hs
          exact ih g x.2 _ (by omega) (by omega)
/-- The lexer from offset i on. -/
def lexAt (l : List UInt8) (i : Nat) (acc : List Tk) : List Tk × Nat × Int := lexGo l (l.length - i) i acc
theorem lexAt_end {l : List UInt8} {i : Nat} (h : l.length ≤ i) (acc : List Tk) : lexAt l i acc = (acc ++ [⟨4, l.length, []⟩], 0, 0) := by
  rw [lexAt, show l.length - i = 0 from by omega, lexGo]
theorem lexAt_error {l : List UInt8} {i : Nat} (h : i < l.length) (acc : List Tk) {x : Nat × Int} (hs : step l i = .error x) : lexAt l i acc = ([], x.1, x.2) := by
  rw [lexAt, show l.length - i = (l.length - i - 1) + 1 from by omega, lexGo, if_neg (by omega), hs]
theorem lexAt_ok {l : List UInt8} {i : Nat} (h : i < l.length) (acc : List Tk) {x : Option Tk × Nat} (hs : step l i = .ok x) : lexAt l i acc = lexAt l x.2 (acc ++ x.1.toList) := by
  have := step_ok h hs
  rw [lexAt, show l.length - i = (l.length - i - 1) + 1 from by omega, lexGo, if_neg (by omega), hs]
  exact lexGo_fuel _ _ _ _ (by omega) (by omega)
theorem drop2 {l r : List UInt8} {i : Nat} {a b : UInt8} (h : l.drop i = a :: b :: r) : l.drop (i + 2) = r ∧ l.drop (i + 1) = b :: r := by
  constructor
  · rw [← List.drop_drop, h]; rfl
  · rw [← List.drop_drop, h]; rfl
theorem rem_open {l r : List UInt8} {i : Nat} {a b : UInt8} {d : Int} (h : l.drop i = a :: b :: r) (hc : (a == 40) = true ∧ (b == 59) = true) : rem (l.drop i) d i = rem (l.drop (i + 2)) (d + 1) (i + 2) := by
  rw [(drop2 h).1, h, rem, if_pos (by rw [hc.1, hc.2]; rfl)]
theorem rem_not {l r : List UInt8} {i : Nat} {a b : UInt8} {d : Int} (h : l.drop i = a :: b :: r) (hc : (a == 40) = false ∨ (b == 59) = false) : (a == 40 && b == 59) = false := by
  rcases hc with h | h <;> rw [h] <;> simp
theorem rem_done {l r : List UInt8} {i : Nat} {a b : UInt8} {d : Int} (h : l.drop i = a :: b :: r) (h0 : (a == 40) = false ∨ (b == 59) = false) (hc : (a == 59) = true ∧ (b == 41) = true) (hd : (d - 1 == 0) = true) : rem (l.drop i) d i = i + 2 := by
  rw [h, rem, if_neg (by rw [rem_not (d := d) h h0]; decide), if_pos (by rw [hc.1, hc.2]; rfl), if_pos (by simpa using hd)]
theorem rem_close {l r : List UInt8} {i : Nat} {a b : UInt8} {d : Int} (h : l.drop i = a :: b :: r) (h0 : (a == 40) = false ∨ (b == 59) = false) (hc : (a == 59) = true ∧ (b == 41) = true) (hd : (d - 1 == 0) = false) : rem (l.drop i) d i = rem (l.drop (i + 2)) (d - 1) (i + 2) := by
  rw [(drop2 h).1, h, rem, if_neg (by rw [rem_not (d := d) h h0]; decide), if_pos (by rw [hc.1, hc.2]; rfl), if_neg (by simpa using hd)]
theorem rem_else {l r : List UInt8} {i : Nat} {a b : UInt8} {d : Int} (h : l.drop i = a :: b :: r) (h0 : (a == 40) = false ∨ (b == 59) = false) (hc : (a == 59) = false ∨ (b == 41) = false) : rem (l.drop i) d i = rem (l.drop (i + 1)) d (i + 1) := by
  have e : (a == 59 && b == 41) = false := by rcases hc with h | h <;> rw [h] <;> simp
  rw [(drop2 h).2, h, rem, if_neg (by rw [rem_not (d := d) h h0]; decide), if_neg (by rw [e]; decide)]
theorem line_index : ∀ m : List UInt8, (Lib.indexByte m 10 = -1 ∧ lineLen m = m.length) ∨ (0 ≤ Lib.indexByte m 10 ∧ Lib.indexByte m 10 + 1 = (lineLen m : Int)) := by
  intro m
  induction m with
  | nil => exact .inl ⟨rfl, rfl⟩
  | cons c r ih =>
    rw [Lib.indexByte, lineLen]
    by_cases h : (c == 10) = true
    · rw [if_pos h, if_pos h]; exact .inr ⟨by omega, rfl⟩
    · rw [if_neg h, if_neg h]
      rcases ih with ⟨h1, h2⟩ | ⟨h1, h2⟩
      · rw [if_pos (by rw [h1]; rfl)]
        exact .inl ⟨rfl, by simp only [List.length_cons]; omega⟩
      · rw [if_neg (by simp; omega)]
        exact .inr ⟨by omega, by omega⟩
theorem runLen_in : ∀ (m : List UInt8) (j : Nat), j < runLen m → ∃ h : j < m.length, sign m[j] = true := by
  intro m
  induction m with
  | nil => intro j h; simp [runLen] at h
  | cons c r ih =>
    intro j h
    rw [runLen] at h
    split at h
    · rename_i hc
      match j, h with
      | 0, _ => exact ⟨by simp, hc⟩
      | j + 1, h =>
        obtain ⟨h1, h2⟩ := ih j (by omega)
        exact ⟨by simp only [List.length_cons]; omega, h2⟩
    · omega
theorem runLen_out : ∀ (m : List UInt8) (h : runLen m < m.length), sign m[runLen m] = false := by
  intro m
  induction m with
  | nil => intro h; simp at h
  | cons c r ih =>
    intro h
    by_cases hc : sign c = true
    · have e : runLen (c :: r) = runLen r + 1 := by rw [runLen, if_pos hc]
      have h2 : runLen r < r.length := by simp only [List.length_cons] at h; omega
      have := ih h2
      simp only [e, List.getElem_cons_succ]
      exact this
    · have e : runLen (c :: r) = 0 := by rw [runLen, if_neg hc]
      simp only [e, List.getElem_cons_zero]
      simpa using hc
end Go.Proofs.Ytnjhbhbohnjckaa.Tok
