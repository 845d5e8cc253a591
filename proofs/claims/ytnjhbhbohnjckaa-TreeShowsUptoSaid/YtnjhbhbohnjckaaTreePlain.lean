/-
  Layer 17 as plain functions: trees of nodes, the parse of a row of tokens, the texts, the count and the height.
-/
import Derived.Test.YtnjhbhbohnjckaaTokPlain
set_option linter.unusedVariables false
namespace Go.Proofs.Ytnjhbhbohnjckaa.Tree
open Tok (Tk)

inductive Tr where
  | mk (kind : Int) (pos : Int) (text : List UInt8) (l : List Tr)
def Tr.kind : Tr → Int
  | .mk k _ _ _ => k
def Tr.pos : Tr → Int
  | .mk _ p _ _ => p
def Tr.text : Tr → List UInt8
  | .mk _ _ t _ => t
def Tr.l : Tr → List Tr
  | .mk _ _ _ l => l

/-- What the parse of a row gives: its nodes and the next index, or an offset and an error. -/
inductive Rw where
  | ok (l : List Tr) (j : Nat)
  | bad (pos : Nat) (e : Int)
def row (L : List Tk) : Nat → Nat → Nat → Nat → List Tr → Rw
  | 0, _, _, _, _ => .bad 0 0
  | f + 1, i, deep, op, acc =>
    if (L.getD i ⟨4, 0, []⟩).kind = 4 then (if 0 < deep then .bad op 3 else .ok acc i)
    else if (L.getD i ⟨4, 0, []⟩).kind = 1 then (if deep = 0 then .bad (L.getD i ⟨4, 0, []⟩).pos 4 else .ok acc (i + 1))
    else if (L.getD i ⟨4, 0, []⟩).kind = 0 then
      (if deep = 200 then .bad (L.getD i ⟨4, 0, []⟩).pos 6
       else match row L f (i + 1) (deep + 1) (L.getD i ⟨4, 0, []⟩).pos [] with
        | .bad p e => .bad p e
        | .ok l j => row L f j deep op (acc ++ [.mk 0 (L.getD i ⟨4, 0, []⟩).pos [] l]))
    else row L f (i + 1) deep op (acc ++ [.mk (L.getD i ⟨4, 0, []⟩).kind (L.getD i ⟨4, 0, []⟩).pos (L.getD i ⟨4, 0, []⟩).text []])
def Rw.out : Rw → List Tr × Nat × Int
  | .ok l _ => (l, 0, 0)
  | .bad p e => ([], p, e)
def parse (s : List UInt8) : List Tr × Nat × Int :=
  if (Tok.lexF s).2.2 = 0 then (row (Tok.lexF s).1 ((Tok.lexF s).1.length) 0 0 0 []).out else ([], (Tok.lexF s).2.1, (Tok.lexF s).2.2)

/-- The row of tokens ends with the end, and holds it there alone. -/
def Ends (L : List Tk) : Prop := ∀ i (h : i < L.length), L[i].kind = 4 ↔ i + 1 = L.length
theorem Ends.get {L : List Tk} {i : Nat} (h : i < L.length) : L.getD i ⟨4, 0, []⟩ = L[i] := by
  rw [List.getD_eq_getElem?_getD, List.getElem?_eq_getElem h]; rfl
/-- A row below the top ends behind a parenthesis, and inside the tokens. -/
theorem row_ok {L : List Tk} (hE : Ends L) : ∀ (f i deep op : Nat) (acc l : List Tr) (j : Nat), 0 < deep → i < L.length → row L f i deep op acc = .ok l j → i < j ∧ j < L.length := by
  intro f
  induction f with
  | zero => intro i deep op acc l j _ _ h; cases h
  | succ f ih =>
    intro i deep op acc l j hd hi h
    have he := hE i hi
    rw [row, Ends.get hi] at h
    split at h
    · first | cases h | (rw [if_pos hd] at h; cases h)
    rename_i h4
    have hi1 : i + 1 < L.length := by
      rcases Nat.lt_or_ge (i + 1) L.length with h' | h'
      · exact h'
      · exact absurd (he.2 (by omega)) h4
    split at h
    · first | (injection h with h1 h2; omega) | (rw [if_neg (by omega)] at h; injection h with h1 h2; omega)
    split at h
    · split at h
      · cases h
      · split at h
        · cases h
        · rename_i l' j' hr
          have h1 := ih _ _ _ _ _ _ (by omega) hi1 hr
          have h2 := ih _ _ _ _ _ _ hd h1.2 h
          omega
    · have h2 := ih _ _ _ _ _ _ hd hi1 h
      omega

mutual
/-- The form on one line. -/
def show1 : Tr → List UInt8
  | .mk k p t l => if k = 2 then t else if k = 3 then [34] ++ t ++ [34] else if k = 0 then [40] ++ shows l ++ [41] else []
def shows : List Tr → List UInt8
  | [] => []
  | [n] => show1 n
  | n :: m :: l => show1 n ++ [32] ++ shows (m :: l)
end
mutual
def count : Tr → Nat
  | .mk _ _ _ l => 1 + counts l
def counts : List Tr → Nat
  | [] => 0
  | n :: l => count n + counts l
end
mutual
def high : Tr → Nat
  | .mk k _ _ l => if k = 0 then highs l + 1 else 1
def highs : List Tr → Nat
  | [] => 0
  | n :: l => max (high n) (highs l)
end
mutual
def same (places : Bool) : Tr → Tr → Bool
  | .mk k p t l, .mk k' p' t' l' => k == k' && t == t' && (!places || p == p') && sames places l l'
def sames (places : Bool) : List Tr → List Tr → Bool
  | [], [] => true
  | n :: l, m :: l' => same places n m && sames places l l'
  | _, _ => false
end
mutual
theorem same_self (places : Bool) : ∀ n : Tr, same places n n = true
  | .mk k p t l => by rw [same, sames_self places l]; simp
theorem sames_self (places : Bool) : ∀ l : List Tr, sames places l l = true
  | [] => by rw [sames]
  | n :: l => by rw [sames, same_self places n, sames_self places l]; rfl
end
end Go.Proofs.Ytnjhbhbohnjckaa.Tree
