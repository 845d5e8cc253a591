/-
  Where the nodes of a text stand; and what comes of a parenthesis written behind it.
-/
import Derived.Test.YtnjhbhbohnjckaaTreeSize
import Derived.Test.YtnjhbhbohnjckaaTreeNodes
import Derived.Test.YtnjhbhbohnjckaaTokPlacesP
set_option linter.unusedVariables false
namespace Go.Proofs.Ytnjhbhbohnjckaa.Tree
open Tok (Tk)

mutual
/-- The offset behind the last node, if all stand where they say. -/
def plc (s : List UInt8) : Nat → Tr → Option Nat
  | f, .mk k p t l =>
    if p < (f : Int) ∨ (s.length : Int) ≤ p then none
    else if k = 2 then (if p.toNat + t.length ≤ s.length ∧ (s.drop p.toNat).take t.length = t then some (p.toNat + 1) else none)
    else if k = 3 then (if s.getD p.toNat 0 = 34 then some (p.toNat + 1) else none)
    else (if s.getD p.toNat 0 = 40 then plcs s (p.toNat + 1) l else none)
def plcs (s : List UInt8) : Nat → List Tr → Option Nat
  | f, [] => some f
  | f, n :: l => match plc s f n with
    | none => none
    | some m => plcs s m l
end
def tokP (L : List Tk) (i : Nat) : Nat := (L.getD i ⟨4, 0, []⟩).pos
/-- The tokens stand in the text, one behind the other. -/
structure Stand (s : List UInt8) (L : List Tk) : Prop where
  ends : Ends L
  mono : ∀ i, i + 1 < L.length → tokP L i < tokP L (i + 1)
  good : ∀ i (h : i < L.length), L[i].kind ≠ 4 → Tok.Good L[i] ∧ L[i].pos + (Tok.ttext L[i]).length ≤ s.length ∧ (s.drop L[i].pos).take (Tok.ttext L[i]).length = Tok.ttext L[i]
theorem getD_of_take {s : List UInt8} {p : Nat} {c : UInt8} {r : List UInt8} (h : (s.drop p).take (c :: r).length = c :: r) : s.getD p 0 = c ∧ p < s.length := by
  match hd : s.drop p with
  | [] => rw [hd] at h; simp at h
  | d :: D =>
    rw [hd] at h
    simp at h
    have := Tok.getD_drop hd
    exact ⟨by rw [this.1, h.1], this.2.1⟩
theorem row_places {s : List UInt8} {L : List Tk} (hS : Stand s L) : ∀ (f i deep op : Nat) (acc l : List Tr) (j : Nat), i < L.length → row L f i deep op acc = .ok l j → ∃ l2, l = acc ++ l2 ∧ (∀ fr, fr ≤ tokP L i → ∃ z, plcs s fr l2 = some z ∧ z ≤ tokP L j) := by
  intro f
  induction f with
  | zero => intro i deep op acc l j _ h; cases h
  | succ f ih =>
    intro i deep op acc l j hi h
    have he := hS.ends i hi
    have hP : tokP L i = L[i].pos := by unfold tokP; rw [Ends.get hi]
    rw [row, Ends.get hi] at h
    split at h
    · split at h
      · cases h
      · injection h with h1 h2
        subst h1 h2
        exact ⟨[], by simp, fun fr hf => ⟨fr, by rw [plcs], hf⟩⟩
    rename_i h4
    have hi1 : i + 1 < L.length := by
      rcases Nat.lt_or_ge (i + 1) L.length with h' | h'
      · exact h'
      · exact absurd (he.2 (by omega)) h4
    have hm := hS.mono i hi1
    obtain ⟨hg, hlen, htx⟩ := hS.good i hi h4
    split at h
    · split at h
      · cases h
      · injection h with h1 h2
        subst h1 h2
        exact ⟨[], by simp, fun fr hf => ⟨fr, by rw [plcs], by omega⟩⟩
    rename_i h1
    split at h
    · rename_i h0
      have htt : Tok.ttext L[i] = [40] := by simp [Tok.ttext, h0]
      rw [htt] at htx hlen
      have hc := getD_of_take htx
      split at h
      · cases h
      · split at h
        · cases h
        · rename_i l' j' hr
          have hj := row_ok hS.ends _ _ _ _ _ _ _ (by omega) hi1 hr
          obtain ⟨l2, e2, p2⟩ := ih _ _ _ _ _ _ hi1 hr
          obtain ⟨l3, e3, p3⟩ := ih _ _ _ _ _ _ hj.2 h
          rw [List.nil_append] at e2
          subst e2
          refine ⟨.mk 0 L[i].pos [] l' :: l3, by rw [e3]; simp, fun fr hf => ?_⟩
          obtain ⟨z, t1, t2⟩ := p2 (L[i].pos + 1) (by omega)
          obtain ⟨z', t1', t2'⟩ := p3 z t2
          refine ⟨z', ?_, t2'⟩
          rw [plcs, plc, if_neg (by omega), if_neg (by decide), if_neg (by decide), if_pos (by simpa using hc.1)]
          simp only [Int.toNat_natCast]
          rw [t1]
          exact t1'
    · rename_i h0
      obtain ⟨l3, e3, p3⟩ := ih _ _ _ _ _ _ hi1 h
      refine ⟨.mk L[i].kind L[i].pos L[i].text [] :: l3, by rw [e3]; simp, fun fr hf => ?_⟩
      obtain ⟨z', t1', t2'⟩ := p3 (L[i].pos + 1) (by omega)
      refine ⟨z', ?_, t2'⟩
      rcases hg with ⟨hk, _⟩ | ⟨hk, _⟩ | ⟨hk, _⟩ | ⟨hk, _⟩
      · exact absurd hk h0
      · exact absurd hk h1
      · have htt : Tok.ttext L[i] = L[i].text := by simp [Tok.ttext, hk]
        have hpos := Tok.ttext_pos (hS.good i hi h4).1
        rw [htt] at htx hlen hpos
        rw [plcs, plc, if_neg (by omega), if_pos (by omega), if_pos ⟨by simpa using hlen, by simpa using htx⟩]
        simp only [Int.toNat_natCast]
        exact t1'
      · have htt : Tok.ttext L[i] = 34 :: (L[i].text ++ [34]) := by simp [Tok.ttext, hk]
        rw [htt] at htx hlen
        have hc := getD_of_take htx
        rw [plcs, plc, if_neg (by omega), if_neg (by omega), if_pos (by omega), if_pos (by simpa using hc.1)]
        simp only [Int.toNat_natCast]
        exact t1'
theorem stand_of {s : List UInt8} {body : List Tk} (hc : Tok.Ch s 0 false body) : Stand s (body ++ [⟨4, s.length, []⟩]) := by
  have hk4 : ∀ (i : Nat) (h : i < body.length), body[i].kind ≠ 4 := fun i h => by
    have := Tok.good_kind (Tok.ch_get body 0 false i h hc).1
    omega
  refine ⟨fun i hi => ?_, fun i hi => ?_, fun i hi h4 => ?_⟩
  · rw [List.length_append, List.length_singleton] at hi ⊢
    by_cases h1 : i < body.length
    · rw [List.getElem_append_left h1]
      exact ⟨fun h => absurd h (hk4 i h1), fun h => by omega⟩
    · have : i = body.length := by omega
      subst this
      rw [List.getElem_append_right (by omega)]
      simp
  · rw [List.length_append, List.length_singleton] at hi
    have h1 : i < body.length := by omega
    obtain ⟨g1, g2, g3, g4⟩ := Tok.ch_get body 0 false i h1 hc
    have hp := Tok.ttext_pos g1
    unfold tokP
    rw [List.getD_eq_getElem?_getD, List.getD_eq_getElem?_getD, List.getElem?_append_left h1, List.getElem?_eq_getElem h1]
    by_cases h2 : i + 1 < body.length
    · obtain ⟨k1, k2, k3, k4⟩ := Tok.ch_get body 0 false (i + 1) h2 hc
      rw [Tok.endAt_succ 0 body i h1] at k2
      rw [List.getElem?_append_left h2, List.getElem?_eq_getElem h2]
      simp only [Option.getD_some]
      omega
    · rw [List.getElem?_append_right (by omega), show i + 1 - body.length = 0 from by omega]
      simp only [List.getElem?_cons_zero, Option.getD_some]
      omega
  · rw [List.length_append, List.length_singleton] at hi
    by_cases h1 : i < body.length
    · obtain ⟨g1, g2, g3, g4⟩ := Tok.ch_get body 0 false i h1 hc
      rw [List.getElem_append_left h1]
      exact ⟨g1, g3, g4⟩
    · exfalso
      apply h4
      have : i = body.length := by omega
      subst this
      rw [List.getElem_append_right (by omega)]
      simp
theorem lexF_body {s : List UInt8} {L : List Tk} {p : Nat} (h : Tok.lexF s = (L, p, 0)) : ∃ body, L = body ++ [⟨4, s.length, []⟩] ∧ Tok.Ch s 0 false body := by
  have hl : s.length ≤ 1048576 := by
    rcases Nat.lt_or_ge 1048576 s.length with h1 | h1
    · rw [Tok.lexF, if_pos h1] at h
      injection h with _ h; injection h with _ h; exact absurd h (by decide)
    · exact h1
  have e1 : Tok.lexF s = Tok.lexAt s 0 [] := by rw [Tok.lexF, if_neg (by omega), Tok.lexAt, Nat.sub_zero]
  rw [e1] at h
  obtain ⟨body, rfl, hc⟩ := Tok.lex_ch s.length 0 [] L p 0 false (by omega) (by omega) (by omega) (fun h => by cases h) h
  exact ⟨body, rfl, hc⟩
/-- A row that begins inside the tokens ends, or says where and why. -/
theorem row_err {L : List Tk} (hE : Ends L) : ∀ (f i deep op : Nat) (acc : List Tr) (p : Nat) (e : Int), i < L.length → L.length ≤ i + f → row L f i deep op acc = .bad p e → e ≠ 0 := by
  intro f
  induction f with
  | zero => intro i deep op acc p e hi hf h; omega
  | succ f ih =>
    intro i deep op acc p e hi hf h
    have he := hE i hi
    rw [row, Ends.get hi] at h
    split at h
    · split at h
      · injection h with _ h; subst h; decide
      · cases h
    rename_i h4
    have hi1 : i + 1 < L.length := by
      rcases Nat.lt_or_ge (i + 1) L.length with h' | h'
      · exact h'
      · exact absurd (he.2 (by omega)) h4
    split at h
    · split at h
      · injection h with _ h; subst h; decide
      · cases h
    split at h
    · split at h
      · injection h with _ h; subst h; decide
      · split at h
        · rename_i p' e' hr
          injection h with _ h
          subst h
          exact ih _ _ _ _ _ _ hi1 (by omega) hr
        · rename_i l' j' hr
          have hj := row_ok hE _ _ _ _ _ _ _ (by omega) hi1 hr
          exact ih _ _ _ _ _ _ hj.2 (by omega) h
    · exact ih _ _ _ _ _ _ hi1 (by omega) h
/-- What the parse of a text rests on. -/
theorem parse_row {s : List UInt8} {l : List Tr} {p : Nat} (h : parse s = (l, p, 0)) : ∃ body, Tok.lexF s = (body ++ [⟨4, s.length, []⟩], 0, 0) ∧ Tok.Ch s 0 false body ∧ row (body ++ [⟨4, s.length, []⟩]) (body.length + 1) 0 0 0 [] = .ok l body.length := by
  rcases hr : Tok.lexF s with ⟨L, q, er⟩
  by_cases he : er = 0
  · subst he
    obtain ⟨hE, h0, hLl, rfl⟩ := lexF_ends hr
    obtain ⟨body, rfl, hc⟩ := lexF_body hr
    rw [lexF_ok hr] at h
    rcases hw : row (body ++ [⟨4, s.length, []⟩]) (body ++ [(⟨4, s.length, []⟩ : Tk)]).length 0 0 0 [] with ⟨ns, j⟩ | ⟨pb, er⟩
    · rw [hw] at h
      injection h with h _
      subst h
      have ht := row_top hE _ _ _ _ _ _ h0 hw
      rw [List.length_append, List.length_singleton] at ht hw
      obtain rfl : j = body.length := by omega
      exact ⟨body, rfl, hc, hw⟩
    · have := row_err hE _ _ _ _ _ _ _ h0 (by omega) hw
      rw [hw] at h
      injection h with _ h
      injection h with _ h
      exact absurd h this
  · rw [lexF_err hr he] at h
    injection h with _ h; injection h with _ h; exact absurd h he
theorem parse_places {s : List UInt8} {l : List Tr} {p : Nat} (h : parse s = (l, p, 0)) : ∃ z, plcs s 0 l = some z := by
  obtain ⟨body, _, hc, hr⟩ := parse_row h
  obtain ⟨l2, e, hp⟩ := row_places (stand_of hc) _ _ _ _ _ _ _ (by simp) hr
  obtain ⟨z, h1, _⟩ := hp 0 (Nat.zero_le _)
  rw [List.nil_append] at e
  subst e
  exact ⟨z, h1⟩
end Go.Proofs.Ytnjhbhbohnjckaa.Tree
