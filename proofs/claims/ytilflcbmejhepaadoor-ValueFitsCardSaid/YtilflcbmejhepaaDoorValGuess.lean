/-
  Layer 27: the two guesses find the value from its text; the two parses agree.
-/
import Derived.Test.YtilflcbmejhepaaDoorValPlain
import Derived.Lib.IndexMore
set_option linter.unusedVariables false
namespace Go.Proofs.YtilflcbmejhepaaDoor.Val
open Go.Lib

theorem index_sp : ∀ (a b : List UInt8), (∀ c ∈ a, c ≠ 32) → index (a ++ 32 :: b) [32] = (a.length : Int)
  | [], b, _ => by rw [List.nil_append, index, if_pos (by simp)]; rfl
  | c :: a, b, h => by
    have hc := h c (by simp)
    have ih := index_sp a b fun d hd => h d (by simp [hd])
    rw [List.cons_append, index, if_neg (by simpa using fun e : (32 : UInt8) = c => hc e.symm), ih, if_neg (by simp)]
    simp
theorem cut_sp (a b : List UInt8) (h : ∀ c ∈ a, c ≠ 32) : cut (a ++ 32 :: b) [32] = (a, b, true) := by
  unfold cut
  rw [index_sp a b h, if_pos (by omega)]
  simp

def intOf (l : List UInt8) : Int := match parseIntB 64 l with | .ok k => k | .syntax => 0 | .range => intSat 64 l
def uintOf (l : List UInt8) : Nat := match parseUintB 64 l with | .ok u => u | .syntax => 0 | .range => 18446744073709551615
/-- The program's guess out of the word and the rest. -/
def gP (word rest : List UInt8) : V :=
  if word = [105, 51, 50] then ⟨1, ((intOf rest) % 4294967296).toNat⟩
  else if word = [105, 54, 52] then ⟨2, ((intOf rest) % 18446744073709551616).toNat⟩
  else if word = [114, 101, 102, 46] ++ bFunc then ⟨3, (uintOf rest + 1) % 18446744073709551616⟩
  else if word = [114, 101, 102, 46] ++ bExtern then ⟨4, (uintOf rest + 1) % 18446744073709551616⟩
  else if rest = bFunc then ⟨3, 0⟩ else ⟨4, 0⟩
def pv (s : List UInt8) : V := gP (cut s [32]).1 (cut s [32]).2.1
/-- The reference's guess. -/
def begins (s w : List UInt8) : Bool := decide (s.take w.length = w)
def rg (s : List UInt8) : V :=
  if begins s [105, 51, 50, 32] = true then ⟨1, sgn (minus s) (dg 0 (s.drop 4)) % 4294967296⟩
  else if begins s [105, 54, 52, 32] = true then ⟨2, sgn (minus s) (dg 0 (s.drop 4))⟩
  else if s = [114, 101, 102, 46, 110, 117, 108, 108, 32] ++ bFunc then ⟨3, 0⟩
  else if s = [114, 101, 102, 46, 110, 117, 108, 108, 32] ++ bExtern then ⟨4, 0⟩
  else if begins s ([114, 101, 102, 46] ++ bFunc ++ [32]) = true then ⟨3, (dg 0 s + 1) % 18446744073709551616⟩
  else if begins s ([114, 101, 102, 46] ++ bExtern ++ [32]) = true then ⟨4, (dg 0 s + 1) % 18446744073709551616⟩
  else ⟨0, 0⟩

theorem intOf_itoa (k : Int) (h0 : -9223372036854775808 ≤ k) (h1 : k ≤ 9223372036854775807) : intOf (itoa k) = k := by unfold intOf; rw [parseI_itoa k h0 h1]
theorem uintOf_dec (u : Nat) (h : u < 18446744073709551616) : uintOf (decDigits u) = u := by unfold uintOf; rw [parseU_dec u h]
theorem uintOf_lt (l : List UInt8) : uintOf l < 18446744073709551616 := by
  unfold uintOf
  split
  · rename_i u h
    unfold parseUintB at h
    split at h
    · cases h
    · have : ∀ (l : List UInt8) (a u : Nat), a < 18446744073709551616 → parseUintM (2 ^ 64 - 1) a l = .ok u → u < 18446744073709551616 := by
        intro l
        induction l with
        | nil => intro a u ha h; rw [parseUintM] at h; injection h with h; omega
        | cons c r ih =>
          intro a u ha h
          rw [parseUintM] at h
          split at h
          · split at h
            · cases h
            · split at h
              · cases h
              · exact ih _ _ (by omega) h
          · cases h
      exact this l 0 u (by omega) h
  · omega
  · omega
theorem right_iff (v : V) : right v = true ↔ 1 ≤ v.t ∧ v.t ≤ 4 ∧ (v.t = 1 → v.n < 4294967296) := by unfold right; exact decide_eq_true_iff
theorem text_right {v : V} (h : text v ≠ []) : right v = true := by
  unfold text at h
  split at h
  · assumption
  · exact absurd rfl h
theorem text_ne {v : V} (h : right v = true) : text v ≠ [] := by
  unfold text refT
  rw [if_pos h]
  repeat' split
  all_goals simp
/-- The program's guess at a text. -/
theorem pv_text {v : V} (h : right v = true) (hn : v.n < 18446744073709551616) : pv (text v) = v := by
  have hr := (right_iff v).1 h
  obtain ⟨t, n⟩ := v
  dsimp only at hr hn
  unfold pv text refT
  rw [if_pos h]
  dsimp only
  by_cases h1 : t = 1
  · subst h1
    rw [if_pos rfl, show [105, 51, 50, 32] ++ itoa (s32 n) = [105, 51, 50] ++ 32 :: itoa (s32 n) from rfl, cut_sp _ _ (by decide)]
    dsimp only
    have hb := s32_in n
    rw [gP, if_pos rfl, intOf_itoa _ (by omega) (by omega)]
    have := hr.2.2 rfl
    congr 1
    unfold s32
    split <;> omega
  · rw [if_neg h1]
    by_cases h2 : t = 2
    · subst h2
      rw [if_pos rfl, show [105, 54, 52, 32] ++ itoa (s64 n) = [105, 54, 52] ++ 32 :: itoa (s64 n) from rfl, cut_sp _ _ (by decide)]
      dsimp only
      have hb := s64_in hn
      rw [gP, if_neg (by decide), if_pos rfl, intOf_itoa _ (by omega) (by omega), s64_bits hn]
    · rw [if_neg h2]
      by_cases h3 : t = 3
      · subst h3
        rw [if_pos rfl]
        by_cases h0 : n = 0
        · subst h0
          rw [if_pos rfl, show [114, 101, 102, 46, 110, 117, 108, 108, 32] ++ bFunc = [114, 101, 102, 46, 110, 117, 108, 108] ++ 32 :: bFunc from rfl, cut_sp _ _ (by decide)]
          rfl
        · rw [if_neg h0, show [114, 101, 102, 46] ++ bFunc ++ [32] ++ decDigits (n - 1) = ([114, 101, 102, 46] ++ bFunc) ++ 32 :: decDigits (n - 1) from by simp, cut_sp _ _ (by decide)]
          dsimp only
          rw [gP, if_neg (by decide), if_neg (by decide), if_pos rfl, uintOf_dec _ (by omega)]
          congr 1; omega
      · have h4 : t = 4 := by omega
        subst h4
        rw [if_neg h3]
        by_cases h0 : n = 0
        · subst h0
          rw [if_pos rfl, show [114, 101, 102, 46, 110, 117, 108, 108, 32] ++ bExtern = [114, 101, 102, 46, 110, 117, 108, 108] ++ 32 :: bExtern from rfl, cut_sp _ _ (by decide)]
          rfl
        · rw [if_neg h0, show [114, 101, 102, 46] ++ bExtern ++ [32] ++ decDigits (n - 1) = ([114, 101, 102, 46] ++ bExtern) ++ 32 :: decDigits (n - 1) from by simp, cut_sp _ _ (by decide)]
          dsimp only
          rw [gP, if_neg (by decide), if_neg (by decide), if_neg (by decide), if_pos rfl, uintOf_dec _ (by omega)]
          congr 1; omega
theorem begins_app (w r : List UInt8) : begins (w ++ r) w = true := by unfold begins; rw [List.take_left]; simp
theorem begins_no {s w : List UInt8} {c d : UInt8} {i : Nat} (hs : s[i]? = some c) (hw : w[i]? = some d) (h : c ≠ d) : begins s w = false := by
  unfold begins
  rw [decide_eq_false_iff_not]
  intro e
  have hi : i < w.length := (List.getElem?_eq_some_iff.1 hw).1
  have := congrArg (fun l => l[i]?) e
  simp only [List.getElem?_take, if_pos hi] at this
  rw [hs, hw] at this
  injection this with this
  exact h this
theorem not_same {a b : List UInt8} {i : Nat} {c d : UInt8} (e : a = b) (h1 : a[i]? = some c) (h2 : b[i]? = some d) (h : c ≠ d) : False := by
  rw [e, h2] at h1
  injection h1 with h1
  exact h h1.symm
theorem minus_no (a : List UInt8) (h : ∀ c ∈ a, c ≠ 45) : minus a = false := by
  unfold minus
  rw [List.any_eq_false]
  intro c hc e
  exact h c hc (by simpa using e)
/-- The reference's guess at a text. -/
theorem rg_text {v : V} (h : right v = true) (hn : v.n < 18446744073709551616) : rg (text v) = v := by
  have hr := (right_iff v).1 h
  obtain ⟨t, n⟩ := v
  dsimp only at hr hn
  unfold text refT
  rw [if_pos h]
  dsimp only
  by_cases h1 : t = 1
  · subst h1
    have hb := s32_in n
    rw [if_pos rfl, rg, if_pos (begins_app _ _), minus_app, minus_no [105, 51, 50, 32] (by decide), Bool.false_or, show List.drop 4 ([105, 51, 50, 32] ++ itoa (s32 n)) = itoa (s32 n) from rfl]
    have hg := itoa_guess (s32 n) (by omega) (by omega)
    have := hr.2.2 rfl
    have hs := s32_bits this
    congr 1
    omega
  · rw [if_neg h1]
    by_cases h2 : t = 2
    · subst h2
      have hb := s64_in hn
      rw [if_pos rfl, rg, if_neg (by rw [begins_no (i := 1) (c := 54) (d := 51) (by rfl) (by rfl) (by decide)]; decide), if_pos (begins_app _ _), minus_app, minus_no [105, 54, 52, 32] (by decide), Bool.false_or, show List.drop 4 ([105, 54, 52, 32] ++ itoa (s64 n)) = itoa (s64 n) from rfl]
      have hg := itoa_guess (s64 n) (by omega) (by omega)
      have hs := s64_bits hn
      congr 1
      omega
    · rw [if_neg h2]
      by_cases h3 : t = 3
      · subst h3
        rw [if_pos rfl]
        by_cases h0 : n = 0
        · subst h0
          rw [if_pos rfl]
          rfl
        · rw [if_neg h0, rg, if_neg (by rw [begins_no (i := 0) (c := 114) (d := 105) (by rfl) (by rfl) (by decide)]; decide), if_neg (by rw [begins_no (i := 0) (c := 114) (d := 105) (by rfl) (by rfl) (by decide)]; decide),
            if_neg (fun e => not_same (i := 4) e (by rfl) (by rfl) (by decide)), if_neg (fun e => not_same (i := 4) e (by rfl) (by rfl) (by decide)), if_pos (begins_app _ _)]
          rw [dg_app, dg_none ([114, 101, 102, 46] ++ bFunc ++ [32]) 0 (by decide), dg_dec _ (by omega)]
          congr 1; omega
      · have h4 : t = 4 := by omega
        subst h4
        rw [if_neg h3]
        by_cases h0 : n = 0
        · subst h0
          rw [if_pos rfl]
          rfl
        · rw [if_neg h0, rg, if_neg (by rw [begins_no (i := 0) (c := 114) (d := 105) (by rfl) (by rfl) (by decide)]; decide), if_neg (by rw [begins_no (i := 0) (c := 114) (d := 105) (by rfl) (by rfl) (by decide)]; decide),
            if_neg (fun e => not_same (i := 4) e (by rfl) (by rfl) (by decide)), if_neg (fun e => not_same (i := 4) e (by rfl) (by rfl) (by decide)), if_neg (by rw [begins_no (i := 4) (c := 101) (d := 102) (by rfl) (by rfl) (by decide)]; decide), if_pos (begins_app _ _)]
          rw [dg_app, dg_none ([114, 101, 102, 46] ++ bExtern ++ [32]) 0 (by decide), dg_dec _ (by omega)]
          congr 1; omega
theorem pv_lt (s : List UInt8) : (pv s).n < 18446744073709551616 := by
  unfold pv gP
  repeat' split
  all_goals (dsimp only; omega)
theorem dg_lt : ∀ (s : List UInt8) (n : Nat), n < 18446744073709551616 → dg n s < 18446744073709551616
  | [], n, h => by rw [dg]; exact h
  | c :: s, n, h => by rw [dg]; split <;> exact dg_lt s _ (by omega)
theorem sgn_lt (b : Bool) {n : Nat} (h : n < 18446744073709551616) : sgn b n < 18446744073709551616 := by unfold sgn; split <;> omega
theorem rg_lt (s : List UInt8) : (rg s).n < 18446744073709551616 := by
  unfold rg
  have h := sgn_lt (minus s) (dg_lt (s.drop 4) 0 (by omega))
  repeat' split
  all_goals (dsimp only; omega)
def parse (s : List UInt8) : V × Bool := if text (pv s) = s then (pv s, true) else (⟨0, 0⟩, false)
theorem pv_nil : text (pv []) ≠ [] := by decide
theorem parse_some {s : List UInt8} (h : text (pv s) = s) : right (pv s) = true := by
  apply text_right
  intro e
  rw [e] at h
  subst h
  exact pv_nil e
/-- THE LAW: the reference's parse is the program's. -/
theorem parse_ref (s : List UInt8) : (if s = [] ∨ text (rg s) ≠ s then (⟨0, 0⟩, false) else (rg s, true)) = parse s := by
  unfold parse
  by_cases h : text (pv s) = s
  · have hr := parse_some h
    have e := rg_text hr (pv_lt s)
    rw [h] at e
    rw [if_pos h, if_neg, e]
    intro hh
    rcases hh with hh | hh
    · subst hh; exact pv_nil h
    · exact hh (by rw [e]; exact h)
  · rw [if_neg h, if_pos]
    by_cases h0 : s = []
    · exact .inl h0
    · right
      intro hh
      have hr : right (rg s) = true := text_right (by rw [hh]; exact h0)
      have e := pv_text hr (rg_lt s)
      rw [hh] at e
      exact h (by rw [e]; exact hh)
/-- Parse inverts Text. -/
theorem parse_text {v : V} (h : right v = true) (hn : v.n < 18446744073709551616) : parse (text v) = (v, true) := by
  unfold parse
  rw [pv_text h hn, if_pos rfl]
theorem parse_empty : parse [] = (⟨0, 0⟩, false) := by decide
end Go.Proofs.YtilflcbmejhepaaDoor.Val
