/-
  Layer 40, plain: numbers read back; words found again.
-/
import Derived.Test.YtmhmpobjjhbklaaGreatDoorSP1
import Derived.Shelf.Strings.FieldsAny
import Derived.Lib.ParseIntBTie
set_option linter.unusedVariables false
set_option linter.unusedSimpArgs false
namespace Go.Proofs.YtmhmpobjjhbklaaGreatDoor.St
/-! Digits. -/
def isD (b : UInt8) : Bool := decide (48 ≤ b.toNat) && decide (b.toNat ≤ 57)
theorem isD_digit (d : Nat) (h : d < 10) : isD (UInt8.ofNat (48 + d)) = true ∧ (UInt8.ofNat (48 + d)).toNat = 48 + d := by
  have : (UInt8.ofNat (48 + d)).toNat = 48 + d := by rw [UInt8.toNat_ofNat']; omega
  refine ⟨?_, this⟩
  unfold isD
  rw [this]
  simp; omega
theorem dec_isD (n : Nat) : ∀ b ∈ Lib.decDigits n, isD b = true := by
  induction n using Nat.strongRecOn with
  | _ n ih =>
    intro b hb
    by_cases h : n < 10
    · rw [dec_small h] at hb
      rw [List.mem_singleton.1 hb]
      exact (isD_digit n h).1
    · rw [dec_big h] at hb
      rcases List.mem_append.1 hb with hb | hb
      · exact ih _ (by omega) b hb
      · rw [List.mem_singleton.1 hb]
        exact (isD_digit (n % 10) (by omega)).1
theorem dec_ne (n : Nat) : Lib.decDigits n ≠ [] := by
  by_cases h : n < 10
  · rw [dec_small h]; simp
  · rw [dec_big h]; simp
/-! strconv's numbers. -/
theorem parseUintM_app (M : Nat) (a b : List UInt8) (acc v : Nat) (h : Lib.parseUintM M acc a = .ok v) : Lib.parseUintM M acc (a ++ b) = Lib.parseUintM M v b := by
  induction a generalizing acc with
  | nil => simp only [Lib.parseUintM] at h; injection h with h; rw [h]; rfl
  | cons c a ih =>
    simp only [Lib.parseUintM, List.cons_append] at h ⊢
    split at h
    · split at h
      · cases h
      · split at h
        · cases h
        · rename_i h1 h2 h3
          rw [if_pos h1, if_neg h2, if_neg h3]
          exact ih _ h
    · cases h
theorem parseUintM_dec (n : Nat) (hn : n < 18446744073709551616) : Lib.parseUintM 18446744073709551615 0 (Lib.decDigits n) = .ok n := by
  induction n using Nat.strongRecOn with
  | _ n ih =>
    by_cases h : n < 10
    · rw [dec_small h]
      obtain ⟨-, hd⟩ := isD_digit n h
      simp only [Lib.parseUintM, hd]
      rw [if_pos (by omega), if_neg (by omega), if_neg (by omega)]
      congr 1; omega
    · rw [dec_big h, parseUintM_app _ _ _ _ _ (ih (n / 10) (by omega) (by omega))]
      obtain ⟨-, hd⟩ := isD_digit (n % 10) (by omega)
      simp only [Lib.parseUintM, hd]
      rw [if_pos (by omega), if_neg (by omega), if_neg (by omega)]
      congr 1; omega
theorem parseUintB_dec {n : Nat} (hn : n < 18446744073709551616) : Lib.parseUintB 64 (Lib.decDigits n) = .ok n := by
  unfold Lib.parseUintB
  rw [if_neg (dec_ne n)]
  exact parseUintM_dec n hn
theorem puint_dec {n : Nat} (hn : n < 18446744073709551616) : puint (Lib.decDigits n) = (n, true) := by
  unfold puint
  rw [parseUintB_dec hn]
theorem pint_itoa {z : Int} (h : InR z) : pint (Lib.itoa z) = (z, true) := by
  obtain ⟨h0, h1⟩ := h
  have hi : Lib.itoa z = if z < 0 then 45 :: Lib.decDigits z.natAbs else Lib.decDigits z.toNat := rfl
  by_cases hz : z < 0
  · rw [hi, if_pos hz]
    unfold pint
    rw [Lib.parseIntB_minus, parseUintB_dec (by omega)]
    simp only [Lib.signedC]
    rw [if_neg (by omega)]
    simp only
    congr 1; omega
  · rw [hi, if_neg hz]
    obtain ⟨c, r, hc⟩ : ∃ c r, Lib.decDigits z.toNat = c :: r := List.exists_cons_of_ne_nil (dec_ne _)
    have hd := dec_isD z.toNat c (by rw [hc]; simp)
    unfold isD at hd
    simp at hd
    have hd2 : 48 ≤ c.toNat ∧ c.toNat ≤ 57 := hd
    unfold pint
    rw [hc, Lib.parseIntB_plain _ _ _ (by omega) (by omega), ← hc, parseUintB_dec (by omega)]
    simp only [Lib.signlessC]
    rw [if_neg (by omega)]
    simp only
    congr 1; omega
theorem pint_in (l : List UInt8) : InR (pint l).1 := by
  unfold pint InR
  rcases h : Lib.parseIntB 64 l with v | _ | _
  · have := Lib.parseIntB_bounds h
    simp only at this ⊢; omega
  · simp
  · simp only
    unfold Lib.intSat
    split <;> omega
theorem puint_in (l : List UInt8) : (puint l).1 < 18446744073709551616 := by
  unfold puint
  rcases h : Lib.parseUintB 64 l with v | _ | _
  · have := Lib.parseUintB_le h
    simp only at this ⊢; omega
  · simp
  · simp
/-! The reference's numbers. -/
def natStep (n : Nat) (c : UInt8) : Nat := (10 * n + (c.toNat - 48)) % 18446744073709551616
def rdNat (s : List UInt8) : Nat × Bool := if s.all isD then (s.foldl natStep 0, !(s == []) && (Lib.decDigits (s.foldl natStep 0) == s)) else (0, false)
def wrapI (n : Nat) : Int := if n < 9223372036854775808 then (n : Int) else (n : Int) - 18446744073709551616
def negU (n : Nat) : Nat := if n = 0 then 0 else 18446744073709551616 - n
def rdNum (s : List UInt8) : Int × Bool :=
  if s.head? = some 45 then (wrapI (negU (rdNat s.tail).1), (rdNat s.tail).2 && (Lib.itoa (wrapI (negU (rdNat s.tail).1)) == s))
  else (wrapI (rdNat s).1, (rdNat s).2 && (Lib.itoa (wrapI (rdNat s).1) == s))
theorem fold_dec (n : Nat) (hn : n < 18446744073709551616) : (Lib.decDigits n).foldl natStep 0 = n := by
  induction n using Nat.strongRecOn with
  | _ n ih =>
    by_cases h : n < 10
    · rw [dec_small h]
      obtain ⟨-, hd⟩ := isD_digit n h
      simp only [List.foldl_cons, List.foldl_nil, natStep, hd]; omega
    · rw [dec_big h, List.foldl_append, ih (n / 10) (by omega) (by omega)]
      obtain ⟨-, hd⟩ := isD_digit (n % 10) (by omega)
      simp only [List.foldl_cons, List.foldl_nil, natStep, hd]; omega
theorem fold_lt (s : List UInt8) (n : Nat) (h : n < 18446744073709551616) : s.foldl natStep n < 18446744073709551616 := by
  induction s generalizing n with
  | nil => exact h
  | cons c s ih => exact ih _ (by unfold natStep; omega)
theorem rdNat_lt (s : List UInt8) : (rdNat s).1 < 18446744073709551616 := by
  unfold rdNat
  split
  · exact fold_lt _ _ (by omega)
  · simp
theorem rdNat_dec {n : Nat} (hn : n < 18446744073709551616) : rdNat (Lib.decDigits n) = (n, true) := by
  unfold rdNat
  rw [if_pos (List.all_eq_true.2 (dec_isD n)), fold_dec n hn]
  simp [dec_ne]
theorem negU_lt {n : Nat} (h : n < 18446744073709551616) : negU n < 18446744073709551616 := by unfold negU; split <;> omega
theorem wrapI_in {n : Nat} (h : n < 18446744073709551616) : InR (wrapI n) := by unfold wrapI InR; split <;> omega
theorem rdNum_in (s : List UInt8) : InR (rdNum s).1 := by
  unfold rdNum
  split
  · exact wrapI_in (negU_lt (rdNat_lt _))
  · exact wrapI_in (rdNat_lt _)
theorem rdNum_itoa {z : Int} (h : InR z) : rdNum (Lib.itoa z) = (z, true) := by
  obtain ⟨h0, h1⟩ := h
  have hi : Lib.itoa z = if z < 0 then 45 :: Lib.decDigits z.natAbs else Lib.decDigits z.toNat := rfl
  by_cases hz : z < 0
  · rw [if_pos hz] at hi
    have hw : wrapI (negU z.natAbs) = z := by
      have : negU z.natAbs = 18446744073709551616 - z.natAbs := by unfold negU; rw [if_neg (by omega)]
      rw [this]
      unfold wrapI
      split <;> omega
    unfold rdNum
    rw [hi]
    simp only [List.head?_cons, List.tail_cons, if_true, rdNat_dec (by omega : z.natAbs < 18446744073709551616), hw]
    rw [hi]; simp
  · rw [if_neg hz] at hi
    obtain ⟨c, r, hc⟩ : ∃ c r, Lib.decDigits z.toNat = c :: r := List.exists_cons_of_ne_nil (dec_ne _)
    have hd := dec_isD z.toNat c (by rw [hc]; simp)
    have hw : wrapI z.toNat = z := by unfold wrapI; rw [if_pos (by omega)]; omega
    unfold rdNum
    rw [if_neg]
    · rw [hi, rdNat_dec (by omega), hw, hi]; simp
    · rw [hi, hc]
      intro e
      simp at e
      subst e
      revert hd; decide
theorem rdNum_no {s : List UInt8} (c : UInt8) (r : List UInt8) (h : s = c :: r) (hc : c ≠ 45) (hd : isD c = false) : (rdNum s).2 = false := by
  subst h
  unfold rdNum
  rw [if_neg (by simpa using hc)]
  unfold rdNat
  rw [if_neg (by simp [hd])]
  rfl
/-! Words. -/
/-- A word of printable ASCII without a blank. -/
def w1 (w : List UInt8) : Bool := !(w == []) && w.all fun b => decide (33 ≤ b.toNat) && decide (b.toNat ≤ 126)
theorem w1_ne {w : List UInt8} (h : w1 w = true) : w ≠ [] := by unfold w1 at h; simp at h; exact h.1
theorem w1_mem {w : List UInt8} (h : w1 w = true) : ∀ b ∈ w, 33 ≤ b.toNat ∧ b.toNat ≤ 126 := by unfold w1 at h; simpa using (by simp at h; exact h.2)
theorem w1_dec (n : Nat) : w1 (Lib.decDigits n) = true := by
  unfold w1
  simp only [Bool.and_eq_true, List.all_eq_true]
  refine ⟨by simpa using dec_ne n, fun b hb => ?_⟩
  have := dec_isD n b hb
  unfold isD at this
  simp at this
  simp; omega
theorem w1_itoa (z : Int) : w1 (Lib.itoa z) = true := by
  have hi : Lib.itoa z = if z < 0 then 45 :: Lib.decDigits z.natAbs else Lib.decDigits z.toNat := rfl
  rw [hi]
  split
  · have := w1_dec z.natAbs
    unfold w1 at this ⊢
    simp at this ⊢
    exact this.2
  · exact w1_dec _
theorem isSp_no {b : UInt8} (h : 33 ≤ b.toNat) : Lib.isSp b = false := by
  have hne : ∀ c : UInt8, c.toNat < 33 → (b == c) = false := fun c hc => by
    rw [beq_eq_false_iff_ne]
    intro e
    subst e
    omega
  unfold Lib.isSp
  rw [hne 9 (by decide), hne 10 (by decide), hne 11 (by decide), hne 12 (by decide), hne 13 (by decide), hne 32 (by decide)]
  rfl
theorem go_word (w : List UInt8) (hw : ∀ b ∈ w, 33 ≤ b.toNat ∧ b.toNat ≤ 126) (cur t : List UInt8) : Lib.fieldsGo cur (w ++ t) = Lib.fieldsGo (cur ++ w) t := by
  induction w generalizing cur with
  | nil => simp
  | cons b w ih =>
    rw [List.cons_append, Lib.fieldsGo_more _ _ _ (isSp_no (hw b (by simp)).1), ih fun b hb => hw b (by simp [hb])]
    simp
theorem go_sp (ws : List (List UInt8)) (h : ∀ w ∈ ws, w1 w = true) (cur : List UInt8) (hc : cur ≠ []) : Lib.fieldsGo cur (sp ws) = cur :: ws := by
  induction ws generalizing cur with
  | nil =>
    show Lib.fieldsGo cur [] = _
    unfold Lib.fieldsGo
    rw [if_neg (by simpa using hc)]
  | cons w ws ih =>
    rw [sp_cons, List.cons_append, Lib.fieldsGo_end _ _ _ (by decide) hc, go_word w (w1_mem (h w (by simp))), List.nil_append, ih (fun w hw => h w (by simp [hw])) w (w1_ne (h w (by simp)))]
theorem sp_ascii {ws : List (List UInt8)} (h : ∀ w ∈ ws, w1 w = true) : ∀ b ∈ sp ws, b.toNat < 128 := by
  intro b hb
  unfold sp at hb
  obtain ⟨w, hw, hb⟩ := List.mem_flatMap.1 hb
  rcases List.mem_cons.1 hb with rfl | hb
  · decide
  · have := w1_mem (h w hw) b hb; omega
/-- strings.Fields finds the words again: behind two blanks, or at the start. -/
theorem fields_two {w : List UInt8} {ws : List (List UInt8)} (h : ∀ x ∈ w :: ws, w1 x = true) : Lib.fieldsD (32 :: sp (w :: ws)) = w :: ws := by
  rw [Lib.fieldsD_ascii _ (by
    intro b hb
    rcases List.mem_cons.1 hb with rfl | hb
    · decide
    · exact sp_ascii h b hb)]
  unfold Lib.fields
  rw [sp_cons, List.cons_append, Lib.fieldsGo_sp _ _ (by decide), Lib.fieldsGo_sp _ _ (by decide), go_word w (w1_mem (h w (by simp))), List.nil_append, go_sp ws (fun x hx => h x (by simp [hx])) w (w1_ne (h w (by simp)))]
theorem fields_zero {w : List UInt8} {ws : List (List UInt8)} (h : ∀ x ∈ w :: ws, w1 x = true) : Lib.fieldsD (w ++ sp ws) = w :: ws := by
  rw [Lib.fieldsD_ascii _ (by
    intro b hb
    rcases List.mem_append.1 hb with hb | hb
    · have := w1_mem (h w (by simp)) b hb; omega
    · exact sp_ascii (fun x hx => h x (by simp [hx])) b hb)]
  unfold Lib.fields
  rw [go_word w (w1_mem (h w (by simp))), List.nil_append, go_sp ws (fun x hx => h x (by simp [hx])) w (w1_ne (h w (by simp)))]
/-- The reference's words: cut at each blank. -/
def wordsGo : List UInt8 → List UInt8 → List (List UInt8)
  | cur, [] => [cur]
  | cur, b :: t => if b = 32 then cur :: wordsGo [] t else wordsGo (cur ++ [b]) t
def words (s : List UInt8) : List (List UInt8) := wordsGo [] s
theorem wordsGo_word (w : List UInt8) (hw : ∀ b ∈ w, b ≠ 32) (cur t : List UInt8) : wordsGo cur (w ++ t) = wordsGo (cur ++ w) t := by
  induction w generalizing cur with
  | nil => simp
  | cons b w ih =>
    rw [List.cons_append, wordsGo, if_neg (hw b (by simp)), ih fun b hb => hw b (by simp [hb])]
    simp
theorem wordsGo_sp (ws : List (List UInt8)) (h : ∀ w ∈ ws, ∀ b ∈ w, b ≠ 32) (cur : List UInt8) : wordsGo cur (sp ws) = cur :: ws := by
  induction ws generalizing cur with
  | nil => rfl
  | cons w ws ih =>
    rw [sp_cons, List.cons_append, wordsGo, if_pos rfl, wordsGo_word w (h w (by simp)), List.nil_append, ih (fun w hw => h w (by simp [hw])) w]
theorem w1_blank {w : List UInt8} (h : w1 w = true) : ∀ b ∈ w, b ≠ 32 := fun b hb e => by
  have := w1_mem h b hb
  subst e
  revert this; decide
theorem words_zero {w : List UInt8} {ws : List (List UInt8)} (h : ∀ x ∈ w :: ws, w1 x = true) : words (w ++ sp ws) = w :: ws := by
  unfold words
  rw [wordsGo_word w (w1_blank (h w (by simp))), List.nil_append, wordsGo_sp ws fun x hx => w1_blank (h x (by simp [hx]))]
theorem words_two {ws : List (List UInt8)} (h : ∀ x ∈ ws, w1 x = true) : words (32 :: sp ws) = [] :: [] :: ws := by
  unfold words
  rw [show (32 :: sp ws : List UInt8) = sp ([] :: ws) from rfl, wordsGo_sp]
  intro w hw
  rcases List.mem_cons.1 hw with rfl | hw
  · simp
  · exact w1_blank (h w hw)
set_option maxRecDepth 100000 in
theorem w1_ops : ∀ x ∈ Opc.all, w1 x.2 = true := by decide +kernel
set_option maxRecDepth 100000 in
theorem w1_kinds : ∀ x ∈ kindW, w1 x = true := by decide +kernel
set_option maxRecDepth 100000 in
theorem w1_ends : ∀ x ∈ endW, w1 x = true := by decide +kernel
end Go.Proofs.YtmhmpobjjhbklaaGreatDoor.St
