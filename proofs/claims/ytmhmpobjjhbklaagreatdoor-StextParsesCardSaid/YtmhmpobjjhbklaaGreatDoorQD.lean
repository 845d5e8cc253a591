/-
  Layer 40: Both parsers line by line; the reference's readFunc.
-/
import Derived.Test.YtmhmpobjjhbklaaGreatDoorQB
import Derived.Test.YtmhmpobjjhbklaaGreatDoorSQ9
import Derived.Test.YtmhmpobjjhbklaaGreatDoorPB
import Derived.Test.YtmhmpobjjhbklaaGreatDoorTk
set_option linter.unusedVariables false
set_option linter.unusedSimpArgs false
namespace Go.Proofs.YtmhmpobjjhbklaaGreatDoor.St
/-! The line 'func'. -/
def rfuncP (s : W) : (List Int × List Int) × Bool :=
  if 5 ≤ s.length ∧ s.take 5 = lFn then
    if (typedR (s.drop 5)).2.2 = true ∧ 4 ≤ (typedR (s.drop 5)).2.1.length then
      (((typedR (s.drop 5)).1, (typedR ((typedR (s.drop 5)).2.1.drop 4)).1), (typedR ((typedR (s.drop 5)).2.1.drop 4)).2.2 && (lFn ++ Ty.text (typedR (s.drop 5)).1 (typedR ((typedR (s.drop 5)).2.1.drop 4)).1 == s))
    else (([], []), false)
  else (([], []), false)
theorem tyGo_skip {s : W} {i f : Nat} {out : List Int} (hi : i < s.length) (h1 : s[i] ≠ 44) (h2 : s[i] ≠ 41) : tyGo s (s.length - i) f i out = tyGo s (s.length - (i + 1)) f (i + 1) out := by
  rw [show s.length - i = (s.length - (i + 1)) + 1 by omega]
  conv => lhs; unfold tyGo
  rw [List.getElem?_eq_getElem hi, if_neg (by simpa using h1), if_neg (by simpa using h2)]
theorem drop_cons {s t : W} {b : UInt8} {i : Nat} (h : s.drop i = b :: t) : ∃ hi : i < s.length, s[i] = b ∧ s.drop (i + 1) = t := by
  have hi : i < s.length := by
    rcases Nat.lt_or_ge i s.length with h' | h'
    · exact h'
    · rw [List.drop_of_length_le h'] at h; cases h
  rw [List.drop_eq_getElem_cons hi] at h
  injection h with h1 h2
  exact ⟨hi, h1, h2⟩
theorem tyGo_word {s : W} {f : Nat} {out : List Int} : ∀ (w t : W) (i : Nat), s.drop i = w ++ t → 44 ∉ w → 41 ∉ w → tyGo s (s.length - i) f i out = tyGo s (s.length - (i + w.length)) f (i + w.length) out ∧ s.drop (i + w.length) = t
  | [], t, i, h, _, _ => ⟨rfl, h⟩
  | b :: w, t, i, h, h1, h2 => by
    obtain ⟨hi, hb, ht⟩ := drop_cons h
    simp only [List.mem_cons, not_or] at h1 h2
    obtain ⟨i1, i2⟩ := tyGo_word w t (i + 1) ht h1.2 h2.2
    rw [tyGo_skip hi (by rw [hb]; exact fun e => h1.1 e.symm) (by rw [hb]; exact fun e => h2.1 e.symm), i1, List.length_cons, show i + (w.length + 1) = i + 1 + w.length by omega]
    exact ⟨rfl, i2⟩
theorem drop_take_mid {s w t : W} {i : Nat} (h : s.drop i = w ++ t) : (s.take (i + w.length)).drop i = w := by
  rw [List.drop_take, h, show i + w.length - i = w.length by omega, List.take_left]
theorem addV_name {out : List Int} {v : Int} (h : Ty.val v = true) : addV out (Ty.name v) = out ++ [v] := by
  unfold addV
  rw [(name_facts h).1]; simp
theorem addV_nil (out : List Int) : addV out [] = out := by
  unfold addV
  rw [if_neg (by decide)]
theorem tyGo_end {s t : W} {f i : Nat} {out : List Int} (h : s.drop i = 41 :: t) : tyGo s (s.length - i) f i out = (addV out ((s.take i).drop (min f i)), t, true) := by
  obtain ⟨hi, hb, ht⟩ := drop_cons h
  rw [show s.length - i = (s.length - (i + 1)) + 1 by omega]
  conv => lhs; unfold tyGo
  rw [List.getElem?_eq_getElem hi, hb, if_neg (by decide), if_pos rfl, ht]
theorem tyGo_comma {s t : W} {f i : Nat} {out : List Int} (h : s.drop i = 44 :: 32 :: t) : tyGo s (s.length - i) f i out = tyGo s (s.length - (i + 2)) (i + 2) (i + 2) (addV out ((s.take i).drop (min f i))) ∧ s.drop (i + 2) = t := by
  obtain ⟨hi, hb, ht⟩ := drop_cons h
  obtain ⟨hi2, hb2, ht2⟩ := drop_cons ht
  refine ⟨?_, ht2⟩
  rw [show s.length - i = (s.length - (i + 1)) + 1 by omega]
  conv => lhs; unfold tyGo
  rw [List.getElem?_eq_getElem hi, hb, if_pos rfl, tyGo_skip hi2 (by rw [hb2]; decide) (by rw [hb2]; decide), show min (i + 2) s.length = i + 2 by omega]
theorem tyGo_list {s rest : W} : ∀ (l : List Int) (i : Nat) (out : List Int), l.all Ty.val = true → s.drop i = Lib.join (l.map Ty.name) [44, 32] ++ 41 :: rest → tyGo s (s.length - i) i i out = (out ++ l, rest, true)
  | [], i, out, _, h => by
    rw [tyGo_end (t := rest) h, Nat.min_self, List.drop_of_length_le (by rw [List.length_take]; omega), addV_nil, List.append_nil]
  | [v], i, out, hv, h => by
    have hv1 : Ty.val v = true := by simpa using hv
    have nf := name_facts hv1
    have h' : s.drop i = Ty.name v ++ 41 :: rest := by rw [h, List.map_cons, Lib.join_cons]; simp [Lib.joinTail]
    obtain ⟨i1, i2⟩ := tyGo_word (f := i) (out := out) _ _ i h' nf.2.2.2.1 nf.2.2.2.2.1
    rw [i1, tyGo_end i2, show min i (i + (Ty.name v).length) = i by omega, drop_take_mid h', addV_name hv1]
  | v :: u :: l, i, out, hv, h => by
    have hv1 : Ty.val v = true := (List.all_eq_true.1 hv) v (by simp)
    have hv2 : (u :: l).all Ty.val = true := by rw [List.all_cons] at hv; simp only [Bool.and_eq_true] at hv; exact hv.2
    have nf := name_facts hv1
    have h' : s.drop i = Ty.name v ++ 44 :: 32 :: (Lib.join ((u :: l).map Ty.name) [44, 32] ++ 41 :: rest) := by
      rw [h, List.map_cons, Lib.join_cons, joinTail_ne _ (by simp)]; simp
    obtain ⟨i1, i2⟩ := tyGo_word (f := i) (out := out) _ _ i h' nf.2.2.2.1 nf.2.2.2.2.1
    obtain ⟨j1, j2⟩ := tyGo_comma (f := i) (out := out) i2
    rw [i1, j1, show min i (i + (Ty.name v).length) = i by omega, drop_take_mid h', addV_name hv1, tyGo_list (u :: l) _ _ hv2 j2]
    simp
theorem typedR_back {l : List Int} (h : l.all Ty.val = true) (rest : W) : typedR (Ty.list l ++ rest) = (l, rest, true) := by
  have e : Ty.list l ++ rest = 40 :: (Lib.join (l.map Ty.name) [44, 32] ++ 41 :: rest) := by unfold Ty.list; rw [shown_name h]; simp
  unfold typedR
  rw [e, List.head?_cons, if_pos rfl, tyGo_list l 1 [] h rfl, List.nil_append]
theorem rfuncP_back {ps rs : List Int} (h1 : ps.all Ty.val = true) (h2 : rs.all Ty.val = true) : rfuncP (lFn ++ Ty.text ps rs) = ((ps, rs), true) := by
  have hd : (lFn ++ Ty.text ps rs).drop 5 = Ty.list ps ++ ([32, 45, 62, 32] ++ Ty.list rs) := rfl
  have ht : (lFn ++ Ty.text ps rs).take 5 = lFn := rfl
  have hl : 5 ≤ (lFn ++ Ty.text ps rs).length := by rw [List.length_append]; simp [lFn]
  unfold rfuncP
  rw [if_pos ⟨hl, ht⟩, hd, typedR_back h1]
  dsimp only
  rw [if_pos ⟨rfl, by simp⟩, show (([32, 45, 62, 32] : W) ++ Ty.list rs).drop 4 = Ty.list rs ++ [] by simp, typedR_back h2]
  simp
theorem addV_val {out : List Int} {w : W} (h : out.all Ty.val = true) : (addV out w).all Ty.val = true := by
  unfold addV
  split
  · rename_i hf
    rw [List.all_append, h]
    simp [(find_val hf).1]
  · exact h
theorem tyGo_val (s : W) : ∀ (n f i : Nat) (out : List Int), out.all Ty.val = true → (tyGo s n f i out).1.all Ty.val = true
  | 0, f, i, out, _ => rfl
  | n + 1, f, i, out, h => by
    unfold tyGo
    split
    · exact tyGo_val s n _ _ _ (addV_val h)
    · split
      · exact addV_val h
      · exact tyGo_val s n _ _ _ h
theorem typedR_val (s : W) : (typedR s).1.all Ty.val = true := by
  unfold typedR
  split
  · exact tyGo_val _ _ _ _ _ rfl
  · rfl
theorem rfuncP_some {s : W} (h : (rfuncP s).2 = true) : (rfuncP s).1.1.all Ty.val = true ∧ (rfuncP s).1.2.all Ty.val = true ∧ lFn ++ Ty.text (rfuncP s).1.1 (rfuncP s).1.2 = s := by
  unfold rfuncP at h ⊢
  split
  · rename_i h1
    rw [if_pos h1] at h
    split
    · rename_i h2
      rw [if_pos h2] at h
      simp only [Bool.and_eq_true, beq_iff_eq] at h
      exact ⟨typedR_val _, typedR_val _, h.2⟩
    · rename_i h2; rw [if_neg h2] at h; cases h
  · rename_i h1; rw [if_neg h1] at h; cases h
theorem func_same (s : W) : (rfuncP s).2 = line1B s ∧ (line1B s = true → (rfuncP s).1 = (typeP s).1) := by
  rcases h : line1B s with _ | _
  · refine ⟨?_, by simp⟩
    rcases h2 : (rfuncP s).2 with _ | _
    · rfl
    · obtain ⟨v1, v2, e⟩ := rfuncP_some h2
      have := line1_back v1 v2
      rw [e, h] at this; cases this
  · have h' := h
    unfold line1B at h
    simp only [Bool.and_eq_true, beq_iff_eq] at h
    obtain ⟨v1, v2⟩ := typeP_val h.1
    have := rfuncP_back v1 v2
    rw [h.2] at this
    exact ⟨by rw [this], fun _ => by rw [this]⟩
/-! The line 'vals'. -/
def rvalsB (s : W) : Bool := (valsP (words s).tail).2 && ((words s).head? == some lVals)
theorem join_wordsGo (s : W) : ∀ cur : W, Lib.join (wordsGo cur s) [32] = cur ++ s := by
  induction s with
  | nil => intro cur; simp [wordsGo, join_sp, sp]
  | cons b s ih =>
    intro cur
    unfold wordsGo
    split
    · rename_i hb
      subst hb
      rw [Lib.join_cons, joinTail_ne _ (show wordsGo [] s ≠ [] from words_ne s), ih]
      simp
    · rw [ih]; simp
theorem join_words (s : W) : Lib.join (words s) [32] = s := by unfold words; rw [join_wordsGo]; rfl
theorem find_name {w : W} (h : (Ty.find w).2 = true) : Ty.name (Ty.find w).1 = w := by
  unfold Ty.find at h ⊢
  split
  · rename_i e; rw [← e]
  · split
    · rename_i e; rw [← e]
    · split
      · rename_i e; rw [← e]
      · split
        · rename_i e; rw [← e]
        · rename_i a b c d
          rw [if_neg a, if_neg b, if_neg c, if_neg d] at h
          cases h
theorem valsP_names {ws : List W} (h : (valsP ws).2 = true) : (valsP ws).1.map Ty.name = ws := by
  unfold valsP at h ⊢
  split
  · rename_i h1
    dsimp only
    rw [List.map_map]
    refine Eq.trans (List.map_congr_left fun w hw => ?_) (List.map_id ws)
    exact find_name (List.all_eq_true.1 h1 w hw)
  · rename_i h1; rw [if_neg h1] at h; cases h
theorem head_tail {L : List W} {w : W} (h : L.head? = some w) : L = w :: L.tail := by
  rcases L with _ | ⟨a, l⟩
  · cases h
  · simp at h; subst h; rfl
theorem vals_same (s : W) : rvalsB s = line2B s ∧ (line2B s = true → (valsP (words s).tail).1 = (valsP (Lib.fieldsD s).tail).1) := by
  rcases h : line2B s with _ | _
  · refine ⟨?_, by simp⟩
    rcases h2 : rvalsB s with _ | _
    · rfl
    · unfold rvalsB at h2
      simp only [Bool.and_eq_true, beq_iff_eq] at h2
      obtain ⟨v1, v2⟩ := h2
      have e : valsO (valsP (words s).tail).1 = s := by
        unfold valsO
        rw [valsP_names v1, show ([118, 97, 108, 115] : W) = lVals from rfl, ← head_tail v2, join_words]
      have := (line2_back (valsP_val v1)).1
      rw [e, h] at this; cases this
  · unfold line2B at h
    simp only [Bool.and_eq_true, beq_iff_eq] at h
    obtain ⟨h1, h2, h3⟩ := h
    have hv := valsP_val h2
    have hw : words s = lVals :: (valsP (Lib.fieldsD s).tail).1.map Ty.name := by
      obtain ⟨l, hl⟩ : ∃ l, (valsP (Lib.fieldsD s).tail).1 = l := ⟨_, rfl⟩
      rw [hl] at h3 hv ⊢
      rw [← h3, valsO_words]
      exact words_zero fun w hw => by
        rcases List.mem_cons.1 hw with rfl | hw
        · decide
        · exact w1_names hv w hw
    unfold rvalsB
    rw [hw, List.tail_cons, valsP_back hv]
    exact ⟨by simp, fun _ => rfl⟩
/-! The line that begins a block. -/
theorem rdNum_can {w : W} (h : (rdNum w).2 = true) : Lib.itoa (rdNum w).1 = w := by
  unfold rdNum at h ⊢
  split
  · rename_i h1; rw [if_pos h1] at h; simp only [Bool.and_eq_true, beq_iff_eq] at h; exact h.2
  · rename_i h1; rw [if_neg h1] at h; simp only [Bool.and_eq_true, beq_iff_eq] at h; exact h.2
theorem numsR_can : ∀ (l : List W), (numsR l).length = l.length → (numsR l).map Lib.itoa = l
  | [], _ => rfl
  | w :: l, h => by
    unfold numsR at h ⊢
    split
    · rename_i h1
      rw [if_pos h1] at h
      rw [List.map_cons, rdNum_can h1, numsR_can l (by simpa using h)]
    · rename_i h1; rw [if_neg h1] at h; simp at h
theorem block_same (s : W) (hs : (Lib.fieldsD s).length ≤ 5000) : (rblockP s).2 = (blockP s).2 ∧ ((blockP s).2 = true → (rblockP s).1 = (blockP s).1) := by
  rcases h : (blockP s).2 with _ | _
  · refine ⟨?_, by simp⟩
    rcases h2 : (rblockP s).2 with _ | _
    · rfl
    · unfold rblockP at h2
      split at h2
      · rename_i h1
        have hn : (numsR (words s).tail).length = (words s).tail.length := by simpa using h2
        have e : blkO ⟨numsR (words s).tail, [], fin0z⟩ = s := by
          rw [blkO_words]
          dsimp only
          rw [numsR_can _ hn, ← join_sp, show ([98, 108, 111, 99, 107] : W) = lBlock from rfl, ← head_tail h1, join_words]
        have := blockP_back (b := ⟨numsR (words s).tail, [], fin0z⟩) (numsR_in _)
        rw [e] at this
        rw [this] at h; cases h
      · cases h2
  · have h3 := blockP_some h
    have h4 := (blockP_ok hs).2
    have hw : words s = lBlock :: (blockP s).1.map Lib.itoa := by
      have e : blkO ⟨(blockP s).1, [], fin0z⟩ = s := h3
      rw [← e]
      obtain ⟨l, hl⟩ : ∃ l, (blockP s).1 = l := ⟨_, rfl⟩
      rw [e, hl]
      rw [hl] at e
      rw [← e, blkO_words]
      exact words_zero fun w hw => by
        rcases List.mem_cons.1 hw with rfl | hw
        · decide
        · exact w1_map _ w hw
    have hn := numsR_back (Hd.nil []) (by simp) (blockP s).1 h4
    rw [List.append_nil] at hn
    unfold rblockP
    rw [hw, List.head?_cons, if_pos rfl, List.tail_cons, hn]
    exact ⟨by simp, fun _ => rfl⟩
/-! Lines inside a block. -/
theorem rinsP_ok {s : W} (h : s.length ≤ 8000) : (rinsP s).1.Ok := by
  have hz : ins0z.Ok := ⟨by unfold InR ins0z; simp, by unfold InR ins0z; simp, by simp [ins0z], ⟨by simp [ins0z], by simp [ins0z]⟩, by simp [ins0z], by simp [ins0z]⟩
  unfold rinsP
  split
  · rename_i a b c t hw
    split
    · have := words_count s
      rw [hw] at this
      exact rinsF_ok _ _ (by simp at this; omega)
    · exact hz
  · exact hz
theorem ins_same (s : W) (h : s.length ≤ 8000) (hs : (Lib.fieldsD s).length ≤ 5000) : (rinsP s).2 = (insP s).2 ∧ ((insP s).2 = true → (rinsP s).1 = (insP s).1) := by
  rcases h1 : (insP s).2 with _ | _
  · refine ⟨?_, by simp⟩
    rcases h2 : (rinsP s).2 with _ | _
    · rfl
    · obtain ⟨v1, v2⟩ := rinsP_some h2
      have := insP_back (rinsP_ok h) v1
      rw [v2] at this
      rw [this] at h1; cases h1
  · obtain ⟨v1, v2⟩ := insP_some h1
    have := rinsP_back (insP_ok hs) v1
    rw [v2] at this
    rw [this]
    exact ⟨rfl, fun _ => rfl⟩
theorem rfinP_ok {s : W} (h : s.length ≤ 8000) (hk : (rfinP s).2 = true) : (rfinP s).1.Ok := by
  have hz : rfinP s = rfinP s := rfl
  unfold rfinP at hk hz ⊢
  split
  · rename_i a b e c t hw
    split
    · rename_i h1
      have hc := words_count s
      rw [hw] at hc
      have := rfinG_ok (idx endW c) t (by simp at hc; omega)
      unfold rfinG at this
      rw [hw] at hk
      dsimp only at hk ⊢
      rw [if_pos h1] at hk
      split
      · rename_i hr
        rw [hr] at hk; cases hk
      · rename_i es l hr
        rw [hr] at this
        exact this
    · rename_i h1
      rw [hw] at hk
      dsimp only at hk
      rw [if_neg h1] at hk; cases hk
  · rename_i hw
    split at hk
    · rename_i a b e c t hw2; exact absurd hw2 (hw a b e c t)
    · cases hk
theorem fin_same (s : W) (h : s.length ≤ 8000) (hs : (Lib.fieldsD s).length ≤ 5000) : (rfinP s).2 = (finP s).2 ∧ ((finP s).2 = true → (rfinP s).1 = (finP s).1) := by
  rcases h1 : (finP s).2 with _ | _
  · refine ⟨?_, by simp⟩
    rcases h2 : (rfinP s).2 with _ | _
    · rfl
    · obtain ⟨v1, v2⟩ := rfinP_some h2
      have := finP_back (rfinP_ok h h2) v1
      rw [v2] at this
      rw [this] at h1; cases h1
  · obtain ⟨v1, v2⟩ := finP_some h1
    have := rfinP_back (finP_ok hs) v1
    rw [v2] at this
    rw [this]
    exact ⟨rfl, fun _ => rfl⟩
theorem not_both {s : W} (h1 : (finP s).2 = true) (h2 : (insP s).2 = true) : False := by
  obtain ⟨v1, v2⟩ := insP_some h2
  have := finP_ins v1
  rw [v2, h1] at this; cases this
/-! Lines. -/
theorem linesGo_ne (s : W) : ∀ cur : W, linesGo cur s ≠ [] := by
  induction s with
  | nil => intro cur; simp [linesGo]
  | cons b s ih => intro cur; unfold linesGo; split <;> simp [ih]
theorem join_linesGo (s : W) : ∀ cur : W, Lib.join (linesGo cur s) [10] = cur ++ s := by
  induction s with
  | nil => intro cur; simp [linesGo, Lib.join_cons, Lib.joinTail]
  | cons b s ih =>
    intro cur
    unfold linesGo
    split
    · rename_i hb
      subst hb
      rw [Lib.join_cons, joinTail_ne _ (linesGo_ne s []), ih]
      simp
    · rw [ih]; simp
theorem linesGo_mem (s : W) : ∀ cur : W, 10 ∉ cur → ∀ u ∈ linesGo cur s, 10 ∉ u := by
  induction s with
  | nil => intro cur h u hu; rw [linesGo, List.mem_singleton] at hu; rw [hu]; exact h
  | cons b s ih =>
    intro cur h u hu
    unfold linesGo at hu
    split at hu
    · rcases List.mem_cons.1 hu with rfl | hu
      · exact h
      · exact ih [] (by simp) u hu
    · rename_i hb
      exact ih (cur ++ [b]) (by simp only [List.mem_append, List.mem_singleton, not_or]; exact ⟨h, fun e => hb e.symm⟩) u hu
theorem lines_split (s : W) : linesGo [] s = Lib.split s [10] := by
  have h := split_join (c := 10) (t := []) (linesGo [] s) (linesGo_ne s []) (linesGo_mem s [] (by simp))
  rw [join_linesGo, List.nil_append] at h
  exact h.symm
/-! What the reference does at a line. -/
def stepR (i : Nat) (p : PS) (s : W) : Option PS :=
  match i, p with
  | 0, .cl x => if (rfuncP s).2 then some (.cl ⟨(rfuncP s).1.1, (rfuncP s).1.2, [], []⟩) else none
  | 1, .cl x => if rvalsB s then some (.cl ⟨x.ps, x.rs, (valsP (words s).tail).1, []⟩) else none
  | i + 2, .cl x => if (rblockP s).2 then some (.op x (rblockP s).1 []) else none
  | i, .op x params ins =>
    if (rfinP s).2 then some (.cl ⟨x.ps, x.rs, x.vals, x.blocks ++ [⟨params, if (rinsP s).2 then ins ++ [(rinsP s).1] else ins, (rfinP s).1⟩]⟩)
    else if (rinsP s).2 then some (.op x params (ins ++ [(rinsP s).1])) else none
theorem step_same (i : Nat) (p : PS) (s : W) (h : s.length ≤ 8000) (hs : (Lib.fieldsD s).length ≤ 5000) : stepR i p s = stepO i p s := by
  cases p with
  | cl x =>
    match i with
    | 0 =>
      obtain ⟨a, b⟩ := func_same s
      simp only [stepR, stepO]
      rw [a]
      split
      · rename_i hl; rw [b hl]
      · rfl
    | 1 =>
      obtain ⟨a, b⟩ := vals_same s
      simp only [stepR, stepO]
      rw [a]
      split
      · rename_i hl; rw [b hl]
      · rfl
    | i + 2 =>
      obtain ⟨a, b⟩ := block_same s hs
      simp only [stepR, stepO]
      rw [a]
      split
      · rename_i hl; rw [b hl]
      · rfl
  | op x params ins =>
    obtain ⟨a, b⟩ := fin_same s h hs
    obtain ⟨c, d⟩ := ins_same s h hs
    have e : stepR i (.op x params ins) s = if (rfinP s).2 then some (.cl ⟨x.ps, x.rs, x.vals, x.blocks ++ [⟨params, if (rinsP s).2 then ins ++ [(rinsP s).1] else ins, (rfinP s).1⟩]⟩) else if (rinsP s).2 then some (.op x params (ins ++ [(rinsP s).1])) else none := by
      match i with
      | 0 => rfl
      | 1 => rfl
      | i + 2 => rfl
    rw [e, stepO_op, a, c]
    rcases h1 : (finP s).2 with _ | _ <;> rcases h2 : (insP s).2 with _ | _
    · rfl
    · simp [d h2]
    · simp [b h1]
    · exact (not_both h1 h2).elim
end Go.Proofs.YtmhmpobjjhbklaaGreatDoor.St
set_option linter.unusedVariables false
set_option linter.unusedSimpArgs false
namespace Go.Proofs.YtmhmpobjjhbklaaGreatDoor
namespace St
theorem addV_len (out : List Int) (w : W) : (addV out w).length ≤ out.length + 1 := by
  unfold addV
  split
  · simp
  · omega
theorem tyGo_len (s : W) : ∀ (n f i : Nat) (out : List Int), (tyGo s n f i out).1.length ≤ out.length + n ∧ (tyGo s n f i out).2.1.length ≤ s.length
  | 0, f, i, out => by simp [tyGo]
  | n + 1, f, i, out => by
    unfold tyGo
    split
    · have := tyGo_len s n (min (i + 2) s.length) (i + 1) (addV out ((s.take i).drop (min f i)))
      have := addV_len out ((s.take i).drop (min f i))
      omega
    · split
      · have := addV_len out ((s.take i).drop (min f i))
        dsimp only
        rw [List.length_drop]; omega
      · have := tyGo_len s n f (i + 1) out
        omega
theorem typedR_len (s : W) : (typedR s).1.length ≤ s.length ∧ (typedR s).2.1.length ≤ s.length := by
  unfold typedR
  split
  · have := tyGo_len s (s.length - 1) 1 1 []
    simp only [List.length_nil] at this
    omega
  · simp
end St
open Go.RowKit
open St (InR SubL)
theorem info_func : (Tryz.prog.info? 24).map (·.size) = some 2 := by kernel_rfl
theorem put2 {W : World} {K : Nat} {t : TypeId} {a0 a1 : Value} (h : Var W K #[a0, a1] t) (b0 b1 : Value) :
    Var ((W.setCell ⟨K, 0, none⟩ b0).setCell ⟨K, 1, none⟩ b1) K #[b0, b1] t ∧ W.grownBy ((W.setCell ⟨K, 0, none⟩ b0).setCell ⟨K, 1, none⟩ b1) (some K) :=
  ⟨by have h7 := (h.set 0 b0).set 1 b1; simp only [List.setIfInBounds_toArray, List.set_cons_zero, List.set_cons_succ] at h7; exact h7, (grown_set _ _ _ _).trans (grown_set _ _ _ _)⟩
theorem cells2' {W : World} {K : Nat} {t : TypeId} {v0 v1 : Value} (h : Var W K #[v0, v1] t) : (W.cell? ⟨K, 0, none⟩ = some v0 ∧ W.cell? ⟨K, 1, none⟩ = some v1) ∧ W.frozen? ⟨K, 0, none⟩ = false ∧ W.frozen? ⟨K, 1, none⟩ = false :=
  ⟨⟨h.cells 0, h.cells 1⟩, h.froz 0, h.froz 1⟩
/-- What readFunc gives. -/
def FuncOut (N : Nat) (R : (List Int × List Int) × Bool) (e : Ending) (w' : World) : Prop :=
  ∃ A c B d, e = .returned (.tuple #[.agg #[.slice A R.1.1.length c, .slice B R.1.2.length d], .bool R.2]) ∧ RdZ w' (fun g => N ≤ g) A R.1.1 ∧ RdZ w' (fun g => N ≤ g) B R.1.2
theorem rfunFin {w W X : World} {A B : Option Addr} {l m : List Int} (hB : Below w.heap.size w W) (hX : Below W.heap.size W X)
    (h5 : RdZ W (fun g => w.heap.size < g) A l) (h6 : RdZ W (fun g => w.heap.size < g) B m) (cs : Array Value) :
    Below w.heap.size w (X.setRow w.heap.size cs) ∧ RdZ (X.setRow w.heap.size cs) (fun g => w.heap.size ≤ g) A l ∧ RdZ (X.setRow w.heap.size cs) (fun g => w.heap.size ≤ g) B m :=
  ⟨below_grown (hB.trans (hX.mono hB.size)) (setRow_grown X _ cs) (Nat.le_trans hB.size hX.size) (Nat.le_refl _),
    ((h5.on hX).keep (keep_grown (setRow_grown X _ cs) (fun h => Nat.lt_irrefl _ h)) (setRow_grown X _ cs).size).mono (fun g _ h => Nat.le_of_lt h),
    ((h6.on hX).keep (keep_grown (setRow_grown X _ cs) (fun h => Nat.lt_irrefl _ h)) (setRow_grown X _ cs).size).mono (fun g _ h => Nat.le_of_lt h)⟩
attribute [local go_sem] ByteArray.extract_mk
set_option maxHeartbeats 16000000 in
set_option maxRecDepth 100000 in
theorem rreadFunc_any (s : St.W) (hs : s.length ≤ 4900) (w : World) :
    Calls Tryz.prog 31 #[.string ⟨s.toArray⟩] w fun e w' => FuncOut w.heap.size (St.rfuncP s) e w' ∧ Below w.heap.size w w' := by
  have hsz : (ByteArray.mk s.toArray).size = s.length := by simp [ByteArray.size]
  obtain ⟨R, hR⟩ : ∃ x, St.rfuncP s = x := ⟨_, rfl⟩
  rw [hR]
  unfold St.rfuncP at hR
  have HB0 := Lib.hid ((Below.refl w.heap.size w).alloc (Nat.le_refl _) (.cells #[.slice none 0 0, .slice none 0 0] 24))
  have HV0 := Lib.hid (Var.new w #[.slice none 0 0, .slice none 0 0] 24)
  by_cases h5 : 5 ≤ s.length
  case neg =>
    rw [if_neg (fun h => h5 h.1)] at hR
    have HR : Hid (R = (([], []), false)) := Lib.hid hR.symm
    have x0 : (s.length : Int) < 5 := by omega
    clear hR h5
    go_enter Tryz.func31, Tryz.ntmps31
    go_wp2
    refine bodyPost_ret (results_cell_row_tmp rfl _ _ w.heap.size _ #[.slice none 0 0, .slice none 0 0] (0, 0) _ rfl HV0.out Tryz.underlying24 rfl (by kernel_rfl)) rfl ?_
    rw [HR.out]
    exact ⟨⟨none, 0, none, 0, rfl, RdT.nil_, RdT.nil_⟩, HB0.out⟩
  by_cases ht : s.take 5 = St.lFn
  case neg =>
    rw [if_neg (fun h => ht h.2)] at hR
    have HR : Hid (R = (([], []), false)) := Lib.hid hR.symm
    have x0 : ¬ (s.length : Int) < 5 := by omega
    have x1 : (5 : Int) ≤ (s.length : Int) := by omega
    have q3 : ((ByteArray.mk (s.take 5).toArray) != (ByteArray.mk #[102, 117, 110, 99, 32])) = true := bne_no (b := [102, 117, 110, 99, 32]) ht
    have q4 : (s.take 5 == ([102, 117, 110, 99, 32] : List UInt8)) = false := beq_eq_false_iff_ne.2 ht
    clear hR h5 ht
    go_enter Tryz.func31, Tryz.ntmps31
    go_wp2
    refine bodyPost_ret (results_cell_row_tmp rfl _ _ w.heap.size _ #[.slice none 0 0, .slice none 0 0] (0, 0) _ rfl HV0.out Tryz.underlying24 rfl (by kernel_rfl)) rfl ?_
    rw [HR.out]
    exact ⟨⟨none, 0, none, 0, rfl, RdT.nil_, RdT.nil_⟩, HB0.out⟩
  rw [if_pos ⟨h5, ht⟩] at hR
  have x0 : ¬ (s.length : Int) < 5 := by omega
  have x1 : (5 : Int) ≤ (s.length : Int) := by omega
  have q3 : ((ByteArray.mk (s.take 5).toArray) != (ByteArray.mk #[102, 117, 110, 99, 32])) = false := by rw [ht]; rfl
  have q4 : (s.take 5 == ([102, 117, 110, 99, 32] : List UInt8)) = true := by rw [ht]; rfl
  have hT := St.typedR_len (s.drop 5)
  have HT1 := Lib.hid (fun W => rtyped_any (s.drop 5) (by rw [List.length_drop]; omega) W)
  obtain ⟨⟨l1, r1, b1⟩, hT1⟩ : ∃ x, St.typedR (s.drop 5) = x := ⟨_, rfl⟩
  rw [hT1] at HT1 hR hT
  dsimp only at HT1 hR hT
  rw [List.length_drop] at hT
  rw [show s.drop 5 = (s.drop 5).take (s.length - 5) from (List.take_of_length_le (by rw [List.length_drop]; omega)).symm] at HT1
  have hl1 : l1.length ≤ 5000 := by omega
  have hr1 : r1.length ≤ 5000 := by omega
  clear hT hT1 h5 ht
  rcases b1 with _ | _
  · rw [if_neg (by simp)] at hR
    have HR : Hid (R = (([], []), false)) := Lib.hid hR.symm
    clear hR
    go_enter Tryz.func31, Tryz.ntmps31
    go_wp2_with (go_at_call 71; with_reducible refine (HT1.out _).mono ?_; rintro e w1 ⟨⟨A, c, rfl, rA⟩, hb⟩; have hb1 := HB0.out.trans (hb.mono (by simp)); have v0 := HV0.out.below hb (by simp); have hlt := v0.lt; obtain ⟨⟨z0, z1⟩, y0, y1⟩ := cells2' v0)
    have hp := put2 v0 (.slice none 0 0) (.slice none 0 0)
    refine bodyPost_ret (results_cell_row_tmp rfl _ _ w.heap.size _ #[.slice none 0 0, .slice none 0 0] (0, 0) _ rfl hp.1 Tryz.underlying24 rfl (by kernel_rfl)) rfl ?_
    rw [HR.out]
    exact ⟨⟨none, 0, none, 0, rfl, RdT.nil_, RdT.nil_⟩, below_grown hb1 hp.2 hb1.size (Nat.le_refl _)⟩
  by_cases h4 : 4 ≤ r1.length
  case neg =>
    rw [if_neg (fun h => h4 h.2)] at hR
    have HR : Hid (R = (([], []), false)) := Lib.hid hR.symm
    have x2 : (r1.length : Int) < 4 := by omega
    clear hR h4
    go_enter Tryz.func31, Tryz.ntmps31
    go_wp2_with (go_at_call 71; with_reducible refine (HT1.out _).mono ?_; rintro e w1 ⟨⟨A, c, rfl, rA⟩, hb⟩; have hb1 := HB0.out.trans (hb.mono (by simp)); have v0 := HV0.out.below hb (by simp); have hlt := v0.lt; obtain ⟨⟨z0, z1⟩, y0, y1⟩ := cells2' v0)
    have hp := put2 v0 (.slice none 0 0) (.slice none 0 0)
    refine bodyPost_ret (results_cell_row_tmp rfl _ _ w.heap.size _ #[.slice none 0 0, .slice none 0 0] (0, 0) _ rfl hp.1 Tryz.underlying24 rfl (by kernel_rfl)) rfl ?_
    rw [HR.out]
    exact ⟨⟨none, 0, none, 0, rfl, RdT.nil_, RdT.nil_⟩, below_grown hb1 hp.2 hb1.size (Nat.le_refl _)⟩
  rw [if_pos ⟨rfl, h4⟩] at hR
  have x2 : ¬ (r1.length : Int) < 4 := by omega
  have x3 : (4 : Int) ≤ (r1.length : Int) := by omega
  have hT := St.typedR_len (r1.drop 4)
  have HT2 := Lib.hid (fun W => rtyped_any (r1.drop 4) (by rw [List.length_drop]; omega) W)
  obtain ⟨⟨l2, r2, b2⟩, hT1⟩ : ∃ x, St.typedR (r1.drop 4) = x := ⟨_, rfl⟩
  rw [hT1] at HT2 hR hT
  dsimp only at HT2 hR hT
  rw [List.length_drop] at hT
  rw [show r1.drop 4 = (r1.drop 4).take (r1.length - 4) from (List.take_of_length_le (by rw [List.length_drop]; omega)).symm] at HT2
  have hl2 : l2.length ≤ 5000 := by omega
  clear hT hT1 h4 hr1
  have hr1s : (ByteArray.mk r1.toArray).size = r1.length := by simp [ByteArray.size]
  have HR := Lib.hid hR
  clear hR
  go_enter Tryz.func31, Tryz.ntmps31
  go_upto_region 6 with (go_at_call 71; with_reducible refine (HT1.out _).mono ?_; rintro e w1 ⟨⟨A, c, rfl, rA⟩, hb⟩; have hb1 := HB0.out.trans (hb.mono (by simp)); have v0 := HV0.out.below hb (by simp); have hlt := v0.lt; obtain ⟨⟨z0, z1⟩, y0, y1⟩ := cells2' v0)
  have HRA := Lib.hid rA
  have HB1 := Lib.hid hb1
  have HV1 := Lib.hid v0
  have HLT := Lib.hid hlt
  clear rA hb hb1 v0 hlt z0 z1 y0 y1 HB0 HV0 HT1
  go_upto_region 7 with (go_at_call 71; with_reducible refine (HT2.out _).mono ?_; rintro e w2 ⟨⟨B, d, rfl, rB⟩, hb⟩)
  have hb2 := HB1.out.trans (hb.mono HB1.out.size)
  have v2 := var_keep HV1.out hb
  have rA2 : RdZ w2 (fun g => w.heap.size < g) A l1 := (HRA.out.on hb).mono (fun g _ h => by have : w.heap.size + 1 ≤ g := (by simpa using h); omega)
  have rB2 : RdZ w2 (fun g => w.heap.size < g) B l2 := rB.mono (fun g _ h => Nat.lt_of_lt_of_le HLT.out h)
  have hlt2 := v2.lt
  have ha := (Below.refl w2.heap.size w2).alloc (Nat.le_refl _) (.cells #[.slice A l1.length c, .slice B l2.length d] 24)
  go_upto_region 8 with fail
  refine at_code (F := fun W => (Var W w.heap.size #[.slice none 0 0, .slice none 0 0] 24 ∧ Var W w2.heap.size #[.slice A l1.length c, .slice B l2.length d] 24) ∧ Below w.heap.size w W ∧ RdZ W (fun g => w.heap.size < g) A l1 ∧ RdZ W (fun g => w.heap.size < g) B l2) ⟨⟨v2.alloc _, Var.new _ _ _⟩, hb2.trans (ha.mono hb2.size), rA2.on ha, rB2.on ha⟩ ?_
  obtain ⟨K10, hK⟩ : ∃ K, w2.heap.size = K := ⟨_, rfl⟩
  rw [hK] at hlt2
  simp only [hK]
  clear ha rA2 rB2 v2 hb2 hb rB HRA HB1 HV1 HLT HT2 hK
  rintro W ⟨⟨VR, VK⟩, BW, rA, rB⟩
  obtain ⟨⟨c0_, c1_⟩, -, -⟩ := cells2' VK
  have hKx := VK.lt
  have hKz := VR.lt
  have HA := Lib.hid rA
  have HB := Lib.hid rB
  have HBW := Lib.hid BW
  clear rA rB BW q3 q4 x0 x1 x2 x3 hr1s
  rcases b2 with _ | _
  · have HR : Hid (R = ((l1, l2), false)) := Lib.hid (by rw [← HR.out]; rfl)
    have SS : (fun W' => W'.cell? ⟨K10, 0, none⟩ = some (.slice A l1.length c) ∧ W'.cell? ⟨K10, 1, none⟩ = some (.slice B l2.length d)) (World.drew W) := ⟨c0_, c1_⟩
    dsimp only at SS
    have SSc := SS
    obtain ⟨t0, t1⟩ := SSc
    have VD : (World.drew W).heap[w.heap.size]? = some (.cells #[.slice none 0 0, .slice none 0 0] 24 (0, 0)) := VR
    refine wp_region_held_drew (S := (fun W' => W'.cell? ⟨K10, 0, none⟩ = some (.slice A l1.length c) ∧ W'.cell? ⟨K10, 1, none⟩ = some (.slice B l2.length d))) (by kernel_rfl) ?_ (fun hHeld0 => ?_)
    · first | assumption | go_keep
    refine tk (i := 0) (oi := ⟨some 45, .load 24 (.tmp 10), 24, "ref.go:325", #[], none⟩) rfl ?_; (try simp only [Act.put, List.setIfInBounds_toArray, List.set_cons_succ, List.set_cons_zero])
    refine tk (i := 1) (oi := ⟨some 46, .move (.tmp 9), 4, "ref.go:325", #[], none⟩) rfl ?_; (try simp only [Act.put, List.setIfInBounds_toArray, List.set_cons_succ, List.set_cons_zero])
    refine tk (i := 2) (oi := ⟨some 47, .move (.tmp 46), 4, "ref.go:325", #[⟨1, .data⟩], none⟩) rfl ?_; (try simp only [Act.put, List.setIfInBounds_toArray, List.set_cons_succ, List.set_cons_zero])
    refine tkN (i := 3) (oi := ⟨some 48, .load 24 (.tmp 10), 24, "ref.go:325", #[⟨2, .guard⟩], some (2, true)⟩) rfl ?_; (try simp only [Act.put, List.setIfInBounds_toArray, List.set_cons_succ, List.set_cons_zero])
    refine tkN (i := 4) (oi := ⟨some 49, .call { callee := .value (.func 23), args := #[.tmp 48], argTypes := #[24] }, 9, "ref.go:325", #[⟨3, .data⟩, ⟨2, .chain⟩, ⟨2, .guard⟩], some (2, true)⟩) rfl ?_; (try simp only [Act.put, List.setIfInBounds_toArray, List.set_cons_succ, List.set_cons_zero])
    refine tkN (i := 5) (oi := ⟨some 50, .binOp .add 9 (.const (.string { data := #[102, 117, 110, 99, 32] })) (.tmp 49) 9, 9, "ref.go:325", #[⟨4, .data⟩, ⟨2, .guard⟩, { on := 9, ground := .gcOnly Go.Departure.lateStores }], some (2, true)⟩) rfl ?_; (try simp only [Act.put, List.setIfInBounds_toArray, List.set_cons_succ, List.set_cons_zero])
    refine tkN (i := 6) (oi := ⟨some 51, .move (.tmp 0), 9, "ref.go:325", #[⟨2, .guard⟩, { on := 9, ground := .gcOnly Go.Departure.lateStores }], some (2, true)⟩) rfl ?_; (try simp only [Act.put, List.setIfInBounds_toArray, List.set_cons_succ, List.set_cons_zero])
    refine tkN (i := 7) (oi := ⟨some 52, .binOp .eql 9 (.tmp 50) (.tmp 51) 9, 4, "ref.go:325", #[⟨5, .data⟩, ⟨6, .data⟩, ⟨2, .guard⟩, { on := 9, ground := .gcOnly Go.Departure.lateStores }], some (2, true)⟩) rfl ?_; (try simp only [Act.put, List.setIfInBounds_toArray, List.set_cons_succ, List.set_cons_zero])
    refine tk (i := 8) (oi := ⟨some 53, .pick (.tmp 47) (.tmp 52) (.const (.bool false)), 4, "ref.go:325", #[⟨2, .data⟩, ⟨7, .data⟩, { on := 9, ground := .gcOnly Go.Departure.lateStores }], none⟩) rfl ?_; (try simp only [Act.put, List.setIfInBounds_toArray, List.set_cons_succ, List.set_cons_zero])
    refine wpAnyH_ready (rs := [9]) (by kernel_rfl) (by simp) ?_
    refine AllReadyH.cons (o := ⟨none, .store 24 (.tmp 2) (.tmp 45), 0, "ref.go:325", #[⟨0, .data⟩, ⟨4, .chain⟩, ⟨0, .phase⟩, { on := 1, ground := .textOnly Go.Departure.lateStores }, { on := 2, ground := .textOnly Go.Departure.lateStores }, { on := 3, ground := .textOnly Go.Departure.lateStores }, { on := 4, ground := .textOnly Go.Departure.lateStoresUnsure }, { on := 5, ground := .textOnly Go.Departure.lateStores }, { on := 6, ground := .textOnly Go.Departure.lateStores }, { on := 7, ground := .textOnly Go.Departure.lateStores }, { on := 8, ground := .textOnly Go.Departure.lateStores }], none⟩) rfl (fun K hK => ?_) AllReadyH.nil
    (rw [if_pos (by rfl)]; refine wp_store_row 24 (.tmp 2) (.tmp 45) rfl w.heap.size #[.slice A l1.length c, .slice B l2.length d] rfl rfl 24 #[.slice none 0 0, .slice none 0 0] VD info_func rfl (by simp [Value.oneCell']) ?_; have gS := setRow_grown (World.drew W) w.heap.size #[.slice A l1.length c, .slice B l2.length d]; have SS2 : (fun W' => W'.cell? ⟨K10, 0, none⟩ = some (.slice A l1.length c) ∧ W'.cell? ⟨K10, 1, none⟩ = some (.slice B l2.length d)) ((World.drew W).setRow w.heap.size #[.slice A l1.length c, .slice B l2.length d]) := ⟨gS.cell t0 (by simp; omega), gS.cell t1 (by simp; omega)⟩; dsimp only at SS2)
    (try dsimp only)
    refine hK.out _ _ ?_ (fun hHeld1 => ?_)
    · first | trivial | ((try dsimp only); first | assumption | trivial | go_keep)
    clear hK K hHeld0
    (try simp only [Act.put, List.setIfInBounds_toArray, List.set_cons_succ, List.set_cons_zero])
    refine tk (i := 10) (oi := ⟨some 3, .assign (.tmp 53), 4, "ref.go:325", #[⟨8, .data⟩, ⟨9, .chain⟩, ⟨0, .phase⟩, ⟨1, .phase⟩, ⟨2, .phase⟩, ⟨3, .phase⟩, ⟨4, .phase⟩, ⟨5, .phase⟩, ⟨6, .phase⟩, ⟨7, .phase⟩, ⟨8, .phase⟩, ⟨9, .phase⟩], none⟩) rfl ?_; (try simp only [Act.put, List.setIfInBounds_toArray, List.set_cons_succ, List.set_cons_zero])
    refine wpAnyH_done (by kernel_rfl) ?_ _
    (try dsimp only)
    repeat (first | go_values | go_skip | go_guarded | go_step | go_upon)
    have fin := rfunFin HBW.out (below_drewN W 1) HA.out HB.out #[.slice A l1.length c, .slice B l2.length d]
    refine bodyPost_ret (results_cell_row_tmp rfl _ _ w.heap.size _ #[.slice A l1.length c, .slice B l2.length d] (0, 0) _ rfl (setRow_heap (World.drew W) w.heap.size #[.slice none 0 0, .slice none 0 0] _ _ (0, 0) VR) Tryz.underlying24 rfl (by kernel_rfl)) rfl ?_
    obtain rfl := HR.out
    exact ⟨⟨A, c, B, d, rfl, fin.2.1, fin.2.2⟩, fin.1⟩
  · have hz1 := list_len l1 hl1
    have hz2 := list_len l2 hl2
    have HTX := Lib.hid (refText_any A B c d l1 l2 (World.drew W) ((HA.out.on (below_drewN W 1)).rds.rdI) ((HB.out.on (below_drewN W 1)).rds.rdI) hl1 hl2)
    have hR := HR.out
    obtain ⟨TX, hTX⟩ : ∃ x, Ty.text l1 l2 = x := ⟨_, rfl⟩
    rw [hTX] at HTX hR
    have hlen : ¬ (9223372036854775807 < 5 + TX.length) := by rw [← hTX]; unfold Ty.text; simp only [List.length_append, List.length_cons, List.length_nil]; omega
    have hcat : (ByteArray.mk #[102, 117, 110, 99, 32] ++ ByteArray.mk TX.toArray) = ByteArray.mk (St.lFn ++ TX).toArray := cat_mk [102, 117, 110, 99, 32] TX
    clear hTX hz1 hz2 HR
    by_cases he : St.lFn ++ TX = s
    · have HR : Hid (R = ((l1, l2), true)) := Lib.hid (by rw [← hR, he]; simp)
      rw [he] at hcat
      clear hR he
      have SS : (fun W' => W'.cell? ⟨K10, 0, none⟩ = some (.slice A l1.length c) ∧ W'.cell? ⟨K10, 1, none⟩ = some (.slice B l2.length d)) (World.drew W) := ⟨c0_, c1_⟩
      dsimp only at SS
      have SSc := SS
      obtain ⟨t0, t1⟩ := SSc
      have VD : (World.drew W).heap[w.heap.size]? = some (.cells #[.slice none 0 0, .slice none 0 0] 24 (0, 0)) := VR
      refine wp_region_held_drew (S := (fun W' => W'.cell? ⟨K10, 0, none⟩ = some (.slice A l1.length c) ∧ W'.cell? ⟨K10, 1, none⟩ = some (.slice B l2.length d))) (by kernel_rfl) ?_ (fun hHeld0 => ?_)
      · first | assumption | go_keep
      refine tk (i := 0) (oi := ⟨some 45, .load 24 (.tmp 10), 24, "ref.go:325", #[], none⟩) rfl ?_; (try simp only [Act.put, List.setIfInBounds_toArray, List.set_cons_succ, List.set_cons_zero])
      refine tk (i := 1) (oi := ⟨some 46, .move (.tmp 9), 4, "ref.go:325", #[], none⟩) rfl ?_; (try simp only [Act.put, List.setIfInBounds_toArray, List.set_cons_succ, List.set_cons_zero])
      refine tk (i := 2) (oi := ⟨some 47, .move (.tmp 46), 4, "ref.go:325", #[⟨1, .data⟩], none⟩) rfl ?_; (try simp only [Act.put, List.setIfInBounds_toArray, List.set_cons_succ, List.set_cons_zero])
      refine tk (i := 3) (oi := ⟨some 48, .load 24 (.tmp 10), 24, "ref.go:325", #[⟨2, .guard⟩], some (2, true)⟩) rfl ?_; (try simp only [Act.put, List.setIfInBounds_toArray, List.set_cons_succ, List.set_cons_zero])
      refine tk (i := 6) (oi := ⟨some 51, .move (.tmp 0), 9, "ref.go:325", #[⟨2, .guard⟩, { on := 9, ground := .gcOnly Go.Departure.lateStores }], some (2, true)⟩) rfl ?_; (try simp only [Act.put, List.setIfInBounds_toArray, List.set_cons_succ, List.set_cons_zero])
      refine wpAnyH_ready (rs := [4]) (by kernel_rfl) (by simp) ?_
      refine AllReadyH.cons (o := ⟨some 49, .call { callee := .value (.func 23), args := #[.tmp 48], argTypes := #[24] }, 9, "ref.go:325", #[⟨3, .data⟩, ⟨2, .chain⟩, ⟨2, .guard⟩], some (2, true)⟩) rfl (fun K hK => ?_) AllReadyH.nil
      go_simp
      (refine HTX.out.mono ?_; rintro e w5 ⟨rfl, hb5⟩; have U5 := Lib.hid ((below_drewN W 1).trans (hb5.mono (Nat.le_refl _))); have V5 := var_keep VR U5.out; have kp := Below.keep U5.out (fun _ => True); have d0 := kp _ _ trivial c0_; have d1 := kp _ _ trivial c1_; clear kp hb5; have SS5 : (fun W' => W'.cell? ⟨K10, 0, none⟩ = some (.slice A l1.length c) ∧ W'.cell? ⟨K10, 1, none⟩ = some (.slice B l2.length d)) w5 := ⟨d0, d1⟩; dsimp only at SS5)
      (try dsimp only)
      refine hK.out _ _ ?_ (fun hHeld1 => ?_)
      · first | trivial | ((try dsimp only); first | assumption | trivial | go_keep)
      clear hK K hHeld0
      (try simp only [Act.put, List.setIfInBounds_toArray, List.set_cons_succ, List.set_cons_zero])
      refine tk (i := 5) (oi := ⟨some 50, .binOp .add 9 (.const (.string { data := #[102, 117, 110, 99, 32] })) (.tmp 49) 9, 9, "ref.go:325", #[⟨4, .data⟩, ⟨2, .guard⟩, { on := 9, ground := .gcOnly Go.Departure.lateStores }], some (2, true)⟩) rfl ?_; (try simp only [Act.put, List.setIfInBounds_toArray, List.set_cons_succ, List.set_cons_zero])
      refine tk (i := 7) (oi := ⟨some 52, .binOp .eql 9 (.tmp 50) (.tmp 51) 9, 4, "ref.go:325", #[⟨5, .data⟩, ⟨6, .data⟩, ⟨2, .guard⟩, { on := 9, ground := .gcOnly Go.Departure.lateStores }], some (2, true)⟩) rfl ?_; (try simp only [Act.put, List.setIfInBounds_toArray, List.set_cons_succ, List.set_cons_zero])
      refine tk (i := 8) (oi := ⟨some 53, .pick (.tmp 47) (.tmp 52) (.const (.bool false)), 4, "ref.go:325", #[⟨2, .data⟩, ⟨7, .data⟩, { on := 9, ground := .gcOnly Go.Departure.lateStores }], none⟩) rfl ?_; (try simp only [Act.put, List.setIfInBounds_toArray, List.set_cons_succ, List.set_cons_zero])
      refine wpAnyH_ready (rs := [9]) (by kernel_rfl) (by simp) ?_
      refine AllReadyH.cons (o := ⟨none, .store 24 (.tmp 2) (.tmp 45), 0, "ref.go:325", #[⟨0, .data⟩, ⟨4, .chain⟩, ⟨0, .phase⟩, { on := 1, ground := .textOnly Go.Departure.lateStores }, { on := 2, ground := .textOnly Go.Departure.lateStores }, { on := 3, ground := .textOnly Go.Departure.lateStores }, { on := 4, ground := .textOnly Go.Departure.lateStoresUnsure }, { on := 5, ground := .textOnly Go.Departure.lateStores }, { on := 6, ground := .textOnly Go.Departure.lateStores }, { on := 7, ground := .textOnly Go.Departure.lateStores }, { on := 8, ground := .textOnly Go.Departure.lateStores }], none⟩) rfl (fun K hK => ?_) AllReadyH.nil
      (rw [if_pos (by rfl)]; refine wp_store_row 24 (.tmp 2) (.tmp 45) rfl w.heap.size #[.slice A l1.length c, .slice B l2.length d] rfl rfl 24 #[.slice none 0 0, .slice none 0 0] V5 info_func rfl (by simp [Value.oneCell']) ?_; have gS := setRow_grown w5 w.heap.size #[.slice A l1.length c, .slice B l2.length d]; have SS2 : (fun W' => W'.cell? ⟨K10, 0, none⟩ = some (.slice A l1.length c) ∧ W'.cell? ⟨K10, 1, none⟩ = some (.slice B l2.length d)) (w5.setRow w.heap.size #[.slice A l1.length c, .slice B l2.length d]) := ⟨gS.cell d0 (by simp; omega), gS.cell d1 (by simp; omega)⟩; dsimp only at SS2)
      (try dsimp only)
      refine hK.out _ _ ?_ (fun hHeld2 => ?_)
      · first | trivial | ((try dsimp only); first | assumption | trivial | go_keep)
      clear hK K hHeld1
      (try simp only [Act.put, List.setIfInBounds_toArray, List.set_cons_succ, List.set_cons_zero])
      refine tk (i := 10) (oi := ⟨some 3, .assign (.tmp 53), 4, "ref.go:325", #[⟨8, .data⟩, ⟨9, .chain⟩, ⟨0, .phase⟩, ⟨1, .phase⟩, ⟨2, .phase⟩, ⟨3, .phase⟩, ⟨4, .phase⟩, ⟨5, .phase⟩, ⟨6, .phase⟩, ⟨7, .phase⟩, ⟨8, .phase⟩, ⟨9, .phase⟩], none⟩) rfl ?_; (try simp only [Act.put, List.setIfInBounds_toArray, List.set_cons_succ, List.set_cons_zero])
      refine wpAnyH_done (by kernel_rfl) ?_ _
      (try dsimp only)
      repeat (first | go_values | go_skip | go_guarded | go_step | go_upon)
      have fin := rfunFin HBW.out U5.out HA.out HB.out #[.slice A l1.length c, .slice B l2.length d]
      refine bodyPost_ret (results_cell_row_tmp rfl _ _ w.heap.size _ #[.slice A l1.length c, .slice B l2.length d] (0, 0) _ rfl (setRow_heap w5 w.heap.size #[.slice none 0 0, .slice none 0 0] _ _ (0, 0) V5) Tryz.underlying24 rfl (by kernel_rfl)) rfl ?_
      obtain rfl := HR.out
      exact ⟨⟨A, c, B, d, rfl, fin.2.1, fin.2.2⟩, fin.1⟩
    · have hq2 : (St.lFn ++ TX == s) = false := by simpa using he
      have HR : Hid (R = ((l1, l2), false)) := Lib.hid (by rw [← hR, hq2]; rfl)
      obtain ⟨J, hJ⟩ : ∃ x, St.lFn ++ TX = x := ⟨_, rfl⟩
      rw [hJ] at hcat he hq2
      have hq := beq_no he
      clear hR he hJ
      have SS : (fun W' => W'.cell? ⟨K10, 0, none⟩ = some (.slice A l1.length c) ∧ W'.cell? ⟨K10, 1, none⟩ = some (.slice B l2.length d)) (World.drew W) := ⟨c0_, c1_⟩
      dsimp only at SS
      have SSc := SS
      obtain ⟨t0, t1⟩ := SSc
      have VD : (World.drew W).heap[w.heap.size]? = some (.cells #[.slice none 0 0, .slice none 0 0] 24 (0, 0)) := VR
      refine wp_region_held_drew (S := (fun W' => W'.cell? ⟨K10, 0, none⟩ = some (.slice A l1.length c) ∧ W'.cell? ⟨K10, 1, none⟩ = some (.slice B l2.length d))) (by kernel_rfl) ?_ (fun hHeld0 => ?_)
      · first | assumption | go_keep
      refine tk (i := 0) (oi := ⟨some 45, .load 24 (.tmp 10), 24, "ref.go:325", #[], none⟩) rfl ?_; (try simp only [Act.put, List.setIfInBounds_toArray, List.set_cons_succ, List.set_cons_zero])
      refine tk (i := 1) (oi := ⟨some 46, .move (.tmp 9), 4, "ref.go:325", #[], none⟩) rfl ?_; (try simp only [Act.put, List.setIfInBounds_toArray, List.set_cons_succ, List.set_cons_zero])
      refine tk (i := 2) (oi := ⟨some 47, .move (.tmp 46), 4, "ref.go:325", #[⟨1, .data⟩], none⟩) rfl ?_; (try simp only [Act.put, List.setIfInBounds_toArray, List.set_cons_succ, List.set_cons_zero])
      refine tk (i := 3) (oi := ⟨some 48, .load 24 (.tmp 10), 24, "ref.go:325", #[⟨2, .guard⟩], some (2, true)⟩) rfl ?_; (try simp only [Act.put, List.setIfInBounds_toArray, List.set_cons_succ, List.set_cons_zero])
      refine tk (i := 6) (oi := ⟨some 51, .move (.tmp 0), 9, "ref.go:325", #[⟨2, .guard⟩, { on := 9, ground := .gcOnly Go.Departure.lateStores }], some (2, true)⟩) rfl ?_; (try simp only [Act.put, List.setIfInBounds_toArray, List.set_cons_succ, List.set_cons_zero])
      refine wpAnyH_ready (rs := [4]) (by kernel_rfl) (by simp) ?_
      refine AllReadyH.cons (o := ⟨some 49, .call { callee := .value (.func 23), args := #[.tmp 48], argTypes := #[24] }, 9, "ref.go:325", #[⟨3, .data⟩, ⟨2, .chain⟩, ⟨2, .guard⟩], some (2, true)⟩) rfl (fun K hK => ?_) AllReadyH.nil
      go_simp
      (refine HTX.out.mono ?_; rintro e w5 ⟨rfl, hb5⟩; have U5 := Lib.hid ((below_drewN W 1).trans (hb5.mono (Nat.le_refl _))); have V5 := var_keep VR U5.out; have kp := Below.keep U5.out (fun _ => True); have d0 := kp _ _ trivial c0_; have d1 := kp _ _ trivial c1_; clear kp hb5; have SS5 : (fun W' => W'.cell? ⟨K10, 0, none⟩ = some (.slice A l1.length c) ∧ W'.cell? ⟨K10, 1, none⟩ = some (.slice B l2.length d)) w5 := ⟨d0, d1⟩; dsimp only at SS5)
      (try dsimp only)
      refine hK.out _ _ ?_ (fun hHeld1 => ?_)
      · first | trivial | ((try dsimp only); first | assumption | trivial | go_keep)
      clear hK K hHeld0
      (try simp only [Act.put, List.setIfInBounds_toArray, List.set_cons_succ, List.set_cons_zero])
      refine tk (i := 5) (oi := ⟨some 50, .binOp .add 9 (.const (.string { data := #[102, 117, 110, 99, 32] })) (.tmp 49) 9, 9, "ref.go:325", #[⟨4, .data⟩, ⟨2, .guard⟩, { on := 9, ground := .gcOnly Go.Departure.lateStores }], some (2, true)⟩) rfl ?_; (try simp only [Act.put, List.setIfInBounds_toArray, List.set_cons_succ, List.set_cons_zero])
      refine tk (i := 7) (oi := ⟨some 52, .binOp .eql 9 (.tmp 50) (.tmp 51) 9, 4, "ref.go:325", #[⟨5, .data⟩, ⟨6, .data⟩, ⟨2, .guard⟩, { on := 9, ground := .gcOnly Go.Departure.lateStores }], some (2, true)⟩) rfl ?_; (try simp only [Act.put, List.setIfInBounds_toArray, List.set_cons_succ, List.set_cons_zero])
      refine tk (i := 8) (oi := ⟨some 53, .pick (.tmp 47) (.tmp 52) (.const (.bool false)), 4, "ref.go:325", #[⟨2, .data⟩, ⟨7, .data⟩, { on := 9, ground := .gcOnly Go.Departure.lateStores }], none⟩) rfl ?_; (try simp only [Act.put, List.setIfInBounds_toArray, List.set_cons_succ, List.set_cons_zero])
      refine wpAnyH_ready (rs := [9]) (by kernel_rfl) (by simp) ?_
      refine AllReadyH.cons (o := ⟨none, .store 24 (.tmp 2) (.tmp 45), 0, "ref.go:325", #[⟨0, .data⟩, ⟨4, .chain⟩, ⟨0, .phase⟩, { on := 1, ground := .textOnly Go.Departure.lateStores }, { on := 2, ground := .textOnly Go.Departure.lateStores }, { on := 3, ground := .textOnly Go.Departure.lateStores }, { on := 4, ground := .textOnly Go.Departure.lateStoresUnsure }, { on := 5, ground := .textOnly Go.Departure.lateStores }, { on := 6, ground := .textOnly Go.Departure.lateStores }, { on := 7, ground := .textOnly Go.Departure.lateStores }, { on := 8, ground := .textOnly Go.Departure.lateStores }], none⟩) rfl (fun K hK => ?_) AllReadyH.nil
      (rw [if_pos (by rfl)]; refine wp_store_row 24 (.tmp 2) (.tmp 45) rfl w.heap.size #[.slice A l1.length c, .slice B l2.length d] rfl rfl 24 #[.slice none 0 0, .slice none 0 0] V5 info_func rfl (by simp [Value.oneCell']) ?_; have gS := setRow_grown w5 w.heap.size #[.slice A l1.length c, .slice B l2.length d]; have SS2 : (fun W' => W'.cell? ⟨K10, 0, none⟩ = some (.slice A l1.length c) ∧ W'.cell? ⟨K10, 1, none⟩ = some (.slice B l2.length d)) (w5.setRow w.heap.size #[.slice A l1.length c, .slice B l2.length d]) := ⟨gS.cell d0 (by simp; omega), gS.cell d1 (by simp; omega)⟩; dsimp only at SS2)
      (try dsimp only)
      refine hK.out _ _ ?_ (fun hHeld2 => ?_)
      · first | trivial | ((try dsimp only); first | assumption | trivial | go_keep)
      clear hK K hHeld1
      (try simp only [Act.put, List.setIfInBounds_toArray, List.set_cons_succ, List.set_cons_zero])
      refine tk (i := 10) (oi := ⟨some 3, .assign (.tmp 53), 4, "ref.go:325", #[⟨8, .data⟩, ⟨9, .chain⟩, ⟨0, .phase⟩, ⟨1, .phase⟩, ⟨2, .phase⟩, ⟨3, .phase⟩, ⟨4, .phase⟩, ⟨5, .phase⟩, ⟨6, .phase⟩, ⟨7, .phase⟩, ⟨8, .phase⟩, ⟨9, .phase⟩], none⟩) rfl ?_; (try simp only [Act.put, List.setIfInBounds_toArray, List.set_cons_succ, List.set_cons_zero])
      refine wpAnyH_done (by kernel_rfl) ?_ _
      (try dsimp only)
      repeat (first | go_values | go_skip | go_guarded | go_step | go_upon)
      have fin := rfunFin HBW.out U5.out HA.out HB.out #[.slice A l1.length c, .slice B l2.length d]
      refine bodyPost_ret (results_cell_row_tmp rfl _ _ w.heap.size _ #[.slice A l1.length c, .slice B l2.length d] (0, 0) _ rfl (setRow_heap w5 w.heap.size #[.slice none 0 0, .slice none 0 0] _ _ (0, 0) V5) Tryz.underlying24 rfl (by kernel_rfl)) rfl ?_
      obtain rfl := HR.out
      exact ⟨⟨A, c, B, d, rfl, fin.2.1, fin.2.2⟩, fin.1⟩
end Go.Proofs.YtmhmpobjjhbklaaGreatDoor
