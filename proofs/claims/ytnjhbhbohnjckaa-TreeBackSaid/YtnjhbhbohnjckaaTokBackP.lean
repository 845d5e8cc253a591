/-
  Plain law of TokenBack: tokens written with the prescribed spaces are lexed again with the same kinds and texts.
-/
import Derived.Test.YtnjhbhbohnjckaaTokCut
set_option linter.unusedVariables false
namespace Go.Proofs.Ytnjhbhbohnjckaa.Tok

/-- The text of a token. -/
def ttext (t : Tk) : List UInt8 := if t.kind = 0 then [40] else if t.kind = 1 then [41] else if t.kind = 3 then 34 :: (t.text ++ [34]) else t.text
/-- The prescribed space between kinds. -/
def spk (a b : Nat) : Bool := a != 0 && b != 1 && a != 4 && b != 4
def sp (p : Option Nat) (k : Nat) : List UInt8 := match p with | none => [] | some a => if spk a k then [32] else []
/-- The tokens written, the kind before them p. -/
def wgo : Option Nat → List Tk → List UInt8
  | _, [] => []
  | p, t :: r => sp p t.kind ++ (ttext t ++ wgo (some t.kind) r)
def lastK : Option Nat → List Tk → Option Nat
  | p, [] => p
  | _, t :: r => lastK (some t.kind) r
theorem wgo_snoc (p : Option Nat) (L : List Tk) (t : Tk) : wgo p (L ++ [t]) = wgo p L ++ (sp (lastK p L) t.kind ++ ttext t) := by
  induction L generalizing p with
  | nil => simp [wgo, lastK]
  | cons u L ih => simp [wgo, lastK, ih]
theorem lastK_snoc (p : Option Nat) (L : List Tk) (t : Tk) : lastK p (L ++ [t]) = some t.kind := by
  induction L generalizing p with
  | nil => rfl
  | cons u L ih => simp [lastK, ih]

/-- What the lexer makes of a token. -/
def Good (t : Tk) : Prop := (t.kind = 0 ∧ t.text = []) ∨ (t.kind = 1 ∧ t.text = []) ∨ (t.kind = 2 ∧ t.text ≠ [] ∧ ∀ c ∈ t.text, sign c = true) ∨ (t.kind = 3 ∧ quo (t.text ++ [34]) false 1 = (t.text.length + 2, 0))

theorem quo_take : ∀ (D : List UInt8) (e : Bool) (i n : Nat), quo D e i = (n, 0) → i + 1 ≤ n ∧ n ≤ i + D.length ∧ quo (D.take (n - i - 1) ++ [34]) e i = (n, 0) := by
  intro D
  induction D with
  | nil => intro e i n h; simp [quo] at h
  | cons c r ih =>
    intro e i n h
    rw [quo] at h
    split at h
    · simp at h
    · rename_i hb
      split at h
      · rename_i he
        obtain ⟨h1, h2, h3⟩ := ih false (i + 1) n h
        refine ⟨by omega, by simp only [List.length_cons]; omega, ?_⟩
        rw [show n - i - 1 = (n - (i + 1) - 1) + 1 from by omega, List.take_succ_cons, List.cons_append, quo, if_neg hb, if_pos he]
        exact h3
      · rename_i he
        split at h
        · rename_i h92
          obtain ⟨h1, h2, h3⟩ := ih true (i + 1) n h
          refine ⟨by omega, by simp only [List.length_cons]; omega, ?_⟩
          rw [show n - i - 1 = (n - (i + 1) - 1) + 1 from by omega, List.take_succ_cons, List.cons_append, quo, if_neg hb, if_neg he, if_pos h92]
          exact h3
        · rename_i h92
          split at h
          · simp at h
            subst h
            refine ⟨by omega, by simp only [List.length_cons]; omega, ?_⟩
            simp at he
            subst he
            simp [quo]
          · rename_i h34
            obtain ⟨h1, h2, h3⟩ := ih false (i + 1) n h
            refine ⟨by omega, by simp only [List.length_cons]; omega, ?_⟩
            rw [show n - i - 1 = (n - (i + 1) - 1) + 1 from by omega, List.take_succ_cons, List.cons_append, quo, if_neg hb, if_neg he, if_neg h92, if_neg h34]
            exact h3

/-- A token of a step is good, and its text is as long as the step. -/
theorem step_good {l : List UInt8} {i j : Nat} {t : Tk} (hi : i < l.length) (h : step l i = .ok (some t, j)) : Good t ∧ i + (ttext t).length = j ∧ t.pos = i := by
  unfold step at h
  split at h
  · simp at h
  split at h
  · simp at h
  split at h
  · split at h <;> simp at h
  split at h
  · simp at h; obtain ⟨rfl, rfl⟩ := h; exact ⟨.inl ⟨rfl, rfl⟩, rfl, rfl⟩
  split at h
  · simp at h; obtain ⟨rfl, rfl⟩ := h; exact ⟨.inr (.inl ⟨rfl, rfl⟩), rfl, rfl⟩
  split at h
  · split at h
    · cases h
    split at h
    · cases h
    · rename_i n4 n3
      simp at h; obtain ⟨rfl, rfl⟩ := h
      have hq : quo (l.drop (i + 1)) false 1 = ((quo (l.drop (i + 1)) false 1).1, 0) := by
        rcases quo_le (l.drop (i + 1)) false 1 with h | h | h
        · exact absurd h.1 n3
        · exact absurd h.1 n4
        · exact Prod.ext rfl h.1
      generalize (quo (l.drop (i + 1)) false 1).1 = n at hq
      obtain ⟨h1, h2, h3⟩ := quo_take _ _ _ _ hq
      simp only [List.length_drop] at h2
      have hlen : ((l.drop (i + 1)).take (n - 2)).length = n - 2 := by simp; omega
      refine ⟨.inr (.inr (.inr ⟨rfl, ?_⟩)), ?_, rfl⟩
      · dsimp only
        rw [hlen, show n - 2 + 2 = n from by omega]
        exact h3
      · simp [ttext]
        omega
  split at h
  · rename_i hs
    simp at h; obtain ⟨rfl, rfl⟩ := h
    have hr := runLen_le (l.drop i)
    refine ⟨.inr (.inr (.inl ⟨rfl, ?_, ?_⟩)), ?_, rfl⟩
    · have : 0 < runLen (l.drop i) := by
        rw [List.drop_eq_getElem_cons hi, runLen]
        have e : l.getD i 0 = l[i] := by simp [hi]
        rw [e] at hs
        rw [if_pos hs]; omega
      intro he
      have := congrArg List.length he
      simp at this
      simp at hr
      omega
    · intro c hc
      obtain ⟨k, hk, rfl⟩ := List.getElem_of_mem hc
      simp only [List.length_take] at hk
      obtain ⟨h1, h2⟩ := runLen_in (l.drop i) k (by omega)
      simpa using h2
    · simp [ttext]
      simp at hr
      omega
  · cases h

theorem wgo_len_snoc (L : List Tk) (t : Tk) : (wgo none (L ++ [t])).length ≤ (wgo none L).length + 1 + (ttext t).length := by
  rw [wgo_snoc]
  have : (sp (lastK none L) t.kind).length ≤ 1 := by
    unfold sp
    split
    · simp
    · split <;> simp
  simp only [List.length_append]
  omega
theorem ttext_pos {t : Tk} (h : Good t) : 0 < (ttext t).length := by
  rcases h with ⟨h, _⟩ | ⟨h, _⟩ | ⟨h, h2, _⟩ | ⟨h, _⟩
  · simp [ttext, h]
  · simp [ttext, h]
  · simp only [ttext, h]; simp; exact List.length_pos_iff.2 h2
  · simp [ttext, h]

theorem lex_good {l : List UInt8} : ∀ (f k : Nat) (acc L : List Tk) (a : Nat), l.length ≤ k + f → k ≤ l.length → (∀ t ∈ acc, Good t) → (wgo none acc).length ≤ 2 * k → lexAt l k acc = (L, a, 0) →
    ∃ body, L = body ++ [⟨4, l.length, []⟩] ∧ (∀ t ∈ body, Good t) ∧ (wgo none body).length ≤ 2 * l.length := by
  intro f
  induction f with
  | zero =>
    intro k acc L a hf hk hg hw h
    rw [lexAt_end (by omega)] at h
    simp at h
    exact ⟨acc, h.1.symm, hg, by omega⟩
  | succ f ih =>
    intro k acc L a hf hk hg hw h
    by_cases hkl : k < l.length
    · rcases hs : step l k with x | ⟨t, j⟩
      · rw [lexAt_error hkl acc hs] at h
        exfalso
        simp at h
        have : x.2 = 3 ∨ x.2 = 4 := by
          clear ih h
          unfold step at hs
          repeat' split at hs
          all_goals first | (cases hs; done) | (injection hs with hs; subst hs; first | exact .inl rfl | exact .inr rfl)
        omega
      · have hj := step_ok hkl hs
        dsimp only at hj
        rw [lexAt_ok hkl acc hs] at h
        rcases t with _ | t
        · exact ih j _ L a (by omega) hj.2 (by simpa using hg) (by simp; omega) h
        · obtain ⟨g1, g2, _⟩ := step_good hkl hs
          refine ih j _ L a (by omega) hj.2 ?_ ?_ h
          · intro u hu
            simp at hu
            rcases hu with hu | rfl
            · exact hg u hu
            · exact g1
          · have := wgo_len_snoc acc t
            have := ttext_pos g1
            simp only [Option.toList_some]
            omega
    · rw [lexAt_end (by omega)] at h
      simp at h
      exact ⟨acc, h.1.symm, hg, by omega⟩

theorem getD_drop {l D : List UInt8} {j : Nat} {c : UInt8} (h : l.drop j = c :: D) : l.getD j 0 = c ∧ j < l.length ∧ l.drop (j + 1) = D := by
  have hj : j < l.length := by
    rcases Nat.lt_or_ge j l.length with h1 | h1
    · exact h1
    · rw [List.drop_eq_nil_of_le h1] at h; cases h
  rw [List.drop_eq_getElem_cons hj] at h
  injection h with h1 h2
  exact ⟨by simp [hj, h1], hj, h2⟩
theorem sign_not {c : UInt8} (h : sign c = true) : ws c = false ∧ (c == 59) = false ∧ (c == 40) = false ∧ (c == 41) = false ∧ (c == 34) = false := by
  revert h
  have : ∀ x : Fin 256, sign (UInt8.ofNat x.val) = true → ws (UInt8.ofNat x.val) = false ∧ (UInt8.ofNat x.val == 59) = false ∧ (UInt8.ofNat x.val == 40) = false ∧ (UInt8.ofNat x.val == 41) = false ∧ (UInt8.ofNat x.val == 34) = false := by decide +kernel
  have h2 := this ⟨c.toNat, c.toNat_lt⟩
  simpa using h2
theorem runLen_stop : ∀ (T R : List UInt8), (∀ c ∈ T, sign c = true) → (∀ c D, R = c :: D → sign c = false) → runLen (T ++ R) = T.length := by
  intro T
  induction T with
  | nil =>
    intro R _ h
    cases R with
    | nil => rfl
    | cons c D => simp [runLen, h c D rfl]
  | cons c T ih =>
    intro R h1 h2
    rw [List.cons_append, runLen, if_pos (h1 c (by simp)), ih R (fun d hd => h1 d (by simp [hd])) h2]
    rfl

/-- What may stand behind a token. -/
theorem wgo_head (p : Nat) (r : List Tk) (hg : ∀ t ∈ r, Good t) (c : UInt8) (D : List UInt8) (h : wgo (some p) r = c :: D) : c ≠ 59 ∧ (p = 2 → sign c = false) := by
  cases r with
  | nil => simp [wgo] at h
  | cons t r =>
    rw [wgo] at h
    by_cases hs : spk p t.kind = true
    · simp [sp, hs] at h
      rw [← h.1]
      exact ⟨by decide, fun _ => by decide⟩
    · simp only [sp, hs] at h
      simp at h
      rcases hg t (by simp) with ⟨hk, _⟩ | ⟨hk, _⟩ | ⟨hk, hne, hsg⟩ | ⟨hk, _⟩
      · simp only [ttext, hk] at h
        simp at h
        rw [← h.1]
        refine ⟨by decide, fun hp => ?_⟩
        subst hp
        simp [spk, hk] at hs
      · simp only [ttext, hk] at h
        simp at h
        rw [← h.1]
        exact ⟨by decide, fun hp => by decide⟩
      · simp only [ttext, hk] at h
        simp at h
        match ht : t.text, hne with
        | d :: T, _ =>
          rw [ht] at h hsg
          simp at h
          have hd := hsg d (by simp)
          rw [← h.1]
          refine ⟨fun he => ?_, fun hp => ?_⟩
          · have := (sign_not hd).2.1; subst he; simp at this
          · subst hp
            simp [spk, hk] at hs
      · simp only [ttext, hk] at h
        simp at h
        rw [← h.1]
        refine ⟨by decide, fun hp => ?_⟩
        subst hp
        simp [spk, hk] at hs

theorem pre2_no {a b c : UInt8} {D : List UInt8} (h : (c == a) = false) : pre2 a b (c :: D) = false := by
  unfold pre2
  simp at h
  simp [h]
theorem pre2_no2 {a b c : UInt8} {D : List UInt8} (h : ∀ d E, D = d :: E → d ≠ b) : pre2 a b (c :: D) = false := by
  unfold pre2
  cases D with
  | nil => simp
  | cons d E =>
    have := h d E rfl
    simp [this]

/-- A good token is read where it was written. -/
theorem step_back {l : List UInt8} {j : Nat} {t : Tk} {r : List Tk} (ht : Good t) (hr : ∀ u ∈ r, Good u) (h : l.drop j = ttext t ++ wgo (some t.kind) r) :
    j < l.length ∧ step l j = .ok (some ⟨t.kind, j, t.text⟩, j + (ttext t).length) := by
  rcases ht with ⟨hk, hx⟩ | ⟨hk, hx⟩ | ⟨hk, hne, hsg⟩ | ⟨hk, hq⟩
  · have htt : ttext t = [40] := by simp [ttext, hk]
    rw [htt] at h ⊢
    obtain ⟨g1, g2, g3⟩ := getD_drop (by simpa using h)
    refine ⟨g2, ?_⟩
    have p1 : pre2 59 59 (l.drop j) = false := by rw [h]; exact pre2_no (by decide)
    have p2 : pre2 40 59 (l.drop j) = false := by
      rw [h]; exact pre2_no2 (fun d E hd => (wgo_head t.kind r hr d E (by simpa using hd)).1)
    rw [step, g1, if_neg (by decide), if_neg (by rw [p1]; decide), if_neg (by rw [p2]; decide), if_pos (by decide), hk, hx]
    rfl
  · have htt : ttext t = [41] := by simp [ttext, hk]
    rw [htt] at h ⊢
    obtain ⟨g1, g2, g3⟩ := getD_drop (by simpa using h)
    refine ⟨g2, ?_⟩
    have p1 : pre2 59 59 (l.drop j) = false := by rw [h]; exact pre2_no (by decide)
    have p2 : pre2 40 59 (l.drop j) = false := by rw [h]; exact pre2_no (by decide)
    rw [step, g1, if_neg (by decide), if_neg (by rw [p1]; decide), if_neg (by rw [p2]; decide), if_neg (by decide), if_pos (by decide), hk, hx]
    rfl
  · have htt : ttext t = t.text := by simp [ttext, hk]
    rw [htt] at h ⊢
    match hT : t.text, hne with
    | c :: T, _ =>
      rw [hT] at h
      obtain ⟨g1, g2, g3⟩ := getD_drop (by simpa using h)
      refine ⟨g2, ?_⟩
      rw [hT] at hsg
      have hc := hsg c (by simp)
      obtain ⟨s1, s2, s3, s4, s5⟩ := sign_not hc
      have p1 : pre2 59 59 (l.drop j) = false := by rw [h]; exact pre2_no s2
      have p2 : pre2 40 59 (l.drop j) = false := by rw [h]; exact pre2_no s3
      have hrun : runLen (l.drop j) = (c :: T).length := by
        rw [h]; exact runLen_stop _ _ hsg (fun d D hd => (wgo_head t.kind r hr d D hd).2 hk)
      rw [step, g1, if_neg (by rw [s1]; decide), if_neg (by rw [p1]; decide), if_neg (by rw [p2]; decide), if_neg (by rw [s3]; decide), if_neg (by rw [s4]; decide), if_neg (by rw [s5]; decide), if_pos hc, hrun, h, hk]
      rw [List.take_left]
  · have htt : ttext t = 34 :: (t.text ++ [34]) := by simp [ttext, hk]
    rw [htt] at h ⊢
    obtain ⟨g1, g2, g3⟩ := getD_drop (by simpa using h)
    refine ⟨g2, ?_⟩
    have p1 : pre2 59 59 (l.drop j) = false := by rw [h]; exact pre2_no (by decide)
    have p2 : pre2 40 59 (l.drop j) = false := by rw [h]; exact pre2_no (by decide)
    have hquo : quo (l.drop (j + 1)) false 1 = (t.text.length + 2, 0) := by
      rw [g3, ← hq, show t.text ++ 34 :: wgo (some t.kind) r = (t.text ++ [34]) ++ wgo (some t.kind) r from by simp]
      exact quo_app _ _ _ _ (by rw [hq]; simp)
    rw [step, g1, if_neg (by decide), if_neg (by rw [p1]; decide), if_neg (by rw [p2]; decide), if_neg (by decide), if_neg (by decide), if_pos (by decide), hquo, if_neg (by simp), if_neg (by simp), g3, hk]
    dsimp only
    rw [show t.text.length + 2 - 2 = t.text.length from by omega, List.take_left]
    simp

def key (t : Tk) : Nat × List UInt8 := (t.kind, t.text)
theorem lex_back {l : List UInt8} : ∀ (body : List Tk) (p : Option Nat) (j : Nat) (acc : List Tk), (∀ t ∈ body, Good t) → l.drop j = wgo p body → j ≤ l.length →
    ∃ L, lexAt l j acc = (acc ++ (L ++ [⟨4, l.length, []⟩]), 0, 0) ∧ L.map key = body.map key := by
  intro body
  induction body with
  | nil =>
    intro p j acc _ h hj
    have : l.length ≤ j := by
      have := congrArg List.length h
      simp [wgo] at this
      omega
    exact ⟨[], by rw [lexAt_end this]; simp, rfl⟩
  | cons t r ih =>
    intro p j acc hg h hj
    have hr : ∀ u ∈ r, Good u := fun u hu => hg u (by simp [hu])
    have go : ∀ (j : Nat) (acc : List Tk), l.drop j = ttext t ++ wgo (some t.kind) r → ∃ L, lexAt l j acc = (acc ++ (L ++ [⟨4, l.length, []⟩]), 0, 0) ∧ L.map key = (t :: r).map key := by
      intro j acc h
      obtain ⟨h1, h2⟩ := step_back (hg t (by simp)) hr h
      have h3 := step_ok h1 h2
      dsimp only at h3
      rw [lexAt_ok h1 acc h2]
      obtain ⟨L, e1, e2⟩ := ih (some t.kind) (j + (ttext t).length) (acc ++ [⟨t.kind, j, t.text⟩]) hr (by rw [← List.drop_drop, h, List.drop_left]) h3.2
      refine ⟨⟨t.kind, j, t.text⟩ :: L, ?_, by simp [e2, key]⟩
      simp only [Option.toList_some]
      rw [e1]
      simp
    rw [wgo] at h
    by_cases hs : sp p t.kind = []
    · rw [hs] at h
      exact go j acc (by simpa using h)
    · have hs' : sp p t.kind = [32] := by
        unfold sp at hs ⊢
        split
        · simp at hs
        · rename_i a
          by_cases h : spk a t.kind = true
          · rw [if_pos h]
          · simp [h] at hs
      rw [hs'] at h
      obtain ⟨g1, g2, g3⟩ := getD_drop (by simpa using h)
      have hst : step l j = .ok (none, j + 1) := by rw [step, g1, if_pos (by decide)]
      rw [lexAt_ok g2 acc hst]
      simp only [Option.toList_none, List.append_nil]
      exact go (j + 1) acc g3

/-- THE LAW: tokens lexed without an error, written, are lexed again. -/
theorem back (l : List UInt8) (L : List Tk) (a : Nat) (hl : l.length ≤ 2000) (h : lexF l = (L, a, 0)) :
    ∃ L' b, lexF (wgo none L) = (L', b, 0) ∧ L'.map key = L.map key ∧ (wgo none L).length ≤ 4000 := by
  have e1 : lexF l = lexAt l 0 [] := by rw [lexF, if_neg (by omega), lexAt, Nat.sub_zero]
  rw [e1] at h
  obtain ⟨body, rfl, hg, hw⟩ := lex_good l.length 0 [] L a (by omega) (by omega) (by simp) (by simp [wgo]) h
  have hE : wgo none (body ++ [⟨4, l.length, []⟩]) = wgo none body := by
    rw [wgo_snoc]
    have : sp (lastK none body) 4 = [] := by
      unfold sp
      split
      · rfl
      · simp [spk]
    simp [this, ttext]
  rw [hE]
  obtain ⟨L', h1, h2⟩ := lex_back (l := wgo none body) body none 0 [] hg (by simp) (by omega)
  refine ⟨L' ++ [⟨4, (wgo none body).length, []⟩], 0, ?_, by simp [h2, key], by omega⟩
  rw [lexF, if_neg (by omega)]
  rw [lexAt, Nat.sub_zero] at h1
  rw [h1]
  simp
theorem lex_none {l : List UInt8} : ∀ (f k : Nat) (acc L : List Tk) (a : Nat) (er : Int), l.length ≤ k + f → lexAt l k acc = (L, a, er) → er ≠ 0 → L = [] := by
  intro f
  induction f with
  | zero => intro k acc L a er hf h he; rw [lexAt_end (by omega)] at h; simp at h; exact absurd h.2.2.symm he
  | succ f ih =>
    intro k acc L a er hf h he
    by_cases hkl : k < l.length
    · rcases hs : step l k with x | ⟨t, j⟩
      · rw [lexAt_error hkl acc hs] at h; exact (congrArg Prod.fst h).symm
      · have hj := step_ok hkl hs
        dsimp only at hj
        rw [lexAt_ok hkl acc hs] at h
        exact ih j _ L a er (by omega) h he
    · rw [lexAt_end (by omega)] at h; simp at h; exact absurd h.2.2.symm he
theorem err_none (l : List UInt8) (L : List Tk) (a : Nat) (er : Int) (h : lexF l = (L, a, er)) (he : er ≠ 0) : L = [] := by
  by_cases hl : 1048576 < l.length
  · rw [lexF, if_pos hl] at h; exact (congrArg Prod.fst h).symm
  · have e1 : lexF l = lexAt l 0 [] := by rw [lexF, if_neg hl, lexAt, Nat.sub_zero]
    rw [e1] at h
    exact lex_none l.length 0 [] L a er (by omega) h he
end Go.Proofs.Ytnjhbhbohnjckaa.Tok
