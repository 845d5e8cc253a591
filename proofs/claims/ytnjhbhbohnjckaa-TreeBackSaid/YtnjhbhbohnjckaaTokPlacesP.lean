/-
  Plain law of TokenPlaces: tokens lie in order; the text in which all bytes between tokens are blanks has the same tokens.
-/
import Derived.Test.YtnjhbhbohnjckaaTokBackP
set_option linter.unusedVariables false
namespace Go.Proofs.Ytnjhbhbohnjckaa.Tok

/-- The tokens lie one behind the other in l from e on; a word does not directly follow a word. -/
def Ch (l : List UInt8) : Nat → Bool → List Tk → Prop
  | e, _, [] => e ≤ l.length
  | e, pw, t :: r => Good t ∧ e ≤ t.pos ∧ (pw = true → t.pos = e → t.kind ≠ 2) ∧ (l.drop t.pos).take (ttext t).length = ttext t ∧ Ch l (t.pos + (ttext t).length) (t.kind == 2) r
theorem ch_le {l : List UInt8} : ∀ (body : List Tk) (e : Nat) (pw : Bool), Ch l e pw body → e ≤ l.length := by
  intro body
  induction body with
  | nil => intro e pw h; exact h
  | cons t r ih =>
    intro e pw h
    have := ih _ _ h.2.2.2.2
    have := h.2.1
    omega

theorem quo_ends : ∀ (D : List UInt8) (e : Bool) (i n : Nat), quo D e i = (n, 0) → D.take (n - i) = D.take (n - i - 1) ++ [34] := by
  intro D
  induction D with
  | nil => intro e i n h; simp [quo] at h
  | cons c r ih =>
    intro e i n h
    have hle := (quo_take (c :: r) e i n h).1
    rw [quo] at h
    have next : ∀ e', quo r e' (i + 1) = (n, 0) → (c :: r).take (n - i) = (c :: r).take (n - i - 1) ++ [34] := by
      intro e' h'
      have h1 := (quo_take r e' (i + 1) n h').1
      rw [show n - i - 1 = (n - (i + 1) - 1) + 1 from by omega, show n - i = (n - (i + 1)) + 1 from by omega, List.take_succ_cons, List.take_succ_cons, ih e' (i + 1) n h']
      rfl
    split at h
    · simp at h
    · split at h
      · exact next _ h
      · split at h
        · exact next _ h
        · split at h
          · rename_i h34
            simp at h h34
            subst h h34
            rw [show i + 1 - i = 1 from by omega]
            simp
          · exact next _ h
theorem getD_at {l : List UInt8} {i : Nat} (hi : i < l.length) : l.getD i 0 = l[i] := by simp [hi]
theorem step_more2 {l : List UInt8} {i j : Nat} {t : Tk} (hi : i < l.length) (h : step l i = .ok (some t, j)) :
    (t.kind = 2 → sign l[i] = true ∧ ∀ hj : j < l.length, sign l[j] = false) ∧ (l.drop i).take (ttext t).length = ttext t := by
  unfold step at h
  rw [getD_at hi] at h
  have hd := List.drop_eq_getElem_cons hi
  split at h
  · simp at h
  split at h
  · simp at h
  split at h
  · split at h <;> simp at h
  split at h
  · rename_i hc; simp at h hc; obtain ⟨rfl, rfl⟩ := h; exact ⟨fun h => by simp at h, by rw [hd, hc]; rfl⟩
  split at h
  · rename_i hc; simp at h hc; obtain ⟨rfl, rfl⟩ := h; exact ⟨fun h => by simp at h, by rw [hd, hc]; rfl⟩
  split at h
  · rename_i hc
    split at h
    · cases h
    split at h
    · cases h
    · rename_i n4 n3
      simp at h hc; obtain ⟨rfl, rfl⟩ := h
      have hq : quo (l.drop (i + 1)) false 1 = ((quo (l.drop (i + 1)) false 1).1, 0) := by
        rcases quo_le (l.drop (i + 1)) false 1 with h | h | h
        · exact absurd h.1 n3
        · exact absurd h.1 n4
        · exact Prod.ext rfl h.1
      generalize (quo (l.drop (i + 1)) false 1).1 = n at hq
      have he := quo_ends _ _ _ _ hq
      obtain ⟨h1, h2, h3⟩ := quo_take _ _ _ _ hq
      simp only [List.length_drop] at h2
      refine ⟨fun h => by simp at h, ?_⟩
      have hl1 : ((l.drop (i + 1)).take (n - 2)).length = n - 2 := by simp; omega
      have htt : ttext ⟨3, i, (l.drop (i + 1)).take (n - 2)⟩ = 34 :: ((l.drop (i + 1)).take (n - 2) ++ [34]) := by simp [ttext]
      rw [htt, hd, hc]
      simp only [List.length_cons, List.length_append, hl1, List.length_nil]
      rw [List.take_succ_cons, show n - 2 + (0 + 1) = n - 1 from by omega, he, show n - 1 - 1 = n - 2 from by omega]
  split at h
  · rename_i hs
    simp at h; obtain ⟨rfl, rfl⟩ := h
    have hr := runLen_le (l.drop i)
    simp only [List.length_drop] at hr
    refine ⟨fun _ => ⟨hs, fun hj => ?_⟩, ?_⟩
    · have := runLen_out (l.drop i) (by simp; omega)
      simpa using this
    · have hx : ((l.drop i).take (runLen (l.drop i))).length = runLen (l.drop i) := by simp; omega
      have htt : ttext ⟨2, i, (l.drop i).take (runLen (l.drop i))⟩ = (l.drop i).take (runLen (l.drop i)) := by simp [ttext]
      rw [htt, hx]
  · cases h

theorem lex_ch {l : List UInt8} : ∀ (f k : Nat) (acc L : List Tk) (a e : Nat) (pw : Bool), l.length ≤ k + f → k ≤ l.length → e ≤ k → (pw = true → e = k → ∀ h : k < l.length, sign l[k] = false) → lexAt l k acc = (L, a, 0) →
    ∃ body, L = acc ++ (body ++ [⟨4, l.length, []⟩]) ∧ Ch l e pw body := by
  intro f
  induction f with
  | zero =>
    intro k acc L a e pw hf hk he hp h
    rw [lexAt_end (by omega)] at h
    simp at h
    exact ⟨[], by simpa using h.1.symm, by show e ≤ l.length; omega⟩
  | succ f ih =>
    intro k acc L a e pw hf hk he hp h
    by_cases hkl : k < l.length
    · rcases hs : step l k with x | ⟨t, j⟩
      · rw [lexAt_error hkl acc hs] at h
        exfalso
        simp at h
        have : x.2 = 3 ∨ x.2 = 4 := by
          clear ih h
          unfold step at hs
          repeat' split at hs
          all_goals first | (cases hs; done) | (injection hs with hs; subst hs; first | exact .inl rfl | exact .inr rfl)
        omega
      · have hj := step_ok hkl hs
        dsimp only at hj
        rw [lexAt_ok hkl acc hs] at h
        rcases t with _ | t
        · obtain ⟨body, h1, h2⟩ := ih j _ L a e pw (by omega) hj.2 (by omega) (fun _ h => by omega) h
          exact ⟨body, by simpa using h1, h2⟩
        · obtain ⟨g1, g2, g3⟩ := step_good hkl hs
          obtain ⟨m1, m2⟩ := step_more2 hkl hs
          obtain ⟨body, h1, h2⟩ := ih j _ L a j (t.kind == 2) (by omega) hj.2 (Nat.le_refl _) (fun h2 _ => (m1 (by simpa using h2)).2) h
          refine ⟨t :: body, by simpa using h1, g1, by omega, ?_, by rw [g3]; exact m2, by rw [g3, g2]; exact h2⟩
          intro hpw hte hk2
          have := hp hpw (by omega) hkl
          rw [(m1 hk2).1] at this
          cases this
    · rw [lexAt_end (by omega)] at h
      simp at h
      exact ⟨[], by simpa using h.1.symm, by show e ≤ l.length; omega⟩

/-- The text with blanks between the tokens. -/
def lay (n : Nat) : Nat → List Tk → List UInt8
  | e, [] => List.replicate (n - e) 32
  | e, t :: r => List.replicate (t.pos - e) 32 ++ (ttext t ++ lay n (t.pos + (ttext t).length) r)
def put (B : List UInt8) (t : Tk) : List UInt8 := B.take t.pos ++ (ttext t ++ B.drop (t.pos + (ttext t).length))
theorem put_len (B : List UInt8) (t : Tk) (h : t.pos + (ttext t).length ≤ B.length) : (put B t).length = B.length := by
  simp [put]; omega
theorem foldl_put {l : List UInt8} : ∀ (body : List Tk) (e : Nat) (pw : Bool) (X : List UInt8), Ch l e pw body → X.length = e → body.foldl put (X ++ List.replicate (l.length - e) 32) = X ++ lay l.length e body := by
  intro body
  induction body with
  | nil => intro e pw X h hX; rfl
  | cons t r ih =>
    intro e pw X h hX
    have hle := ch_le _ _ _ h.2.2.2.2
    have hep := h.2.1
    rw [List.foldl_cons]
    have hput : put (X ++ List.replicate (l.length - e) 32) t = (X ++ List.replicate (t.pos - e) 32 ++ ttext t) ++ List.replicate (l.length - (t.pos + (ttext t).length)) 32 := by
      unfold put
      rw [List.take_append, List.take_of_length_le (by omega), List.take_replicate, List.drop_append, List.drop_eq_nil_of_le (by omega), List.drop_replicate, hX, show min (t.pos - e) (l.length - e) = t.pos - e from by omega, show l.length - e - (t.pos + (ttext t).length - e) = l.length - (t.pos + (ttext t).length) from by omega]
      simp
    rw [hput, ih _ _ _ h.2.2.2.2 (by simp; omega), lay]
    simp
theorem lay_len {l : List UInt8} : ∀ (body : List Tk) (e : Nat) (pw : Bool), Ch l e pw body → (lay l.length e body).length = l.length - e := by
  intro body
  induction body with
  | nil => intro e pw h; simp [lay]
  | cons t r ih =>
    intro e pw h
    have := ih _ _ h.2.2.2.2
    have := ch_le _ _ _ h.2.2.2.2
    have := h.2.1
    simp [lay]
    omega

theorem lay_head {l : List UInt8} (r : List Tk) (e : Nat) (pw : Bool) (h : Ch l e pw r) (c : UInt8) (D : List UInt8) (hc : lay l.length e r = c :: D) : c ≠ 59 ∧ (pw = true → sign c = false) := by
  have blank : ∀ m X, List.replicate (m + 1) (32 : UInt8) ++ X = c :: D → c ≠ 59 ∧ (pw = true → sign c = false) := by
    intro m X h
    rw [List.replicate_succ] at h
    simp at h
    rw [← h.1]
    exact ⟨by decide, fun _ => by decide⟩
  cases r with
  | nil =>
    rw [lay] at hc
    match hm : l.length - e with
    | 0 => rw [hm] at hc; simp at hc
    | m + 1 => rw [hm] at hc; exact blank m [] (by simpa using hc)
  | cons t r =>
    rw [lay] at hc
    match hm : t.pos - e with
    | m + 1 => rw [hm] at hc; exact blank m _ hc
    | 0 =>
      rw [hm] at hc
      simp only [List.replicate_zero, List.nil_append] at hc
      have hte : t.pos = e := by have := h.2.1; omega
      rcases h.1 with ⟨hk, _⟩ | ⟨hk, _⟩ | ⟨hk, hne, hsg⟩ | ⟨hk, _⟩
      · simp only [ttext, hk] at hc
        simp at hc
        rw [← hc.1]
        exact ⟨by decide, fun _ => by decide⟩
      · simp only [ttext, hk] at hc
        simp at hc
        rw [← hc.1]
        exact ⟨by decide, fun _ => by decide⟩
      · have htt : ttext t = t.text := by simp [ttext, hk]
        rw [htt] at hc
        match ht : t.text, hne with
        | d :: T, _ =>
          rw [ht] at hc hsg
          simp at hc
          have hd := hsg d (by simp)
          rw [← hc.1]
          refine ⟨fun he => ?_, fun hp => absurd hk (h.2.2.1 hp hte)⟩
          have := (sign_not hd).2.1
          subst he
          simp at this
      · simp only [ttext, hk] at hc
        simp at hc
        rw [← hc.1]
        exact ⟨by decide, fun _ => by decide⟩

/-- A good token is read where it stands, if what follows does not join it. -/
theorem step_at {l : List UInt8} {j : Nat} {t : Tk} {R : List UInt8} (ht : Good t) (hR : ∀ c D, R = c :: D → c ≠ 59 ∧ (t.kind = 2 → sign c = false)) (h : l.drop j = ttext t ++ R) :
    j < l.length ∧ step l j = .ok (some ⟨t.kind, j, t.text⟩, j + (ttext t).length) := by
  rcases ht with ⟨hk, hx⟩ | ⟨hk, hx⟩ | ⟨hk, hne, hsg⟩ | ⟨hk, hq⟩
  · have htt : ttext t = [40] := by simp [ttext, hk]
    rw [htt] at h ⊢
    obtain ⟨g1, g2, g3⟩ := getD_drop (by simpa using h)
    refine ⟨g2, ?_⟩
    have p1 : pre2 59 59 (l.drop j) = false := by rw [h]; exact pre2_no (by decide)
    have p2 : pre2 40 59 (l.drop j) = false := by
      rw [h]; exact pre2_no2 (fun d E hd => (hR d E (by simpa using hd)).1)
    rw [step, g1, if_neg (by decide), if_neg (by rw [p1]; decide), if_neg (by rw [p2]; decide), if_pos (by decide), hk, hx]
    rfl
  · have htt : ttext t = [41] := by simp [ttext, hk]
    rw [htt] at h ⊢
    obtain ⟨g1, g2, g3⟩ := getD_drop (by simpa using h)
    refine ⟨g2, ?_⟩
    have p1 : pre2 59 59 (l.drop j) = false := by rw [h]; exact pre2_no (by decide)
    have p2 : pre2 40 59 (l.drop j) = false := by rw [h]; exact pre2_no (by decide)
    rw [step, g1, if_neg (by decide), if_neg (by rw [p1]; decide), if_neg (by rw [p2]; decide), if_neg (by decide), if_pos (by decide), hk, hx]
    rfl
  · have htt : ttext t = t.text := by simp [ttext, hk]
    rw [htt] at h ⊢
    match hT : t.text, hne with
    | c :: T, _ =>
      rw [hT] at h
      obtain ⟨g1, g2, g3⟩ := getD_drop (by simpa using h)
      refine ⟨g2, ?_⟩
      rw [hT] at hsg
      have hc := hsg c (by simp)
      obtain ⟨s1, s2, s3, s4, s5⟩ := sign_not hc
      have p1 : pre2 59 59 (l.drop j) = false := by rw [h]; exact pre2_no s2
      have p2 : pre2 40 59 (l.drop j) = false := by rw [h]; exact pre2_no s3
      have hrun : runLen (l.drop j) = (c :: T).length := by
        rw [h]; exact runLen_stop _ _ hsg (fun d D hd => (hR d D hd).2 hk)
      rw [step, g1, if_neg (by rw [s1]; decide), if_neg (by rw [p1]; decide), if_neg (by rw [p2]; decide), if_neg (by rw [s3]; decide), if_neg (by rw [s4]; decide), if_neg (by rw [s5]; decide), if_pos hc, hrun, h, hk]
      rw [List.take_left]
  · have htt : ttext t = 34 :: (t.text ++ [34]) := by simp [ttext, hk]
    rw [htt] at h ⊢
    obtain ⟨g1, g2, g3⟩ := getD_drop (by simpa using h)
    refine ⟨g2, ?_⟩
    have p1 : pre2 59 59 (l.drop j) = false := by rw [h]; exact pre2_no (by decide)
    have p2 : pre2 40 59 (l.drop j) = false := by rw [h]; exact pre2_no (by decide)
    have hquo : quo (l.drop (j + 1)) false 1 = (t.text.length + 2, 0) := by
      rw [g3, ← hq, show t.text ++ 34 :: R = (t.text ++ [34]) ++ R from by simp]
      exact quo_app _ _ _ _ (by rw [hq]; simp)
    rw [step, g1, if_neg (by decide), if_neg (by rw [p1]; decide), if_neg (by rw [p2]; decide), if_neg (by decide), if_neg (by decide), if_pos (by decide), hquo, if_neg (by simp), if_neg (by simp), g3, hk]
    dsimp only
    rw [show t.text.length + 2 - 2 = t.text.length from by omega, List.take_left]
    simp

theorem skip_blanks {B : List UInt8} : ∀ (m i : Nat) (X : List UInt8) (acc : List Tk), B.drop i = List.replicate m 32 ++ X → lexAt B i acc = lexAt B (i + m) acc := by
  intro m
  induction m with
  | zero => intro i X acc h; rfl
  | succ m ih =>
    intro i X acc h
    rw [List.replicate_succ] at h
    obtain ⟨g1, g2, g3⟩ := getD_drop (by simpa using h)
    have hst : step B i = .ok (none, i + 1) := by rw [step, g1, if_pos (by decide)]
    rw [lexAt_ok g2 acc hst]
    simp only [Option.toList_none, List.append_nil]
    rw [ih (i + 1) X acc g3, show i + 1 + m = i + (m + 1) from by omega]
theorem lex_lay {l B : List UInt8} (hB : B.length = l.length) : ∀ (body : List Tk) (e : Nat) (pw : Bool) (acc : List Tk), Ch l e pw body → B.drop e = lay l.length e body →
    lexAt B e acc = (acc ++ (body ++ [⟨4, l.length, []⟩]), 0, 0) := by
  intro body
  induction body with
  | nil =>
    intro e pw acc h hd
    have he : e ≤ l.length := h
    rw [skip_blanks (l.length - e) e [] acc (by rw [hd]; simp [lay]), lexAt_end (by omega), hB]
    simp
  | cons t r ih =>
    intro e pw acc h hd
    have hle := ch_le _ _ _ h.2.2.2.2
    have hep := h.2.1
    rw [lay] at hd
    rw [skip_blanks (t.pos - e) e _ acc hd, show e + (t.pos - e) = t.pos from by omega]
    have hd2 : B.drop t.pos = ttext t ++ lay l.length (t.pos + (ttext t).length) r := by
      rw [show t.pos = e + (t.pos - e) from by omega, ← List.drop_drop, hd, List.drop_left' (by simp)]
      rw [show e + (t.pos - e) = t.pos from by omega]
    obtain ⟨h1, h2⟩ := step_at h.1 (fun c D hc => by
      have := lay_head r _ _ h.2.2.2.2 c D hc
      exact ⟨this.1, fun hk => this.2 (by simp [hk])⟩) hd2
    rw [lexAt_ok h1 acc h2]
    have := ih (t.pos + (ttext t).length) (t.kind == 2) (acc ++ [t]) h.2.2.2.2 (by rw [← List.drop_drop, hd2, List.drop_left])
    simp only [Option.toList_some]
    rw [show (⟨t.kind, t.pos, t.text⟩ : Tk) = t from rfl, this]
    simp

/-- THE LAW. -/
theorem places (l : List UInt8) (L : List Tk) (a : Nat) (hl : l.length ≤ 2000) (h : lexF l = (L, a, 0)) :
    ∃ body, L = body ++ [⟨4, l.length, []⟩] ∧ Ch l 0 false body ∧ lexF (body.foldl put (List.replicate l.length 32)) = (L, 0, 0) ∧ (body.foldl put (List.replicate l.length 32)).length = l.length := by
  have e1 : lexF l = lexAt l 0 [] := by rw [lexF, if_neg (by omega), lexAt, Nat.sub_zero]
  rw [e1] at h
  obtain ⟨body, rfl, hc⟩ := lex_ch l.length 0 [] L a 0 false (by omega) (by omega) (by omega) (fun h => by cases h) h
  have hf := foldl_put body 0 false [] hc rfl
  simp only [List.nil_append, Nat.sub_zero] at hf
  have hlen := lay_len body 0 false hc
  refine ⟨body, rfl, hc, ?_, by rw [hf]; omega⟩
  rw [hf, lexF, if_neg (by omega)]
  have := lex_lay (l := l) (B := lay l.length 0 body) (by omega) body 0 false [] hc (by simp)
  rw [lexAt, Nat.sub_zero] at this
  rw [this]

/-- Where the k-th token may begin. -/
def endAt (e : Nat) (body : List Tk) (k : Nat) : Nat := match k with | 0 => e | k + 1 => match body[k]? with | none => 0 | some t => t.pos + (ttext t).length
theorem ch_get {l : List UInt8} : ∀ (body : List Tk) (e : Nat) (pw : Bool) (k : Nat) (hk : k < body.length), Ch l e pw body →
    Good body[k] ∧ endAt e body k ≤ body[k].pos ∧ body[k].pos + (ttext body[k]).length ≤ l.length ∧ (l.drop body[k].pos).take (ttext body[k]).length = ttext body[k] := by
  intro body
  induction body with
  | nil => intro e pw k hk; simp at hk
  | cons t r ih =>
    intro e pw k hk h
    match k, hk with
    | 0, _ => exact ⟨h.1, h.2.1, ch_le _ _ _ h.2.2.2.2, h.2.2.2.1⟩
    | k + 1, hk =>
      obtain ⟨h1, h2, h3, h4⟩ := ih (t.pos + (ttext t).length) (t.kind == 2) k (by simpa using hk) h.2.2.2.2
      have hE : endAt e (t :: r) (k + 1) = endAt (t.pos + (ttext t).length) r k := by cases k <;> rfl
      exact ⟨h1, by rw [hE]; exact h2, h3, h4⟩
theorem endAt_succ (e : Nat) (body : List Tk) (k : Nat) (hk : k < body.length) : endAt e body (k + 1) = body[k].pos + (ttext body[k]).length := by simp [endAt, hk]
theorem good_kind {t : Tk} (h : Good t) : t.kind ≤ 3 := by
  rcases h with ⟨h, _⟩ | ⟨h, _⟩ | ⟨h, _⟩ | ⟨h, _⟩ <;> omega
theorem err_pos (l : List UInt8) (L : List Tk) (a : Nat) (er : Int) (h : lexF l = (L, a, er)) (he : er ≠ 0) : a ≤ l.length := by
  by_cases hl : 1048576 < l.length
  · rw [lexF, if_pos hl] at h
    have := congrArg (fun x => x.2.1) h
    dsimp only at this
    omega
  · have e1 : lexF l = lexAt l 0 [] := by rw [lexF, if_neg hl, lexAt, Nat.sub_zero]
    rw [e1] at h
    have go : ∀ (f k : Nat) (acc : List Tk), l.length ≤ k + f → lexAt l k acc = (L, a, er) → a ≤ l.length := by
      intro f
      induction f with
      | zero => intro k acc hf h; rw [lexAt_end (by omega)] at h; simp at h; exact absurd h.2.2.symm he
      | succ f ih =>
        intro k acc hf h
        by_cases hkl : k < l.length
        · rcases hs : step l k with x | ⟨t, j⟩
          · rw [lexAt_error hkl acc hs] at h
            have hx : x.1 = a := congrArg (fun x => x.2.1) h
            rw [← hx]
            have hq := quo_le (l.drop (k + 1)) false 1
            simp only [List.length_drop] at hq
            clear ih h
            unfold step at hs
            repeat' split at hs
            all_goals first | (cases hs; done) | (injection hs with hs; subst hs; dsimp only; omega)
          · have hj := step_ok hkl hs
            dsimp only at hj
            rw [lexAt_ok hkl acc hs] at h
            exact ih j _ (by omega) h
        · rw [lexAt_end (by omega)] at h; simp at h; exact absurd h.2.2.symm he
    exact go l.length 0 [] (by omega) h
end Go.Proofs.Ytnjhbhbohnjckaa.Tok
