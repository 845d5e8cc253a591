/-
  The reference's skip, next and Lex compute the plain lexer too.
-/
import Derived.Test.YtnjhbhbohnjckaaTokRef
import Derived.Test.YtnjhbhbohnjckaaTokOurs
set_option linter.unusedVariables false
namespace Go.Proofs.Ytnjhbhbohnjckaa
open Go.RowKit
attribute [local go_sem] ByteArray.extract_mk

/-- What skip returns. -/
def skipF (l : List UInt8) (k : Nat) : Int :=
  if Tok.ws (l.getD k 0) then k + 1
  else if Tok.pre2 59 59 (l.drop k) then (k + lineEnd (l.drop k) : Nat)
  else if Tok.pre2 40 59 (l.drop k) then (if Tok.rem (l.drop k) 0 0 = 0 then -1 else (k : Int) + (Tok.rem (l.drop k) 0 0 : Nat))
  else k

theorem pre2_long {a b : UInt8} {m : List UInt8} (h : Tok.pre2 a b m = true) : 2 ≤ m.length := by
  unfold Tok.pre2 at h
  have e : m.take 2 = [a, b] := by simpa using h
  have := congrArg List.length e
  simp at this
  omega

set_option maxHeartbeats 1000000 in
set_option maxRecDepth 100000 in
theorem skip_any (l : List UInt8) (k : Nat) (w : World) (r : Int) (hr : skipF l k = r) (hk : k < l.length) (hl : l.length ≤ 1048576) :
    Calls Try.prog 40 #[.string ⟨l.toArray⟩, .int .i64 k] w fun e w' => e = .returned (.int .i64 r) ∧ w = w' := by
  unfold skipF at hr
  obtain ⟨c, hc⟩ : ∃ c, l[k] = c := ⟨_, rfl⟩
  have hget := ba_get l k hk c hc
  have hg : l.getD k 0 = c := by simp [hk, hc]
  rw [hg] at hr
  clear hg hc
  by_cases hw : Tok.ws c = true
  · rw [if_pos hw] at hr
    have HR := Lib.hid hr
    have hcs : c = 32 ∨ c = 9 ∨ c = 10 ∨ c = 13 := by simpa [Tok.ws, or_assoc] using hw
    clear hr hw
    rcases hcs with rfl | rfl | rfl | rfl
    all_goals
      go_enter Try.func40, Try.ntmps40
      go_wp2
      go_ret
      exact ⟨by rw [← HR.out]; rfl, rfl⟩
  · rw [if_neg hw] at hr
    have hcn : c ≠ 32 ∧ c ≠ 9 ∧ c ≠ 10 ∧ c ≠ 13 := by simpa [Tok.ws, and_assoc] using hw
    have n32 : ((c.toNat : Int) == 32) = false := cne c 32 (by omega) hcn.1
    have n9 : ((c.toNat : Int) == 9) = false := cne c 9 (by omega) hcn.2.1
    have n10 : ((c.toNat : Int) == 10) = false := cne c 10 (by omega) hcn.2.2.1
    have n13 : ((c.toNat : Int) == 13) = false := cne c 13 (by omega) hcn.2.2.2
    clear hw hcn
    rcases p1 : Tok.pre2 59 59 (l.drop k) with _ | _
    · rw [p1, if_neg (by decide)] at hr
      rcases p2 : Tok.pre2 40 59 (l.drop k) with _ | _
      · rw [p2, if_neg (by decide)] at hr
        have HR := Lib.hid hr
        clear hr
        unfold Tok.pre2 at p1 p2
        by_cases hk1 : k + 1 < l.length
        · have t1 : decide ((k : Int) + 1 < (l.length : Int)) = true := by simp; omega
          obtain ⟨T, hT⟩ : ∃ T, (l.drop k).take 2 = T := ⟨_, rfl⟩
          rw [hT] at p1 p2
          go_enter Try.func40, Try.ntmps40
          go_wp2
          go_ret
          exact ⟨by rw [← HR.out]; rfl, rfl⟩
        · have t1 : decide ((k : Int) + 1 < (l.length : Int)) = false := by simp; omega
          go_enter Try.func40, Try.ntmps40
          go_wp2
          go_ret
          exact ⟨by rw [← HR.out]; rfl, rfl⟩
      · rw [p2, if_pos rfl] at hr
        have HP2 := Lib.hid p2
        have HR := Lib.hid hr
        have hlen := pre2_long p2
        simp at hlen
        have t1 : decide ((k : Int) + 1 < (l.length : Int)) = true := by simp; omega
        unfold Tok.pre2 at p1 p2
        obtain ⟨T, hT⟩ : ∃ T, (l.drop k).take 2 = T := ⟨_, rfl⟩
        rw [hT] at p1 p2
        have hk2 : k + 2 ≤ l.length := by omega
        clear hr hlen
        go_enter Try.func40, Try.ntmps40
        go_wp2_with (go_at_call 49; (with_reducible refine (refRemark_any l k r _ HR.out HP2.out (by omega) hl).mono ?_); rintro e w1 ⟨rfl, rfl⟩)
        go_ret
        exact ⟨rfl, rfl⟩
    · rw [p1, if_pos rfl] at hr
      have HR := Lib.hid hr
      have hlen := pre2_long p1
      simp at hlen
      have t1 : decide ((k : Int) + 1 < (l.length : Int)) = true := by simp; omega
      unfold Tok.pre2 at p1
      obtain ⟨T, hT⟩ : ∃ T, (l.drop k).take 2 = T := ⟨_, rfl⟩
      rw [hT] at p1
      have hk2 : k + 2 ≤ l.length := by omega
      clear hr hlen
      go_enter Try.func40, Try.ntmps40
      go_wp2_with (go_at_call 48; (with_reducible refine (line_any l k _ _ rfl (by omega) hl).mono ?_); rintro e w1 ⟨rfl, rfl⟩)
      go_ret
      exact ⟨by rw [← HR.out]; rfl, rfl⟩

/-- What next returns: the token, the next offset and the error. -/
def RetNext (t : Tok.Tk) (j : Int) (er : Int) (w : World) (e : Ending) (w' : World) : Prop :=
  e = .returned (.tuple #[.agg #[.int .i64 (t.kind : Int), .int .i64 (t.pos : Int), .string ⟨t.text.toArray⟩], .int .i64 j, .int .i64 er]) ∧ Below w.heap.size w w'

set_option maxHeartbeats 1000000 in
set_option maxRecDepth 100000 in
theorem next_err (l : List UInt8) (k a : Nat) (er : Int) (w : World) (hs : Tok.step l k = .error (a, er)) (hw : Tok.ws (l.getD k 0) = false) (p1 : Tok.pre2 59 59 (l.drop k) = false) (p2 : Tok.pre2 40 59 (l.drop k) = false) (hk : k < l.length) (hl : l.length ≤ 1048576) :
    Calls Try.prog 41 #[.string ⟨l.toArray⟩, .int .i64 k] w (RetNext ⟨0, 0, []⟩ a er w) := by
  obtain ⟨c, hc⟩ : ∃ c, l[k] = c := ⟨_, rfl⟩
  have hget := ba_get l k hk c hc
  have hg : l.getD k 0 = c := by simp [hk, hc]
  rw [Tok.step, if_neg (by rw [hw]; decide), if_neg (by rw [p1]; decide), if_neg (by rw [p2]; decide), hg] at hs
  clear hw p1 p2
  by_cases h40 : c = 40
  · rw [if_pos (by rw [h40]; rfl)] at hs; cases hs
  rw [if_neg (by simpa using h40)] at hs
  by_cases h41 : c = 41
  · rw [if_pos (by rw [h41]; rfl)] at hs; cases hs
  rw [if_neg (by simpa using h41)] at hs
  have n40 : ((c.toNat : Int) == 40) = false := cne c 40 (by omega) h40
  have n41 : ((c.toNat : Int) == 41) = false := cne c 41 (by omega) h41
  by_cases h34 : c = 34
  · rw [if_pos (by rw [h34]; rfl)] at hs
    subst h34
    obtain ⟨⟨n, e0⟩, hq⟩ : ∃ q, Tok.quo (l.drop (k + 1)) false 1 = q := ⟨_, rfl⟩
    have hle := Tok.quo_le (l.drop (k + 1)) false 1
    rw [hq] at hs hle
    dsimp only at hs hle
    have hfin : e0 ≠ 0 ∧ er = e0 ∧ (if e0 = 3 then (k : Int) else (k : Int) + n) = a := by
      by_cases h4 : e0 = 4
      · rw [if_pos h4] at hs
        injection hs with hs
        injection hs with h1 h2
        subst h4
        exact ⟨by omega, h2.symm, by rw [if_neg (by omega)]; omega⟩
      · rw [if_neg h4] at hs
        by_cases h3 : e0 = 3
        · rw [if_pos h3] at hs
          injection hs with hs
          injection hs with h1 h2
          subst h3
          exact ⟨by omega, h2.symm, by rw [if_pos rfl]; omega⟩
        · rw [if_neg h3] at hs; cases hs
    obtain ⟨hne, rfl, hp⟩ := hfin
    have HQ := Lib.hid hq
    have HP := Lib.hid hp
    have hne' : (er != 0) = true := by simpa using hne
    clear hs hle hq hp hc hg h40 h41 hne
    go_enter Try.func41, Try.ntmps41
    go_wp2_with (go_at_call 50; (with_reducible refine (refQuoted_any l k n er a _ HQ.out HP.out hk hl).mono ?_); rintro e w1 ⟨rfl, rfl⟩)
    refine bodyPost_ret (v := .tuple #[.agg #[.int .i64 0, .int .i64 0, .string { data := #[] }], .int .i64 a, .int .i64 er]) (by simp [results, Try.results41, go_sem]) rfl ⟨rfl, ?_⟩
    exact (Below.refl _ _).alloc (Nat.le_refl _) _
  · rw [if_neg (by simpa using h34)] at hs
    have n34 : ((c.toNat : Int) == 34) = false := cne c 34 (by omega) h34
    by_cases hsg : Tok.sign c = true
    · rw [if_pos hsg] at hs; cases hs
    · rw [if_neg hsg] at hs
      injection hs with hs
      injection hs with h1 h2
      subst h1 h2
      have HS := Lib.hid (show Tok.sign c = false by simpa using hsg)
      clear hc hg h40 h41 h34 hsg
      go_enter Try.func41, Try.ntmps41
      go_wp2_with fail
      refine wp_loop_rounds 1 ?_
      rw [rounds_succ]
      go_wp2_with (go_at_call 51; (with_reducible refine (word_any c _).mono ?_); rintro e w1 ⟨rfl, rfl⟩; rw [HS.out])
      refine bodyPost_ret (v := .tuple #[.agg #[.int .i64 0, .int .i64 0, .string { data := #[] }], .int .i64 k, .int .i64 4]) (by simp [results, Try.results41, go_sem]) rfl ⟨rfl, ?_⟩
      exact (Below.refl _ _).alloc (Nat.le_refl _) _

set_option maxHeartbeats 2000000 in
set_option maxRecDepth 100000 in
theorem next_ok (l : List UInt8) (k j : Nat) (t : Tok.Tk) (w : World) (hs : Tok.step l k = .ok (some t, j)) (hw : Tok.ws (l.getD k 0) = false) (p1 : Tok.pre2 59 59 (l.drop k) = false) (p2 : Tok.pre2 40 59 (l.drop k) = false) (hk : k < l.length) (hl : l.length ≤ 1048576) :
    Calls Try.prog 41 #[.string ⟨l.toArray⟩, .int .i64 k] w (RetNext t j 0 w) := by
  obtain ⟨c, hc⟩ : ∃ c, l[k] = c := ⟨_, rfl⟩
  have hget := ba_get l k hk c hc
  have hg : l.getD k 0 = c := by simp [hk, hc]
  have hb := Tok.step_ok hk hs
  dsimp only at hb
  rw [Tok.step, if_neg (by rw [hw]; decide), if_neg (by rw [p1]; decide), if_neg (by rw [p2]; decide), hg] at hs
  clear hw p1 p2
  by_cases h40 : c = 40
  · rw [if_pos (by rw [h40]; rfl)] at hs
    injection hs with hs
    injection hs with h1 h2
    injection h1 with h1
    subst h1 h2 h40
    clear hc hg
    go_enter Try.func41, Try.ntmps41
    go_wp2
    refine bodyPost_ret (v := .tuple #[.agg #[.int .i64 0, .int .i64 k, .string { data := #[] }], .int .i64 (k + 1 : Nat), .int .i64 0]) (by simp [results, Try.results41, go_sem]) rfl ⟨rfl, ?_⟩
    exact (Below.refl _ _).alloc (Nat.le_refl _) _
  rw [if_neg (by simpa using h40)] at hs
  have n40 : ((c.toNat : Int) == 40) = false := cne c 40 (by omega) h40
  by_cases h41 : c = 41
  · rw [if_pos (by rw [h41]; rfl)] at hs
    injection hs with hs
    injection hs with h1 h2
    injection h1 with h1
    subst h1 h2 h41
    clear hc hg h40
    go_enter Try.func41, Try.ntmps41
    go_wp2
    refine bodyPost_ret (v := .tuple #[.agg #[.int .i64 1, .int .i64 k, .string { data := #[] }], .int .i64 (k + 1 : Nat), .int .i64 0]) (by simp [results, Try.results41, go_sem]) rfl ⟨rfl, ?_⟩
    exact (Below.refl _ _).alloc (Nat.le_refl _) _
  rw [if_neg (by simpa using h41)] at hs
  have n41 : ((c.toNat : Int) == 41) = false := cne c 41 (by omega) h41
  by_cases h34 : c = 34
  · rw [if_pos (by rw [h34]; rfl)] at hs
    subst h34
    obtain ⟨⟨n, e0⟩, hq⟩ : ∃ q, Tok.quo (l.drop (k + 1)) false 1 = q := ⟨_, rfl⟩
    have hle := Tok.quo_le (l.drop (k + 1)) false 1
    rw [hq] at hs hle
    dsimp only at hs hle
    have h4 : ¬ e0 = 4 := by intro h; rw [if_pos h] at hs; cases hs
    rw [if_neg h4] at hs
    have h3 : ¬ e0 = 3 := by intro h; rw [if_pos h] at hs; cases hs
    rw [if_neg h3] at hs
    injection hs with hs
    injection hs with h1 h2
    injection h1 with h1
    subst h1 h2
    have hlen : (l.drop (k + 1)).length = l.length - (k + 1) := by simp
    obtain ⟨rfl, hn1, hn2⟩ : e0 = 0 ∧ 1 + 1 ≤ n ∧ n ≤ 1 + (l.drop (k + 1)).length := by omega
    have hkn : k + n ≤ l.length := by omega
    obtain ⟨m, rfl⟩ : ∃ m, n = m + 2 := ⟨n - 2, by omega⟩
    have HQ := Lib.hid hq
    have hp : (if (0 : Int) = 3 then (k : Int) else (k : Int) + (m + 2 : Nat)) = (k : Int) + ((m : Int) + 2) := by rw [if_neg (by omega)]; omega
    have HP := Lib.hid hp
    have hX : k + (m + 1) - (k + 1) = m := by omega
    clear hle hq hp hc hg h40 h41 h4 h3 hn1 hn2 hlen
    go_enter Try.func41, Try.ntmps41
    go_wp2_with (go_at_call 50; (with_reducible refine (refQuoted_any l k (m + 2) 0 ((k : Int) + ((m : Int) + 2)) _ HQ.out HP.out hk hl).mono ?_); rintro e w1 ⟨rfl, rfl⟩)
    refine bodyPost_ret (v := .tuple #[.agg #[.int .i64 3, .int .i64 k, .string { data := (List.take m (List.drop (k + 1) l)).toArray }], .int .i64 ((k : Int) + ((m : Int) + 2)), .int .i64 0]) (by simp [results, Try.results41, go_sem]) rfl ⟨rfl, ?_⟩
    exact (Below.refl _ _).alloc (Nat.le_refl _) _
  · rw [if_neg (by simpa using h34)] at hs
    have n34 : ((c.toNat : Int) == 34) = false := cne c 34 (by omega) h34
    have hsg : Tok.sign c = true := by
      rcases h : Tok.sign c with _ | _
      · rw [h, if_neg (by decide)] at hs; cases hs
      · rfl
    rw [if_pos hsg] at hs
    obtain ⟨r, hr⟩ : ∃ r, Tok.runLen (l.drop k) = r := ⟨_, rfl⟩
    have hin := Tok.runLen_in (l.drop k)
    have hout := Tok.runLen_out (l.drop k)
    rw [hr] at hs
    injection hs with hs
    injection hs with h1 h2
    injection h1 with h1
    subst h1 h2
    have hin' : ∀ q, k ≤ q → q < k + r → ∃ h : q < l.length, Tok.sign l[q] = true := by
      intro q hq0 hq1
      obtain ⟨h1, h2⟩ := hin (q - k) (by omega)
      have h3 : q < l.length := by simp at h1; omega
      refine ⟨h3, ?_⟩
      simp only [List.getElem_drop, show k + (q - k) = q from by omega] at h2
      exact h2
    have hout' : ∀ q, q = k + r → ∀ h : q < l.length, Tok.sign l[q] = false := by
      intro q hq h
      subst hq
      have := hout (by rw [hr]; simp; omega)
      simpa [hr] using this
    have HIN := Lib.hid hin'
    have HOUT := Lib.hid hout'
    have hr1 : 1 ≤ r := by omega
    have hrl : k + r ≤ l.length := hb.2
    clear hc hg h40 h41 h34 hsg hin hout hin' hout' hr hb
    go_enter Try.func41, Try.ntmps41
    go_wp2_with fail
    go_loop [10] (fun iv => ∃ q : Nat, k ≤ q ∧ q ≤ k + r ∧ iv = .int .i64 q) (fun iv => l.length - (intOf iv).toNat)
    case atStart => exact ⟨k, by omega, by omega, rfl⟩
    case round =>
      clear hget
      obtain ⟨q, hq0, hq1, rfl⟩ := hrel
      by_cases hqr : q < k + r
      · obtain ⟨hql, hqs⟩ := HIN.out q hq0 hqr
        obtain ⟨d, hd⟩ : ∃ d, l[q] = d := ⟨_, rfl⟩
        have hget := ba_get l q hql d hd
        rw [hd] at hqs
        have HQS := Lib.hid hqs
        have t1 : decide ((q : Int) < (l.length : Int)) = true := by simp; omega
        clear hd hqs
        go_wp2_with (go_at_call 51; (with_reducible refine (word_any d _).mono ?_); rintro e w1 ⟨rfl, rfl⟩; rw [HQS.out])
        go_round
        case rel => exact ⟨q + 1, by omega, by omega, by go_num⟩
        case measure => simp [intOf]; omega
      · obtain rfl : q = k + r := by omega
        have g5 : (((k + r : Nat) : Int) == (k : Int)) = false := by rw [beq_eq_false_iff_ne]; omega
        have g6 : ((k : Int) + (r : Int) == (k : Int)) = false := by rw [beq_eq_false_iff_ne]; omega
        by_cases hql : k + r < l.length
        · obtain ⟨d, hd⟩ : ∃ d, l[k + r] = d := ⟨_, rfl⟩
          have hqs := HOUT.out (k + r) rfl hql
          have hget := ba_get l (k + r) hql d hd
          rw [hd] at hqs
          have HQS := Lib.hid hqs
          clear hd hqs
          go_wp2_with (go_at_call 51; (with_reducible refine (word_any d _).mono ?_); rintro e w1 ⟨rfl, rfl⟩; rw [HQS.out])
          refine bodyPost_ret (v := .tuple #[.agg #[.int .i64 2, .int .i64 k, .string { data := (List.take r (List.drop k l)).toArray }], .int .i64 ((k : Int) + (r : Int)), .int .i64 0]) (by simp [results, Try.results41, go_sem]) rfl ⟨rfl, ?_⟩
          exact (Below.refl _ _).alloc (Nat.le_refl _) _
        · go_wp2_with fail
          refine bodyPost_ret (v := .tuple #[.agg #[.int .i64 2, .int .i64 k, .string { data := (List.take r (List.drop k l)).toArray }], .int .i64 ((k : Int) + (r : Int)), .int .i64 0]) (by simp [results, Try.results41, go_sem]) rfl ⟨rfl, ?_⟩
          exact (Below.refl _ _).alloc (Nat.le_refl _) _
end Go.Proofs.Ytnjhbhbohnjckaa
