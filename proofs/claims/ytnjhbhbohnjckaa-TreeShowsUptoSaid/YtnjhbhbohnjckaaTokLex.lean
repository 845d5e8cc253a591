/-
  The walk of token.Lex: it returns what the plain lexer says.
-/
import Derived.Test.YtnjhbhbohnjckaaTokWalk
import Derived.WalkMore
import Derived.Deep.LoopGhost
set_option linter.unusedVariables false
namespace Go.Proofs.Ytnjhbhbohnjckaa
open Go.RowKit
attribute [local go_sem] ByteArray.extract_mk

def tokCells (t : Tok.Tk) : List Value := [.int .i64 (t.kind : Int), .int .i64 (t.pos : Int), .string ⟨t.text.toArray⟩]
def toks (l : List Tok.Tk) : List Value := l.flatMap tokCells
theorem toks_snoc (l : List Tok.Tk) (t : Tok.Tk) : toks (l ++ [t]) = toks l ++ tokCells t := by simp [toks]

/-- What Lex returns. -/
def RetToks (x : List Tok.Tk × Nat × Int) (w : World) (e : Ending) (w' : World) : Prop :=
  ∃ A c, e = .returned (.tuple #[.slice A x.1.length c, .int .i64 (x.2.1 : Int), .int .i64 x.2.2]) ∧ w'.ownsRow w.heap.size 55 3 (.slice A x.1.length c) x.1.length (toks x.1) ∧ Below w.heap.size w w'

theorem info_tok : (Try.prog.info? 55).map (fun i => (i.zero, i.size, i.bytes)) = some (some (.agg #[.int .i64 0, .int .i64 0, .string ByteArray.empty]), 3, 32) := by kernel_rfl

def LexInv (w : World) (l : List UInt8) (k : Nat) (acc : List Tok.Tk) (A : Option Addr) (c : Nat) (wr : World) : Prop :=
  acc.length ≤ k ∧ wr.ownsRow w.heap.size 55 3 (.slice A acc.length c) acc.length (toks acc) ∧ Below w.heap.size w wr ∧ Tok.lexAt l k acc = Tok.lexF l

section
variable {w wr w2 : World} {l : List UInt8} {k j : Nat} {acc : List Tok.Tk} {A A2 : Option Addr} {c c2 n : Nat} {t : Tok.Tk}
theorem inv_skip (h : LexInv w l k acc A c wr) (hk : k < l.length) (hs : Tok.step l k = .ok (none, j)) : LexInv w l j acc A c wr := by
  have := Tok.step_ok hk hs
  obtain ⟨h1, h2, h3, h4⟩ := h
  refine ⟨by dsimp only at this; omega, h2, h3, ?_⟩
  rw [← h4, Tok.lexAt_ok hk acc hs]; simp
theorem inv_tok {cs : List Value} (h : LexInv w l k acc A c wr) (hk : k < l.length) (hs : Tok.step l k = .ok (some t, j)) (hn : n = acc.length + 1) (hcs : cs = tokCells t)
    (hown : w2.ownsRow w.heap.size 55 3 (.slice A2 n c2) n (toks acc ++ cs)) (hg : wr.grownBy w2 (Value.ownBlock (.slice A acc.length c))) : LexInv w l j (acc ++ [t]) A2 c2 w2 := by
  have := Tok.step_ok hk hs
  obtain ⟨h1, h2, h3, h4⟩ := h
  subst hn hcs
  refine ⟨by simp; dsimp only at this; omega, ?_, h3.trans (below_own h2 hg h3.size), ?_⟩
  · rw [toks_snoc, List.length_append, List.length_singleton]; exact hown
  · rw [← h4, Tok.lexAt_ok hk acc hs]; simp
theorem inv_end {cs : List Value} (h : LexInv w l k acc A c wr) (hk : Tok.lexAt l k acc = (acc ++ [⟨4, l.length, []⟩], 0, 0)) (hn : n = acc.length + 1) (hcs : cs = tokCells ⟨4, l.length, []⟩)
    (hown : w2.ownsRow w.heap.size 55 3 (.slice A2 n c2) n (toks acc ++ cs)) (hg : wr.grownBy w2 (Value.ownBlock (.slice A acc.length c))) :
    RetToks (Tok.lexF l) w (.returned (.tuple #[.slice A2 n c2, .int .i64 0, .int .i64 0])) w2 := by
  obtain ⟨h1, h2, h3, h4⟩ := h
  rw [← h4, hk]
  subst hn hcs
  have e : (acc ++ [(⟨4, l.length, []⟩ : Tok.Tk)]).length = acc.length + 1 := by simp
  refine ⟨A2, c2, ?_, ?_, h3.trans (below_own h2 hg h3.size)⟩
  · dsimp only; rw [e]; rfl
  · dsimp only; rw [e, toks_snoc]; exact hown
theorem inv_err {at_ : Nat} {er : Int} (h : LexInv w l k acc A c wr) (hk : k < l.length) (hs : Tok.step l k = .error (at_, er)) :
    RetToks (Tok.lexF l) w (.returned (.tuple #[.slice none 0 0, .int .i64 (at_ : Int), .int .i64 er])) wr := by
  obtain ⟨h1, h2, h3, h4⟩ := h
  rw [← h4, Tok.lexAt_error hk acc hs]
  exact ⟨none, 0, rfl, World.ownsRow_nil _ _ _ _, h3⟩
end
theorem cne (c : UInt8) (n : Nat) (hn : n < 256) (h : c ≠ UInt8.ofNat n) : ((c.toNat : Int) == (n : Int)) = false := by
  rw [beq_eq_false_iff_ne]
  intro e
  apply h
  apply UInt8.toNat.inj
  rw [UInt8.toNat_ofNat']
  omega
theorem cells_eq {kd a : Nat} {x y : List UInt8} (h : x = y) : (#[.int .i64 (kd : Int), .int .i64 (a : Int), .string ⟨x.toArray⟩] : Array Value).toList = tokCells ⟨kd, a, y⟩ := by subst h; rfl
/-- HasPrefix at two bytes. -/
theorem hp2 (m : List UInt8) (a b : UInt8) (v : Bool) (w : World) (hv : Tok.pre2 a b m = v) (hs : m.length ≤ 9223372036854775807) :
    Calls Try.prog 35 #[.string ⟨m.toArray⟩, .string { data := #[a, b] }] w fun e w' => e = .returned (.bool v) ∧ w = w' := by
  refine (hasPrefix_any m [a, b] w hs (by simp)).mono ?_
  rintro e w1 ⟨rfl, rfl⟩
  exact ⟨by rw [← hv]; rfl, rfl⟩

set_option maxHeartbeats 4000000 in
set_option maxRecDepth 100000 in
theorem lex_any (l : List UInt8) (w : World) (hmax : l.length ≤ 9223372036854775807) : Calls Try.prog 24 #[.string ⟨l.toArray⟩] w (RetToks (Tok.lexF l) w) := by
  by_cases hbig : 1048576 < l.length
  · have hv : Tok.lexF l = ([], 0, 6) := by rw [Tok.lexF, if_pos hbig]
    have HV := Lib.hid hv
    clear hv
    go_enter Try.func24, Try.ntmps24
    go_wp2
    go_step3
    go_wp2
    rw [Exit.noGoto_ret]
    go_ret3
    exact ⟨none, 0, by rw [HV.out]; rfl, by rw [HV.out]; exact World.ownsRow_nil _ _ _ _, Below.refl _ _⟩
  · have hl : l.length ≤ 1048576 := by omega
    have g0 : decide ((1048576 : Int) < (l.length : Int)) = false := by simp; omega
    have hI : LexInv w l 0 [] none 0 w := ⟨by simp, World.ownsRow_nil _ _ _ _, Below.refl _ _, by rw [Tok.lexF, if_neg (by omega), Tok.lexAt]; simp⟩
    clear hmax hbig
    obtain ⟨i0, hi0, hz0, hz1, hz2⟩ := info_parts info_tok
    go_enter Try.func24, Try.ntmps24
    go_wp2
    go_step3
    go_wp2
    go_step3
    go_wp2
    go_loopg [5, 6] l.length (fun gk v iv wr => ∃ (k : Nat) (acc : List Tok.Tk) (A : Option Addr) (c : Nat), gk = l.length - k ∧ k ≤ l.length ∧ iv = .int .i64 k ∧ v = .slice A acc.length c ∧ LexInv w l k acc A c wr)
    case atStart => exact ⟨0, [], none, 0, by omega, by omega, rfl, rfl, hI⟩
    case round =>
      clear hI
      obtain ⟨k, acc, A, cp, rfl, hk, rfl, rfl, hI⟩ := hrel
      have hacc := hI.1
      have hown := hI.2.1
      have hsz := hI.2.2.1.size
      by_cases hkl : k < l.length
      · obtain ⟨c, hc⟩ : ∃ c, l[k] = c := ⟨_, rfl⟩
        have hget : (ByteArray.mk l.toArray)[k]'(by show k < l.toArray.size; simpa using hkl) = c := by rw [← hc]; rfl
        have hgD : l.getD k 0 = c := by simp [hkl, hc]
        have HG := Lib.hid hgD
        clear hgD hc
        by_cases hw : Tok.ws c = true
        · have hs : Tok.step l k = .ok (none, k + 1) := by rw [Tok.step, if_pos (by rw [HG.out]; exact hw)]
          have I2 := inv_skip hI hkl hs
          have hcs : c = 32 ∨ c = 9 ∨ c = 10 ∨ c = 13 := by simpa [Tok.ws, or_assoc] using hw
          clear hs hw HG hown
          rcases hcs with rfl | rfl | rfl | rfl
          all_goals
            go_wp2
            go_roundg (l.length - (k + 1))
            case measure => omega
            case rel => exact ⟨k + 1, acc, A, cp, rfl, by omega, by go_num, rfl, I2⟩
        · have hwn : Tok.ws c = false := by simpa using hw
          have hcn : c ≠ 32 ∧ c ≠ 9 ∧ c ≠ 10 ∧ c ≠ 13 := by simpa [Tok.ws, and_assoc] using hw
          have n32 := cne c 32 (by omega) hcn.1
          have n9 := cne c 9 (by omega) hcn.2.1
          have n10 := cne c 10 (by omega) hcn.2.2.1
          have n13 := cne c 13 (by omega) hcn.2.2.2
          simp only [Int.cast_ofNat_Int] at n32 n9 n10 n13
          clear hw hcn
          obtain ⟨R, hR⟩ : ∃ R, l.drop (k + 1) = R := ⟨_, rfl⟩
          have hdrop : l.drop k = c :: R := by rw [List.drop_eq_getElem_cons hkl, hR]; have := HG.out; simp [hkl] at this; rw [this]
          have hRl : R.length + 1 = l.length - k := by have := congrArg List.length hdrop; simp at this; omega
          have htk : List.take (l.length - k) (List.drop k l) = c :: R := by rw [List.take_of_length_le (by simp)]; exact hdrop
          have hR1 : (c :: R).length ≤ 9223372036854775807 := by simp; omega
          have hR2 : (c :: R).length ≤ 1048576 := by simp; omega
          have HRl := Lib.hid hRl
          clear hRl
          have HD := Lib.hid hdrop
          have HR := Lib.hid hR
          clear hdrop hR
          rcases p1 : Tok.pre2 59 59 (c :: R) with _ | _
          · rcases p2 : Tok.pre2 40 59 (c :: R) with _ | _
            · by_cases h40 : c = 40
              · subst h40
                have hs : Tok.step l k = .ok (some ⟨0, k, []⟩, k + 1) := by rw [Tok.step, if_neg (by rw [HG.out, hwn]; decide), if_neg (by rw [HD.out, p1]; decide), if_neg (by rw [HD.out, p2]; decide), if_pos (by rw [HG.out]; rfl)]
                have Hs := Lib.hid hs
                clear hs
                go_wp2_with (first | (go_at_call 35; (with_reducible refine (hp2 (40 :: R) 59 59 _ _ p1 hR1).mono ?_); rintro e w1 ⟨rfl, rfl⟩) | (go_at_call 35; (with_reducible refine (hp2 (40 :: R) 40 59 _ _ p2 hR1).mono ?_); rintro e w1 ⟨rfl, rfl⟩) | (at_builtin; (refine app_one _ _ rfl (.tmp 75) (.tmp 78) 49 rfl w.heap.size 55 i0 _ 3 32 Try.underlying49 hi0 hz0 hz1 hz2 rfl (by omega) rfl (three_one rfl rfl rfl) _ acc.length (toks acc) rfl hown wr.heap.size rfl rfl (by omega) (by omega) hsz ?_); intro A2 c2 w2 hown2 hg2 hat2))
                have I2 := inv_tok hI hkl Hs.out rfl rfl hown2 hg2
                clear hown2 hg2 hat2
                go_roundg (l.length - (k + 1))
                case measure => omega
                case rel => exact ⟨k + 1, _, A2, c2, rfl, by omega, by go_num, by simp, I2⟩
              by_cases h41 : c = 41
              · subst h41
                have hs : Tok.step l k = .ok (some ⟨1, k, []⟩, k + 1) := by rw [Tok.step, if_neg (by rw [HG.out, hwn]; decide), if_neg (by rw [HD.out, p1]; decide), if_neg (by rw [HD.out, p2]; decide), if_neg (by rw [HG.out]; simp), if_pos (by rw [HG.out]; rfl)]
                have Hs := Lib.hid hs
                clear hs
                go_wp2_with (first | (go_at_call 35; (with_reducible refine (hp2 (41 :: R) 59 59 _ _ p1 hR1).mono ?_); rintro e w1 ⟨rfl, rfl⟩) | (go_at_call 35; (with_reducible refine (hp2 (41 :: R) 40 59 _ _ p2 hR1).mono ?_); rintro e w1 ⟨rfl, rfl⟩) | (at_builtin; (refine app_one _ _ rfl (.tmp 85) (.tmp 88) 49 rfl w.heap.size 55 i0 _ 3 32 Try.underlying49 hi0 hz0 hz1 hz2 rfl (by omega) rfl (three_one rfl rfl rfl) _ acc.length (toks acc) rfl hown wr.heap.size rfl rfl (by omega) (by omega) hsz ?_); intro A2 c2 w2 hown2 hg2 hat2))
                have I2 := inv_tok hI hkl Hs.out rfl rfl hown2 hg2
                clear hown2 hg2 hat2
                go_roundg (l.length - (k + 1))
                case measure => omega
                case rel => exact ⟨k + 1, _, A2, c2, rfl, by omega, by go_num, by simp, I2⟩
              by_cases h34 : c = 34
              · subst h34
                have hq := Tok.quo_le R false 1
                obtain ⟨⟨n, er⟩, hqe⟩ : ∃ q, Tok.quo R false 1 = q := ⟨_, rfl⟩
                rw [hqe] at hq
                have HQ := Lib.hid hqe
                dsimp only at hq
                have hpre : Tok.step l k = if er = 4 then .error (k + n, 4) else if er = 3 then .error (k, 3) else .ok (some ⟨3, k, (l.drop (k + 1)).take (n - 2)⟩, k + n) := by
                  rw [Tok.step, if_neg (by rw [HG.out, hwn]; decide), if_neg (by rw [HD.out, p1]; decide), if_neg (by rw [HD.out, p2]; decide), if_neg (by rw [HG.out]; decide), if_neg (by rw [HG.out]; decide), if_pos (by rw [HG.out]; rfl), HR.out, hqe]
                clear hqe
                have hRl2 := HRl.out
                rcases hq with ⟨rfl, rfl⟩ | ⟨rfl, hn1, hn2⟩ | ⟨rfl, hn1, hn2⟩
                · rw [if_neg (by omega), if_pos rfl] at hpre
                  have E := Lib.hid (inv_err hI hkl hpre)
                  clear hpre hRl2
                  go_wp2_with (first | (go_at_call 35; (with_reducible refine (hp2 (34 :: R) 59 59 _ _ p1 hR1).mono ?_); rintro e w1 ⟨rfl, rfl⟩) | (go_at_call 35; (with_reducible refine (hp2 (34 :: R) 40 59 _ _ p2 hR1).mono ?_); rintro e w1 ⟨rfl, rfl⟩) | (go_at_call 38; (with_reducible refine (quoted_any 34 R _ (by simp at hR2; omega)).mono ?_); rintro e w1 ⟨rfl, rfl⟩; rw [HQ.out]))
                  rw [Exit.noGoto_ret]
                  go_ret3
                  exact E.out
                · rw [if_pos rfl] at hpre
                  have E := Lib.hid (inv_err hI hkl hpre)
                  have hkn : k + n ≤ 1048576 := by omega
                  clear hpre hRl2
                  go_wp2_with (first | (go_at_call 35; (with_reducible refine (hp2 (34 :: R) 59 59 _ _ p1 hR1).mono ?_); rintro e w1 ⟨rfl, rfl⟩) | (go_at_call 35; (with_reducible refine (hp2 (34 :: R) 40 59 _ _ p2 hR1).mono ?_); rintro e w1 ⟨rfl, rfl⟩) | (go_at_call 38; (with_reducible refine (quoted_any 34 R _ (by simp at hR2; omega)).mono ?_); rintro e w1 ⟨rfl, rfl⟩; rw [HQ.out]))
                  rw [Exit.noGoto_ret]
                  go_ret3
                  exact E.out
                · rw [if_neg (by omega), if_neg (by omega)] at hpre
                  have Hs := Lib.hid hpre
                  have hkn : k + n ≤ l.length := by omega
                  clear hpre hRl2
                  obtain ⟨m, rfl⟩ : ∃ m, n = m + 2 := ⟨n - 2, by omega⟩
                  go_wp2_with (first | (go_at_call 35; (with_reducible refine (hp2 (34 :: R) 59 59 _ _ p1 hR1).mono ?_); rintro e w1 ⟨rfl, rfl⟩) | (go_at_call 35; (with_reducible refine (hp2 (34 :: R) 40 59 _ _ p2 hR1).mono ?_); rintro e w1 ⟨rfl, rfl⟩) | (go_at_call 38; (with_reducible refine (quoted_any 34 R _ (by simp at hR2; omega)).mono ?_); rintro e w1 ⟨rfl, rfl⟩; rw [HQ.out]) | (at_builtin; (refine app_one _ _ rfl (.tmp 113) (.tmp 124) 49 rfl w.heap.size 55 i0 _ 3 32 Try.underlying49 hi0 hz0 hz1 hz2 rfl (by omega) rfl (three_one rfl rfl rfl) _ acc.length (toks acc) rfl hown wr.heap.size rfl rfl (by omega) (by omega) hsz ?_); intro A2 c2 w2 hown2 hg2 hat2))
                  have I2 := inv_tok hI hkl Hs.out rfl (cells_eq (by first | rfl | (congr 1; omega))) hown2 hg2
                  clear hown2 hg2 hat2
                  go_roundg (l.length - (k + (m + 2)))
                  case measure => omega
                  case rel => exact ⟨k + (m + 2), _, A2, c2, rfl, by omega, by go_num, by simp, I2⟩
              have n40 := cne c 40 (by omega) h40
              have n41 := cne c 41 (by omega) h41
              have n34 := cne c 34 (by omega) h34
              simp only [Int.cast_ofNat_Int] at n40 n41 n34
              have hbeq : (c == 40) = false ∧ (c == 41) = false ∧ (c == 34) = false := ⟨by simpa using h40, by simpa using h41, by simpa using h34⟩
              clear h40 h41 h34
              rcases hsg : Tok.sign c with _ | _
              · have hs : Tok.step l k = .error (k, 4) := by
                  rw [Tok.step, if_neg (by rw [HG.out, hwn]; decide), if_neg (by rw [HD.out, p1]; decide), if_neg (by rw [HD.out, p2]; decide), if_neg (by rw [HG.out, hbeq.1]; decide), if_neg (by rw [HG.out, hbeq.2.1]; decide), if_neg (by rw [HG.out, hbeq.2.2]; decide), if_neg (by rw [HG.out, hsg]; decide)]
                have E := Lib.hid (inv_err hI hkl hs)
                have HS := Lib.hid hsg
                clear hs hsg hbeq
                go_wp2_with (first | (go_at_call 35; (with_reducible refine (hp2 (c :: R) 59 59 _ _ p1 hR1).mono ?_); rintro e w1 ⟨rfl, rfl⟩) | (go_at_call 35; (with_reducible refine (hp2 (c :: R) 40 59 _ _ p2 hR1).mono ?_); rintro e w1 ⟨rfl, rfl⟩) | (go_at_call 39; (with_reducible refine (sign_any c _).mono ?_); rintro e w1 ⟨rfl, rfl⟩; rw [HS.out]))
                rw [Exit.noGoto_ret]
                go_ret3
                exact E.out
              · have hs : Tok.step l k = .ok (some ⟨2, k, (l.drop k).take (Tok.runLen (l.drop k))⟩, k + Tok.runLen (l.drop k)) := by
                  rw [Tok.step, if_neg (by rw [HG.out, hwn]; decide), if_neg (by rw [HD.out, p1]; decide), if_neg (by rw [HD.out, p2]; decide), if_neg (by rw [HG.out, hbeq.1]; decide), if_neg (by rw [HG.out, hbeq.2.1]; decide), if_neg (by rw [HG.out, hbeq.2.2]; decide), if_pos (by rw [HG.out, hsg])]
                have hb := Tok.step_ok hkl hs
                dsimp only at hb
                obtain ⟨r, hr⟩ : ∃ r, Tok.runLen (l.drop k) = r := ⟨_, rfl⟩
                have hin := Tok.runLen_in (l.drop k)
                have hout := Tok.runLen_out (l.drop k)
                rw [hr] at hs hb
                have hin' : ∀ q, k ≤ q → q < k + r → ∃ h : q < l.length, Tok.sign l[q] = true := by
                  intro q hq0 hq1
                  obtain ⟨h1, h2⟩ := hin (q - k) (by omega)
                  have h3 : q < l.length := by simp at h1; omega
                  refine ⟨h3, ?_⟩
                  simp only [List.getElem_drop, show k + (q - k) = q from by omega] at h2
                  exact h2
                have hout' : ∀ q, q = k + r → ∀ h : q < l.length, Tok.sign l[q] = false := by
                  intro q hq h
                  subst hq
                  have := hout (by rw [hr]; simp; omega)
                  simpa [hr] using this
                have HIN := Lib.hid hin'
                have HOUT := Lib.hid hout'
                have Hs := Lib.hid hs
                have HS := Lib.hid hsg
                clear hs hsg hbeq hin hout hin' hout' hr
                go_wp2_with (first | (go_at_call 35; (with_reducible refine (hp2 (c :: R) 59 59 _ _ p1 hR1).mono ?_); rintro e w1 ⟨rfl, rfl⟩) | (go_at_call 35; (with_reducible refine (hp2 (c :: R) 40 59 _ _ p2 hR1).mono ?_); rintro e w1 ⟨rfl, rfl⟩) | (go_at_call 39; (with_reducible refine (sign_any c _).mono ?_); rintro e w1 ⟨rfl, rfl⟩; rw [HS.out]))
                obtain ⟨wo, rfl⟩ : ∃ wo : World, wo = wr := ⟨_, rfl⟩
                go_loopg [6] r (fun gj iv wr2 => ∃ q : Nat, gj = k + r - q ∧ k ≤ q ∧ q ≤ k + r ∧ iv = .int .i64 q ∧ wr2 = wo)
                case atStart => exact ⟨k, by omega, by omega, by omega, rfl, rfl⟩
                case round =>
                  clear hget
                  obtain ⟨q, rfl, hq0, hq1, rfl, rfl⟩ := hrel
                  by_cases hqr : q < k + r
                  · obtain ⟨hql, hqs⟩ := HIN.out q hq0 hqr
                    obtain ⟨d, hd⟩ : ∃ d, l[q] = d := ⟨_, rfl⟩
                    have hget : (ByteArray.mk l.toArray)[q]'(by show q < l.toArray.size; simpa using hql) = d := by rw [← hd]; rfl
                    rw [hd] at hqs
                    have HQS := Lib.hid hqs
                    have t1 : decide ((q : Int) < (l.length : Int)) = true := by simp; omega
                    clear hd hqs
                    go_wp2_with (go_at_call 39; (with_reducible refine (sign_any d _).mono ?_); rintro e w1 ⟨rfl, rfl⟩; rw [HQS.out])
                    go_roundg (k + r - (q + 1))
                    case measure => omega
                    case rel => exact ⟨q + 1, rfl, by omega, by omega, by go_num, rfl⟩
                  · obtain rfl : q = k + r := by omega
                    by_cases hql : k + r < l.length
                    · obtain ⟨d, hd⟩ : ∃ d, l[k + r] = d := ⟨_, rfl⟩
                      have hqs := HOUT.out (k + r) rfl hql
                      have hget : (ByteArray.mk l.toArray)[k + r]'(by show k + r < l.toArray.size; simpa using hql) = d := by rw [← hd]; rfl
                      rw [hd] at hqs
                      have HQS := Lib.hid hqs
                      clear hd hqs
                      go_wp2_with (first | (go_at_call 39; (with_reducible refine (sign_any d _).mono ?_); rintro e w1 ⟨rfl, rfl⟩; rw [HQS.out]) | (at_builtin; (refine app_one _ _ rfl (.tmp 144) (.tmp 151) 49 rfl w.heap.size 55 i0 _ 3 32 Try.underlying49 hi0 hz0 hz1 hz2 rfl (by omega) rfl (three_one rfl rfl rfl) _ acc.length (toks acc) rfl hown _ rfl rfl (by omega) (by omega) hsz ?_); intro A2 c2 w2 hown2 hg2 hat2))
                      have I2 := inv_tok hI hkl Hs.out rfl (cells_eq (by first | rfl | (congr 1; omega))) hown2 hg2
                      clear hown2 hg2 hat2
                      go_roundg (l.length - (k + r))
                      case measure => omega
                      case rel => exact ⟨k + r, _, A2, c2, rfl, by omega, by go_num, by simp, I2⟩
                    · go_wp2_with (first | (at_builtin; (refine app_one _ _ rfl (.tmp 144) (.tmp 151) 49 rfl w.heap.size 55 i0 _ 3 32 Try.underlying49 hi0 hz0 hz1 hz2 rfl (by omega) rfl (three_one rfl rfl rfl) _ acc.length (toks acc) rfl hown _ rfl rfl (by omega) (by omega) hsz ?_); intro A2 c2 w2 hown2 hg2 hat2))
                      have I2 := inv_tok hI hkl Hs.out rfl (cells_eq (by first | rfl | (congr 1; omega))) hown2 hg2
                      clear hown2 hg2 hat2
                      go_roundg (l.length - (k + r))
                      case measure => omega
                      case rel => exact ⟨k + r, _, A2, c2, rfl, by omega, by go_num, by simp, I2⟩
            · rcases hrem : Tok.rem (c :: R) 0 0 with _ | n
              · have hs : Tok.step l k = .error (k, 3) := by
                  rw [Tok.step, if_neg (by rw [HG.out, hwn]; decide), if_neg (by rw [HD.out, p1]; decide), if_pos (by rw [HD.out, p2]), if_pos (by rw [HD.out, hrem])]
                have E := Lib.hid (inv_err hI hkl hs)
                have Hrem := Lib.hid hrem
                clear hs hrem
                go_wp2_with (first
                  | (go_at_call 35; (with_reducible refine (hp2 (c :: R) 59 59 _ _ p1 hR1).mono ?_); rintro e w1 ⟨rfl, rfl⟩) | (go_at_call 35; (with_reducible refine (hp2 (c :: R) 40 59 _ _ p2 hR1).mono ?_); rintro e w1 ⟨rfl, rfl⟩)
                  | (go_at_call 37; (with_reducible refine (remark_any (c :: R) _ hR2).mono ?_); rintro e w1 ⟨rfl, rfl⟩; rw [Hrem.out]))
                rw [Exit.noGoto_ret]
                go_ret3
                exact E.out
              · have hs : Tok.step l k = .ok (none, k + (n + 1)) := by
                  rw [Tok.step, if_neg (by rw [HG.out, hwn]; decide), if_neg (by rw [HD.out, p1]; decide), if_pos (by rw [HD.out, p2]), if_neg (by rw [HD.out, hrem]; omega), HD.out, hrem]
                have I2 := inv_skip hI hkl hs
                have hb := Tok.step_ok hkl hs
                dsimp only at hb
                have g1 : (((n + 1 : Nat) : Int) == 0) = false := by rw [beq_eq_false_iff_ne]; omega
                have g1' : ((n : Int) + 1 == 0) = false := by rw [beq_eq_false_iff_ne]; omega
                have Hrem := Lib.hid hrem
                clear hs hrem hown
                go_wp2_with (first
                  | (go_at_call 35; (with_reducible refine (hp2 (c :: R) 59 59 _ _ p1 hR1).mono ?_); rintro e w1 ⟨rfl, rfl⟩) | (go_at_call 35; (with_reducible refine (hp2 (c :: R) 40 59 _ _ p2 hR1).mono ?_); rintro e w1 ⟨rfl, rfl⟩)
                  | (go_at_call 37; (with_reducible refine (remark_any (c :: R) _ hR2).mono ?_); rintro e w1 ⟨rfl, rfl⟩; rw [Hrem.out]))
                go_roundg (l.length - (k + (n + 1)))
                case measure => omega
                case rel => exact ⟨k + (n + 1), acc, A, cp, rfl, by omega, by go_num, rfl, I2⟩
          · have hs : Tok.step l k = .ok (none, k + Tok.lineLen (c :: R)) := by
              rw [Tok.step, if_neg (by rw [HG.out, hwn]; decide), if_pos (by rw [HD.out, p1]), HD.out]
            have I2 := inv_skip hI hkl hs
            have hb := Tok.step_ok hkl hs
            dsimp only at hb
            rcases Tok.line_index (c :: R) with ⟨hx, hy⟩ | ⟨hx, hy⟩
            · have hend : Hid (Tok.lexAt l k acc = (acc ++ [⟨4, l.length, []⟩], 0, 0)) := by
                unfold Hid
                rw [Tok.lexAt_ok hkl acc hs]
                simp only [Option.toList_none, List.append_nil]
                exact Tok.lexAt_end (by have := HRl.out; rw [hy]; simp; omega) acc
              have HX := Lib.hid hx
              clear hs hx hy I2 hb
              go_wp2_with (first
                | (go_at_call 35; (with_reducible refine (hp2 (c :: R) 59 59 _ _ p1 hR1).mono ?_); rintro e w1 ⟨rfl, rfl⟩) | (go_at_call 35; (with_reducible refine (hp2 (c :: R) 40 59 _ _ p2 hR1).mono ?_); rintro e w1 ⟨rfl, rfl⟩)
                | (go_at_call 36; (with_reducible refine (indexByte_any (c :: R) 10 _).mono ?_); rintro e w1 ⟨rfl, rfl⟩; rw [show ((10 : Int).toNat.toUInt8) = 10 from rfl, HX.out])
                | (at_builtin; (refine app_one _ _ rfl (.tmp 153) (.tmp 157) 49 rfl w.heap.size 55 i0 _ 3 32 Try.underlying49 hi0 hz0 hz1 hz2 rfl (by omega) rfl (three_one rfl rfl rfl) _ acc.length (toks acc) rfl hown wr.heap.size rfl rfl (by omega) (by omega) hsz ?_); intro A2 c2 w2 hown2 hg2 hat2))
              go_ret3
              exact inv_end hI hend.out rfl rfl hown2 hg2
            · obtain ⟨y, hyy⟩ := Int.eq_ofNat_of_zero_le hx
              have hl1 : Tok.lineLen (c :: R) = y + 1 := by omega
              rw [hl1] at I2 hb
              have HX := Lib.hid hyy
              have g1 : decide ((y : Int) < 0) = false := by simp
              clear hs hx hy hyy hl1 hown
              go_wp2_with (first
                | (go_at_call 35; (with_reducible refine (hp2 (c :: R) 59 59 _ _ p1 hR1).mono ?_); rintro e w1 ⟨rfl, rfl⟩) | (go_at_call 35; (with_reducible refine (hp2 (c :: R) 40 59 _ _ p2 hR1).mono ?_); rintro e w1 ⟨rfl, rfl⟩)
                | (go_at_call 36; (with_reducible refine (indexByte_any (c :: R) 10 _).mono ?_); rintro e w1 ⟨rfl, rfl⟩; rw [show ((10 : Int).toNat.toUInt8) = 10 from rfl, HX.out]))
              go_roundg (l.length - (k + (y + 1)))
              case measure => omega
              case rel => exact ⟨k + (y + 1), acc, A, cp, rfl, by omega, by go_num, rfl, I2⟩
      · have hend := Lib.hid (Tok.lexAt_end (show l.length ≤ k by omega) acc)
        go_wp2_with (at_builtin; (refine app_one _ _ rfl (.tmp 153) (.tmp 157) 49 rfl w.heap.size 55 i0 _ 3 32 Try.underlying49 hi0 hz0 hz1 hz2 rfl (by omega) rfl (three_one rfl rfl rfl) _ acc.length (toks acc) rfl hown wr.heap.size rfl rfl (by omega) (by omega) hsz ?_); intro A2 c2 w2 hown2 hg2 hat2)
        go_ret3
        exact inv_end hI hend.out rfl rfl hown2 hg2
end Go.Proofs.Ytnjhbhbohnjckaa
