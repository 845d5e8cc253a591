/-
  The reference's Lex computes the plain lexer too.
-/
import Derived.Test.YtnjhbhbohnjckaaTokRefLex
set_option linter.unusedVariables false
namespace Go.Proofs.Ytnjhbhbohnjckaa
open Go.RowKit

theorem line_rel : ∀ m : List UInt8, (Tok.lineLen m = lineEnd m ∧ lineEnd m = m.length) ∨ (Tok.lineLen m = lineEnd m + 1 ∧ ∃ h : lineEnd m < m.length, m[lineEnd m] = 10) := by
  intro m
  induction m with
  | nil => exact .inl ⟨rfl, rfl⟩
  | cons c r ih =>
    by_cases h : (c == 10) = true
    · have e : lineEnd (c :: r) = 0 := by rw [lineEnd, if_pos h]
      refine .inr ⟨by rw [Tok.lineLen, if_pos h, e], by rw [e]; simp, ?_⟩
      simp only [e, List.getElem_cons_zero]
      simpa using h
    · have e : lineEnd (c :: r) = lineEnd r + 1 := by rw [lineEnd, if_neg h]
      have e2 : Tok.lineLen (c :: r) = Tok.lineLen r + 1 := by rw [Tok.lineLen, if_neg h]
      rcases ih with ⟨h1, h2⟩ | ⟨h1, h2, h3⟩
      · exact .inl ⟨by omega, by simp only [List.length_cons]; omega⟩
      · refine .inr ⟨by omega, by simp only [List.length_cons]; omega, ?_⟩
        simp only [e, List.getElem_cons_succ]
        exact h3
theorem lineEnd_pos {m : List UInt8} (h : Tok.pre2 59 59 m = true) : 0 < lineEnd m := by
  unfold Tok.pre2 at h
  have e : m.take 2 = [59, 59] := by simpa using h
  match m, e with
  | a :: b :: r, e =>
    simp at e
    rw [e.1, lineEnd, if_neg (by decide)]; omega
/-- The reference stops a line comment at its line feed, which is skipped next. -/
theorem lexAt_line {l : List UInt8} {k : Nat} (hk : k < l.length) (acc : List Tok.Tk) (hw : Tok.ws (l.getD k 0) = false) (hp : Tok.pre2 59 59 (l.drop k) = true) :
    Tok.lexAt l k acc = Tok.lexAt l (k + lineEnd (l.drop k)) acc := by
  have hs : Tok.step l k = .ok (none, k + Tok.lineLen (l.drop k)) := by rw [Tok.step, if_neg (by rw [hw]; decide), if_pos hp]
  rw [Tok.lexAt_ok hk acc hs]
  simp only [Option.toList_none, List.append_nil]
  rcases line_rel (l.drop k) with ⟨h1, h2⟩ | ⟨h1, h2, h3⟩
  · rw [h1]
  · have h4 : k + lineEnd (l.drop k) < l.length := by simp at h2; omega
    have hg : l.getD (k + lineEnd (l.drop k)) 0 = 10 := by
      simp only [List.getElem_drop] at h3
      simp [h4, h3]
    have hs2 : Tok.step l (k + lineEnd (l.drop k)) = .ok (none, k + lineEnd (l.drop k) + 1) := by rw [Tok.step, if_pos (by rw [hg]; rfl)]
    rw [Tok.lexAt_ok h4 acc hs2, h1]
    simp [Nat.add_assoc]

theorem step_err {l : List UInt8} {i a : Nat} {er : Int} (h : Tok.step l i = .error (a, er)) : er = 3 ∨ er = 4 := by
  unfold Tok.step at h
  repeat' split at h
  all_goals first | (cases h; done) | (cases h; omega)
theorem step_none {l : List UInt8} {k j : Nat} (hs : Tok.step l k = .ok (none, j)) (hw : Tok.ws (l.getD k 0) = false) (p1 : Tok.pre2 59 59 (l.drop k) = false) (p2 : Tok.pre2 40 59 (l.drop k) = false) : False := by
  rw [Tok.step, if_neg (by rw [hw]; decide), if_neg (by rw [p1]; decide), if_neg (by rw [p2]; decide)] at hs
  repeat' split at hs
  all_goals cases hs

def RLexInv (w : World) (l : List UInt8) (k : Nat) (acc : List Tok.Tk) (A : Option Addr) (c : Nat) (wr : World) : Prop :=
  acc.length ≤ k ∧ wr.ownsRow w.heap.size 82 3 (.slice A acc.length c) acc.length (toks acc) ∧ Below w.heap.size w wr ∧ Tok.lexAt l k acc = Tok.lexF l
def RetRToks (x : List Tok.Tk × Nat × Int) (w : World) (e : Ending) (w' : World) : Prop :=
  ∃ A c, e = .returned (.tuple #[.slice A x.1.length c, .int .i64 (x.2.1 : Int), .int .i64 x.2.2]) ∧ w'.ownsRow w.heap.size 82 3 (.slice A x.1.length c) x.1.length (toks x.1) ∧ Below w.heap.size w w'

section
variable {w wr wx w2 : World} {l : List UInt8} {k j : Nat} {acc : List Tok.Tk} {A A2 : Option Addr} {c c2 n : Nat} {t : Tok.Tk}
theorem rinv_to (h : RLexInv w l k acc A c wr) (hkj : k ≤ j) (he : Tok.lexAt l k acc = Tok.lexAt l j acc) : RLexInv w l j acc A c wr := by
  obtain ⟨h1, h2, h3, h4⟩ := h
  exact ⟨by omega, h2, h3, by rw [← h4, he]⟩
theorem rinv_tok {cs : List Value} (h : RLexInv w l k acc A c wr) (hk : k < l.length) (hs : Tok.step l k = .ok (some t, j)) (hn : n = acc.length + 1) (hcs : cs = tokCells t)
    (hown : w2.ownsRow w.heap.size 82 3 (.slice A2 n c2) n (toks acc ++ cs)) (hx : Below wr.heap.size wr wx) (hg : wx.grownBy w2 (Value.ownBlock (.slice A acc.length c))) : RLexInv w l j (acc ++ [t]) A2 c2 w2 := by
  have := Tok.step_ok hk hs
  obtain ⟨h1, h2, h3, h4⟩ := h
  subst hn hcs
  have h2' := own_below h2 hx (Nat.le_refl _)
  refine ⟨by simp; dsimp only at this; omega, ?_, (h3.trans (hx.mono h3.size)).trans (below_own h2' hg (Nat.le_trans h3.size hx.size)), ?_⟩
  · rw [toks_snoc, List.length_append, List.length_singleton]; exact hown
  · rw [← h4, Tok.lexAt_ok hk acc hs]; simp
theorem rinv_end {cs : List Value} (h : RLexInv w l k acc A c wr) (hk : l.length ≤ k) (hn : n = acc.length + 1) (hcs : cs = tokCells ⟨4, l.length, []⟩)
    (hown : w2.ownsRow w.heap.size 82 3 (.slice A2 n c2) n (toks acc ++ cs)) (hg : wr.grownBy w2 (Value.ownBlock (.slice A acc.length c))) :
    RetRToks (Tok.lexF l) w (.returned (.tuple #[.slice A2 n c2, .int .i64 0, .int .i64 0])) w2 := by
  obtain ⟨h1, h2, h3, h4⟩ := h
  rw [← h4, Tok.lexAt_end hk]
  subst hn hcs
  have e : (acc ++ [(⟨4, l.length, []⟩ : Tok.Tk)]).length = acc.length + 1 := by simp
  refine ⟨A2, c2, ?_, ?_, h3.trans (below_own h2 hg h3.size)⟩
  · dsimp only; rw [e]; rfl
  · dsimp only; rw [e, toks_snoc]; exact hown
theorem rinv_err {at_ : Nat} {er : Int} (h : RLexInv w l k acc A c wr) (hk : k < l.length) (hs : Tok.step l k = .error (at_, er)) (hx : Below wr.heap.size wr wx) :
    RetRToks (Tok.lexF l) w (.returned (.tuple #[.slice none 0 0, .int .i64 (at_ : Int), .int .i64 er])) wx := by
  obtain ⟨h1, h2, h3, h4⟩ := h
  rw [← h4, Tok.lexAt_error hk acc hs]
  exact ⟨none, 0, rfl, World.ownsRow_nil _ _ _ _, h3.trans (hx.mono h3.size)⟩
end

set_option maxHeartbeats 2000000 in
set_option maxRecDepth 100000 in
theorem refLex_any (l : List UInt8) (w : World) (hmax : l.length ≤ 9223372036854775807) : Calls Try.prog 27 #[.string ⟨l.toArray⟩] w (RetRToks (Tok.lexF l) w) := by
  by_cases hbig : 1048576 < l.length
  · have hv : Tok.lexF l = ([], 0, 6) := by rw [Tok.lexF, if_pos hbig]
    have HV := Lib.hid hv
    clear hv
    go_enter Try.func27, Try.ntmps27
    go_wp2
    go_ret3
    exact ⟨none, 0, by rw [HV.out]; rfl, by rw [HV.out]; exact World.ownsRow_nil _ _ _ _, Below.refl _ _⟩
  · have hl : l.length ≤ 1048576 := by omega
    have g0 : decide ((1048576 : Int) < (l.length : Int)) = false := by simp; omega
    have hI : RLexInv w l 0 [] none 0 w := ⟨by simp, World.ownsRow_nil _ _ _ _, Below.refl _ _, by rw [Tok.lexF, if_neg (by omega), Tok.lexAt]; simp⟩
    clear hmax hbig
    obtain ⟨i0, hi0, hz0, hz1, hz2⟩ := info_parts info_rtok
    go_enter Try.func27, Try.ntmps27
    go_wp2
    go_loopw [5, 6] (fun v iv wr => ∃ (k : Nat) (acc : List Tok.Tk) (A : Option Addr) (c : Nat), k ≤ l.length ∧ iv = .int .i64 k ∧ v = .slice A acc.length c ∧ RLexInv w l k acc A c wr) (fun _ iv _ => l.length - (intOf iv).toNat)
    case atStart => exact ⟨0, [], none, 0, by omega, rfl, rfl, hI⟩
    case round =>
      clear hI
      obtain ⟨k, acc, A, cp, hk, rfl, rfl, hI⟩ := hrel
      have hacc := hI.1
      have hown := hI.2.1
      have hsz := hI.2.2.1.size
      by_cases hkl : k < l.length
      · have t1 : decide ((k : Int) < (l.length : Int)) = true := by simp; omega
        rcases hw : Tok.ws (l.getD k 0) with _ | _
        · rcases p1 : Tok.pre2 59 59 (l.drop k) with _ | _
          · rcases p2 : Tok.pre2 40 59 (l.drop k) with _ | _
            · have hsk : skipF l k = (k : Int) := by rw [skipF, if_neg (by rw [hw]; decide), if_neg (by rw [p1]; decide), if_neg (by rw [p2]; decide)]
              have HK := Lib.hid hsk
              clear hsk
              rcases hs : Tok.step l k with ⟨a, er⟩ | ⟨ot, j⟩
              · have hne : (er != 0) = true := by rcases step_err hs with rfl | rfl <;> rfl
                have HW := Lib.hid hw
                have HP1 := Lib.hid p1
                have HP2 := Lib.hid p2
                have HS := Lib.hid hs
                clear hw p1 p2 hs hown
                go_wp2_with (first
                  | (go_at_call 40; (with_reducible refine (skip_any l k _ _ HK.out hkl hl).mono ?_); rintro e w1 ⟨rfl, rfl⟩)
                  | (go_at_call 41; (with_reducible refine (next_err l k a er _ HS.out HW.out HP1.out HP2.out hkl hl).mono ?_); rintro e w1 ⟨rfl, hb1⟩))
                go_ret3
                exact rinv_err hI hkl HS.out (hb1.alloc hb1.size _)
              · rcases ot with _ | t
                · exact (step_none hs hw p1 p2).elim
                · have hb := Tok.step_ok hkl hs
                  dsimp only at hb
                  have HW := Lib.hid hw
                  have HP1 := Lib.hid p1
                  have HP2 := Lib.hid p2
                  have HS := Lib.hid hs
                  clear hw p1 p2 hs
                  go_wp2_with (first
                    | (go_at_call 40; (with_reducible refine (skip_any l k _ _ HK.out hkl hl).mono ?_); rintro e w1 ⟨rfl, rfl⟩)
                    | (go_at_call 41; (with_reducible refine (next_ok l k j t _ HS.out HW.out HP1.out HP2.out hkl hl).mono ?_); rintro e w1 ⟨rfl, hb1⟩; have hs1 := hb1.size; have ho1 := own_below hown hb1 (Nat.le_refl _))
                    | (at_builtin; (refine app_one _ _ rfl (.tmp 39) (.tmp 41) 56 rfl w.heap.size 82 i0 _ 3 32 Try.underlying56 hi0 hz0 hz1 hz2 rfl (by omega) rfl (three_one rfl rfl rfl) _ acc.length (toks acc) rfl (ho1.alloc _) (w1.heap.size + 1) (by simp) rfl (by omega) (by omega) (by omega) ?_); intro A2 c2 w2 hown2 hg2 hat2))
                  have I2 := rinv_tok hI hkl HS.out rfl rfl hown2 (hb1.alloc hs1 _) hg2
                  clear hown2 hg2 hat2 ho1
                  go_roundw
                  case rel => exact ⟨j, _, A2, c2, by omega, rfl, by simp, I2⟩
                  case measure => simp [intOf]; omega
            · have hsk : skipF l k = (if Tok.rem (l.drop k) 0 0 = 0 then -1 else (k : Int) + (Tok.rem (l.drop k) 0 0 : Nat)) := by rw [skipF, if_neg (by rw [hw]; decide), if_neg (by rw [p1]; decide), if_pos p2]
              rcases hrem : Tok.rem (l.drop k) 0 0 with _ | n
              · rw [hrem, if_pos rfl] at hsk
                have hs : Tok.step l k = .error (k, 3) := by rw [Tok.step, if_neg (by rw [hw]; decide), if_neg (by rw [p1]; decide), if_pos p2, if_pos hrem]
                have E := Lib.hid (rinv_err hI hkl hs (Below.refl _ _))
                have HK := Lib.hid hsk
                clear hsk hs hrem hw p1 p2 hown
                go_wp2_with (go_at_call 40; (with_reducible refine (skip_any l k _ _ HK.out hkl hl).mono ?_); rintro e w1 ⟨rfl, rfl⟩)
                go_ret3
                exact E.out
              · rw [hrem, if_neg (by omega)] at hsk
                have hs : Tok.step l k = .ok (none, k + (n + 1)) := by rw [Tok.step, if_neg (by rw [hw]; decide), if_neg (by rw [p1]; decide), if_pos p2, if_neg (by rw [hrem]; omega), hrem]
                have hb := Tok.step_ok hkl hs
                dsimp only at hb
                have I2 := rinv_to hI (show k ≤ k + (n + 1) by omega) (by rw [Tok.lexAt_ok hkl acc hs]; simp)
                have hsk2 : skipF l k = (k : Int) + ((n : Int) + 1) := by rw [hsk]; omega
                have HK := Lib.hid hsk2
                have g1 : decide ((k : Int) + ((n : Int) + 1) < 0) = false := by simp; omega
                have g2 : decide ((k : Int) < (k : Int) + ((n : Int) + 1)) = true := by simp; omega
                clear hsk hsk2 hs hrem hw p1 p2 hown
                go_wp2_with (go_at_call 40; (with_reducible refine (skip_any l k _ _ HK.out hkl hl).mono ?_); rintro e w1 ⟨rfl, rfl⟩)
                go_roundw
                case rel => exact ⟨k + (n + 1), acc, A, cp, by omega, by go_num, rfl, I2⟩
                case measure => simp [intOf]; omega
          · have hsk : skipF l k = ((k + lineEnd (l.drop k) : Nat) : Int) := by rw [skipF, if_neg (by rw [hw]; decide), if_pos p1]
            have hp := lineEnd_pos p1
            have hle := lineEnd_le (l.drop k)
            simp only [List.length_drop] at hle
            have I2 := rinv_to hI (show k ≤ k + lineEnd (l.drop k) by omega) (lexAt_line hkl acc hw p1)
            obtain ⟨y, hy⟩ : ∃ y, lineEnd (l.drop k) = y := ⟨_, rfl⟩
            rw [hy] at hsk hp hle I2
            have hsk2 : skipF l k = (k : Int) + (y : Int) := by rw [hsk]; omega
            have HK := Lib.hid hsk2
            have g1 : decide ((k : Int) + (y : Int) < 0) = false := by simp; omega
            have g2 : decide ((k : Int) < (k : Int) + (y : Int)) = true := by simp; omega
            clear hsk hsk2 hw p1 hy hown
            go_wp2_with (go_at_call 40; (with_reducible refine (skip_any l k _ _ HK.out hkl hl).mono ?_); rintro e w1 ⟨rfl, rfl⟩)
            go_roundw
            case rel => exact ⟨k + y, acc, A, cp, by omega, by go_num, rfl, I2⟩
            case measure => simp [intOf]; omega
        · have hsk : skipF l k = (k : Int) + 1 := by rw [skipF, if_pos hw]
          have hs : Tok.step l k = .ok (none, k + 1) := by rw [Tok.step, if_pos hw]
          have I2 := rinv_to hI (show k ≤ k + 1 by omega) (by rw [Tok.lexAt_ok hkl acc hs]; simp)
          have HK := Lib.hid hsk
          have g1 : decide ((k : Int) + 1 < 0) = false := by simp; omega
          have g2 : decide ((k : Int) < (k : Int) + 1) = true := by simp; omega
          clear hsk hs hw hown
          go_wp2_with (go_at_call 40; (with_reducible refine (skip_any l k _ _ HK.out hkl hl).mono ?_); rintro e w1 ⟨rfl, rfl⟩)
          go_roundw
          case rel => exact ⟨k + 1, acc, A, cp, by omega, by go_num, rfl, I2⟩
          case measure => simp [intOf]; omega
      · go_wp2_with (at_builtin; (refine app_one _ _ rfl (.tmp 44) (.tmp 48) 56 rfl w.heap.size 82 i0 _ 3 32 Try.underlying56 hi0 hz0 hz1 hz2 rfl (by omega) rfl (three_one rfl rfl rfl) _ acc.length (toks acc) rfl hown wr.heap.size rfl rfl (by omega) (by omega) hsz ?_); intro A2 c2 w2 hown2 hg2 hat2)
        go_ret3
        exact rinv_end hI (by omega) rfl rfl hown2 hg2
end Go.Proofs.Ytnjhbhbohnjckaa
