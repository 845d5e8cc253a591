/-
  The walk of the law TokenBack.
-/
import Derived.Test.YtngdfcommoenkaaTokAlive
import Derived.Test.YtngdfcommoenkaaTokWrite
import Derived.Deep.QuietTactic
import Derived.BigQuiet
set_option linter.unusedVariables false
namespace Go.Proofs.Ytngdfcommoenkaa
open Go.RowKit

theorem key_get {L L' : List Tok.Tk} (h : L'.map Tok.key = L.map Tok.key) (k : Nat) (hk : k < L.length) : ∃ hk' : k < L'.length, L'[k].kind = L[k].kind ∧ L'[k].text = L[k].text := by
  have hl : L'.length = L.length := by simpa using congrArg List.length h
  have hk' : k < L'.length := by omega
  have := congrArg (fun x => x[k]?) h
  simp [hk, hk', Tok.key] at this
  exact ⟨hk', this.1, this.2⟩
theorem lexF_len2 {l : List UInt8} : ∀ (f k : Nat) (acc : List Tok.Tk), l.length ≤ k + f → k ≤ l.length → acc.length ≤ k → (Tok.lexAt l k acc).1.length ≤ l.length + 1 := by
  intro f
  induction f with
  | zero => intro k acc hf hk ha; rw [Tok.lexAt_end (by omega)]; simp; omega
  | succ f ih =>
    intro k acc hf hk ha
    by_cases h : k < l.length
    · rcases hs : Tok.step l k with x | ⟨t, j⟩
      · rw [Tok.lexAt_error h acc hs]; simp
      · have hj := Tok.step_ok h hs
        dsimp only at hj
        rw [Tok.lexAt_ok h acc hs]
        refine ih j _ (by omega) hj.2 ?_
        rcases t with _ | t <;> simp <;> omega
    · rw [Tok.lexAt_end (by omega)]; simp; omega
theorem lexF_len3 (l : List UInt8) (h : l.length ≤ 10000) : (Tok.lexF l).1.length ≤ 10001 := by
  have e1 : Tok.lexF l = Tok.lexAt l 0 [] := by rw [Tok.lexF, if_neg (by omega), Tok.lexAt, Nat.sub_zero]
  rw [e1]
  have := lexF_len2 (l := l) l.length 0 [] (by omega) (by omega) (by simp)
  omega

set_option maxHeartbeats 2000000 in
set_option maxRecDepth 100000 in
theorem back_long (l : List UInt8) (w : World) (h1 : 2000 < l.length) :
    Calls Try.prog 4 #[.string ⟨l.toArray⟩] w fun e w' => e = .returned (.bool true) ∧ Below w.heap.size w w' := by
  go_enter Try.func4, Try.ntmps4
  go_wp2_with (go_at_call 8; refine (alive_any _).mono ?_; rintro e w1 ⟨rfl, hb⟩)
  go_ret
  exact ⟨rfl, hb⟩

set_option maxHeartbeats 2000000 in
set_option maxRecDepth 100000 in
theorem back_err (l : List UInt8) (w : World) (hl : l.length ≤ 2000) (a : Nat) (er : Int) (hx : Tok.lexF l = ([], a, er)) (her : (er != 0) = true) :
    Calls Try.prog 4 #[.string ⟨l.toArray⟩] w fun e w' => e = .returned (.bool true) ∧ Below w.heap.size w w' := by
  have g1 : decide ((2000 : Int) < (l.length : Int)) = false := by simp; omega
  have HX := Lib.hid hx
  clear hx
  go_enter Try.func4, Try.ntmps4
  go_wp2_with fail
  refine (lex_any l _ (by omega)).mono ?_
  rw [HX.out]
  rintro e w1 ⟨A1, c1, rfl, hown1, hb1⟩
  clear hown1
  go_wp2_with (go_at_call 8; refine (alive_any _).mono ?_; rintro e w2 ⟨rfl, hb2⟩)
  go_ret
  exact ⟨rfl, hb1.trans (hb2.mono hb1.size)⟩

set_option maxHeartbeats 2000000 in
set_option maxRecDepth 100000 in
theorem back_good (l : List UInt8) (w : World) (hl : l.length ≤ 2000) (L L' : List Tok.Tk) (a b : Nat) (T : List UInt8) (hx : Tok.lexF l = (L, a, 0)) (hT : Tok.wgo none L = T) (hTl : T.length ≤ 4000) (hx2 : Tok.lexF T = (L', b, 0)) (hkey : L'.map Tok.key = L.map Tok.key) :
    Calls Try.prog 4 #[.string ⟨l.toArray⟩] w fun e w' => e = .returned (.bool true) ∧ Below w.heap.size w w' := by
  have g1 : decide ((2000 : Int) < (l.length : Int)) = false := by simp; omega
  have hL := lexF_len3 l (by omega)
  rw [hx] at hL
  dsimp only at hL
  have hlen : L'.length = L.length := by simpa using congrArg List.length hkey
  have HX := Lib.hid hx
  have HX2 := Lib.hid hx2
  have HT := Lib.hid hT
  have HK := Lib.hid hkey
  have HL := Lib.hid hlen
  clear hx hx2 hT hkey hlen
  go_enter Try.func4, Try.ntmps4
  go_wp2_with fail
  refine (lex_any l _ (by omega)).mono ?_
  rw [HX.out]
  rintro e w1 ⟨A1, c1, rfl, hown1, hb1⟩
  dsimp only at hown1 ⊢
  go_wp2_with fail
  refine (ours_any _ A1 c1 L _ hown1 (by omega)).mono ?_
  rintro e w2 ⟨A2, c2, rfl, hown2, hb2⟩
  have ho2 := own_below hown1 hb2 (Nat.le_refl _)
  go_wp2_with fail
  refine (write_any _ A2 c2 L _ hown2 (by omega) (by rw [HT.out]; omega)).mono ?_
  rw [HT.out]
  rintro e w3 ⟨rfl, hb3⟩
  have ho3 := own_below ho2 hb3 (Nat.le_refl _)
  go_wp2_with fail
  refine (lex_any T _ (by omega)).mono ?_
  rw [HX2.out]
  rintro e w4 ⟨A4, c4, rfl, hown4, hb4⟩
  dsimp only at hown4 ⊢
  have ho4 := own_below ho3 hb4 (Nat.le_refl _)
  have s1 := hb1.size
  have s2 := hb2.size
  have s3 := hb3.size
  have s4 := hb4.size
  have hbel : Below w.heap.size w w4 := ((hb1.trans (hb2.mono s1)).trans (hb3.mono (by omega))).trans (hb4.mono (by omega))
  have hlen := HL.out
  clear hb1 hb2 hb3 hb4 hown1 hown2 ho2 ho3 s1 s2 s3 s4
  obtain ⟨n', hn'⟩ : ∃ n', L'.length = n' := ⟨_, rfl⟩
  have hown5 : w4.ownsRow w3.heap.size 36 3 (.slice A4 L'.length c4) L'.length (toks L') := hown4
  rw [hn'] at hlen hown4 ⊢
  subst hlen
  go_wp2_with fail
  go_loopw [9] (fun i wr => ∃ (k q : Nat), k ≤ L.length ∧ i = .int .i64 k ∧ wr = w4.drewN q) (fun i _ => L.length - (intOf i).toNat)
  case atStart => exact ⟨0, 0, by omega, rfl, rfl⟩
  case round =>
    obtain ⟨k, q, hk, rfl, rfl⟩ := hrel
    by_cases hkl : k < L.length
    · obtain ⟨hkl', hk1, hk2⟩ := key_get HK.out k hkl
      obtain ⟨g, rfl, _, hg, c0, c1, c2⟩ := own_tok ho4 k hkl
      obtain ⟨g', rfl, _, hg', c0', c1', c2'⟩ := own_tok hown5 k hkl'
      rw [hk1] at c0'
      rw [hk2] at c2'
      have hi0' : (0 : Int) ≤ (k : Int) := Int.natCast_nonneg _
      have hi1 : (k : Int) < (L.length : Int) := by omega
      obtain ⟨kd, hkd⟩ : ∃ kd, (L[k].kind : Int) = kd := ⟨_, rfl⟩
      obtain ⟨tx, htx⟩ : ∃ tx, (⟨L[k].text.toArray⟩ : ByteArray) = tx := ⟨_, rfl⟩
      rw [hkd] at c0 c0'
      rw [htx] at c2 c2'
      clear hkd htx ho4 hown5 hown4 c1 c1' hk1 hk2
      go_wp2_with fail
      go_quiet (fail)
      go_wp2
      go_roundw
      case rel => exact ⟨k + 1, _, by omega, by go_num, by first | rfl | rw [World.drewN_drewN]⟩
      case measure => simp [intOf]; omega
    · clear ho4 hown5 hown4
      go_wp2_with (go_at_call 8; refine (alive_any _).mono ?_; rintro e w5 ⟨rfl, hb5⟩)
      go_ret
      have hs := hbel.size
      exact ⟨rfl, (below_drewN hbel q).trans (hb5.mono (by have h : (w4.drewN q).heap.size = w4.heap.size := rfl
                                                           omega))⟩

theorem tokenBack_walk (l : List UInt8) (w : World) (hl : l.length ≤ 9223372036854775807) :
    Calls Try.prog 4 #[.string ⟨l.toArray⟩] w fun e w' => e = .returned (.bool true) ∧ Below w.heap.size w w' := by
  by_cases h1 : 2000 < l.length
  · exact back_long l w h1
  obtain ⟨⟨L, a, er⟩, hx⟩ : ∃ x, Tok.lexF l = x := ⟨_, rfl⟩
  by_cases he : er = 0
  · subst he
    obtain ⟨L', b, h2, h3, h4⟩ := Tok.back l L a (by omega) hx
    exact back_good l w (by omega) L L' a b _ hx rfl h4 h2 h3
  · have := Tok.err_none l L a er hx he
    subst this
    exact back_err l w (by omega) a er hx (by simpa using he)
end Go.Proofs.Ytngdfcommoenkaa
