/-
  The walks of token.sign, token.remark, token.quoted.
-/
import Derived.Test.YtnjhbhbohnjckaaStrs
import Derived.Test.YtnjhbhbohnjckaaTokPlain
set_option linter.unusedVariables false
namespace Go.Proofs.Ytnjhbhbohnjckaa
open Go.RowKit
attribute [local go_sem] ByteArray.extract_mk

theorem sign_fin : ∀ x : Fin 256, (decide (32 < x.val) && decide (x.val < 127) && decide (Lib.indexByte [40, 41, 34, 59, 44] (UInt8.ofNat x.val) < 0)) = Tok.sign (UInt8.ofNat x.val) := by decide +kernel
theorem sign_eq (c : UInt8) : (decide (32 < c.toNat) && decide (c.toNat < 127) && decide (Lib.indexByte [40, 41, 34, 59, 44] c < 0)) = Tok.sign c := by
  have := sign_fin ⟨c.toNat, c.toNat_lt⟩
  simpa using this

set_option maxHeartbeats 400000 in
set_option maxRecDepth 100000 in
theorem sign_any (c : UInt8) (w : World) : Calls Try.prog 39 #[.int .u8 (c.toNat : Int)] w fun e w' => e = .returned (.bool (Tok.sign c)) ∧ w = w' := by
  have he := sign_eq c
  have ec : (((c.toNat : Int)).toNat.toUInt8) = c := by simp
  by_cases h1 : 32 < c.toNat
  · by_cases h2 : c.toNat < 127
    · rw [decide_eq_true h1, decide_eq_true h2, Bool.true_and, Bool.true_and] at he
      have HE := Lib.hid he; clear he
      go_enter Try.func39, Try.ntmps39
      go_wp2_with fail
      refine (indexByte_any [40, 41, 34, 59, 44] _ _).mono ?_
      rintro e w1 ⟨rfl, rfl⟩
      rw [ec]
      go_wp2
      go_ret
      exact ⟨by rw [← HE.out]; simp, rfl⟩
    · rw [decide_eq_false h2, Bool.and_false, Bool.false_and] at he
      have HE := Lib.hid he; clear he
      go_enter Try.func39, Try.ntmps39
      go_wp2
      go_ret
      exact ⟨by rw [← HE.out]; simp, rfl⟩
  · rw [decide_eq_false h1, Bool.false_and, Bool.false_and] at he
    have HE := Lib.hid he; clear he
    go_enter Try.func39, Try.ntmps39
    go_wp2
    go_ret
    exact ⟨by rw [← HE.out]; simp, rfl⟩

set_option maxHeartbeats 400000 in
set_option maxRecDepth 100000 in
theorem remark_any (l : List UInt8) (w : World) (hl : l.length ≤ 1048576) :
    Calls Try.prog 37 #[.string ⟨l.toArray⟩] w fun e w' => e = .returned (.int .i64 (Tok.rem l 0 0 : Nat)) ∧ w = w' := by
  go_enter Try.func37, Try.ntmps37
  go_wp2
  go_loop [3, 4] (fun dv iv => ∃ (d : Int) (i : Nat), dv = .int .i64 d ∧ iv = .int .i64 i ∧ i ≤ l.length ∧ -(i : Int) ≤ d ∧ d ≤ i ∧ Hid (Tok.rem (l.drop i) d i = Tok.rem l 0 0)) (fun _ iv => l.length - (intOf iv).toNat)
  case atStart => exact ⟨0, 0, rfl, rfl, by omega, by omega, by omega, by simp [Hid]⟩
  case round =>
    obtain ⟨d, i, rfl, rfl, hi, hd1, hd2, HR⟩ := hrel
    by_cases h2 : i + 1 < l.length
    · obtain ⟨a, b, r, hdrop⟩ : ∃ a b r, l.drop i = a :: b :: r := by
        rw [List.drop_eq_getElem_cons (by omega), List.drop_eq_getElem_cons (by omega)]
        exact ⟨_, _, _, rfl⟩
      have htk : (l.drop i).take 2 = [a, b] := by rw [hdrop]; rfl
      have HD := Lib.hid hdrop
      clear hdrop
      go_wp2
      · have hc : (a == 40) = true ∧ (b == 59) = true := by assumption
        go_round
        case rel => exact ⟨d + 1, i + 2, by go_num, by go_num, by omega, by omega, by omega, (Tok.rem_open HD.out hc).symm.trans HR.out⟩
        case measure => simp [intOf]; omega
      · have h0 : (a == 40) = false ∨ (b == 59) = false := by assumption
        have hc : (a == 59) = true ∧ (b == 41) = true := by assumption
        have hd : (d - 1 == 0) = true := by assumption
        go_ret
        exact ⟨by rw [← HR.out, Tok.rem_done HD.out h0 hc hd]; rfl, rfl⟩
      · have h0 : (a == 40) = false ∨ (b == 59) = false := by assumption
        have hc : (a == 59) = true ∧ (b == 41) = true := by assumption
        have hd : (d - 1 == 0) = false := by assumption
        go_round
        case rel => exact ⟨d - 1, i + 2, by go_num, by go_num, by omega, by omega, by omega, (Tok.rem_close HD.out h0 hc hd).symm.trans HR.out⟩
        case measure => simp [intOf]; omega
      · have h0 : (a == 40) = false ∨ (b == 59) = false := by assumption
        have hc : (a == 59) = false ∨ (b == 41) = false := by assumption
        go_round
        case rel => exact ⟨d, i + 1, by go_num, by go_num, by omega, by omega, by omega, (Tok.rem_else HD.out h0 hc).symm.trans HR.out⟩
        case measure => simp [intOf]; omega
    · go_wp2
      go_ret
      have : Tok.rem (l.drop i) d i = 0 := by
        have hlen : (l.drop i).length ≤ 1 := by simp; omega
        match l.drop i, hlen with
        | [], _ => simp [Tok.rem]
        | [a], _ => simp [Tok.rem]
      rw [this] at HR
      exact ⟨by rw [← HR.out]; rfl, rfl⟩

set_option maxHeartbeats 400000 in
set_option maxRecDepth 100000 in
/-- quoted of a text whose first byte is a quotation mark (the first byte is not looked at). -/
theorem quoted_any (c0 : UInt8) (l : List UInt8) (w : World) (hl : l.length ≤ 1048576) :
    Calls Try.prog 38 #[.string ⟨(c0 :: l).toArray⟩] w fun e w' => e = .returned (.tuple #[.int .i64 ((Tok.quo l false 1).1 : Nat), .int .i64 (Tok.quo l false 1).2]) ∧ w = w' := by
  go_enter Try.func38, Try.ntmps38
  go_wp2
  go_loop [4, 5] (fun ev iv => ∃ (e : Bool) (i : Nat), ev = .bool e ∧ iv = .int .i64 i ∧ 1 ≤ i ∧ i ≤ l.length + 1 ∧ Hid (Tok.quo (l.drop (i - 1)) e i = Tok.quo l false 1)) (fun _ iv => l.length + 1 - (intOf iv).toNat)
  case atStart => exact ⟨false, 1, rfl, rfl, by omega, by omega, by simp [Hid]⟩
  case round =>
    obtain ⟨e, i, rfl, rfl, hi, hil, HR⟩ := hrel
    by_cases h2 : i < l.length + 1
    · obtain ⟨j, rfl⟩ : ∃ j, i = j + 1 := ⟨i - 1, by omega⟩
      have hj : j < l.length := by omega
      obtain ⟨c, hc⟩ : ∃ c, l[j] = c := ⟨_, rfl⟩
      have hget : (ByteArray.mk (c0 :: l).toArray)[j + 1]'(by show j + 1 < (c0 :: l).toArray.size; simp; omega) = c := by
        rw [← hc]; rfl
      have hq : Tok.quo (l.drop j) e (j + 1) = Tok.quo (c :: l.drop (j + 1)) e (j + 1) := by rw [List.drop_eq_getElem_cons hj, hc]
      rw [Nat.add_sub_cancel] at HR
      have HQ := Lib.hid hq
      clear hq hc
      by_cases h1 : c.toNat < 32 ∨ c = 127
      · have hv : Hid (Tok.quo l false 1 = (j + 1, 4)) := by
          unfold Hid; rw [← HR.out, HQ.out, Tok.quo, if_pos (by simpa using h1)]
        have hcase : decide ((c.toNat : Int) < 32) = true ∨ (decide ((c.toNat : Int) < 32) = false ∧ ((c.toNat : Int) == 127) = true) := by
          by_cases h : c.toNat < 32
          · exact .inl (by simp; omega)
          · refine .inr ⟨by simp; omega, ?_⟩
            rcases h1 with h1 | h1
            · exact absurd h1 h
            · rw [h1]; rfl
        clear h1
        rcases hcase with g1 | ⟨g1, g2⟩
        all_goals
          go_wp2
          go_ret2
          exact ⟨by rw [hv.out]; rfl, rfl⟩
      · have g1 : decide ((c.toNat : Int) < 32) = false := by simp; omega
        have g2 : ((c.toNat : Int) == 127) = false := by
          rw [beq_eq_false_iff_ne]; intro h
          exact h1 (.inr (UInt8.toNat.inj (by simpa using (show c.toNat = 127 by omega))))
        have hn : ¬ ((decide (c.toNat < 32) || c == 127) = true) := by simpa using h1
        clear h1
        rcases e with _ | _
        · by_cases h92 : c = 92
          · subst h92
            have hv : Hid (Tok.quo (l.drop (j + 1)) true (j + 1 + 1) = Tok.quo l false 1) := by
              unfold Hid; rw [← HR.out, HQ.out]; rfl
            go_wp2
            go_round
            case rel => exact ⟨true, j + 2, rfl, by go_num, by omega, by omega, hv⟩
            case measure => simp [intOf]; omega
          · have g3 : ((c.toNat : Int) == 92) = false := by
              rw [beq_eq_false_iff_ne]; intro h
              exact h92 (UInt8.toNat.inj (by simpa using (show c.toNat = 92 by omega)))
            by_cases h34 : c = 34
            · subst h34
              have hv : Hid (Tok.quo l false 1 = (j + 1 + 1, 0)) := by
                unfold Hid; rw [← HR.out, HQ.out]; rfl
              go_wp2
              go_ret2
              exact ⟨by rw [hv.out]; rfl, rfl⟩
            · have g4 : ((c.toNat : Int) == 34) = false := by
                rw [beq_eq_false_iff_ne]; intro h
                exact h34 (UInt8.toNat.inj (by simpa using (show c.toNat = 34 by omega)))
              have hv : Hid (Tok.quo (l.drop (j + 1)) false (j + 1 + 1) = Tok.quo l false 1) := by
                unfold Hid
                rw [← HR.out, HQ.out]
                conv => rhs; rw [Tok.quo, if_neg hn, if_neg (by decide), if_neg (by simpa using h92), if_neg (by simpa using h34)]
              go_wp2
              go_round
              case rel => exact ⟨false, j + 2, rfl, by go_num, by omega, by omega, hv⟩
              case measure => simp [intOf]; omega
        · have hv : Hid (Tok.quo (l.drop (j + 1)) false (j + 1 + 1) = Tok.quo l false 1) := by
            unfold Hid
            rw [← HR.out, HQ.out]
            conv => rhs; rw [Tok.quo, if_neg hn, if_pos rfl]
          go_wp2
          go_round
          case rel => exact ⟨false, j + 2, rfl, by go_num, by omega, by omega, hv⟩
          case measure => simp [intOf]; omega
    · have hv : Hid (Tok.quo l false 1 = (0, 3)) := by
        unfold Hid; rw [← HR.out, List.drop_of_length_le (by omega), Tok.quo]
      go_wp2
      go_ret2
      exact ⟨by rw [hv.out]; rfl, rfl⟩
end Go.Proofs.Ytnjhbhbohnjckaa
