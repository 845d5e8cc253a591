/-
  The reference's word, line, remark, quoted compute the same plain functions.
-/
import Derived.Test.YtnjhbhbohnjckaaTokLex
set_option linter.unusedVariables false
namespace Go.Proofs.Ytnjhbhbohnjckaa
open Go.RowKit
attribute [local go_sem] ByteArray.extract_mk

theorem ba_get (l : List UInt8) (k : Nat) (h : k < l.length) (c : UInt8) (hc : l[k] = c) : (ByteArray.mk l.toArray)[k]'(by show k < l.toArray.size; simpa using h) = c := by rw [← hc]; rfl
theorem cne' (c : UInt8) (n : Nat) (hn : n < 256) (h : c ≠ UInt8.ofNat n) : ((c.toNat : Int) != (n : Int)) = true := by
  have := cne c n hn h
  rw [bne, this]; rfl

set_option maxHeartbeats 1000000 in
set_option maxRecDepth 100000 in
theorem word_any (c : UInt8) (w : World) : Calls Try.prog 51 #[.int .u8 (c.toNat : Int)] w fun e w' => e = .returned (.bool (Tok.sign c)) ∧ w = w' := by
  by_cases h1 : 33 ≤ c.toNat
  · by_cases h2 : c.toNat ≤ 126
    · by_cases h3 : c = 40 ∨ c = 41 ∨ c = 34 ∨ c = 59 ∨ c = 44
      · have hv : Hid (Tok.sign c = false) := by unfold Hid; rcases h3 with rfl | rfl | rfl | rfl | rfl <;> rfl
        rcases h3 with rfl | rfl | rfl | rfl | rfl
        all_goals
          go_enter Try.func51, Try.ntmps51
          go_wp2
          go_ret
          exact ⟨by rw [hv.out]; rfl, rfl⟩
      · have hn : c ≠ 40 ∧ c ≠ 41 ∧ c ≠ 34 ∧ c ≠ 59 ∧ c ≠ 44 := by simpa using h3
        have hv : Hid (Tok.sign c = true) := by unfold Hid Tok.sign; simp [hn]; omega
        have n1 := cne' c 40 (by omega) hn.1
        have n2 := cne' c 41 (by omega) hn.2.1
        have n3 := cne' c 34 (by omega) hn.2.2.1
        have n4 := cne' c 59 (by omega) hn.2.2.2.1
        have n5 := cne' c 44 (by omega) hn.2.2.2.2
        simp only [Int.cast_ofNat_Int] at n1 n2 n3 n4 n5
        clear h3 hn
        go_enter Try.func51, Try.ntmps51
        go_wp2
        go_ret
        exact ⟨by rw [hv.out]; simp, rfl⟩
    · have hv : Hid (Tok.sign c = false) := by unfold Hid Tok.sign; simp; omega
      go_enter Try.func51, Try.ntmps51
      go_wp2
      go_ret
      exact ⟨by rw [hv.out]; simp, rfl⟩
  · have hv : Hid (Tok.sign c = false) := by unfold Hid Tok.sign; simp; omega
    go_enter Try.func51, Try.ntmps51
    go_wp2
    go_ret
    exact ⟨by rw [hv.out]; simp, rfl⟩

/-- The offset of the next line feed, or the text's length. -/
def lineEnd : List UInt8 → Nat
  | [] => 0
  | c :: r => if c == 10 then 0 else lineEnd r + 1
theorem lineEnd_cons (c : UInt8) (r : List UInt8) : lineEnd (c :: r) = if c == 10 then 0 else lineEnd r + 1 := rfl
theorem lineEnd_le : ∀ m : List UInt8, lineEnd m ≤ m.length := by
  intro m
  induction m with
  | nil => simp [lineEnd]
  | cons c r ih => rw [lineEnd]; split <;> simp only [List.length_cons] <;> omega

set_option maxHeartbeats 400000 in
set_option maxRecDepth 100000 in
theorem line_any (l : List UInt8) (k r : Nat) (w : World) (hr : k + lineEnd (l.drop k) = r) (hk : k ≤ l.length) (hl : l.length ≤ 1048576) :
    Calls Try.prog 48 #[.string ⟨l.toArray⟩, .int .i64 k] w fun e w' => e = .returned (.int .i64 r) ∧ w = w' := by
  have HRR := Lib.hid hr
  clear hr
  go_enter Try.func48, Try.ntmps48
  go_wp2
  go_loop [1] (fun iv => ∃ j : Nat, j ≤ l.length ∧ iv = .int .i64 j ∧ Hid (j + lineEnd (l.drop j) = k + lineEnd (l.drop k))) (fun iv => l.length - (intOf iv).toNat)
  case atStart => exact ⟨k, hk, rfl, rfl⟩
  case round =>
    obtain ⟨j, hj, rfl, HR⟩ := hrel
    by_cases hjl : j < l.length
    · obtain ⟨c, hc⟩ : ∃ c, l[j] = c := ⟨_, rfl⟩
      have hget := ba_get l j hjl c hc
      have hd : l.drop j = c :: l.drop (j + 1) := by rw [List.drop_eq_getElem_cons hjl, hc]
      have t1 : decide ((j : Int) < (l.length : Int)) = true := by simp; omega
      by_cases h10 : c = 10
      · subst h10
        have hv : Hid (j = k + lineEnd (l.drop k)) := by have := HR.out; rw [hd, lineEnd_cons, if_pos (by decide)] at this; exact this
        clear hd hc
        go_wp2
        go_ret
        exact ⟨by rw [← HRR.out, ← hv.out]; rfl, rfl⟩
      · have n10 := cne' c 10 (by omega) h10
        simp only [Int.cast_ofNat_Int] at n10
        have hv : Hid (j + 1 + lineEnd (l.drop (j + 1)) = k + lineEnd (l.drop k)) := by
          have := HR.out; rw [hd, lineEnd_cons, if_neg (by simpa using h10)] at this; unfold Hid; omega
        clear hd hc h10
        go_wp2
        go_round
        case rel => exact ⟨j + 1, by omega, by go_num, hv⟩
        case measure => simp [intOf]; omega
    · have hv : Hid (j = k + lineEnd (l.drop k)) := by
        have := HR.out; rw [List.drop_of_length_le (by omega)] at this; exact this
      go_wp2
      go_ret
      exact ⟨by rw [← HRR.out, ← hv.out]; rfl, rfl⟩

namespace Tok
theorem rem2_open {l r : List UInt8} {j i : Nat} {a b : UInt8} {d : Int} (h : l.drop j = a :: b :: r) (hc : (a == 40) = true ∧ (b == 59) = true) : rem (l.drop j) d i = rem (l.drop (j + 2)) (d + 1) (i + 2) := by
  rw [(drop2 h).1, h, rem, if_pos (by rw [hc.1, hc.2]; rfl)]
theorem rem2_done {l r : List UInt8} {j i : Nat} {a b : UInt8} {d : Int} (h : l.drop j = a :: b :: r) (h0 : (a == 40) = false ∨ (b == 59) = false) (hc : (a == 59) = true ∧ (b == 41) = true) (hd : d - 1 = 0) : rem (l.drop j) d i = i + 2 := by
  rw [h, rem, if_neg (by rw [rem_not (d := d) h h0]; decide), if_pos (by rw [hc.1, hc.2]; rfl), if_pos hd]
theorem rem2_close {l r : List UInt8} {j i : Nat} {a b : UInt8} {d : Int} (h : l.drop j = a :: b :: r) (h0 : (a == 40) = false ∨ (b == 59) = false) (hc : (a == 59) = true ∧ (b == 41) = true) (hd : ¬ d - 1 = 0) : rem (l.drop j) d i = rem (l.drop (j + 2)) (d - 1) (i + 2) := by
  rw [(drop2 h).1, h, rem, if_neg (by rw [rem_not (d := d) h h0]; decide), if_pos (by rw [hc.1, hc.2]; rfl), if_neg hd]
theorem rem2_else {l r : List UInt8} {j i : Nat} {a b : UInt8} {d : Int} (h : l.drop j = a :: b :: r) (h0 : (a == 40) = false ∨ (b == 59) = false) (hc : (a == 59) = false ∨ (b == 41) = false) : rem (l.drop j) d i = rem (l.drop (j + 1)) d (i + 1) := by
  have e : (a == 59 && b == 41) = false := by rcases hc with h | h <;> rw [h] <;> simp
  rw [(drop2 h).2, h, rem, if_neg (by rw [rem_not (d := d) h h0]; decide), if_neg (by rw [e]; decide)]
end Tok

set_option maxHeartbeats 1000000 in
set_option maxRecDepth 100000 in
theorem refRemark_any (l : List UInt8) (k : Nat) (r : Int) (w : World) (hr : (if Tok.rem (l.drop k) 0 0 = 0 then -1 else (k : Int) + (Tok.rem (l.drop k) 0 0 : Nat)) = r) (hp : Tok.pre2 40 59 (l.drop k) = true) (hk : k ≤ l.length) (hl : l.length ≤ 1048576) :
    Calls Try.prog 49 #[.string ⟨l.toArray⟩, .int .i64 k] w fun e w' => e = .returned (.int .i64 r) ∧ w = w' := by
  have HRR := Lib.hid hr
  have HP := Lib.hid hp
  clear hr hp
  go_enter Try.func49, Try.ntmps49
  go_wp2
  go_loop [1, 5] (fun iv dv => ∃ (d : Int) (j : Nat), dv = .int .i64 d ∧ iv = .int .i64 j ∧ k ≤ j ∧ j ≤ l.length ∧ d ≤ j ∧ 0 ≤ d ∧ Hid ((d = 0 ∧ j = k) ∨ 1 ≤ d) ∧ Hid (Tok.rem (l.drop j) d (j - k) = Tok.rem (l.drop k) 0 0)) (fun iv _ => l.length - (intOf iv).toNat)
  case atStart => exact ⟨0, k, rfl, rfl, by omega, hk, by omega, by omega, .inl ⟨rfl, rfl⟩, by simp [Hid]⟩
  case round =>
    obtain ⟨d, j, rfl, rfl, hkj, hj, hd1, hd0, HC, HR⟩ := hrel
    by_cases h2 : j + 1 < l.length
    · obtain ⟨a, b, q, hdrop⟩ : ∃ a b q, l.drop j = a :: b :: q := by
        rw [List.drop_eq_getElem_cons (by omega), List.drop_eq_getElem_cons (by omega)]
        exact ⟨_, _, _, rfl⟩
      have htk : (l.drop j).take 2 = [a, b] := by rw [hdrop]; rfl
      have HD := Lib.hid hdrop
      clear hdrop
      by_cases ho : a = 40 ∧ b = 59
      · obtain ⟨rfl, rfl⟩ := ho
        have hv : Hid (Tok.rem (l.drop (j + 2)) (d + 1) (j + 2 - k) = Tok.rem (l.drop k) 0 0) := by
          unfold Hid
          rw [← HR.out, Tok.rem2_open HD.out ⟨rfl, rfl⟩, show j + 2 - k = j - k + 2 from by omega]
        have g1 : (d + 1 == 0) = false := by rw [beq_eq_false_iff_ne]; omega
        go_wp2
        go_round
        case rel => exact ⟨d + 1, j + 2, by go_num, by go_num, by omega, by omega, by omega, by omega, .inr (by omega), hv⟩
        case measure => simp [intOf]; omega
      · have h0 : (a == 40) = false ∨ (b == 59) = false := by
          rcases ha : (a == 40) with _ | _
          · exact .inl rfl
          · rcases hb : (b == 59) with _ | _
            · exact .inr rfl
            · exact absurd ⟨by simpa using ha, by simpa using hb⟩ ho
        have hbq : ((a == 40) && (b == 59)) = false := by rcases h0 with h | h <;> rw [h] <;> simp
        have hd1' : 1 ≤ d := by
          rcases HC.out with ⟨rfl, rfl⟩ | h
          · exfalso
            have := HP.out
            unfold Tok.pre2 at this
            rw [htk] at this
            have e : [a, b] = ([40, 59] : List UInt8) := by simpa using this
            simp at e
            exact ho e
          · exact h
        by_cases hcl : a = 59 ∧ b = 41
        · obtain ⟨rfl, rfl⟩ := hcl
          by_cases hz : d - 1 = 0
          · have hv : Hid (r = (j : Int) + 2) := by
              unfold Hid
              have h1 := HR.out
              rw [Tok.rem2_done HD.out h0 ⟨rfl, rfl⟩ hz] at h1
              rw [← HRR.out, ← h1, if_neg (by omega)]
              omega
            have g1 : (d - 1 == 0) = true := by rw [hz]; rfl
            clear hz h0 hbq
            go_wp2
            go_ret
            exact ⟨by rw [hv.out]; rfl, rfl⟩
          · have hv : Hid (Tok.rem (l.drop (j + 2)) (d - 1) (j + 2 - k) = Tok.rem (l.drop k) 0 0) := by
              unfold Hid
              rw [← HR.out, Tok.rem2_close HD.out h0 ⟨rfl, rfl⟩ hz, show j + 2 - k = j - k + 2 from by omega]
            have g1 : (d - 1 == 0) = false := by rw [beq_eq_false_iff_ne]; exact hz
            clear h0 hbq
            go_wp2
            go_round
            case rel => exact ⟨d - 1, j + 2, by go_num, by go_num, by omega, by omega, by omega, by omega, .inr (by omega), hv⟩
            case measure => simp [intOf]; omega
        · have h3 : (a == 59) = false ∨ (b == 41) = false := by
            rcases ha : (a == 59) with _ | _
            · exact .inl rfl
            · rcases hb : (b == 41) with _ | _
              · exact .inr rfl
              · exact absurd ⟨by simpa using ha, by simpa using hb⟩ hcl
          have hv : Hid (Tok.rem (l.drop (j + 1)) d (j + 1 - k) = Tok.rem (l.drop k) 0 0) := by
            unfold Hid
            rw [← HR.out, Tok.rem2_else HD.out h0 h3, show j + 1 - k = j - k + 1 from by omega]
          have g1 : (d == 0) = false := by rw [beq_eq_false_iff_ne]; omega
          clear ho hcl hbq
          rcases h0 with h0 | h0 <;> rcases h3 with h3 | h3
          all_goals
            go_wp2
            go_round
            case rel => exact ⟨d, j + 1, by go_num, by go_num, by omega, by omega, by omega, by omega, .inr (by omega), hv⟩
            case measure => simp [intOf]; omega
    · have hv : Hid (r = -1) := by
        unfold Hid
        have h1 := HR.out
        have : Tok.rem (l.drop j) d (j - k) = 0 := by
          have hlen : (l.drop j).length ≤ 1 := by simp; omega
          match l.drop j, hlen with
          | [], _ => simp [Tok.rem]
          | [a], _ => simp [Tok.rem]
        rw [this] at h1
        rw [← HRR.out, if_pos h1.symm]
      go_wp2
      go_ret
      exact ⟨by rw [hv.out]; rfl, rfl⟩

namespace Tok
theorem quo_bad {c : UInt8} (h : c.toNat < 32 ∨ c = 127) (r : List UInt8) (e : Bool) (i : Nat) : quo (c :: r) e i = (i, 4) := by rw [quo, if_pos (by simpa using h)]
theorem quo_quote (r : List UInt8) (i : Nat) : quo (34 :: r) false i = (i + 1, 0) := rfl
theorem quo_slash (r : List UInt8) (i : Nat) : quo (92 :: r) false i = quo r true (i + 1) := rfl
theorem quo_esc {c : UInt8} (h : ¬ (c.toNat < 32 ∨ c = 127)) (r : List UInt8) (i : Nat) : quo (c :: r) true i = quo r false (i + 1) := by
  rw [quo, if_neg (by simpa using h), if_pos rfl]
theorem quo_plain {c : UInt8} (h : ¬ (c.toNat < 32 ∨ c = 127)) (h1 : c ≠ 34) (h2 : c ≠ 92) (r : List UInt8) (i : Nat) : quo (c :: r) false i = quo r false (i + 1) := by
  conv => lhs; rw [quo, if_neg (show ¬ ((decide (c.toNat < 32) || c == 127) = true) by simpa using h), if_neg (by decide), if_neg (by simpa using h2), if_neg (by simpa using h1)]
end Tok

set_option maxHeartbeats 1000000 in
set_option maxRecDepth 100000 in
theorem refQuoted_any (l : List UInt8) (k n : Nat) (er p : Int) (w : World) (hq : Tok.quo (l.drop (k + 1)) false 1 = (n, er)) (hpp : (if er = 3 then (k : Int) else (k : Int) + n) = p) (hk : k < l.length) (hl : l.length ≤ 1048576) :
    Calls Try.prog 50 #[.string ⟨l.toArray⟩, .int .i64 k] w fun e w' => e = .returned (.tuple #[.int .i64 p, .int .i64 er]) ∧ w = w' := by
  have HQ := Lib.hid hq
  have HPP := Lib.hid hpp
  clear hq hpp
  go_enter Try.func50, Try.ntmps50
  go_wp2
  go_loop [6] (fun iv => ∃ j : Nat, iv = .int .i64 j ∧ k + 1 ≤ j ∧ j ≤ l.length ∧ Hid (Tok.quo (l.drop j) false (j - k) = (n, er))) (fun iv => l.length - (intOf iv).toNat)
  case atStart => exact ⟨k + 1, by go_num, by omega, by omega, by unfold Hid; rw [show k + 1 - k = 1 from by omega]; exact HQ.out⟩
  case round =>
    obtain ⟨j, rfl, hkj, hj, HR⟩ := hrel
    by_cases hjl : j < l.length
    · obtain ⟨c, hc⟩ : ∃ c, l[j] = c := ⟨_, rfl⟩
      have hget := ba_get l j hjl c hc
      have hd : l.drop j = c :: l.drop (j + 1) := by rw [List.drop_eq_getElem_cons hjl, hc]
      rw [hd] at HR
      have t1 : decide ((j : Int) < (l.length : Int)) = true := by simp; omega
      by_cases h1 : c.toNat < 32 ∨ c = 127
      · have hv : Hid (er = 4 ∧ p = (j : Int)) := by
          have h := HR.out
          rw [Tok.quo_bad h1] at h
          injection h with h2 h3
          refine ⟨h3.symm, ?_⟩
          rw [← HPP.out, if_neg (by omega)]
          omega
        have hcase : decide ((c.toNat : Int) < 32) = true ∨ (decide ((c.toNat : Int) < 32) = false ∧ ((c.toNat : Int) == 127) = true) := by
          by_cases h : c.toNat < 32
          · exact .inl (by simp; omega)
          · refine .inr ⟨by simp; omega, ?_⟩
            rcases h1 with h1 | h1
            · exact absurd h1 h
            · rw [h1]; rfl
        clear h1 hd hc
        rcases hcase with g1 | ⟨g1, g2⟩
        all_goals
          go_wp2
          go_ret2
          exact ⟨by rw [hv.out.1, hv.out.2]; rfl, rfl⟩
      · have g1 : decide ((c.toNat : Int) < 32) = false := by simp; omega
        have g2 : ((c.toNat : Int) == 127) = false := cne c 127 (by omega) (by simpa using fun h => h1 (.inr h))
        by_cases h34 : c = 34
        · subst h34
          have hv : Hid (er = 0 ∧ p = (j : Int) + 1) := by
            have h := HR.out
            rw [Tok.quo_quote] at h
            injection h with h2 h3
            refine ⟨h3.symm, ?_⟩
            rw [← HPP.out, if_neg (by omega)]
            omega
          clear hd hc h1
          go_wp2
          go_ret2
          exact ⟨by rw [hv.out.1, hv.out.2]; rfl, rfl⟩
        · have g3 : ((c.toNat : Int) == 34) = false := cne c 34 (by omega) h34
          by_cases h92 : c = 92
          · subst h92
            rw [Tok.quo_slash] at HR
            by_cases hj1 : j + 1 < l.length
            · obtain ⟨d, hdd⟩ : ∃ d, l[j + 1] = d := ⟨_, rfl⟩
              have hget1 := ba_get l (j + 1) hj1 d hdd
              have hd1 : l.drop (j + 1) = d :: l.drop (j + 2) := by rw [List.drop_eq_getElem_cons hj1, hdd]
              rw [hd1] at HR
              have t2 : decide ((j : Int) + 1 < (l.length : Int)) = true := by simp; omega
              by_cases hbad : d.toNat < 32 ∨ d = 127
              · have hv : Hid (Tok.quo (l.drop (j + 1)) false (j + 1 - k) = (n, er)) := by
                  unfold Hid
                  have h := HR.out
                  rw [Tok.quo_bad hbad] at h
                  rw [hd1, Tok.quo_bad hbad, ← h, show j + 1 - k = j - k + 1 from by omega]
                have hcase : decide (32 ≤ (d.toNat : Int)) = false ∨ (decide (32 ≤ (d.toNat : Int)) = true ∧ ((d.toNat : Int) != 127) = false) := by
                  by_cases h : d.toNat < 32
                  · exact .inl (by simp; omega)
                  · refine .inr ⟨by simp; omega, ?_⟩
                    rcases hbad with hb | hb
                    · exact absurd hb h
                    · rw [hb]; rfl
                clear hd hc h1 hd1 hdd hbad h34
                rcases hcase with e1 | ⟨e1, e2⟩
                all_goals
                  go_wp2
                  go_round
                  case rel => exact ⟨j + 1, by go_num, by omega, by omega, hv⟩
                  case measure => simp [intOf]; omega
              · have hv : Hid (Tok.quo (l.drop (j + 2)) false (j + 2 - k) = (n, er)) := by
                  unfold Hid
                  have h := HR.out
                  rw [Tok.quo_esc hbad] at h
                  rw [← h, show j + 2 - k = j - k + 1 + 1 from by omega]
                have e1 : decide (32 ≤ (d.toNat : Int)) = true := by simp; omega
                have e2 : ((d.toNat : Int) != 127) = true := cne' d 127 (by omega) (by simpa using fun h => hbad (.inr h))
                clear hd hc h1 hd1 hdd hbad h34
                go_wp2
                go_round
                case rel => exact ⟨j + 2, by go_num, by omega, by omega, hv⟩
                case measure => simp [intOf]; omega
            · have hv : Hid (Tok.quo (l.drop (j + 1)) false (j + 1 - k) = (n, er)) := by
                unfold Hid
                have h := HR.out
                rw [List.drop_of_length_le (by omega)] at h ⊢
                exact h
              have t2 : decide ((j : Int) + 1 < (l.length : Int)) = false := by simp; omega
              clear hd hc h1 h34
              go_wp2
              go_round
              case rel => exact ⟨j + 1, by go_num, by omega, by omega, hv⟩
              case measure => simp [intOf]; omega
          · have g4 : ((c.toNat : Int) == 92) = false := cne c 92 (by omega) h92
            have hv : Hid (Tok.quo (l.drop (j + 1)) false (j + 1 - k) = (n, er)) := by
              unfold Hid
              have h := HR.out
              rw [Tok.quo_plain h1 h34 h92] at h
              rw [← h, show j + 1 - k = j - k + 1 from by omega]
            clear hd hc h1 h34 h92
            go_wp2
            go_round
            case rel => exact ⟨j + 1, by go_num, by omega, by omega, hv⟩
            case measure => simp [intOf]; omega
    · have hv : Hid (er = 3 ∧ p = (k : Int)) := by
        have h := HR.out
        rw [List.drop_of_length_le (by omega), Tok.quo] at h
        injection h with h2 h3
        refine ⟨h3.symm, ?_⟩
        rw [← HPP.out, if_pos h3.symm]
      go_wp2
      go_ret2
      exact ⟨by rw [hv.out.1, hv.out.2]; rfl, rfl⟩
end Go.Proofs.Ytnjhbhbohnjckaa
