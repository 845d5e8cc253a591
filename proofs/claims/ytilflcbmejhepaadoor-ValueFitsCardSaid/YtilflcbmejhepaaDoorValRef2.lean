/-
  Layer 27, the reference: digits, minus, begins, Parse.
-/
import Derived.Test.YtilflcbmejhepaaDoorValRef
set_option linter.unusedVariables false
set_option linter.unusedSimpArgs false
namespace Go.Proofs.YtilflcbmejhepaaDoor
open Go.RowKit
open Val (V)

set_option maxHeartbeats 4000000 in
set_option maxRecDepth 100000 in
theorem digits_any (l : List UInt8) (w : World) (hl : l.length ≤ 1000000) : Calls Tryd.prog 35 #[.string ⟨l.toArray⟩] w fun e w' => e = .returned (.int .u64 (Val.dg 0 l : Int)) ∧ w = w' := by
  have hsz : (ByteArray.mk l.toArray).size = l.length := by simp [ByteArray.size]
  go_enter Tryd.func35, Tryd.ntmps35
  go_wp2
  go_loop [3, 4] (fun nv iv => ∃ (m i : Nat), nv = .int .u64 (m : Int) ∧ iv = .int .i64 (i : Int) ∧ i ≤ l.length ∧ m < 18446744073709551616 ∧ Hid (Val.dg m (l.drop i) = Val.dg 0 l)) (fun _ iv => l.length - (intOf iv).toNat)
  case atStart => exact ⟨0, 0, rfl, rfl, by omega, by omega, by simp [Hid]⟩
  case round =>
    obtain ⟨m, i, rfl, rfl, hil, hm, HR⟩ := hrel
    by_cases hi : i < l.length
    · obtain ⟨c, hc⟩ : ∃ c, l[i] = c := ⟨_, rfl⟩
      have hget : (ByteArray.mk l.toArray)[i]'(by show i < l.toArray.size; simpa using hi) = c := by rw [← hc]; rfl
      have hq : Val.dg m (l.drop i) = Val.dg (if 48 ≤ c.toNat ∧ c.toNat ≤ 57 then (m * 10 + (c.toNat - 48)) % 18446744073709551616 else m) (l.drop (i + 1)) := by
        rw [List.drop_eq_getElem_cons hi, hc, Val.dg]
      have d0 : decide (i < l.length) = true := by simpa using hi
      by_cases h1 : 48 ≤ c.toNat
      · have g1 : decide ((48 : Int) ≤ (c.toNat : Int)) = true := by simp; omega
        have g1n : decide (48 ≤ c.toNat) = true := by simpa using h1
        by_cases h2 : c.toNat ≤ 57
        · have g2 : decide ((c.toNat : Int) ≤ 57) = true := by simp; omega
          have g2n : decide (c.toNat ≤ 57) = true := by simpa using h2
          rw [if_pos ⟨h1, h2⟩] at hq
          obtain ⟨r, hr⟩ : ∃ r, (m * 10 + (c.toNat - 48)) % 18446744073709551616 = r := ⟨_, rfl⟩
          obtain ⟨p, hp⟩ : ∃ p, m * 10 % 18446744073709551616 = p := ⟨_, rfl⟩
          obtain ⟨d, hd⟩ : ∃ d, c.toNat - 48 = d := ⟨_, rfl⟩
          have u1 : IntKind.u64.wrap ((m : Int) * 10) = (p : Int) := by rw [IntKind.wrap_u64]; omega
          have u2 : IntKind.u8.wrap ((c.toNat : Int) - 48) = (d : Int) := by rw [IntKind.wrap_u8]; omega
          have u3 : IntKind.u64.wrap (d : Int) = (d : Int) := by rw [IntKind.wrap_u64]; omega
          have u4 : IntKind.u64.wrap ((p : Int) + (d : Int)) = (r : Int) := by rw [IntKind.wrap_u64]; omega
          have hr' : r < 18446744073709551616 := by omega
          rw [hr] at hq
          have HV : Hid (Val.dg r (l.drop (i + 1)) = Val.dg 0 l) := Lib.hid (hq.symm.trans HR.out)
          clear hq hr hp hd hc HR hsz
          go_wp2
          go_round
          case rel => exact ⟨r, i + 1, rfl, by go_num, by omega, hr', HV⟩
          case measure => simp [intOf]; omega
        · have g2 : decide ((c.toNat : Int) ≤ 57) = false := by simp; omega
          have g2n : decide (c.toNat ≤ 57) = false := by simpa using h2
          rw [if_neg (fun h => h2 h.2)] at hq
          have HV : Hid (Val.dg m (l.drop (i + 1)) = Val.dg 0 l) := Lib.hid (hq.symm.trans HR.out)
          clear hq hc HR hsz
          go_wp2
          go_round
          case rel => exact ⟨m, i + 1, rfl, by go_num, by omega, hm, HV⟩
          case measure => simp [intOf]; omega
      · have g1 : decide ((48 : Int) ≤ (c.toNat : Int)) = false := by simp; omega
        have g1n : decide (48 ≤ c.toNat) = false := by simpa using h1
        rw [if_neg (fun h => h1 h.1)] at hq
        have HV : Hid (Val.dg m (l.drop (i + 1)) = Val.dg 0 l) := Lib.hid (hq.symm.trans HR.out)
        clear hq hc HR hsz
        go_wp2
        go_round
        case rel => exact ⟨m, i + 1, rfl, by go_num, by omega, hm, HV⟩
        case measure => simp [intOf]; omega
    · have hi2 : i = l.length := by omega
      subst hi2
      have HV : Hid (m = Val.dg 0 l) := Lib.hid (by rw [← HR.out]; simp [Val.dg])
      have d0 : decide (l.length < l.length) = false := by simp
      clear HR hsz
      go_wp2
      go_ret
      exact ⟨by rw [← HV.out]; rfl, rfl⟩

set_option maxHeartbeats 4000000 in
set_option maxRecDepth 100000 in
theorem minus_any (l : List UInt8) (w : World) (hl : l.length ≤ 1000000) : Calls Tryd.prog 36 #[.string ⟨l.toArray⟩] w fun e w' => e = .returned (.bool (Val.minus l)) ∧ w = w' := by
  have hsz : (ByteArray.mk l.toArray).size = l.length := by simp [ByteArray.size]
  go_enter Tryd.func36, Tryd.ntmps36
  go_wp2
  go_loop [3] (fun iv => ∃ (i : Nat), iv = .int .i64 (i : Int) ∧ i ≤ l.length ∧ Hid (Val.minus (l.drop i) = Val.minus l)) (fun iv => l.length - (intOf iv).toNat)
  case atStart => exact ⟨0, rfl, by omega, by simp [Hid]⟩
  case round =>
    obtain ⟨i, rfl, hil, HR⟩ := hrel
    by_cases hi : i < l.length
    · obtain ⟨c, hc⟩ : ∃ c, l[i] = c := ⟨_, rfl⟩
      have hget : (ByteArray.mk l.toArray)[i]'(by show i < l.toArray.size; simpa using hi) = c := by rw [← hc]; rfl
      have hq : Val.minus (l.drop i) = (c == 45 || Val.minus (l.drop (i + 1))) := by
        rw [List.drop_eq_getElem_cons hi, hc]; rfl
      have d0 : decide (i < l.length) = true := by simpa using hi
      by_cases h1 : c = 45
      · subst h1
        have HV : Hid (Val.minus l = true) := Lib.hid (by rw [← HR.out, hq]; rfl)
        clear hq hc HR hsz
        go_wp2
        go_ret
        exact ⟨by rw [HV.out]; rfl, rfl⟩
      · have g1 : ((c.toNat : Int) == 45) = false := by
          rw [beq_eq_false_iff_ne]; intro h
          exact h1 (UInt8.toNat.inj (by simpa using (show c.toNat = 45 by omega)))
        have HV : Hid (Val.minus (l.drop (i + 1)) = Val.minus l) := Lib.hid (by rw [← HR.out, hq, show (c == 45) = false by simpa using h1, Bool.false_or])
        clear hq hc HR hsz h1
        go_wp2
        go_round
        case rel => exact ⟨i + 1, by go_num, by omega, HV⟩
        case measure => simp [intOf]; omega
    · have hi2 : i = l.length := by omega
      subst hi2
      have HV : Hid (Val.minus l = false) := Lib.hid (by rw [← HR.out]; simp [Val.minus])
      have d0 : decide (l.length < l.length) = false := by simp
      clear HR hsz
      go_wp2
      go_ret
      exact ⟨by rw [HV.out]; rfl, rfl⟩

set_option maxHeartbeats 4000000 in
set_option maxRecDepth 100000 in
theorem begins_any (l k : List UInt8) (hl : l.length ≤ 1000000) (hk : k.length ≤ 100) (w : World) : Calls Tryd.prog 34 #[.string ⟨l.toArray⟩, .string ⟨k.toArray⟩] w fun e w' => e = .returned (.bool (Val.begins l k)) ∧ w = w' := by
  have hsz : (ByteArray.mk l.toArray).size = l.length := by simp [ByteArray.size]
  have hsk : (ByteArray.mk k.toArray).size = k.length := by simp [ByteArray.size]
  by_cases h : k.length ≤ l.length
  · have d0 : decide ((k.length : Int) ≤ (l.length : Int)) = true := by simp; omega
    have d1 : decide (k.length ≤ l.length) = true := by simpa using h
    have hx : (ByteArray.mk l.toArray).extract 0 k.length = ⟨(l.take k.length).toArray⟩ := by
      rw [Lib.extract_eq]; simp
    have hv : Val.begins l k = (((ByteArray.mk l.toArray).extract 0 k.length).toList == k) := by rw [hx, Lib.toList_data]; unfold Val.begins; rw [Bool.eq_iff_iff]; simp
    have HV := Lib.hid hv
    clear hx hv
    go_enter Tryd.func34, Tryd.ntmps34
    go_wp2
    go_ret
    exact ⟨by rw [HV.out]; rfl, rfl⟩
  · have d0 : decide ((k.length : Int) ≤ (l.length : Int)) = false := by simp; omega
    have d1 : decide (k.length ≤ l.length) = false := by simpa using h
    have HV : Hid (Val.begins l k = false) := Lib.hid (by
      unfold Val.begins
      rw [decide_eq_false_iff_not]
      intro e
      have := congrArg List.length e
      rw [List.length_take] at this
      omega)
    go_enter Tryd.func34, Tryd.ntmps34
    go_wp2
    go_ret
    exact ⟨by rw [HV.out]; rfl, rfl⟩

/-- The reference's parse, ahead of the look at the text. -/
theorem rg_eq (s : List UInt8) : Val.rg s =
    if Val.begins s [105, 51, 50, 32] = true then ⟨1, Val.sgn (Val.minus s) (Val.dg 0 (s.drop 4)) % 4294967296⟩
    else if Val.begins s [105, 54, 52, 32] = true then ⟨2, Val.sgn (Val.minus s) (Val.dg 0 (s.drop 4))⟩
    else if s = [114, 101, 102, 46, 110, 117, 108, 108, 32, 102, 117, 110, 99] then ⟨3, 0⟩
    else if s = [114, 101, 102, 46, 110, 117, 108, 108, 32, 101, 120, 116, 101, 114, 110] then ⟨4, 0⟩
    else if Val.begins s [114, 101, 102, 46, 102, 117, 110, 99, 32] = true then ⟨3, (Val.dg 0 s + 1) % 18446744073709551616⟩
    else if Val.begins s [114, 101, 102, 46, 101, 120, 116, 101, 114, 110, 32] = true then ⟨4, (Val.dg 0 s + 1) % 18446744073709551616⟩
    else ⟨0, 0⟩ := rfl
/-- What the guess stands for, and what is compared. -/
def AfterGuess (w : World) (v : V) (W : World) : Prop :=
  Var W w.heap.size #[.int .i64 0, .int .u64 0] 25 ∧ Var W (w.heap.size + 1) #[.int .i64 v.t, .int .u64 (v.n : Int)] 25 ∧ Below w.heap.size w W

end Go.Proofs.YtilflcbmejhepaaDoor
