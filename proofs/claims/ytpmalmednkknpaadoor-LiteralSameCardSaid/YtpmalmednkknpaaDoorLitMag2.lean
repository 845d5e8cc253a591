/-
  literal.magnitude and literal.Nat at any string.
-/
import Derived.Test.YtpmalmednkknpaaDoorLitMag
set_option linter.unusedVariables false
namespace Go.Proofs.YtpmalmednkknpaaDoor
open Go.RowKit
attribute [local go_sem] ByteArray.extract_mk

namespace Ltr
theorem mgo_skip {base : Nat} {r : List UInt8} {k N : Nat} {c : UInt8} (hk : k < r.length) (hc : r[k] = c) (h : (c == 95) = true) : mgo base (r.drop k) N true = mgo base (r.drop (k + 1)) N false := by
  rw [List.drop_eq_getElem_cons hk, hc, mgo, h]; rfl
theorem mgo_bad {base : Nat} {r : List UInt8} {k N : Nat} {b : Bool} {c : UInt8} (hk : k < r.length) (hc : r[k] = c) (h : ((c == 95) && b) = false) (hd : dig c < 0 ∨ (base : Int) ≤ dig c) : mgo base (r.drop k) N b = none := by
  rw [List.drop_eq_getElem_cons hk, hc, mgo, h, if_neg (by decide), if_pos hd]
theorem mgo_dig {base : Nat} {r : List UInt8} {k N : Nat} {b : Bool} {c : UInt8} (hk : k < r.length) (hc : r[k] = c) (h : ((c == 95) && b) = false) (d : Nat) (hd : dig c = (d : Int)) (hb : d < base) : mgo base (r.drop k) N b = mgo base (r.drop (k + 1)) (N * base + d) true := by
  rw [List.drop_eq_getElem_cons hk, hc, mgo, h, if_neg (by decide), if_neg (by rw [hd]; omega), hd]
  rfl
theorem over_step (b N d : Nat) (hb : b = 10 ∨ b = 16) (hd : d < b) (hN : N < 18446744073709551616) :
    (N * b / 18446744073709551616 + (N * b % 18446744073709551616 + d) / 18446744073709551616) = (N * b + d) / 18446744073709551616 := by
  rcases hb with rfl | rfl <;> omega
theorem sum_step (b N d : Nat) (hb : b = 10 ∨ b = 16) : (N % 18446744073709551616 * b % 18446744073709551616 + d) % 18446744073709551616 = (N * b + d) % 18446744073709551616 := by
  rcases hb with rfl | rfl <;> omega
end Ltr

/-- One round of the digits. -/
theorem mul64_at (n b : Nat) (w : World) (hn : n < 18446744073709551616) (hb : b = 10 ∨ b = 16) (H L : Nat) (hH : n * b / 18446744073709551616 = H) (hL : n * b % 18446744073709551616 = L) :
    Calls Tryd.prog 38 #[.int .u64 (n : Int), .int .u64 (b : Int)] w fun e w' => e = .returned (.tuple #[.int .u64 (H : Int), .int .u64 (L : Int)]) ∧ w = w' := by
  refine (Tryd.bits_Mul64 n b hn (by omega) w).mono ?_
  rintro e w' ⟨rfl, rfl⟩
  rw [hH, hL]
  exact ⟨rfl, rfl⟩

set_option maxHeartbeats 2000000 in
set_option maxRecDepth 100000 in
theorem mag10_any (l : List UInt8) (w : World) (hl : l.length ≤ 1000000) (hx : Ltr.hexed l = false) : Calls Tryd.prog 26 #[.string ⟨l.toArray⟩] w fun e w' =>
    e = .returned (.tuple #[.int .u64 ((Ltr.magR (Ltr.mgo 10 l 0 false)).1 : Int), .bool (Ltr.magR (Ltr.mgo 10 l 0 false)).2.1, .bool (Ltr.magR (Ltr.mgo 10 l 0 false)).2.2]) ∧ w = w' := by
  have hway : (decide ((2 : Int) < (l.length : Int)) = false) ∨ (decide ((2 : Int) < (l.length : Int)) = true ∧ (l.take 2 == [48, 120]) = false ∧ (2 : Int) ≤ (l.length : Int)) := by
    unfold Ltr.hexed at hx
    by_cases h : 2 < l.length
    · have hd : decide (2 < l.length) = true := by simpa using h
      rw [hd] at hx
      exact .inr ⟨by simp; omega, by simpa using hx, by omega⟩
    · exact .inl (by simp; omega)
  obtain ⟨R, hR⟩ : ∃ R, Ltr.mgo 10 l 0 false = R := ⟨_, rfl⟩
  have HR := Lib.hid hR
  rw [hR]
  clear hR hx
  rcases hway with g1 | ⟨g1, g2, g3⟩
  all_goals
    go_enter Tryd.func26, Tryd.ntmps26
    go_wp2_with fail
    go_loopw [6, 7, 8, 27] (fun nv ov bv i wr => ∃ (k N : Nat) (bt : Bool), k ≤ l.length ∧ i = .int .i64 k ∧ nv = .int .u64 ((N % 18446744073709551616 : Nat) : Int) ∧ ov = .bool (decide (18446744073709551616 ≤ N)) ∧ bv = .bool bt ∧ Ltr.mgo 10 (l.drop k) N bt = R ∧ wr = w) (fun _ _ _ i _ => l.length - (intOf i).toNat)
    case atStart => exact ⟨0, 0, false, by omega, rfl, rfl, rfl, rfl, by simpa using HR.out, rfl⟩
    case round =>
      obtain ⟨k, N, bt, hk, rfl, rfl, rfl, rfl, hm, rfl⟩ := hrel
      by_cases hkl : k < l.length
      · obtain ⟨c, hc⟩ : ∃ c, l[k] = c := ⟨_, rfl⟩
        have hb := lba_get l k hkl c hc
        have k0 : (0 : Int) ≤ (k : Int) := Int.natCast_nonneg _
        have k1 : (k : Int) < (l.length : Int) := by omega
        obtain ⟨n, hn⟩ : ∃ n, N % 18446744073709551616 = n := ⟨_, rfl⟩
        have hnl : n < 18446744073709551616 := by omega
        by_cases hs : (c == 95) = true ∧ bt = true
        · obtain ⟨h95, rfl⟩ := hs
          have e95 : c = 95 := by simpa using h95
          subst e95
          have hm2 := (Ltr.mgo_skip (base := 10) (N := N) hkl hc h95).symm.trans hm
          have HM := Lib.hid hm2
          clear hm hm2 hc h95
          rw [hn]
          go_wp2_with fail
          go_roundw
          case rel => exact ⟨k + 1, N, false, by omega, by go_num, by rw [hn], rfl, rfl, HM.out, by first | rfl | trivial⟩
          case measure => simp [intOf]; omega
        · have hs2 : ((c == 95) && bt) = false := by
            rcases hcc : (c == 95) with _ | _ <;> rcases bt with _ | _ <;> simp_all
          by_cases h95 : c = 95
          · subst h95
            have hbt : bt = false := by simpa using hs2
            subst hbt
            have hR0 : R = none := (Ltr.mgo_bad (base := 10) (N := N) hkl hc hs2 (by left; decide)).symm.trans hm |>.symm
            have HR0 := Lib.hid hR0
            have hdg : Hid (∀ W : World, Calls Tryd.prog 34 #[.int .u8 95] W fun e w' => e = .returned (.int .i64 (-1)) ∧ W = w') := Lib.hid (fun W => ldigit_any 95 W)
            clear hm hc hs hs2 hR0
            rw [hn]
            go_wp2_with (go_at_call 34; refine (hdg.out _).mono ?_; rintro e w4 ⟨rfl, rfl⟩)
            go_ret3
            exact ⟨by rw [HR0.out]; rfl, rfl⟩
          have n95 := lcne c 95 (by omega) h95
          simp only [Int.cast_ofNat_Int] at n95
          have hdl := Ltr.dig_le c
          obtain ⟨D, hD⟩ : ∃ D, Ltr.dig c = D := ⟨_, rfl⟩
          have hdg : Hid (∀ W : World, Calls Tryd.prog 34 #[.int .u8 (c.toNat : Int)] W fun e w' => e = .returned (.int .i64 D) ∧ W = w') := Lib.hid (fun W => by have := ldigit_any c W; rw [hD] at this; exact this)
          rw [hD] at hdl
          by_cases hneg : D < 0
          · have hR0 : R = none := (Ltr.mgo_bad (base := 10) (N := N) hkl hc hs2 (by left; rw [hD]; exact hneg)).symm.trans hm |>.symm
            have HR0 := Lib.hid hR0
            have d1 : decide (D < 0) = true := by simpa using hneg
            clear hm hc hs hs2 hR0 hneg hD h95
            rw [hn]
            go_wp2_with (go_at_call 34; refine (hdg.out _).mono ?_; rintro e w4 ⟨rfl, rfl⟩)
            go_ret3
            exact ⟨by rw [HR0.out]; rfl, rfl⟩
          have d1 : decide (D < 0) = false := by simpa using hneg
          obtain ⟨d, hd⟩ : ∃ d : Nat, D = (d : Int) := ⟨D.toNat, by omega⟩
          subst hd
          have u1 : IntKind.u64.wrap (d : Int) = (d : Int) := by rw [IntKind.wrap_u64]; omega
          by_cases hbig : 10 ≤ d
          · have hR0 : R = none := (Ltr.mgo_bad (base := 10) (N := N) hkl hc hs2 (by right; rw [hD]; omega)).symm.trans hm |>.symm
            have HR0 := Lib.hid hR0
            have d2 : decide ((10 : Int) ≤ (d : Int)) = true := by simp; omega
            clear hm hc hs hs2 hR0 hneg hD h95
            rw [hn]
            go_wp2_with (go_at_call 34; refine (hdg.out _).mono ?_; rintro e w4 ⟨rfl, rfl⟩)
            go_ret3
            exact ⟨by rw [HR0.out]; rfl, rfl⟩
          have d2 : decide ((10 : Int) ≤ (d : Int)) = false := by simp; omega
          have hm2 := (Ltr.mgo_dig (base := 10) (N := N) hkl hc hs2 d hD (by omega)).symm.trans hm
          obtain ⟨H, hH⟩ : ∃ H, n * 10 / 18446744073709551616 = H := ⟨_, rfl⟩
          obtain ⟨L, hL⟩ : ∃ L, n * 10 % 18446744073709551616 = L := ⟨_, rfl⟩
          obtain ⟨Sm, hSm⟩ : ∃ Sm, (L + d) % 18446744073709551616 = Sm := ⟨_, rfl⟩
          obtain ⟨C, hC⟩ : ∃ C, (L + d) / 18446744073709551616 = C := ⟨_, rfl⟩
          have hadd := add64_any L d
          rw [hSm, hC] at hadd
          have hmul : Hid (∀ W : World, Calls Tryd.prog 38 #[.int .u64 (n : Int), .int .u64 10] W fun e w' => e = .returned (.tuple #[.int .u64 (H : Int), .int .u64 (L : Int)]) ∧ W = w') := Lib.hid (fun W => mul64_at n 10 W hnl (.inl rfl) H L hH hL)
          have hsum : (N * 10 + d) % 18446744073709551616 = Sm := by omega
          have hHC : IntKind.u64.wrap ((H : Int) + (C : Int)) = (H : Int) + (C : Int) := by rw [IntKind.wrap_u64]; omega
          have HM := Lib.hid hm2
          have HSU := Lib.hid hsum
          by_cases hov : 18446744073709551616 ≤ N
          · have o1 : decide (18446744073709551616 ≤ N) = true := by simpa using hov
            have HO : Hid (decide (18446744073709551616 ≤ N * 10 + d) = true) := Lib.hid (by simp; omega)
            rw [hn, o1]
            clear hm hm2 hc hs hs2 hneg hD h95 hH hL hSm hC hsum hov o1 hbig hn
            go_wp2_with (first
              | (go_at_call 34; refine (hdg.out _).mono ?_; rintro e w4 ⟨rfl, rfl⟩)
              | (go_at_call 38; refine (hmul.out _).mono ?_; rintro e w4 ⟨rfl, rfl⟩))
            go_roundw
            case rel => exact ⟨k + 1, N * 10 + d, true, by omega, by go_num, by rw [HSU.out], by rw [HO.out], rfl, HM.out, by first | rfl | trivial⟩
            case measure => simp [intOf]; omega
          · have o1 : decide (18446744073709551616 ≤ N) = false := by simpa using hov
            have hHCz : ((H : Int) + (C : Int) != 0) = decide (18446744073709551616 ≤ N * 10 + d) := by
              have e : H + C = (N * 10 + d) / 18446744073709551616 := by omega
              by_cases hq : 18446744073709551616 ≤ N * 10 + d
              · have : ¬ ((H : Int) + (C : Int) = 0) := by omega
                simp [bne, hq, this]
              · have : (H : Int) + (C : Int) = 0 := by omega
                simp [bne, hq, this]
            obtain ⟨ob, hob⟩ : ∃ ob, decide (18446744073709551616 ≤ N * 10 + d) = ob := ⟨_, rfl⟩
            rw [hob] at hHCz
            have HO := Lib.hid hob
            rw [hn, o1]
            clear hm hm2 hc hs hs2 hneg hD h95 hH hL hSm hC hsum hov o1 hbig hn hob
            go_wp2_with (first
              | (go_at_call 34; refine (hdg.out _).mono ?_; rintro e w4 ⟨rfl, rfl⟩)
              | (go_at_call 38; refine (hmul.out _).mono ?_; rintro e w4 ⟨rfl, rfl⟩))
            go_roundw
            case rel => exact ⟨k + 1, N * 10 + d, true, by omega, by go_num, by rw [HSU.out], by rw [HO.out], rfl, HM.out, by first | rfl | trivial⟩
            case measure => simp [intOf]; omega
      · obtain rfl : k = l.length := by omega
        have hR0 : R = some (N, bt) := by rw [← hm]; simp [Ltr.mgo]
        have HR0 := Lib.hid hR0
        obtain ⟨n, hn⟩ : ∃ n, N % 18446744073709551616 = n := ⟨_, rfl⟩
        obtain ⟨o, ho⟩ : ∃ o, decide (18446744073709551616 ≤ N) = o := ⟨_, rfl⟩
        have HN := Lib.hid hn
        have HO := Lib.hid ho
        rw [hn, ho]
        clear hm hR0 hn ho
        go_wp2_with fail
        go_ret3
        exact ⟨by rw [HR0.out]; simp only [Ltr.magR]; rw [HN.out, HO.out]; rfl, rfl⟩
end Go.Proofs.YtpmalmednkknpaaDoor
